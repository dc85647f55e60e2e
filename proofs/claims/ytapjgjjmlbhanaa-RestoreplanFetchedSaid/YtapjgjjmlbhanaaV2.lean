/- Fetched, plain. -/
import Derived.Test.YtapjgjjmlbhanaaQ1
import Derived.Test.YtapjgjjmlbhanaaN3
namespace Go.Proofs.Ytapjgjjmlbhanaa
open Go.RowKit Go.Lib
set_option linter.unusedSimpArgs false

/-- How many pieces of need n are there. -/
def cntP (g : Gl) (h : List Pc) (n : Nat) : Nat := (List.range 16).countP fun k => decide ((⟨(g.ns.getD n default).st, (k : Nat)⟩ : Pc) ∈ h)
theorem ndH_cnt {g : Gl} {hs : List Hd} (hok : Ok g hs) (h : List Pc) {n : Nat} (hn : n < g.ns.length) : (ndH g h).getD n 0 = max 0 ((g.ns.getD n default).d - (cntP g h n : Int)) := by
  have hd := hok.2.1.2 (g.ns.getD n default) (by rw [getD_at _ _ _ hn]; exact List.getElem_mem hn)
  have e := ndR_at (hvG g undef h) [] [] (j := n) hn
  unfold ndH
  rw [e, down_eq _ _ (by have := hd.1; show (0 : Int) ≤ (g.ns.getD n default).d; omega)]
  unfold cntP
  congr 3
  refine List.countP_congr fun k _ => ?_
  unfold thereP
  simp [hvG]
theorem cntP_mono {g : Gl} {h h' : List Pc} (hs : ∀ p ∈ h, p ∈ h') (n : Nat) : cntP g h n ≤ cntP g h' n :=
  List.countP_mono_left fun k _ hk => decide_eq_true (hs _ (of_decide_eq_true hk))
theorem cnt_add_other {g : Gl} (h : List Pc) {p : Pc} {n : Nat} (hp : (g.ns.getD n default).st ≠ p.st) : cntP g (h ++ [p]) n = cntP g h n := by
  unfold cntP
  refine List.countP_congr fun k _ => ?_
  rw [decide_eq_true_eq, decide_eq_true_eq, List.mem_append, List.mem_singleton]
  constructor
  · rintro (e | e)
    · exact e
    · exact absurd (by rw [← e]) hp
  · exact .inl
theorem countP_one {p q : Nat → Bool} {m : Nat} : ∀ {l : List Nat}, l.Nodup → m ∈ l → p m = true → q m = false → (∀ k ∈ l, k ≠ m → p k = q k) → l.countP p = l.countP q + 1
  | [], _, hm, _, _, _ => by simp at hm
  | a :: l, hn, hm, hp, hq, hs => by
    have hn' := List.nodup_cons.1 hn
    rw [List.countP_cons, List.countP_cons]
    by_cases e : a = m
    · subst e
      rw [if_pos hp, if_neg (by simp [hq])]
      have : l.countP p = l.countP q := List.countP_congr fun k hk => by rw [hs k (by simp [hk]) (fun e => hn'.1 (e ▸ hk))]
      omega
    · have ih := countP_one (l := l) hn'.2 ((List.mem_cons.1 hm).resolve_left (fun x => e x.symm)) hp hq (fun k hk => hs k (by simp [hk]))
      rw [ih, hs a (by simp) e]
      omega
theorem pc_nat {p : Pc} (h : 0 ≤ p.ix) : (⟨p.st, (p.ix.toNat : Nat)⟩ : Pc) = p := by
  cases p
  simp only at h ⊢
  congr 1
  omega
theorem cnt_add {g : Gl} (h : List Pc) {p : Pc} {n : Nat} (hp : (g.ns.getD n default).st = p.st) (hx : 0 ≤ p.ix ∧ p.ix < 16) (hn : p ∉ h) : cntP g (h ++ [p]) n = cntP g h n + 1 := by
  unfold cntP
  refine countP_one (m := p.ix.toNat) List.nodup_range (List.mem_range.2 (by omega)) ?_ ?_ ?_
  · rw [hp, pc_nat hx.1]; simp
  · rw [hp, pc_nat hx.1]; simp [hn]
  · intro k _ hk
    rw [Bool.eq_iff_iff, decide_eq_true_eq, decide_eq_true_eq, List.mem_append, List.mem_singleton]
    constructor
    · rintro (e | e)
      · exact e
      · exfalso
        apply hk
        have := congrArg Pc.ix e
        simp only at this
        omega
    · exact .inl
/-- One piece less. -/
theorem cnt_less {g : Gl} {h h' : List Pc} {p : Pc} {n : Nat} (hp : (g.ns.getD n default).st = p.st) (hx : 0 ≤ p.ix ∧ p.ix < 16) (hin : p ∈ h) (hm : ∀ q, q ∈ h' ↔ q ∈ h ∧ q ≠ p) : cntP g h n = cntP g h' n + 1 := by
  unfold cntP
  refine countP_one (m := p.ix.toNat) List.nodup_range (List.mem_range.2 (by omega)) ?_ ?_ ?_
  · rw [hp, pc_nat hx.1]; simp [hin]
  · rw [hp, pc_nat hx.1]; simp [hm]
  · intro k _ hk
    rw [Bool.eq_iff_iff, decide_eq_true_eq, decide_eq_true_eq, hm]
    constructor
    · intro e
      refine ⟨e, fun x => hk ?_⟩
      have := congrArg Pc.ix x
      simp only at this
      omega
    · exact fun e => e.1
theorem cnt_less_other {g : Gl} {h h' : List Pc} {p : Pc} {n : Nat} (hp : (g.ns.getD n default).st ≠ p.st) (hm : ∀ q, q ∈ h' ↔ q ∈ h ∧ q ≠ p) : cntP g h' n = cntP g h n := by
  unfold cntP
  refine List.countP_congr fun k _ => ?_
  rw [decide_eq_true_eq, decide_eq_true_eq, hm]
  exact ⟨fun e => e.1, fun e => ⟨e, fun x => hp (by rw [← x])⟩⟩

/-- What holds of the memory when some pieces have been looked at. -/
structure FInv (g : Gl) (h : List Pc) (o : List (Int × Pc)) (seen : Pc → Prop) : Prop where
  ok : PcsOk h
  split : h = g.ps ++ o.map Prod.snd
  src : ∀ x ∈ o, seen x.2
  need : ∀ x ∈ o, ∃ n, n < g.ns.length ∧ (g.ns.getD n default).st = x.2.st ∧ (cntP g h n : Int) ≤ (g.ns.getD n default).d
  full : ∀ n, n < g.ns.length → (g.ns.getD n default).d ≤ (cntP g h n : Int) ∨ ∀ p, seen p → (g.ns.getD n default).st = p.st → p ∈ h

theorem wants_iff {g : Gl} {hs : List Hd} (hok : Ok g hs) (h : List Pc) (p : Pc) : wants g h p = true ↔ ∃ n, n < g.ns.length ∧ (g.ns.getD n default).st = p.st ∧ (cntP g h n : Int) < (g.ns.getD n default).d ∧ p ∉ h := by
  unfold wants
  rw [List.any_eq_true]
  constructor
  · rintro ⟨n, hn, hw⟩
    have hn := List.mem_range.1 hn
    unfold wantN at hw
    simp only [Bool.and_eq_true, decide_eq_true_eq, Bool.not_eq_true', decide_eq_false_iff_not] at hw
    obtain ⟨h1, h2, h3⟩ := hw
    rw [ndH_cnt hok h hn] at h2
    exact ⟨n, hn, h1, by omega, h3⟩
  · rintro ⟨n, hn, h1, h2, h3⟩
    refine ⟨n, List.mem_range.2 hn, ?_⟩
    unfold wantN
    rw [ndH_cnt hok h hn, decide_eq_true h1, decide_eq_true (by omega), decide_eq_false h3]
    rfl
theorem st_inj {g : Gl} {hs : List Hd} (hok : Ok g hs) {i j : Nat} (hi : i < g.ns.length) (hj : j < g.ns.length) (h : (g.ns.getD i default).st = (g.ns.getD j default).st) : i = j := by
  have h1 := (ndIx_iff hok.2.1.1 (s := (g.ns.getD i default).st) (i := i)).2 ⟨hi, rfl⟩
  have h2 := (ndIx_iff hok.2.1.1 (s := (g.ns.getD i default).st) (i := j)).2 ⟨hj, h.symm⟩
  rw [h1] at h2
  injection h2
theorem FInv.step {g : Gl} {hs : List Hd} (hok : Ok g hs) {h : List Pc} {o : List (Int × Pc)} {seen : Pc → Prop} (k : FInv g h o seen) (d : Int) (p : Pc) (hx : 0 ≤ p.ix ∧ p.ix < 16) :
    FInv g (stepPR g d (h, o) p).1 (stepPR g d (h, o) p).2 (fun q => seen q ∨ q = p) := by
  unfold stepPR
  by_cases hw : wants g h p = true
  · obtain ⟨n, hn, hst, hlt, hni⟩ := (wants_iff hok h p).1 hw
    simp only
    rw [if_pos hw]
    refine ⟨pcsOk_add k.ok hx hni, by rw [k.split, List.map_append, List.append_assoc]; rfl, fun x hx' => ?_, fun x hx' => ?_, fun m hm => ?_⟩
    · rcases List.mem_append.1 hx' with e | e
      · exact .inl (k.src x e)
      · rw [List.mem_singleton] at e
        rw [e]
        exact .inr rfl
    · rcases List.mem_append.1 hx' with e | e
      · obtain ⟨m, hm, hs1, hs2⟩ := k.need x e
        refine ⟨m, hm, hs1, ?_⟩
        by_cases hmn : m = n
        · subst hmn
          rw [cnt_add h hst hx hni]
          omega
        · rw [cnt_add_other h (fun e => hmn (st_inj hok hm hn (e.trans hst.symm)))]
          exact hs2
      · rw [List.mem_singleton] at e
        rw [e]
        refine ⟨n, hn, hst, ?_⟩
        rw [cnt_add h hst hx hni]
        omega
    · rcases k.full m hm with e | e
      · left
        have := cntP_mono (g := g) (h := h) (h' := h ++ [p]) (fun q hq => List.mem_append_left _ hq) m
        show (g.ns.getD m default).d ≤ (cntP g (h ++ [p]) m : Int)
        omega
      · right
        rintro q (hq | rfl) hq2
        · exact List.mem_append_left _ (e q hq hq2)
        · exact List.mem_append_right _ (List.mem_singleton.2 rfl)
  · simp only
    rw [if_neg hw]
    refine ⟨k.ok, k.split, fun x hx' => .inl (k.src x hx'), k.need, fun m hm => ?_⟩
    rcases k.full m hm with e | e
    · exact .inl e
    · by_cases hst : (g.ns.getD m default).st = p.st
      · by_cases hin : p ∈ h
        · right
          rintro q (hq | rfl) hq2
          · exact e q hq hq2
          · exact hin
        · left
          refine Decidable.byContradiction fun hc => hw ((wants_iff hok h p).2 ⟨m, hm, hst, ?_, hin⟩)
          have hc : ¬ (g.ns.getD m default).d ≤ (cntP g h m : Int) := hc
          omega
      · right
        rintro q (hq | rfl) hq2
        · exact e q hq hq2
        · exact absurd hq2 hst
theorem FInv.weak {g : Gl} {h : List Pc} {o : List (Int × Pc)} {s s' : Pc → Prop} (k : FInv g h o s) (e : ∀ p, s p ↔ s' p) : FInv g h o s' :=
  ⟨k.ok, k.split, fun x hx => (e _).1 (k.src x hx), k.need, fun n hn => (k.full n hn).imp id fun f p hp => f p ((e p).2 hp)⟩
theorem FInv.fold {g : Gl} {hs : List Hd} (hok : Ok g hs) (d : Int) : ∀ (ps : List Pc) (t : List Pc × List (Int × Pc)) (seen : Pc → Prop), FInv g t.1 t.2 seen → (∀ p ∈ ps, 0 ≤ p.ix ∧ p.ix < 16) →
    FInv g (ps.foldl (stepPR g d) t).1 (ps.foldl (stepPR g d) t).2 (fun q => seen q ∨ q ∈ ps)
  | [], t, seen, k, _ => k.weak fun p => by simp
  | p :: ps, t, seen, k, hp => by
    have := FInv.fold hok d ps (stepPR g d t p) _ (k.step hok d p (hp p (by simp))) fun q hq => hp q (by simp [hq])
    refine this.weak fun q => ?_
    rw [List.mem_cons, or_assoc]

/-- A piece of one of the first n devices. -/
def seenD (hs : List Hd) (devs : List Int) (n : Nat) (p : Pc) : Prop := ∃ d ∈ devs.take n, ∃ h ∈ hs, h.dev = d ∧ p ∈ h.ps
theorem dev_uniq {hs : List Hd} (hok : HdsOk hs) {x y : Hd} (hx : x ∈ hs) (hy : y ∈ hs) (h : x.dev = y.dev) : x = y := by
  have := hok.1
  rw [List.nodup_iff_pairwise_ne, List.pairwise_map] at this
  obtain ⟨i, hi, rfl⟩ := List.getElem_of_mem hx
  obtain ⟨j, hj, rfl⟩ := List.getElem_of_mem hy
  rw [List.pairwise_iff_getElem] at this
  rcases Nat.lt_trichotomy i j with e | e | e
  · exact absurd h (this i j hi hj e)
  · subst e; rfl
  · exact absurd h.symm (this j i hj hi e)
theorem fetR_inv {g : Gl} {hs : List Hd} (hok : Ok g hs) (devs : List Int) : ∀ n, n ≤ devs.length → FInv g (fetR g hs devs n).1 (fetR g hs devs n).2 (seenD hs devs n)
  | 0, _ => ⟨hok.2.2.1.1, by simp [fetR], fun x hx => by simp [fetR] at hx, fun x hx => by simp [fetR] at hx, fun n hn => .inr fun p hp => by
      obtain ⟨d, hd, _⟩ := hp
      simp at hd⟩
  | n + 1, hn => by
    have ih := fetR_inv hok devs n (by omega)
    have hlt : n < devs.length := by omega
    have htk : devs.take (n + 1) = devs.take n ++ [devs[n]] := List.take_succ_eq_append_getElem hlt
    have hsn : ∀ p, seenD hs devs (n + 1) p ↔ seenD hs devs n p ∨ ∃ h ∈ hs, h.dev = devs[n] ∧ p ∈ h.ps := fun p => by
      unfold seenD
      rw [htk]
      constructor
      · rintro ⟨d, hd, h⟩
        rcases List.mem_append.1 hd with e | e
        · exact .inl ⟨d, e, h⟩
        · rw [List.mem_singleton] at e
          subst e
          exact .inr h
      · rintro (⟨d, hd, h⟩ | h)
        · exact ⟨d, List.mem_append_left _ hd, h⟩
        · exact ⟨_, List.mem_append_right _ (List.mem_singleton.2 rfl), h⟩
    rw [fetR_succ]
    unfold stepDR
    rw [getD_at _ _ _ hlt]
    by_cases hc : findI devs[n] (hs.map Hd.dev) < 0 ∨ devs[n] ∈ devs.take n
    · rw [if_pos hc]
      refine ih.weak fun p => ?_
      rw [hsn]
      constructor
      · exact .inl
      · rintro (e | ⟨h, hh, he, hp⟩)
        · exact e
        · rcases hc with hc | hc
          · exfalso
            have : devs[n] ∈ hs.map Hd.dev := he ▸ List.mem_map_of_mem hh
            have := (findI_mem (x := devs[n]) (ds := hs.map Hd.dev)).2 this
            omega
          · exact ⟨_, hc, h, hh, he, hp⟩
    · rw [if_neg hc]
      have hc1 : ¬ findI devs[n] (hs.map Hd.dev) < 0 := fun h => hc (.inl h)
      have hc2 : 0 ≤ findI devs[n] (hs.map Hd.dev) := by omega
      obtain ⟨q, hq⟩ : ∃ q : Nat, findI devs[n] (hs.map Hd.dev) = q := ⟨_, (Int.toNat_of_nonneg hc2).symm⟩
      obtain ⟨hql, hqd⟩ := findI_dev hq
      rw [hq, Int.toNat_natCast]
      have hmem : hs.getD q default ∈ hs := by rw [getD_at _ _ _ hql]; exact List.getElem_mem hql
      refine (FInv.fold hok devs[n] (hs.getD q default).ps _ _ ih (hok.2.2.2.2 _ hmem).2.1.2).weak fun p => ?_
      rw [hsn]
      constructor
      · rintro (e | e)
        · exact .inl e
        · exact .inr ⟨_, hmem, hqd, e⟩
      · rintro (e | ⟨h, hh, he, hp⟩)
        · exact .inl e
        · right
          rw [dev_uniq hok.2.2.2 hmem hh (hqd.trans he.symm)]
          exact hp

section
variable {g : Gl} {hs : List Hd} (hok : Ok g hs) (devs : List Int)
include hok
/-- When everything that was fetched is there, as much is lacking as with the devices. -/
theorem fet_same {n : Nat} (hn : n < g.ns.length) : max 0 ((g.ns.getD n default).d - (cntP g (fetR g hs devs devs.length).1 n : Int)) = (ndR g hs devs).getD n 0 := by
  have k := fetR_inv hok devs devs.length (Nat.le_refl _)
  have hd := hok.2.1.2 (g.ns.getD n default) (by rw [getD_at _ _ _ hn]; exact List.getElem_mem hn)
  rw [ndR_at _ _ _ hn, down_eq _ _ (by have := hd.1; omega)]
  have hle : cntP g (fetR g hs devs devs.length).1 n ≤ (List.range 16).countP (thereP g hs devs n) := by
    unfold cntP
    refine List.countP_mono_left fun i _ hi => ?_
    have hi := of_decide_eq_true hi
    rw [k.split, List.mem_append, List.mem_map] at hi
    unfold thereP
    rw [Bool.or_eq_true, decide_eq_true_eq, List.any_eq_true]
    rcases hi with hi | ⟨x, hx, e⟩
    · exact .inl hi
    · right
      obtain ⟨d, hd, h, hh, he, hp⟩ := k.src x hx
      rw [List.take_length] at hd
      refine ⟨h, hh, ?_⟩
      rw [he, decide_eq_true hd, Bool.true_and, decide_eq_true_eq, ← e]
      exact hp
  rcases k.full n hn with e | e
  · omega
  · have hge : (List.range 16).countP (thereP g hs devs n) ≤ cntP g (fetR g hs devs devs.length).1 n := by
      unfold cntP
      refine List.countP_mono_left fun i _ hi => decide_eq_true ?_
      unfold thereP at hi
      rw [Bool.or_eq_true, decide_eq_true_eq, List.any_eq_true] at hi
      rcases hi with hi | ⟨h, hh, hi⟩
      · rw [k.split]; exact List.mem_append_left _ hi
      · rw [Bool.and_eq_true, decide_eq_true_eq, decide_eq_true_eq] at hi
        exact e _ ⟨h.dev, by rw [List.take_length]; exact hi.1, h, hh, rfl, hi.2⟩ rfl
    omega
omit hok in
/-- What is lacking with these pieces and no devices. -/
theorem nd_hv (hok : Ok g hs) (pv : Value) (h : List Pc) {n : Nat} (hn : n < g.ns.length) : (ndR { g with pv := pv, ps := h } hs []).getD n 0 = max 0 ((g.ns.getD n default).d - (cntP g h n : Int)) := by
  have hd := hok.2.1.2 (g.ns.getD n default) (by rw [getD_at _ _ _ hn]; exact List.getElem_mem hn)
  have e := ndR_at { g with pv := pv, ps := h } hs [] (j := n) hn
  rw [e, down_eq _ _ (by have := hd.1; show (0 : Int) ≤ (g.ns.getD n default).d; omega)]
  unfold cntP
  congr 3
  refine List.countP_congr fun k _ => ?_
  unfold thereP
  simp
theorem fet_lack (pv : Value) : lackL { g with pv := pv, ps := (fetR g hs devs devs.length).1 } hs [] = lackL g hs devs := by
  have : ∀ n, n ≤ g.ns.length → lackTo' { g with pv := pv, ps := (fetR g hs devs devs.length).1 } hs [] n = lackTo' g hs devs n := by
    intro n
    induction n with
    | zero => intro _; rfl
    | succ n ih =>
      intro hn
      unfold lackTo'
      rw [ih (by omega), nd_hv hok pv _ (by omega), fet_same hok devs (by omega)]
  exact this _ (Nat.le_refl _)
/-- The sum of what is lacking. -/
def totL (ns : List Nd) : Int := (ns.map Nd.d).sum
omit hok in
theorem totL_lack (g : Gl) (hs : List Hd) (devs : List Int) (hnn : ∀ n, n < g.ns.length → 0 ≤ (ndR g hs devs).getD n 0) : ∀ n, n ≤ g.ns.length → totL (lackTo' g hs devs n) = ((List.range n).map fun i => (ndR g hs devs).getD i 0).sum
  | 0, _ => rfl
  | n + 1, h => by
    have ih := totL_lack g hs devs hnn n (by omega)
    have h0 := hnn n (by omega)
    unfold totL at ih ⊢
    unfold lackTo'
    rw [List.map_append, List.sum_append_int, ih, List.range_succ, List.map_append, List.sum_append_int]
    split
    · simp only [List.map_cons, List.map_nil, List.sum_cons, List.sum_nil]
    · rename_i hq
      simp only [List.map_cons, List.map_nil, List.sum_cons, List.sum_nil]
      omega
omit hok in
theorem sum_one {f q : Nat → Int} {m : Nat} : ∀ n, m < n → f m = q m + 1 → (∀ i, i < n → i ≠ m → f i = q i) → ((List.range n).map f).sum = ((List.range n).map q).sum + 1
  | 0, h, _, _ => by omega
  | n + 1, h, h1, h2 => by
    rw [List.range_succ, List.map_append, List.map_append, List.sum_append_int, List.sum_append_int]
    by_cases e : m = n
    · subst e
      have : (List.range m).map f = (List.range m).map q := List.map_congr_left fun i hi => h2 i (by have := List.mem_range.1 hi; omega) (by have := List.mem_range.1 hi; omega)
      rw [this]
      simp
      omega
    · have ih := sum_one n (by omega) h1 fun i hi => h2 i (by omega)
      have := h2 n (by omega) (fun x => e x.symm)
      rw [ih]
      simp
      omega
/-- Without one of the pieces that were fetched, one more is lacking. -/
theorem fet_less (pv pv' : Value) (i : Nat) (hi : i < (fetR g hs devs devs.length).2.length) :
    totL (lackL { g with pv := pv', ps := (fetR g hs devs devs.length).1.eraseIdx (g.ps.length + i) } hs []) = totL (lackL { g with pv := pv, ps := (fetR g hs devs devs.length).1 } hs []) + 1 ∧ PcsOk ((fetR g hs devs devs.length).1.eraseIdx (g.ps.length + i)) := by
  have k := fetR_inv hok devs devs.length (Nat.le_refl _)
  generalize fetR g hs devs devs.length = F at *
  obtain ⟨h, o⟩ := F
  simp only at k hi ⊢
  have hix : g.ps.length + i < h.length := by rw [k.split, List.length_append, List.length_map]; omega
  have hel : h[g.ps.length + i] = (o[i]).2 := by
    have := k.split
    subst this
    rw [List.getElem_append_right (by omega), List.getElem_map]
    simp
  have hnd := k.ok.1
  have hm : ∀ q, q ∈ h.eraseIdx (g.ps.length + i) ↔ q ∈ h ∧ q ≠ (o[i]).2 := fun q => by
    rw [← hel, List.mem_eraseIdx_iff_getElem]
    rw [List.nodup_iff_pairwise_ne, List.pairwise_iff_getElem] at hnd
    constructor
    · rintro ⟨j, hj, hne, rfl⟩
      refine ⟨List.getElem_mem hj, fun e => ?_⟩
      rcases Nat.lt_trichotomy j (g.ps.length + i) with x | x | x
      · exact hnd j _ hj hix x e
      · exact hne x
      · exact hnd _ j hix hj x e.symm
    · rintro ⟨hq, hne⟩
      obtain ⟨j, hj, rfl⟩ := List.getElem_of_mem hq
      exact ⟨j, hj, fun e => hne (by subst e; rfl), rfl⟩
  have hin : (o[i]).2 ∈ h := by rw [← hel]; exact List.getElem_mem hix
  have hx := k.ok.2 _ hin
  have hok2 : PcsOk (h.eraseIdx (g.ps.length + i)) := ⟨hnd.sublist (List.eraseIdx_sublist _ _), fun q hq => k.ok.2 q ((hm q).1 hq).1⟩
  refine ⟨?_, hok2⟩
  obtain ⟨n, hn, hst, hle⟩ := k.need (o[i]) (List.getElem_mem hi)
  unfold lackL
  rw [totL_lack _ _ _ (fun m hm' => by rw [nd_hv hok _ _ hm']; omega) _ (Nat.le_refl _), totL_lack _ _ _ (fun m hm' => by rw [nd_hv hok _ _ hm']; omega) _ (Nat.le_refl _)]
  refine sum_one (m := n) g.ns.length hn ?_ fun j hj hne => ?_
  · rw [nd_hv hok _ _ hn, nd_hv hok _ _ hn]
    have := cnt_less (g := g) (h := h) (h' := h.eraseIdx (g.ps.length + i)) (n := n) hst hx hin hm
    omega
  · rw [nd_hv hok _ _ hj, nd_hv hok _ _ hj, cnt_less_other (g := g) (n := j) (fun e => hne (st_inj hok hj hn (e.trans hst.symm))) hm]
end

end Go.Proofs.Ytapjgjjmlbhanaa
