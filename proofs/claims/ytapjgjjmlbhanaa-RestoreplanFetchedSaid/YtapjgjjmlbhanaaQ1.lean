/- Fetches, plain: the reference's answer is the code's. -/
import Derived.Test.YtapjgjjmlbhanaaN1
import Derived.Test.YtapjgjjmlbhanaaJ1
import Derived.Test.YtapjgjjmlbhanaaH6
namespace Go.Proofs.Ytapjgjjmlbhanaa
open Go.RowKit Go.Lib
set_option linter.unusedSimpArgs false

/-- The goal with other pieces, and nothing more. -/
def hvG (g : Gl) (pv : Value) (h : List Pc) : Gl := ⟨g.nv, 0, false, pv, .slice none 0 0, g.ns, h, []⟩
def ndH (g : Gl) (h : List Pc) : List Int := ndR (hvG g undef h) [] []
/-- Need n wants this piece. -/
def wantN (g : Gl) (h : List Pc) (p : Pc) (n : Nat) : Bool := decide ((g.ns.getD n default).st = p.st) && (decide (0 < (ndH g h).getD n 0) && !decide (p ∈ h))
def wants (g : Gl) (h : List Pc) (p : Pc) : Bool := (List.range g.ns.length).any (wantN g h p)
def stepPR (g : Gl) (d : Int) (t : List Pc × List (Int × Pc)) (p : Pc) : List Pc × List (Int × Pc) := if wants g t.1 p = true then (t.1 ++ [p], t.2 ++ [(d, p)]) else t
def stepDR (g : Gl) (hs : List Hd) (devs : List Int) (t : List Pc × List (Int × Pc)) (i : Nat) : List Pc × List (Int × Pc) :=
  if findI (devs.getD i 0) (hs.map Hd.dev) < 0 ∨ devs.getD i 0 ∈ devs.take i then t else (hs.getD (findI (devs.getD i 0) (hs.map Hd.dev)).toNat default).ps.foldl (stepPR g (devs.getD i 0)) t
def fetR (g : Gl) (hs : List Hd) (devs : List Int) (n : Nat) : List Pc × List (Int × Pc) := (List.range n).foldl (stepDR g hs devs) (g.ps, [])
theorem fetR_succ (g : Gl) (hs : List Hd) (devs : List Int) (n : Nat) : fetR g hs devs (n + 1) = stepDR g hs devs (fetR g hs devs n) n := by
  unfold fetR
  rw [List.range_succ, List.foldl_append]
  rfl

theorem hvG_ok {g : Gl} {hs : List Hd} (hok : Ok g hs) (pv : Value) {h : List Pc} (hp : PcsOk h) : Ok (hvG g pv h) [] := by
  refine ⟨⟨hok.1.1, ⟨by show (0 : Int) ≤ 0; omega, by show (0 : Int) ≤ 255; omega⟩, by simp⟩, hok.2.1, ⟨hp, ?_⟩, ?_⟩
  · exact of_decide_eq_true (by kernel_rfl)
  · exact of_decide_eq_true (by kernel_rfl)
theorem ndH_at {g : Gl} {hs : List Hd} (hok : Ok g hs) {h : List Pc} (hp : PcsOk h) (i : Nat) (hi : i < g.ns.length) : (ndH g h).getD i 0 = lackN (g.ns.getD i default).d ((supOf g.ns h [] true).pc i) := by
  have := lackN_eq (g := hvG g undef h) (hs := []) (L := []) (devs := []) (hvG_ok hok undef hp) (List.Perm.refl _) i hi
  unfold ndH ndR
  rw [getD_at _ _ _ (by rw [List.length_map, List.length_range]; exact hi), List.getElem_map, List.getElem_range]
  exact this.symm
theorem lackN_nonneg (d : Int) (m : Nat) : 0 ≤ lackN d m := by unfold lackN; omega

/-- The code's memory of pieces is the reference's. -/
def SimS (g : Gl) (s : Sup) (h : List Pc) : Prop := ∀ k, s.pc k = (supOf g.ns h [] true).pc k
theorem simS_add {g : Gl} {s : Sup} {h : List Pc} (hs : SimS g s h) (p : Pc) : SimS g (addPc g.ns s p) (h ++ [p]) := by
  intro k
  have e : (supOf g.ns (h ++ [p]) [] true).pc k = (addPc g.ns (supOf g.ns h [] true) p).pc k := by
    unfold supOf
    rw [List.foldl_append]
    simp only [List.foldl_cons, List.foldl_nil]
    unfold addPc
    split <;> rfl
  rw [e]
  unfold addPc
  split
  · simp only
    rw [hs k]
  · exact hs k
theorem wants_some {g : Gl} {hs : List Hd} (hok : Ok g hs) {h : List Pc} (hp : PcsOk h) {s : Sup} (hsim : SimS g s h) {p : Pc} (hpx : 0 ≤ p.ix ∧ p.ix < 16) {k : Nat} (hk : ndIx p.st g.ns = some k) :
    wants g h p = true ↔ ¬ (lackN (g.ns.getD k default).d (s.pc k) = 0 ∨ s.pc k / 2 ^ p.ix.toNat % 2 = 1) := by
  obtain ⟨h1, h2⟩ := (ndIx_iff hok.2.1.1).1 hk
  have hbit : s.pc k / 2 ^ p.ix.toNat % 2 = 1 ↔ p ∈ h := by
    rw [bit_test, hsim k, supOf_pc, pcs_any hok.2.1.1 h1 hp, decide_eq_true_eq, h2]
    have e : (⟨p.st, (p.ix.toNat : Nat)⟩ : Pc) = p := by
      cases p
      simp only at hpx ⊢
      congr 1
      omega
    rw [e]
  have hn := ndH_at hok hp k h1
  rw [← hsim k] at hn
  have hnn := lackN_nonneg (g.ns.getD k default).d (s.pc k)
  unfold wants
  rw [List.any_eq_true, hbit]
  constructor
  · rintro ⟨n, hn1, hn2⟩
    unfold wantN at hn2
    simp only [Bool.and_eq_true, decide_eq_true_eq, Bool.not_eq_true', decide_eq_false_iff_not] at hn2
    have hk2 := (ndIx_iff hok.2.1.1 (s := p.st) (i := n)).2 ⟨List.mem_range.1 hn1, hn2.1⟩
    rw [hk] at hk2
    injection hk2 with hk2
    subst hk2
    rw [hn] at hn2
    rintro (e | e)
    · omega
    · exact hn2.2.2 e
  · intro hne
    refine ⟨k, List.mem_range.2 h1, ?_⟩
    unfold wantN
    rw [decide_eq_true h2, hn, decide_eq_true (by omega), decide_eq_false (fun e => hne (.inr e))]
    rfl
theorem wants_none {g : Gl} {hs : List Hd} (hok : Ok g hs) {h : List Pc} {p : Pc} (hk : ndIx p.st g.ns = none) : wants g h p = false := by
  unfold wants
  rw [List.any_eq_false]
  intro n hn
  unfold wantN
  rw [decide_eq_false]
  · simp
  · intro e
    have := (ndIx_iff hok.2.1.1 (s := p.st) (i := n)).2 ⟨List.mem_range.1 hn, e⟩
    rw [hk] at this
    cases this
theorem wants_new {g : Gl} {h : List Pc} {p : Pc} (hw : wants g h p = true) : p ∉ h := by
  unfold wants at hw
  obtain ⟨n, _, hn⟩ := List.any_eq_true.1 hw
  unfold wantN at hn
  simp only [Bool.and_eq_true, decide_eq_true_eq, Bool.not_eq_true', decide_eq_false_iff_not] at hn
  exact hn.2.2
theorem pcsOk_add {h : List Pc} {p : Pc} (hp : PcsOk h) (hpx : 0 ≤ p.ix ∧ p.ix < 16) (hn : p ∉ h) : PcsOk (h ++ [p]) := by
  refine ⟨?_, ?_⟩
  · rw [List.nodup_append]
    exact ⟨hp.1, by simp, fun a ha b hb e => hn (by rw [List.mem_singleton] at hb; rw [← hb, ← e]; exact ha)⟩
  · intro q hq
    rw [List.mem_append, List.mem_singleton] at hq
    rcases hq with hq | rfl
    · exact hp.2 q hq
    · exact hpx

/-- One piece: both do the same. -/
theorem stepP_sim {g : Gl} {hs : List Hd} (hok : Ok g hs) {t : Sup × List (Int × Pc)} {r : List Pc × List (Int × Pc)} (h1 : SimS g t.1 r.1) (h2 : t.2 = r.2) (h3 : PcsOk r.1) (d : Int) (p : Pc) (hpx : 0 ≤ p.ix ∧ p.ix < 16) :
    SimS g (stepP g.ns d t p).1 (stepPR g d r p).1 ∧ (stepP g.ns d t p).2 = (stepPR g d r p).2 ∧ PcsOk (stepPR g d r p).1 := by
  unfold stepP stepPR
  cases hk : ndIx p.st g.ns with
  | none =>
    rw [wants_none hok hk, if_neg (by simp)]
    exact ⟨h1, h2, h3⟩
  | some k =>
    have hw := wants_some hok h3 h1 hpx hk
    by_cases hq : wants g r.1 p = true
    · simp only
      rw [if_pos hq, if_neg (hw.1 hq)]
      exact ⟨simS_add h1 p, by rw [h2], pcsOk_add h3 hpx (wants_new hq)⟩
    · simp only
      rw [if_neg hq, if_pos (Decidable.not_not.1 fun h => hq (hw.2 h))]
      exact ⟨h1, h2, h3⟩
theorem foldP_sim {g : Gl} {hs : List Hd} (hok : Ok g hs) (d : Int) : ∀ (ps : List Pc) (t : Sup × List (Int × Pc)) (r : List Pc × List (Int × Pc)), SimS g t.1 r.1 → t.2 = r.2 → PcsOk r.1 → (∀ p ∈ ps, 0 ≤ p.ix ∧ p.ix < 16) →
    SimS g (ps.foldl (stepP g.ns d) t).1 (ps.foldl (stepPR g d) r).1 ∧ (ps.foldl (stepP g.ns d) t).2 = (ps.foldl (stepPR g d) r).2 ∧ PcsOk (ps.foldl (stepPR g d) r).1
  | [], t, r, h1, h2, h3, _ => ⟨h1, h2, h3⟩
  | p :: ps, t, r, h1, h2, h3, hp => by
    obtain ⟨k1, k2, k3⟩ := stepP_sim hok h1 h2 h3 d p (hp p (by simp))
    exact foldP_sim hok d ps _ _ k1 k2 k3 fun q hq => hp q (by simp [hq])

theorem findI_dev {hs : List Hd} {d : Int} {q : Nat} (h : findI d (hs.map Hd.dev) = q) : q < hs.length ∧ (hs.getD q default).dev = d := by
  have hl := findI_lt d (hs.map Hd.dev)
  rw [List.length_map, h] at hl
  have hq : q < hs.length := by omega
  refine ⟨hq, ?_⟩
  have : ∀ (ds : List Int) (q : Nat), findI d ds = q → q < ds.length → ds.getD q 0 = d := by
    intro ds
    induction ds with
    | nil => intro q _ h; simp at h
    | cons y r ih =>
      intro q h hl
      unfold findI at h
      split at h
      · rename_i e
        obtain rfl : q = 0 := by omega
        exact e
      · split at h
        · omega
        · obtain ⟨q', rfl⟩ : ∃ q', q = q' + 1 := ⟨q - 1, by omega⟩
          rw [List.getD_cons_succ]
          exact ih q' (by omega) (by rw [List.length_cons] at hl; omega)
  have h2 := this _ q h (by rw [List.length_map]; exact hq)
  rw [getD_at _ _ _ (by rw [List.length_map]; exact hq), List.getElem_map] at h2
  rw [getD_at _ _ _ hq]
  exact h2
theorem hd_same {hs L : List Hd} (hok : HdsOk hs) (hp : L.Perm hs) {d : Int} {q r : Nat} (h1 : findI d (L.map Hd.dev) = q) (h2 : findI d (hs.map Hd.dev) = r) : L.getD q default = hs.getD r default := by
  obtain ⟨a1, a2⟩ := findI_dev h1
  obtain ⟨b1, b2⟩ := findI_dev h2
  rw [getD_at _ _ _ a1] at a2 ⊢
  rw [getD_at _ _ _ b1] at b2 ⊢
  have hm : L[q] ∈ hs := hp.mem_iff.1 (List.getElem_mem a1)
  obtain ⟨i, hi, ei⟩ := List.getElem_of_mem hm
  have hnd := hok.1
  rw [List.nodup_iff_pairwise_ne, List.pairwise_iff_getElem] at hnd
  have e : i = r := by
    rcases Nat.lt_trichotomy i r with hl | hl | hl
    · exfalso
      refine hnd i r (by rw [List.length_map]; omega) (by rw [List.length_map]; omega) hl ?_
      rw [List.getElem_map, List.getElem_map, ei, a2, b2]
    · exact hl
    · exfalso
      refine hnd r i (by rw [List.length_map]; omega) (by rw [List.length_map]; omega) hl ?_
      rw [List.getElem_map, List.getElem_map, ei, a2, b2]
  subst e
  exact ei.symm

/-- The devices: both do the same. -/
theorem fet_sim {g : Gl} {hs L : List Hd} (hok : Ok g hs) (hp : L.Perm hs) (devs : List Int) : ∀ n, n ≤ devs.length →
    SimS g (fetS g L (devs.take n)).s (fetR g hs devs n).1 ∧ (fetS g L (devs.take n)).o = (fetR g hs devs n).2 ∧ PcsOk (fetR g hs devs n).1 ∧ ∀ d, d ∈ (fetS g L (devs.take n)).m ↔ d ∈ devs.take n ∧ d ∈ L.map Hd.dev
  | 0, _ => by
    refine ⟨fun k => ?_, rfl, hok.2.2.1.1, fun d => by simp [fetS]⟩
    show (supOf g.ns g.ps g.ss (!g.idx)).pc k = (supOf g.ns g.ps [] true).pc k
    unfold supOf
    simp only [List.foldl_nil]
    rw [foldS_pc]
  | n + 1, hn => by
    obtain ⟨h1, h2, h3, h4⟩ := fet_sim hok hp devs n (by omega)
    have hlt : n < devs.length := by omega
    have htk : devs.take (n + 1) = devs.take n ++ [devs[n]] := List.take_succ_eq_append_getElem hlt
    rw [fetS_take g L devs n hlt, fetR_succ]
    have hd : devs.getD n 0 = devs[n] := getD_at _ _ _ hlt
    have hmm : devs[n] ∈ L.map Hd.dev ↔ devs[n] ∈ hs.map Hd.dev := (hp.map _).mem_iff
    unfold stepDR
    rw [hd]
    by_cases hin : devs[n] ∈ L.map Hd.dev
    · have g1 := (findI_mem (x := devs[n]) (ds := L.map Hd.dev)).2 hin
      have g2 := (findI_mem (x := devs[n]) (ds := hs.map Hd.dev)).2 (hmm.1 hin)
      obtain ⟨q, hq⟩ : ∃ q : Nat, findI devs[n] (L.map Hd.dev) = q := ⟨_, (Int.toNat_of_nonneg g1).symm⟩
      obtain ⟨r, hr⟩ : ∃ r : Nat, findI devs[n] (hs.map Hd.dev) = r := ⟨_, (Int.toNat_of_nonneg g2).symm⟩
      by_cases hmet : devs[n] ∈ devs.take n
      · rw [if_pos (.inr hmet)]
        have : stepD g.ns L (fetS g L (devs.take n)) devs[n] = fetS g L (devs.take n) := by
          unfold stepD
          rw [if_pos (.inl ((h4 _).2 ⟨hmet, hin⟩))]
        rw [this]
        refine ⟨h1, h2, h3, fun d => ?_⟩
        rw [h4, htk, List.mem_append, List.mem_singleton]
        constructor
        · rintro ⟨a, b⟩; exact ⟨.inl a, b⟩
        · rintro ⟨a | rfl, b⟩
          · exact ⟨a, b⟩
          · exact ⟨hmet, b⟩
      · rw [if_neg (by rintro (e | e); omega; exact hmet e), stepD_go (fun e => hmet ((h4 _).1 e).1) hq, hr, Int.toNat_natCast]
        have e := hd_same hok.2.2.2 hp hq hr
        rw [e]
        obtain ⟨r1, _⟩ := findI_dev hr
        have hmem : hs.getD r default ∈ hs := by rw [getD_at _ _ _ r1]; exact List.getElem_mem r1
        obtain ⟨k1, k2, k3⟩ := foldP_sim hok devs[n] (hs.getD r default).ps ((fetS g L (devs.take n)).s, (fetS g L (devs.take n)).o) (fetR g hs devs n) h1 h2 h3 (hok.2.2.2.2 _ hmem).2.1.2
        refine ⟨k1, k2, k3, fun d => ?_⟩
        simp only
        rw [List.mem_append, List.mem_singleton, h4, htk, List.mem_append, List.mem_singleton]
        constructor
        · rintro (⟨a, b⟩ | rfl)
          · exact ⟨.inl a, b⟩
          · exact ⟨.inr rfl, hin⟩
        · rintro ⟨a | a, b⟩
          · exact .inl ⟨a, b⟩
          · exact .inr a
    · have g1 : findI devs[n] (L.map Hd.dev) < 0 := by
        have : ¬ 0 ≤ findI devs[n] (L.map Hd.dev) := fun h => hin (findI_mem.1 h)
        omega
      have g2 : findI devs[n] (hs.map Hd.dev) < 0 := by
        have : ¬ 0 ≤ findI devs[n] (hs.map Hd.dev) := fun h => hin (hmm.2 (findI_mem.1 h))
        omega
      rw [if_pos (.inl g2)]
      have : stepD g.ns L (fetS g L (devs.take n)) devs[n] = fetS g L (devs.take n) := by
        unfold stepD
        rw [if_pos (.inr g1)]
      rw [this]
      refine ⟨h1, h2, h3, fun d => ?_⟩
      rw [h4, htk, List.mem_append, List.mem_singleton]
      constructor
      · rintro ⟨a, b⟩; exact ⟨.inl a, b⟩
      · rintro ⟨a | rfl, b⟩
        · exact ⟨a, b⟩
        · exact absurd b hin
theorem fetL_eq {g : Gl} {hs L : List Hd} (hok : Ok g hs) (hp : L.Perm hs) (devs : List Int) : fetL g L devs = (fetR g hs devs devs.length).2 := by
  have := (fet_sim hok hp devs devs.length (Nat.le_refl _)).2.1
  rw [List.take_length] at this
  exact this

end Go.Proofs.Ytapjgjjmlbhanaa
