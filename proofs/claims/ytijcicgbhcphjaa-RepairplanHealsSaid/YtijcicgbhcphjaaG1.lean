/- The plan, plain. -/
import Derived.Test.YtijcicgbhcphjaaF1
namespace Go.Proofs.Ytijcicgbhcphjaa
open Go.RowKit Go.Lib Go.ChangeMaps

def fromL (V : Vp) (gone : Nat → Bool) (k : Nat) : List Int :=
  if (V.held.getD k default).data ≤ (leftI gone (V.held.getD k default).at_).length then (leftI gone (V.held.getD k default).at_).take (V.held.getD k default).data.toNat else []
def placeI (V : Vp) (gone : Nat → Bool) : Int := bestTo (openB V gone) (btS V gone) V.held.length
def jobK (V0 : Vp) (gone : Nat → Bool) (V : Vp) (k : Nat) : Jp :=
  ⟨⟨(V.held.getD k default).id, (otherI gone (V.held.getD k default).at_).getD 0 0⟩, fromL V0 gone k, targetI V gone k, (V.held.getD k default).block⟩
def nextJ (V0 : Vp) (gone : Nat → Bool) (V : Vp) : Option Jp := if placeI V gone < 0 then none else some (jobK V0 gone V (placeI V gone).toNat)
def planF (V0 : Vp) (gone : Nat → Bool) : Nat → Vp → List Jp → Vp × List Jp
  | 0, V, js => (V, js)
  | n + 1, V, js => match nextJ V0 gone V with
    | none => (V, js)
    | some j => planF V0 gone n (doP V j) (js ++ [j])
/-- Pieces that are not there. -/
def missN (gone : Nat → Bool) (hs : List Hp) : Nat := (hs.map fun h => (otherI gone h.at_).length).sum
def planR (V : Vp) (gone : Nat → Bool) : Vp × List Jp := planF V gone (missN gone V.held + 1) V []

theorem bestTo_allowed (al : Nat → Bool) (bt : Nat → Nat → Bool) : ∀ m, 0 ≤ bestTo al bt m → al (bestTo al bt m).toNat = true
  | 0, h => by simp [bestTo] at h
  | m + 1, h => by
    unfold bestTo at h ⊢
    split
    · rename_i h'; simpa using h'.1
    · rename_i h'
      rw [if_neg h'] at h
      exact bestTo_allowed al bt m h

theorem map_range_filter (zs : List Int) (q : Int → Bool) : ((List.range zs.length).filter fun i => q (zs.getD i 0)).length = zs.countP q := by
  rw [← List.countP_eq_length_filter]
  have h : zs = (List.range zs.length).map fun i => zs.getD i 0 := by
    apply List.ext_getElem
    · simp
    · intro i h1 h2
      simp [List.getD, h1]
  conv => rhs; rw [h]
  rw [List.countP_map]
  rfl
theorem otherI_count (gone : Nat → Bool) (zs : List Int) : (otherI gone zs).length = zs.countP fun x => !goodB gone x := by
  unfold otherI otherTo
  rw [List.length_map, map_range_filter zs fun x => !goodB gone x]
theorem leftI_count (gone : Nat → Bool) (zs : List Int) : (leftI gone zs).length = zs.countP (goodB gone) := by
  unfold leftI leftTo
  rw [List.length_map, map_range_filter zs (goodB gone)]
theorem left_other (gone : Nat → Bool) (zs : List Int) : (leftI gone zs).length + (otherI gone zs).length = zs.length := by
  rw [leftI_count, otherI_count]
  exact (List.length_eq_countP_add_countP (goodB gone)).symm ▸ by
    congr 1
    apply List.countP_congr
    intro x _
    cases goodB gone x <;> simp
theorem other_set (gone : Nat → Bool) (zs : List Int) {i : Nat} (hi : i < zs.length) {d : Int} (h0 : goodB gone (zs.getD i 0) = false) (h1 : goodB gone d = true) : (otherI gone (zs.set i d)).length + 1 = (otherI gone zs).length := by
  rw [otherI_count, otherI_count]
  have e1 : zs.set i d = zs.take i ++ d :: zs.drop (i + 1) := (List.set_eq_take_append_cons_drop ..).trans (by rw [if_pos hi])
  have e2 : zs = zs.take i ++ zs[i] :: zs.drop (i + 1) := by rw [List.getElem_cons_drop, List.take_append_drop]
  rw [getD_at _ _ _ hi] at h0
  rw [e1]
  conv => rhs; rw [e2]
  rw [List.countP_append, List.countP_append, List.countP_cons, List.countP_cons]
  simp [h0, h1]
  omega
theorem sum_set (f : Hp → Nat) : ∀ (hs : List Hp) (k : Nat) (y : Hp), k < hs.length → ((hs.set k y).map f).sum + f (hs.getD k default) = (hs.map f).sum + f y
  | [], k, y, h => by simp at h
  | x :: r, 0, y, _ => by simp [List.getD]; omega
  | x :: r, k + 1, y, h => by
    have := sum_set f r k y (by simpa using h)
    simp only [List.set_cons_succ, List.map_cons, List.sum_cons, List.getD_cons_succ]
    omega

/-- A view into which jobs have brought pieces. -/
structure Grow (V0 : Vp) (gone : Nat → Bool) (V : Vp) : Prop where
  mem : V.mem = V0.mem
  weight : V.weight = V0.weight
  len : V.held.length = V0.held.length
  fields : ∀ k, (V.held.getD k default).id = (V0.held.getD k default).id ∧ (V.held.getD k default).block = (V0.held.getD k default).block ∧ (V.held.getD k default).data = (V0.held.getD k default).data ∧ (V.held.getD k default).total = (V0.held.getD k default).total
  alen : ∀ k, (V.held.getD k default).at_.length = (V0.held.getD k default).at_.length
  kept : ∀ k i, goodB gone ((V0.held.getD k default).at_.getD i 0) = true → (V.held.getD k default).at_.getD i 0 = (V0.held.getD k default).at_.getD i 0
  dead : ∀ k, ((leftI gone (V0.held.getD k default).at_).length : Int) < (V0.held.getD k default).data → (V.held.getD k default).at_ = (V0.held.getD k default).at_
theorem Grow.refl (V : Vp) (gone : Nat → Bool) : Grow V gone V := ⟨rfl, rfl, rfl, fun _ => ⟨rfl, rfl, rfl, rfl⟩, fun _ => rfl, fun _ _ _ => rfl, fun _ _ => rfl⟩
theorem Grow.left {V0 V : Vp} {gone : Nat → Bool} (g : Grow V0 gone V) (k : Nat) : ∀ x ∈ leftI gone (V0.held.getD k default).at_, x ∈ leftI gone (V.held.getD k default).at_ := fun x hx => by
  obtain ⟨i, rfl, hi, hg⟩ := mem_leftI.1 hx
  exact mem_leftI.2 ⟨i, rfl, by rw [g.alen]; exact hi, by rw [g.kept k i hg]; exact hg⟩

theorem leftTo_lt (gone : Nat → Bool) (zs : List Int) : ∀ (n : Nat), ∀ x ∈ leftTo gone zs n, x < n := fun n x hx => by
  unfold leftTo at hx
  obtain ⟨i, hi, rfl⟩ := List.mem_map.1 hx
  have := List.mem_range.1 (List.mem_filter.1 hi).1
  omega
theorem leftI_sorted (gone : Nat → Bool) (zs : List Int) : (leftI gone zs).Pairwise (· < ·) := by
  unfold leftI leftTo
  rw [List.pairwise_map]
  refine List.Pairwise.imp ?_ (List.pairwise_lt_range.filter _)
  intro a b h
  omega
theorem frOk_take {gone : Nat → Bool} {zs ys : List Int} {n : Nat} (h : ∀ x ∈ leftI gone zs, x ∈ leftI gone ys) : FrOk (leftI gone ys) ((leftI gone zs).take n) := by
  have hs := (leftI_sorted gone zs).sublist (List.take_sublist n _)
  have hm : ∀ x ∈ (leftI gone zs).take n, x ∈ leftI gone ys := fun x hx => h x (List.mem_of_mem_take hx)
  intro i hi
  refine ⟨fun h0 => ?_, ?_⟩
  · rw [getD_at _ _ _ (show i - 1 < _ by omega), getD_at _ _ _ hi]
    exact List.pairwise_iff_getElem.1 hs (i - 1) i (by omega) hi (by omega)
  · rw [getD_at _ _ _ hi]
    exact hm _ (List.getElem_mem hi)

theorem findP_self : ∀ {hs : List Hp} {k : Nat}, (hs.map Hp.id).Nodup → k < hs.length → findP hs (hs.getD k default).id = some k
  | [], k, _, h => by simp at h
  | x :: r, 0, _, _ => by simp [findP, List.getD]
  | x :: r, k + 1, hn, h => by
    simp only [List.map_cons, List.nodup_cons] at hn
    have hk : k < r.length := by simpa using h
    have ih := findP_self (k := k) hn.2 hk
    simp only [List.getD_cons_succ]
    unfold findP
    rw [if_neg, ih]
    · rfl
    · intro e
      apply hn.1
      rw [← e, getD_at _ _ _ hk]
      exact List.mem_map.2 ⟨_, List.getElem_mem hk, rfl⟩

theorem openB_true {V : Vp} {gone : Nat → Bool} {k : Nat} (h : openB V gone k = true) : 0 ≤ spareI V gone k ∧ 0 < (otherI gone (V.held.getD k default).at_).length ∧ 0 ≤ targetI V gone k := by
  unfold openB at h
  simp only [Bool.and_eq_true, decide_eq_true_eq] at h
  exact ⟨h.1.1, h.1.2, h.2⟩

/-- What the plan has next is possible. -/
theorem jobK_poss {V0 V : Vp} {gone : Nat → Bool} (hok : VOk V) (g : Grow V0 gone V) {k : Nat} (hk : k < V.held.length) (ho : openB V gone k = true) : possB V gone (jobK V0 gone V k) = true ∧ findP V.held (jobK V0 gone V k).pc.st = some k := by
  obtain ⟨h1, h2, h3⟩ := openB_true ho
  have hf : findP V.held (V.held.getD k default).id = some k := findP_self hok.2.2.2.2.1 hk
  have hd := (hok.small.2.2.2.2 k hk).2.1
  have hlive : (V0.held.getD k default).data ≤ (leftI gone (V0.held.getD k default).at_).length := by
    rcases Decidable.em (((leftI gone (V0.held.getD k default).at_).length : Int) < (V0.held.getD k default).data) with h | h
    · have e := g.dead k h
      unfold spareI at h1
      rw [e, (g.fields k).2.2.1] at h1
      omega
    · omega
  refine ⟨?_, hf⟩
  unfold possB jobK
  simp only
  rw [hf]
  simp only [Bool.and_eq_true, decide_eq_true_eq]
  have hfl : fromL V0 gone k = (leftI gone (V0.held.getD k default).at_).take (V0.held.getD k default).data.toNat := by unfold fromL; rw [if_pos hlive]
  have hdd := (g.fields k).2.2.1
  refine ⟨⟨⟨⟨?_, ?_⟩, trivial⟩, ?_⟩, ?_⟩
  · rw [getD_at _ _ _ h2]; exact List.getElem_mem h2
  · rw [hfl, List.length_take, hdd]; rw [hdd] at hd; omega
  · rw [hfl]; exact frOk_take (g.left k)
  · exact bestTo_allowed (fun d => canB V gone k d) (btW V) V.mem.length h3 |> fun h => by
      have e : ((targetI V gone k).toNat : Int) = targetI V gone k := Int.toNat_of_nonneg h3
      rw [← e]; exact h

theorem Grow.step {V0 V : Vp} {gone : Nat → Bool} (hok : VOk V) (g : Grow V0 gone V) {k : Nat} (hk : k < V.held.length) (ho : openB V gone k = true) :
    Grow V0 gone (doP V (jobK V0 gone V k)) ∧ missN gone (doP V (jobK V0 gone V k)).held + 1 = missN gone V.held := by
  obtain ⟨hp, hf⟩ := jobK_poss hok g hk ho
  obtain ⟨h1, h2, h3⟩ := openB_true ho
  obtain ⟨i, hi, hil, hig⟩ := mem_otherI.1 (show (otherI gone (V.held.getD k default).at_).getD 0 0 ∈ otherI gone (V.held.getD k default).at_ by rw [getD_at _ _ _ h2]; exact List.getElem_mem h2)
  have hb := bestTo_allowed (fun d => canB V gone k d) (btW V) V.mem.length h3
  have hc := canB_true hb
  have e0 : ((targetI V gone k).toNat : Int) = targetI V gone k := Int.toNat_of_nonneg h3
  have hcg : goodB gone (targetI V gone k) = true := by
    unfold goodB
    rw [show (targetI V gone k).toNat = _ from rfl]
    have := hc.2.2.1
    simp only [Int.toNat_natCast] at this
    change gone (targetI V gone k).toNat = false at this
    simp [h3, this]
  have e : doP V (jobK V0 gone V k) = setRoomP (setAtP V k i (targetI V gone k)) (targetI V gone k).toNat (V.room.getD (targetI V gone k).toNat 0 - (V.held.getD k default).block) := by
    unfold doP
    rw [hf]
    simp only [jobK]
    rw [hi]
    rfl
  rw [e]
  have hh : ∀ V' : Vp, ∀ d x, (setRoomP V' d x).held = V'.held := fun _ _ _ => rfl
  constructor
  · refine ⟨g.mem, g.weight, by rw [hh, setAt_len]; exact g.len, fun m => ?_, fun m => ?_, fun m a ha => ?_, fun m hm => ?_⟩
    · rw [hh]
      obtain ⟨f1, _, f3, f4, f5, _⟩ := setAt_fields (V := V) (k := k) (i := i) (d := targetI V gone k) m
      rw [f1, f3, f4, f5]
      exact g.fields m
    · rw [hh]
      by_cases e : m = k
      · subst e; rw [setAt_self hk]; simp only [List.length_set]; exact g.alen m
      · rw [setAt_ne e]; exact g.alen m
    · rw [hh]
      by_cases e : m = k
      · subst e
        rw [setAt_self hk]
        have hai : a ≠ i := fun e => by
          subst e
          rw [g.kept m a ha, ha] at hig
          cases hig
        simp only
        rw [getD_set_ne _ _ _ hai]
        exact g.kept m a ha
      · rw [setAt_ne e]; exact g.kept m a ha
    · rw [hh]
      by_cases e : m = k
      · subst e
        exfalso
        have e2 := g.dead m hm
        unfold spareI at h1
        rw [e2, (g.fields m).2.2.1] at h1
        omega
      · rw [setAt_ne e]; exact g.dead m hm
  · rw [hh]
    have := sum_set (fun h => (otherI gone h.at_).length) V.held k { V.held.getD k default with at_ := (V.held.getD k default).at_.set i (targetI V gone k) } hk
    have h9 := other_set gone (V.held.getD k default).at_ hil hig hcg
    unfold missN setAtP
    simp only at this ⊢
    omega

theorem missN_le (gone : Nat → Bool) : ∀ (hs : List Hp), (∀ h ∈ hs, h.at_.length ≤ 16) → missN gone hs ≤ 16 * hs.length
  | [], _ => by simp [missN]
  | x :: r, h => by
    have h1 := missN_le gone r (fun y hy => h y (by simp [hy]))
    have h2 := h x (by simp)
    have h3 : (otherI gone x.at_).length ≤ x.at_.length := by
      have := left_other gone x.at_
      omega
    unfold missN at h1 ⊢
    simp only [List.map_cons, List.sum_cons, List.length_cons]
    omega

end Go.Proofs.Ytijcicgbhcphjaa

/- Rows of jobs. -/
namespace Go.Proofs.Ytijcicgbhcphjaa
open Go.RowKit Go.Lib Go.ChangeMaps
set_option linter.unusedSimpArgs false

theorem OwnI.take {w : World} {base : Nat} {a : Option Addr} {n c : Nat} {ds : List Int} (h : OwnI w base (.slice a n c) ds) (m : Nat) (hm : m ≤ ds.length) : OwnI w base (.slice a m c) (ds.take m) := by
  have hn : n = ds.length := by
    obtain ⟨_, _, e⟩ := OwnI.slice h
    cases e; rfl
  subst hn
  obtain ⟨xs, ⟨h1, h2⟩, h3⟩ := h
  unfold OwnI
  rw [List.length_take, Nat.min_eq_left hm]
  refine ⟨xs.take m, ⟨by rw [List.length_take, h1]; omega, ?_⟩, fun i j hi hj => ?_⟩
  · rcases h2 with ⟨e, e2⟩ | ⟨g, cap, cur, e, h4, h5, h6, h7, h8, h9⟩
    · have : m = 0 := by omega
      subst this
      rw [e2] at e
      rw [e]
      exact .inl ⟨rfl, rfl⟩
    · cases e
      refine .inr ⟨g, c, cur, rfl, h4, h5, by omega, h7, h8, ?_⟩
      rw [← h9, List.take_take, Nat.mul_one, Nat.min_eq_left (by omega)]
  · have hj0 : j = 0 := by omega
    subst hj0
    have h4 := h3 i 0 (by omega) (by omega)
    rw [Nat.mul_one, Nat.add_zero] at h4 ⊢
    rw [List.getElem?_take, if_pos hi, h4]
    simp only
    rw [getD_take _ _ _ _ hi]

theorem Own.keep {w w' : World} {lo hi base : Nat} {e : TypeId} {v : Value} {k n : Nat} {f : Nat → Nat → Value} (h : Own w base e v k n f) (hk : Keep lo hi w w') (hb : hi ≤ base) : Own w' base e v k n f :=
  h.same fun g hg => hk.2 g (Nat.le_trans hb (h.lt g hg).1) (h.lt g hg).2

/-- Jobs in a row of one's own. -/
def OwnJ (w : World) (base : Nat) (v : Value) (js : List Jp) : Prop := ∃ xs : List Value, xs.length = js.length ∧ Own w base 47 v 5 js.length (jpCell js xs) ∧ ∀ i, i < js.length → OwnI w base (xs.getD i undef) (js.getD i default).from_
theorem OwnJ.nil (w : World) (base : Nat) : OwnJ w base (.slice none 0 0) [] := ⟨[], rfl, Own.nil _ _ _ _ _, fun i hi => by simp at hi⟩
theorem OwnJ.below {w w' : World} {base : Nat} {v : Value} {js : List Jp} (h : OwnJ w base v js) (hb : Below w.heap.size w w') : OwnJ w' base v js := by
  obtain ⟨xs, h1, h2, h3⟩ := h
  exact ⟨xs, h1, h2.below hb, fun i hi => OwnI.below (h3 i hi) hb⟩
theorem OwnJ.keep {w w' : World} {lo hi base : Nat} {v : Value} {js : List Jp} (h : OwnJ w base v js) (hk : Keep lo hi w w') (hb : hi ≤ base) : OwnJ w' base v js := by
  obtain ⟨xs, h1, h2, h3⟩ := h
  exact ⟨xs, h1, h2.keep hk hb, fun i hi => Own.keep (h3 i hi) hk hb⟩
theorem OwnJ.lower {w : World} {base b' : Nat} {v : Value} {js : List Jp} (h : OwnJ w base v js) (hb : b' ≤ base) : OwnJ w b' v js := by
  obtain ⟨xs, h1, h2, h3⟩ := h
  exact ⟨xs, h1, h2.base hb, fun i hi => Own.base (h3 i hi) hb⟩
theorem OwnJ.slice {w : World} {base : Nat} {v : Value} {js : List Jp} (h : OwnJ w base v js) (hn : js.length ≤ 1000000) : ∃ a c, v = .slice a js.length c := by
  obtain ⟨xs, h1, h2, h3⟩ := h
  obtain ⟨a, c, e, _⟩ := h2.row (by omega)
  exact ⟨a, c, e⟩
theorem OwnJ.reads {w : World} {base : Nat} {v : Value} {js : List Jp} (h : OwnJ w base v js) (hn : js.length ≤ 1000000) (hf : ∀ j ∈ js, j.from_.length ≤ 1000000) : ReadsJ w v js := by
  obtain ⟨xs, h1, h2, h3⟩ := h
  refine ⟨xs, h1, h2.row (by omega), fun i hi => OwnI.reads (h3 i hi) ?_⟩
  have := hf (js.getD i default) (by rw [getD_at _ _ _ hi]; exact List.getElem_mem hi)
  omega
theorem jpCell_old {js : List Jp} {xs : List Value} (hx : xs.length = js.length) (y : Jp) (u : Value) {i : Nat} (hi : i < js.length) (j : Nat) : jpCell (js ++ [y]) (xs ++ [u]) i j = jpCell js xs i j := by
  unfold jpCell
  rw [getD_at (js ++ [y]) _ _ (by rw [List.length_append]; omega), List.getElem_append_left hi, getD_at js _ _ hi, getD_at (xs ++ [u]) _ _ (by rw [List.length_append]; omega), List.getElem_append_left (by omega), getD_at xs _ _ (by omega)]
theorem OwnJ.app {V : World} {base : Nat} {v : Value} {js : List Jp} (h : OwnJ V base v js) (y : Jp) (fv : Value) (hfv : OwnI V base fv y.from_) (hn : js.length ≤ 1000000) (hbase : base ≤ V.heap.size) :
    ∃ v' w', (Builtin.append_ #[35, 35] 35 #[v, .slice (some ⟨V.heap.size, 0, none⟩) 1 1]).run Try.prog (V.alloc (.cells #[.string y.pc.st, .int .i64 y.pc.ix, fv, .int .i64 y.to, .int .i64 y.size] 47)) = .ok v' w' ∧ OwnJ w' base v' (js ++ [y]) ∧ Below base V w' ∧
      (∀ b, b < V.heap.size → v.ownBlock ≠ some b → w'.heap[b]? = V.heap[b]?) := by
  obtain ⟨xs, hx, ho, hf⟩ := h
  have h' : Own V base 47 v 5 js.length (jpCell (js ++ [y]) (xs ++ [fv])) := Own.congr ho fun i j hi _ => (jpCell_old hx y fv hi j).symm
  have h1 : fv.oneCell' = true := by
    obtain ⟨_, _, rfl⟩ := OwnI.slice hfv
    rfl
  have hgy : (js ++ [y]).getD js.length default = y := by simp [List.getD]
  have hgx : (xs ++ [fv]).getD js.length undef = fv := by rw [← hx]; simp [List.getD]
  obtain ⟨v3, w3, r3, o1, o2, o3, _⟩ := Own.append (V := V) (t := 35) (e := 47) (z := .agg #[.string ⟨#[]⟩, .int .i64 0, .slice none 0 0, .int .i64 0, .int .i64 0]) (k := 5) (bytes := 64) Try.underlying35 (by kernel_rfl) rfl (by omega) (by omega) h' 35
    [.string y.pc.st, .int .i64 y.pc.ix, fv, .int .i64 y.to, .int .i64 y.size] rfl (fun q hq => by
      match q, hq with
      | 0, _ => simp only [jpCell, hgy]; rfl
      | 1, _ => simp only [jpCell, hgy]; rfl
      | 2, _ => simp only [jpCell, hgx]; rfl
      | 3, _ => simp only [jpCell, hgy]; rfl
      | 4, _ => simp only [jpCell, hgy]; rfl) (by
      intro u hu
      simp at hu
      rcases hu with rfl | rfl | rfl | rfl | rfl
      · rfl
      · rfl
      · exact h1
      · rfl
      · rfl) (by omega) hbase
  refine ⟨v3, w3, r3, ⟨xs ++ [fv], by simp [hx], by rw [List.length_append]; exact o1, fun i hi => ?_⟩, o2, o3⟩
  have hkeep : ∀ {u : Value} {ds : List Int}, OwnI V base u ds → OwnI w3 base u ds := fun o => Own.same o fun g hg => o3 g (Own.lt o g hg).2 (fun e => own_apart' ho o (by decide) g e hg)
  by_cases e : i < js.length
  · rw [getD_at _ _ _ (by rw [List.length_append]; omega), List.getElem_append_left (by omega), getD_at _ _ _ (by rw [List.length_append]; omega), List.getElem_append_left e]
    have := hf i e
    rw [getD_at _ _ _ (by omega), getD_at _ _ _ e] at this
    exact hkeep this
  · have hi2 : i = js.length := by rw [List.length_append, List.length_singleton] at hi; omega
    subst hi2
    rw [hgx, hgy]
    exact hkeep hfv

theorem OwnJ.own47 {w : World} {base : Nat} {v : Value} {js : List Jp} (h : OwnJ w base v js) : ∃ f : Nat → Nat → Value, Own w base 47 v 5 js.length f := by
  obtain ⟨xs, h1, h2, h3⟩ := h
  exact ⟨_, h2⟩
def lenV : Value → Nat
  | .slice _ n _ => n
  | _ => 0

end Go.Proofs.Ytijcicgbhcphjaa
