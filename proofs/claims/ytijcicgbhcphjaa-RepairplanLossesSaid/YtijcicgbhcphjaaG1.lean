/- The plan, plain. -/
import Derived.Test.YtijcicgbhcphjaaF4
namespace Go.Proofs.Ytijcicgbhcphjaa
open Go.RowKit Go.Lib Go.ChangeMaps

def fromL (V : Vp) (gone : Nat → Bool) (k : Nat) : List Int :=
  if (V.held.getD k default).data ≤ (leftI gone (V.held.getD k default).at_).length then (leftI gone (V.held.getD k default).at_).take (V.held.getD k default).data.toNat else []
def placeI (V : Vp) (gone : Nat → Bool) : Int := bestTo (openB V gone) (btS V gone) V.held.length
def jobK (V0 : Vp) (gone : Nat → Bool) (V : Vp) (k : Nat) : Jp :=
  ⟨⟨(V.held.getD k default).id, (otherI gone (V.held.getD k default).at_).getD 0 0⟩, fromL V0 gone k, targetI V gone k, (V.held.getD k default).block⟩
def nextJ (V0 : Vp) (gone : Nat → Bool) (V : Vp) : Option Jp := if placeI V gone < 0 then none else some (jobK V0 gone V (placeI V gone).toNat)
def planF (V0 : Vp) (gone : Nat → Bool) : Nat → Vp → List Jp → Vp × List Jp
  | 0, V, js => (V, js)
  | n + 1, V, js => match nextJ V0 gone V with
    | none => (V, js)
    | some j => planF V0 gone n (doP V j) (js ++ [j])
/-- Pieces that are not there. -/
def missN (gone : Nat → Bool) (hs : List Hp) : Nat := (hs.map fun h => (otherI gone h.at_).length).sum
def planR (V : Vp) (gone : Nat → Bool) : Vp × List Jp := planF V gone (missN gone V.held + 1) V []

theorem bestTo_allowed (al : Nat → Bool) (bt : Nat → Nat → Bool) : ∀ m, 0 ≤ bestTo al bt m → al (bestTo al bt m).toNat = true
  | 0, h => by simp [bestTo] at h
  | m + 1, h => by
    unfold bestTo at h ⊢
    split
    · rename_i h'; simpa using h'.1
    · rename_i h'
      rw [if_neg h'] at h
      exact bestTo_allowed al bt m h

theorem map_range_filter (zs : List Int) (q : Int → Bool) : ((List.range zs.length).filter fun i => q (zs.getD i 0)).length = zs.countP q := by
  rw [← List.countP_eq_length_filter]
  have h : zs = (List.range zs.length).map fun i => zs.getD i 0 := by
    apply List.ext_getElem
    · simp
    · intro i h1 h2
      simp [List.getD, h1]
  conv => rhs; rw [h]
  rw [List.countP_map]
  rfl
theorem otherI_count (gone : Nat → Bool) (zs : List Int) : (otherI gone zs).length = zs.countP fun x => !goodB gone x := by
  unfold otherI otherTo
  rw [List.length_map, map_range_filter zs fun x => !goodB gone x]
theorem leftI_count (gone : Nat → Bool) (zs : List Int) : (leftI gone zs).length = zs.countP (goodB gone) := by
  unfold leftI leftTo
  rw [List.length_map, map_range_filter zs (goodB gone)]
theorem left_other (gone : Nat → Bool) (zs : List Int) : (leftI gone zs).length + (otherI gone zs).length = zs.length := by
  rw [leftI_count, otherI_count]
  exact (List.length_eq_countP_add_countP (goodB gone)).symm ▸ by
    congr 1
    apply List.countP_congr
    intro x _
    cases goodB gone x <;> simp
theorem other_set (gone : Nat → Bool) (zs : List Int) {i : Nat} (hi : i < zs.length) {d : Int} (h0 : goodB gone (zs.getD i 0) = false) (h1 : goodB gone d = true) : (otherI gone (zs.set i d)).length + 1 = (otherI gone zs).length := by
  rw [otherI_count, otherI_count]
  have e1 : zs.set i d = zs.take i ++ d :: zs.drop (i + 1) := (List.set_eq_take_append_cons_drop ..).trans (by rw [if_pos hi])
  have e2 : zs = zs.take i ++ zs[i] :: zs.drop (i + 1) := by rw [List.getElem_cons_drop, List.take_append_drop]
  rw [getD_at _ _ _ hi] at h0
  rw [e1]
  conv => rhs; rw [e2]
  rw [List.countP_append, List.countP_append, List.countP_cons, List.countP_cons]
  simp [h0, h1]
  omega
theorem sum_set (f : Hp → Nat) : ∀ (hs : List Hp) (k : Nat) (y : Hp), k < hs.length → ((hs.set k y).map f).sum + f (hs.getD k default) = (hs.map f).sum + f y
  | [], k, y, h => by simp at h
  | x :: r, 0, y, _ => by simp [List.getD]; omega
  | x :: r, k + 1, y, h => by
    have := sum_set f r k y (by simpa using h)
    simp only [List.set_cons_succ, List.map_cons, List.sum_cons, List.getD_cons_succ]
    omega

/-- A view into which jobs have brought pieces. -/
structure Grow (V0 : Vp) (gone : Nat → Bool) (V : Vp) : Prop where
  mem : V.mem = V0.mem
  weight : V.weight = V0.weight
  len : V.held.length = V0.held.length
  fields : ∀ k, (V.held.getD k default).id = (V0.held.getD k default).id ∧ (V.held.getD k default).block = (V0.held.getD k default).block ∧ (V.held.getD k default).data = (V0.held.getD k default).data ∧ (V.held.getD k default).total = (V0.held.getD k default).total
  alen : ∀ k, (V.held.getD k default).at_.length = (V0.held.getD k default).at_.length
  kept : ∀ k i, goodB gone ((V0.held.getD k default).at_.getD i 0) = true → (V.held.getD k default).at_.getD i 0 = (V0.held.getD k default).at_.getD i 0
  dead : ∀ k, ((leftI gone (V0.held.getD k default).at_).length : Int) < (V0.held.getD k default).data → (V.held.getD k default).at_ = (V0.held.getD k default).at_
theorem Grow.refl (V : Vp) (gone : Nat → Bool) : Grow V gone V := ⟨rfl, rfl, rfl, fun _ => ⟨rfl, rfl, rfl, rfl⟩, fun _ => rfl, fun _ _ _ => rfl, fun _ _ => rfl⟩
theorem Grow.left {V0 V : Vp} {gone : Nat → Bool} (g : Grow V0 gone V) (k : Nat) : ∀ x ∈ leftI gone (V0.held.getD k default).at_, x ∈ leftI gone (V.held.getD k default).at_ := fun x hx => by
  obtain ⟨i, rfl, hi, hg⟩ := mem_leftI.1 hx
  exact mem_leftI.2 ⟨i, rfl, by rw [g.alen]; exact hi, by rw [g.kept k i hg]; exact hg⟩

theorem leftTo_lt (gone : Nat → Bool) (zs : List Int) : ∀ (n : Nat), ∀ x ∈ leftTo gone zs n, x < n := fun n x hx => by
  unfold leftTo at hx
  obtain ⟨i, hi, rfl⟩ := List.mem_map.1 hx
  have := List.mem_range.1 (List.mem_filter.1 hi).1
  omega
theorem leftI_sorted (gone : Nat → Bool) (zs : List Int) : (leftI gone zs).Pairwise (· < ·) := by
  unfold leftI leftTo
  rw [List.pairwise_map]
  refine List.Pairwise.imp ?_ (List.pairwise_lt_range.filter _)
  intro a b h
  omega
theorem frOk_take {gone : Nat → Bool} {zs ys : List Int} {n : Nat} (h : ∀ x ∈ leftI gone zs, x ∈ leftI gone ys) : FrOk (leftI gone ys) ((leftI gone zs).take n) := by
  have hs := (leftI_sorted gone zs).sublist (List.take_sublist n _)
  have hm : ∀ x ∈ (leftI gone zs).take n, x ∈ leftI gone ys := fun x hx => h x (List.mem_of_mem_take hx)
  intro i hi
  refine ⟨fun h0 => ?_, ?_⟩
  · rw [getD_at _ _ _ (show i - 1 < _ by omega), getD_at _ _ _ hi]
    exact List.pairwise_iff_getElem.1 hs (i - 1) i (by omega) hi (by omega)
  · rw [getD_at _ _ _ hi]
    exact hm _ (List.getElem_mem hi)

theorem findP_self : ∀ {hs : List Hp} {k : Nat}, (hs.map Hp.id).Nodup → k < hs.length → findP hs (hs.getD k default).id = some k
  | [], k, _, h => by simp at h
  | x :: r, 0, _, _ => by simp [findP, List.getD]
  | x :: r, k + 1, hn, h => by
    simp only [List.map_cons, List.nodup_cons] at hn
    have hk : k < r.length := by simpa using h
    have ih := findP_self (k := k) hn.2 hk
    simp only [List.getD_cons_succ]
    unfold findP
    rw [if_neg, ih]
    · rfl
    · intro e
      apply hn.1
      rw [← e, getD_at _ _ _ hk]
      exact List.mem_map.2 ⟨_, List.getElem_mem hk, rfl⟩

theorem openB_true {V : Vp} {gone : Nat → Bool} {k : Nat} (h : openB V gone k = true) : 0 ≤ spareI V gone k ∧ 0 < (otherI gone (V.held.getD k default).at_).length ∧ 0 ≤ targetI V gone k := by
  unfold openB at h
  simp only [Bool.and_eq_true, decide_eq_true_eq] at h
  exact ⟨h.1.1, h.1.2, h.2⟩

/-- What the plan has next is possible. -/
theorem jobK_poss {V0 V : Vp} {gone : Nat → Bool} (hok : VOk V) (g : Grow V0 gone V) {k : Nat} (hk : k < V.held.length) (ho : openB V gone k = true) : possB V gone (jobK V0 gone V k) = true ∧ findP V.held (jobK V0 gone V k).pc.st = some k := by
  obtain ⟨h1, h2, h3⟩ := openB_true ho
  have hf : findP V.held (V.held.getD k default).id = some k := findP_self hok.2.2.2.2.1 hk
  have hd := (hok.small.2.2.2.2 k hk).2.1
  have hlive : (V0.held.getD k default).data ≤ (leftI gone (V0.held.getD k default).at_).length := by
    rcases Decidable.em (((leftI gone (V0.held.getD k default).at_).length : Int) < (V0.held.getD k default).data) with h | h
    · have e := g.dead k h
      unfold spareI at h1
      rw [e, (g.fields k).2.2.1] at h1
      omega
    · omega
  refine ⟨?_, hf⟩
  unfold possB jobK
  simp only
  rw [hf]
  simp only [Bool.and_eq_true, decide_eq_true_eq]
  have hfl : fromL V0 gone k = (leftI gone (V0.held.getD k default).at_).take (V0.held.getD k default).data.toNat := by unfold fromL; rw [if_pos hlive]
  have hdd := (g.fields k).2.2.1
  refine ⟨⟨⟨⟨?_, ?_⟩, trivial⟩, ?_⟩, ?_⟩
  · rw [getD_at _ _ _ h2]; exact List.getElem_mem h2
  · rw [hfl, List.length_take, hdd]; rw [hdd] at hd; omega
  · rw [hfl]; exact frOk_take (g.left k)
  · exact bestTo_allowed (fun d => canB V gone k d) (btW V) V.mem.length h3 |> fun h => by
      have e : ((targetI V gone k).toNat : Int) = targetI V gone k := Int.toNat_of_nonneg h3
      rw [← e]; exact h

theorem Grow.step {V0 V : Vp} {gone : Nat → Bool} (hok : VOk V) (g : Grow V0 gone V) {k : Nat} (hk : k < V.held.length) (ho : openB V gone k = true) :
    Grow V0 gone (doP V (jobK V0 gone V k)) ∧ missN gone (doP V (jobK V0 gone V k)).held + 1 = missN gone V.held := by
  obtain ⟨hp, hf⟩ := jobK_poss hok g hk ho
  obtain ⟨h1, h2, h3⟩ := openB_true ho
  obtain ⟨i, hi, hil, hig⟩ := mem_otherI.1 (show (otherI gone (V.held.getD k default).at_).getD 0 0 ∈ otherI gone (V.held.getD k default).at_ by rw [getD_at _ _ _ h2]; exact List.getElem_mem h2)
  have hb := bestTo_allowed (fun d => canB V gone k d) (btW V) V.mem.length h3
  have hc := canB_true hb
  have e0 : ((targetI V gone k).toNat : Int) = targetI V gone k := Int.toNat_of_nonneg h3
  have hcg : goodB gone (targetI V gone k) = true := by
    unfold goodB
    rw [show (targetI V gone k).toNat = _ from rfl]
    have := hc.2.2.1
    simp only [Int.toNat_natCast] at this
    change gone (targetI V gone k).toNat = false at this
    simp [h3, this]
  have e : doP V (jobK V0 gone V k) = setRoomP (setAtP V k i (targetI V gone k)) (targetI V gone k).toNat (V.room.getD (targetI V gone k).toNat 0 - (V.held.getD k default).block) := by
    unfold doP
    rw [hf]
    simp only [jobK]
    rw [hi]
    rfl
  rw [e]
  have hh : ∀ V' : Vp, ∀ d x, (setRoomP V' d x).held = V'.held := fun _ _ _ => rfl
  constructor
  · refine ⟨g.mem, g.weight, by rw [hh, setAt_len]; exact g.len, fun m => ?_, fun m => ?_, fun m a ha => ?_, fun m hm => ?_⟩
    · rw [hh]
      obtain ⟨f1, _, f3, f4, f5, _⟩ := setAt_fields (V := V) (k := k) (i := i) (d := targetI V gone k) m
      rw [f1, f3, f4, f5]
      exact g.fields m
    · rw [hh]
      by_cases e : m = k
      · subst e; rw [setAt_self hk]; simp only [List.length_set]; exact g.alen m
      · rw [setAt_ne e]; exact g.alen m
    · rw [hh]
      by_cases e : m = k
      · subst e
        rw [setAt_self hk]
        have hai : a ≠ i := fun e => by
          subst e
          rw [g.kept m a ha, ha] at hig
          cases hig
        simp only
        rw [getD_set_ne _ _ _ hai]
        exact g.kept m a ha
      · rw [setAt_ne e]; exact g.kept m a ha
    · rw [hh]
      by_cases e : m = k
      · subst e
        exfalso
        have e2 := g.dead m hm
        unfold spareI at h1
        rw [e2, (g.fields m).2.2.1] at h1
        omega
      · rw [setAt_ne e]; exact g.dead m hm
  · rw [hh]
    have := sum_set (fun h => (otherI gone h.at_).length) V.held k { V.held.getD k default with at_ := (V.held.getD k default).at_.set i (targetI V gone k) } hk
    have h9 := other_set gone (V.held.getD k default).at_ hil hig hcg
    unfold missN setAtP
    simp only at this ⊢
    omega

theorem missN_le (gone : Nat → Bool) : ∀ (hs : List Hp), (∀ h ∈ hs, h.at_.length ≤ 16) → missN gone hs ≤ 16 * hs.length
  | [], _ => by simp [missN]
  | x :: r, h => by
    have h1 := missN_le gone r (fun y hy => h y (by simp [hy]))
    have h2 := h x (by simp)
    have h3 : (otherI gone x.at_).length ≤ x.at_.length := by
      have := left_other gone x.at_
      omega
    unfold missN at h1 ⊢
    simp only [List.map_cons, List.sum_cons, List.length_cons]
    omega

end Go.Proofs.Ytijcicgbhcphjaa
