/- What the plan heals, plain. -/
import Derived.Test.YtijcicgbhcphjaaP1
import Derived.Test.YtijcicgbhcphjaaR1
namespace Go.Proofs.Ytijcicgbhcphjaa
open Go.RowKit Go.Lib Go.ChangeMaps
set_option linter.unusedSimpArgs false

/-- The devices that are there, of those that carry pieces. -/
def goodsI (gone : Nat → Bool) (zs : List Int) : List Int := zs.filter (goodB gone)
theorem goods_len (gone : Nat → Bool) (zs : List Int) : (goodsI gone zs).length = (leftI gone zs).length := by
  rw [leftI_count, List.countP_eq_length_filter]
  rfl
theorem goods_snoc (gone : Nat → Bool) (zs : List Int) (i : Nat) (h : i < zs.length) : goodsI gone (zs.take (i + 1)) = goodsI gone (zs.take i) ++ if goodB gone (zs.getD i 0) = true then [zs.getD i 0] else [] := by
  unfold goodsI
  rw [List.take_succ_eq_append_getElem h, List.filter_append, getD_at _ _ _ h]
  congr 1
  simp only [List.filter_cons, List.filter_nil]
theorem goods_fresh {n : Int} {gone : Nat → Bool} {zs : List Int} (h : AtOk n zs) {i : Nat} (hi : i < zs.length) (hg : goodB gone (zs.getD i 0) = true) : zs.getD i 0 ∉ goodsI gone (zs.take i) := fun hm => by
  have h0 : 0 ≤ zs.getD i 0 := by
    unfold goodB at hg
    simp at hg
    exact hg.1
  have hm2 := (List.mem_filter.1 hm).1
  rcases ((atOk_snoc n zs i hi).1 (atOk_take h (i + 1))).2 with e | ⟨_, e⟩
  · rw [getD_at _ _ _ hi] at h0; omega
  · rw [getD_at _ _ _ hi] at hm2; exact e hm2

theorem heals {V V' : Vp} {gone : Nat → Bool} (hok : VOk V') (g : Grow V gone V') (hno : ∀ k, k < V.held.length → openB V' gone k = false) {k : Nat} (hk : k < V.held.length) :
    (leftI gone (V.held.getD k default).at_).length ≤ (leftI gone ((cleanV gone V').held.getD k default).at_).length ∧
    (((leftI gone (V.held.getD k default).at_).length : Int) < ((cleanV gone V').held.getD k default).data → (leftI gone ((cleanV gone V').held.getD k default).at_).length = (leftI gone (V.held.getD k default).at_).length) ∧
    (((cleanV gone V').held.getD k default).data ≤ (leftI gone (V.held.getD k default).at_).length → ((leftI gone ((cleanV gone V').held.getD k default).at_).length : Int) ≠ ((cleanV gone V').held.getD k default).total →
      ∀ d : Nat, d < V.mem.length → gone d = false → (d : Int) ∉ goodsI gone ((cleanV gone V').held.getD k default).at_ → (cleanV gone V').room.getD d 0 < ((cleanV gone V').held.getD k default).block) := by
  have hk' : k < V'.held.length := by rw [g.len]; exact hk
  rw [cleanV_at gone V' hk']
  unfold cleanH
  simp only
  rw [clean_left]
  have hle := left_len g k
  have hf := g.fields k
  refine ⟨hle, fun h => ?_, fun hd ht d hdm hgd hng => ?_⟩
  · rw [hf.2.2.1] at h
    rw [g.dead k h]
  · have hop := hno k hk
    have hspare : 0 ≤ spareI V' gone k := by unfold spareI; omega
    have hlen := left_other gone (V'.held.getD k default).at_
    have htot := (hok.small.2.2.2.2 k hk').2.2.2.2.1
    have hoth : 0 < (otherI gone (V'.held.getD k default).at_).length := by omega
    have htg : targetI V' gone k < 0 := by
      unfold openB at hop
      rw [decide_eq_true hspare, decide_eq_true hoth] at hop
      simp at hop
      exact hop
    unfold targetI at htg
    have hcan := bestTo_none htg d (by rw [g.mem]; exact hdm)
    by_cases hb : (V'.held.getD k default).block ≤ V'.room.getD d 0
    · exfalso
      have hnin : (d : Int) ∉ (V'.held.getD k default).at_ := fun hin => hng (by
        have hgg : goodB gone (d : Int) = true := by
          unfold goodB
          rw [Int.toNat_natCast, hgd]
          simp
        exact List.mem_filter.2 ⟨(clean_mem hgg).2 hin, hgg⟩)
      unfold canB at hcan
      rw [Int.toNat_natCast, decide_eq_true (show (0 : Int) ≤ d by omega), decide_eq_true (show (d : Int) < V'.mem.length by rw [g.mem]; omega), hgd, decide_eq_true hb, decide_eq_false hnin] at hcan
      simp at hcan
    · show V'.room.getD d 0 < _
      omega
theorem heals_dead {V V' : Vp} {gone : Nat → Bool} (g : Grow V gone V') : ∀ m, m ≤ V.held.length → (deadTo V gone m).length = (deadTo (cleanV gone V') gone m).length
  | 0, _ => rfl
  | m + 1, h => by
    have ih := heals_dead g m (by omega)
    have hm : m < V'.held.length := by rw [g.len]; omega
    unfold deadTo
    rw [List.length_append, List.length_append, ih, clean_spare gone V' hm]
    have hle := left_len g m
    have hf := g.fields m
    congr 1
    by_cases hs : spareI V gone m < 0
    · have e := g.dead m (by unfold spareI at hs; omega)
      have hs' : spareI V' gone m < 0 := by unfold spareI at hs ⊢; rw [e, hf.2.2.1]; exact hs
      rw [if_pos hs, if_pos hs']
      rfl
    · have hs' : ¬ spareI V' gone m < 0 := by unfold spareI at hs ⊢; rw [hf.2.2.1]; omega
      rw [if_neg hs, if_neg hs']

end Go.Proofs.Ytijcicgbhcphjaa
