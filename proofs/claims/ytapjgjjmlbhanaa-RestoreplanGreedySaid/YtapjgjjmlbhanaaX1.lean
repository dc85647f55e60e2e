/- A region in whatever order, by facts on what has been done. -/
import Derived.Test.YtapjgjjmlbhanaaT2
import Derived.Deep.RegionHeld3
namespace Go.Proofs.Ytapjgjjmlbhanaa
open Go.RowKit Go.Lib

section
variable {P : Program} {ops : Array Oper} {Q : Exit → Act → World → Prop}
def lackC (l : Array Bool) (n : Nat) : Nat := ((List.range n).filter fun i => !l.getD i true).length

theorem lackC_set {l : Array Bool} {n i : Nat} (hl : l.size = n) (hi : i < n) (hf : l.getD i true = false) : lackC (l.setIfInBounds i true) n < lackC l n := by
  unfold lackC
  rw [← List.countP_eq_length_filter, ← List.countP_eq_length_filter]
  have hsub : ∀ j, (!(l.setIfInBounds i true).getD j true) = (decide (j ≠ i) && !l.getD j true) := fun j => by
    by_cases e : j = i
    · subst e; simp [Array.getD, hl, hi]
    · have : (l.setIfInBounds i true).getD j true = l.getD j true := by
        simp only [Array.getD_eq_getD_getElem?, Array.getElem?_setIfInBounds]
        rw [if_neg (fun x => e x.symm)]
      rw [this]; simp [e]
  have h1 : (List.range n).countP (fun j => !(l.setIfInBounds i true).getD j true) + 1 ≤ (List.range n).countP fun j => !l.getD j true := by
    have hmem : i ∈ List.range n := List.mem_range.2 hi
    obtain ⟨s, t, e⟩ := List.append_of_mem hmem
    rw [e, List.countP_append, List.countP_append, List.countP_cons, List.countP_cons]
    have m1 : ∀ r : List Nat, r.countP (fun j => !(l.setIfInBounds i true).getD j true) ≤ r.countP fun j => !l.getD j true := fun r => List.countP_mono_left fun j _ h => by
      rw [hsub] at h
      simp at h
      simp [h.2]
    have := m1 s
    have := m1 t
    rw [hsub i, hf, if_neg (by simp), if_pos (by simp)]
    omega
  omega

theorem wpAny_inv (Inv : Array Bool → Act → World → Prop)
    (hstep : ∀ (l : Array Bool) a w, l.size = ops.size → Inv l a w → ∀ i ∈ Region.ready .any ops l, wpOp P ops Q i (fun a' w' => Inv (l.setIfInBounds i true) a' w') a w)
    (hend : ∀ (l : Array Bool) a w, l.size = ops.size → Inv l a w → Region.ready .any ops l = [] → Q .normal a w) :
    ∀ (fuel : Nat) (l : Array Bool) a w, l.size = ops.size → Inv l a w → lackC l ops.size ≤ fuel → wpAny P .any ops Q fuel l a w
  | 0, l, a, w, hl, hi, hc => by
    have hr : Region.ready .any ops l = [] := by
      unfold Region.ready
      rw [List.filter_eq_nil_iff]
      intro i hi hx
      have h0 : (List.range ops.size).filter (fun i => !l.getD i true) = [] := List.length_eq_zero_iff.1 (by unfold lackC at hc; omega)
      rw [List.filter_eq_nil_iff] at h0
      rw [Bool.and_eq_true] at hx
      exact h0 i hi hx.1
    exact ⟨hr, hend l a w hl hi hr⟩
  | fuel + 1, l, a, w, hl, hi, hc => by
    refine ⟨fun hr => hend l a w hl hi hr, fun i hr => ?_⟩
    have hx := List.mem_filter.1 hr
    have hlt := List.mem_range.1 hx.1
    have hf : l.getD i true = false := by
      have := hx.2
      rw [Bool.and_eq_true] at this
      simpa using this.1
    refine wpOp_mono (fun a' w' h' => wpAny_inv Inv hstep hend fuel _ a' w' (by rw [Array.size_setIfInBounds]; exact hl) h' ?_) (hstep l a w hl hi i hr)
    have := lackC_set hl hlt hf
    omega

theorem wpOp_go {i : Nat} {o : Oper} {a : Act} {w : World} {K : Act → World → Prop} (ho : ops[i]? = some o)
    (h : ∀ K' : Act → World → Prop, Shut (∀ a w, K a w → K' a w) → if Region.wanted o (yielded ops a.tmps) = true then Oper.wp P o a w K' Q else K' (a.put o.dst undef) w) : wpOp P ops Q i K a w :=
  wpOp_step ho fun K' hK => h K' fun a w hk => hK a w hk

theorem wp_region_inv {id : Nat} {a : Act} {w : World} (hm : P.follows .mixedOrders = true) (Inv : Array Bool → Act → World → Prop)
    (h0 : Inv (Array.replicate ops.size false) a w.drew)
    (hstep : ∀ (l : Array Bool) a w, l.size = ops.size → Inv l a w → ∀ i ∈ Region.ready .any ops l, wpOp P ops Q i (fun a' w' => Inv (l.setIfInBounds i true) a' w') a w)
    (hend : ∀ (l : Array Bool) a w, l.size = ops.size → Inv l a w → Region.ready .any ops l = [] → Q .normal a w) : (Code.region id ops true).wp P Q a w :=
  wp_region_any hm (wpAny_inv Inv hstep hend _ _ _ _ (by simp) h0 (by
    unfold lackC
    have := List.length_filter_le (fun i => !(Array.replicate ops.size false).getD i true) (List.range ops.size)
    rw [List.length_range] at this
    exact this))
end

end Go.Proofs.Ytapjgjjmlbhanaa
