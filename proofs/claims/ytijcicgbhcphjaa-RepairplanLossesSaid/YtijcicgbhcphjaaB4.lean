/- A region in whatever order, by facts on what has been done. -/
import Derived.Test.YtijcicgbhcphjaaB3
import Derived.Deep.RegionHeld3
namespace Go.Proofs.Ytijcicgbhcphjaa
open Go.RowKit Go.Lib Go.ChangeMaps

section
variable {P : Program} {ops : Array Oper} {Q : Exit → Act → World → Prop}
def lackC (l : Array Bool) (n : Nat) : Nat := ((List.range n).filter fun i => !l.getD i true).length

theorem lackC_set {l : Array Bool} {n i : Nat} (hl : l.size = n) (hi : i < n) (hf : l.getD i true = false) : lackC (l.setIfInBounds i true) n < lackC l n := by
  unfold lackC
  rw [← List.countP_eq_length_filter, ← List.countP_eq_length_filter]
  have hsub : ∀ j, (!(l.setIfInBounds i true).getD j true) = (decide (j ≠ i) && !l.getD j true) := fun j => by
    by_cases e : j = i
    · subst e; simp [Array.getD, hl, hi]
    · have : (l.setIfInBounds i true).getD j true = l.getD j true := by
        simp only [Array.getD_eq_getD_getElem?, Array.getElem?_setIfInBounds]
        rw [if_neg (fun x => e x.symm)]
      rw [this]; simp [e]
  have h1 : (List.range n).countP (fun j => !(l.setIfInBounds i true).getD j true) + 1 ≤ (List.range n).countP fun j => !l.getD j true := by
    have hmem : i ∈ List.range n := List.mem_range.2 hi
    obtain ⟨s, t, e⟩ := List.append_of_mem hmem
    rw [e, List.countP_append, List.countP_append, List.countP_cons, List.countP_cons]
    have m1 : ∀ r : List Nat, r.countP (fun j => !(l.setIfInBounds i true).getD j true) ≤ r.countP fun j => !l.getD j true := fun r => List.countP_mono_left fun j _ h => by
      rw [hsub] at h
      simp at h
      simp [h.2]
    have := m1 s
    have := m1 t
    rw [hsub i, hf, if_neg (by simp), if_pos (by simp)]
    omega
  omega

theorem wpAny_inv (Inv : Array Bool → Act → World → Prop)
    (hstep : ∀ (l : Array Bool) a w, l.size = ops.size → Inv l a w → ∀ i ∈ Region.ready .any ops l, wpOp P ops Q i (fun a' w' => Inv (l.setIfInBounds i true) a' w') a w)
    (hend : ∀ (l : Array Bool) a w, l.size = ops.size → Inv l a w → Region.ready .any ops l = [] → Q .normal a w) :
    ∀ (fuel : Nat) (l : Array Bool) a w, l.size = ops.size → Inv l a w → lackC l ops.size ≤ fuel → wpAny P .any ops Q fuel l a w
  | 0, l, a, w, hl, hi, hc => by
    have hr : Region.ready .any ops l = [] := by
      unfold Region.ready
      rw [List.filter_eq_nil_iff]
      intro i hi hx
      have h0 : (List.range ops.size).filter (fun i => !l.getD i true) = [] := List.length_eq_zero_iff.1 (by unfold lackC at hc; omega)
      rw [List.filter_eq_nil_iff] at h0
      rw [Bool.and_eq_true] at hx
      exact h0 i hi hx.1
    exact ⟨hr, hend l a w hl hi hr⟩
  | fuel + 1, l, a, w, hl, hi, hc => by
    refine ⟨fun hr => hend l a w hl hi hr, fun i hr => ?_⟩
    have hx := List.mem_filter.1 hr
    have hlt := List.mem_range.1 hx.1
    have hf : l.getD i true = false := by
      have := hx.2
      rw [Bool.and_eq_true] at this
      simpa using this.1
    refine wpOp_mono (fun a' w' h' => wpAny_inv Inv hstep hend fuel _ a' w' (by rw [Array.size_setIfInBounds]; exact hl) h' ?_) (hstep l a w hl hi i hr)
    have := lackC_set hl hlt hf
    omega

theorem wpOp_go {i : Nat} {o : Oper} {a : Act} {w : World} {K : Act → World → Prop} (ho : ops[i]? = some o)
    (h : ∀ K' : Act → World → Prop, Shut (∀ a w, K a w → K' a w) → if Region.wanted o (yielded ops a.tmps) = true then Oper.wp P o a w K' Q else K' (a.put o.dst undef) w) : wpOp P ops Q i K a w :=
  wpOp_step ho fun K' hK => h K' fun a w hk => hK a w hk

theorem wp_region_inv {id : Nat} {a : Act} {w : World} (hm : P.follows .mixedOrders = true) (Inv : Array Bool → Act → World → Prop)
    (h0 : Inv (Array.replicate ops.size false) a w.drew)
    (hstep : ∀ (l : Array Bool) a w, l.size = ops.size → Inv l a w → ∀ i ∈ Region.ready .any ops l, wpOp P ops Q i (fun a' w' => Inv (l.setIfInBounds i true) a' w') a w)
    (hend : ∀ (l : Array Bool) a w, l.size = ops.size → Inv l a w → Region.ready .any ops l = [] → Q .normal a w) : (Code.region id ops true).wp P Q a w :=
  wp_region_any hm (wpAny_inv Inv hstep hend _ _ _ _ (by simp) h0 (by
    unfold lackC
    have := List.length_filter_le (fun i => !(Array.replicate ops.size false).getD i true) (List.range ops.size)
    rw [List.length_range] at this
    exact this))
end

theorem ready_dep {ops : Array Oper} {l : Array Bool} {i : Nat} (h : i ∈ Region.ready .any ops l) : i < ops.size ∧ ∀ o, ops[i]? = some o → ∀ e ∈ o.after, Region.binds .any e = true → l.getD e.on false = true := by
  have hx := List.mem_filter.1 h
  refine ⟨List.mem_range.1 hx.1, fun o ho e he hb => ?_⟩
  have h2 := hx.2
  rw [Bool.and_eq_true, ho] at h2
  have h3 := h2.2
  simp only [Option.map_some, Option.getD_some] at h3
  have := Array.all_eq_true_iff_forall_mem.1 h3 e he
  rw [hb] at this
  simpa using this

theorem getD_set {l : Array Bool} {i k : Nat} (h : (l.setIfInBounds i true).getD k false = true) : k = i ∨ l.getD k false = true := by
  by_cases e : k = i
  · exact .inl e
  · right
    simp only [Array.getD_eq_getD_getElem?, Array.getElem?_setIfInBounds] at h ⊢
    rwa [if_neg (fun x => e x.symm)] at h

theorem all_done {ops : Array Oper} {l : Array Bool} (h : Region.ready .any ops l = []) : ∀ i (hi : i < ops.size), (∀ e ∈ (ops[i]'hi).after, Region.binds .any e = true → l.getD e.on false = true) → l.getD i true = true := by
  intro i hi hd
  unfold Region.ready at h
  rw [List.filter_eq_nil_iff] at h
  have := h i (List.mem_range.2 hi)
  cases hb : l.getD i true with
  | true => rfl
  | false =>
    exfalso
    apply this
    rw [hb, Array.getElem?_eq_getElem hi]
    simp only [Bool.not_false, Option.map_some, Option.getD_some, Bool.true_and]
    rw [Array.all_eq_true_iff_forall_mem]
    intro e he
    by_cases g : Region.binds .any e = true
    · rw [hd e he g]; simp
    · simp [g]
theorem all_listed {ops : Array Oper} {l : Array Bool} (hl : l.size = ops.size) (hc : ∀ i (hi : i < ops.size), ((ops[i]'hi).after.all fun e => !Region.binds .any e || decide (e.on < i)) = true) (h : Region.ready .any ops l = []) : ∀ i, i < ops.size → l.getD i false = true := by
  intro i
  induction i using Nat.strongRecOn with
  | ind i ih =>
    intro hi
    have := all_done h i hi (fun e he hb => by
      have := Array.all_eq_true_iff_forall_mem.1 (hc i hi) e he
      rw [hb] at this
      have hlt : e.on < i := by simpa using this
      exact ih e.on hlt (by omega))
    simp only [Array.getD_eq_getD_getElem?, Array.getElem?_eq_getElem (show i < l.size by omega), Option.getD_some] at this ⊢
    exact this

def updV (x : Nat → Value) (s : Nat) (v : Value) : Nat → Value := fun i => if i = s then v else x i

section
variable (fct : Nat → World → Value → Prop) (mem : Nat → Bool) (slot : Nat → Nat) (w0 : World) (n : Nat)
structure InvG (l : Array Bool) (x : Nat → Value) (w : World) : Prop where
  below : Below w0.heap.size w0 w
  done : ∀ k, l.getD k false = true → k < n → fct k w (x (slot k))
  own : ∀ k, l.getD k false = true → k < n → mem k = true → ∀ g, (x (slot k)).ownBlock = some g → w0.heap.size ≤ g ∧ g < w.heap.size
  apart : ∀ k k', l.getD k false = true → l.getD k' false = true → k < n → k' < n → mem k = true → mem k' = true → k ≠ k' → ∀ g, (x (slot k)).ownBlock = some g → (x (slot k')).ownBlock ≠ some g
variable {fct mem slot w0 n}
theorem InvG.put (hst : ∀ k w w' v, fct k w v → Below w.heap.size w w' → fct k w' v) (hinj : ∀ i j, i < n → j < n → slot i = slot j → i = j)
    {l : Array Bool} {x : Nat → Value} {w : World} (h : InvG fct mem slot w0 n l x w) (i : Nat) (hi : i < n) {v : Value} {w' : World} (hb : Below w.heap.size w w') (hf : fct i w' v)
    (hm : mem i = true → ∀ g, v.ownBlock = some g → w.heap.size ≤ g ∧ g < w'.heap.size) : InvG fct mem slot w0 n (l.setIfInBounds i true) (updV x (slot i) v) w' := by
  have hne : ∀ k, k < n → k ≠ i → updV x (slot i) v (slot k) = x (slot k) := fun k hk hki => by
    unfold updV
    rw [if_neg (fun e => hki (hinj k i hk hi e))]
  have he : updV x (slot i) v (slot i) = v := by simp [updV]
  have hsz := h.below.size
  have hsz2 := hb.size
  refine ⟨h.below.trans (hb.mono hsz), fun k hk hkn => ?_, fun k hk hkn hmk g hg => ?_, fun k k' hk hk' hkn hkn' hmk hmk' hkk g hg hg' => ?_⟩
  · by_cases e : k = i
    · subst e; rw [he]; exact hf
    · rw [hne k hkn e]; exact hst _ _ _ _ (h.done k ((getD_set hk).resolve_left e) hkn) hb
  · by_cases e : k = i
    · subst e; rw [he] at hg; have := hm hmk g hg; omega
    · rw [hne k hkn e] at hg; have := h.own k ((getD_set hk).resolve_left e) hkn hmk g hg; omega
  · by_cases e : k = i
    · subst e
      rw [he] at hg
      rw [hne k' hkn' (Ne.symm hkk)] at hg'
      have := h.own k' ((getD_set hk').resolve_left (Ne.symm hkk)) hkn' hmk' g hg'
      have := hm hmk g hg
      omega
    · by_cases e' : k' = i
      · subst e'
        rw [he] at hg'
        rw [hne k hkn e] at hg
        have := h.own k ((getD_set hk).resolve_left e) hkn hmk g hg
        have := hm hmk' g hg'
        omega
      · rw [hne k hkn e] at hg
        rw [hne k' hkn' e'] at hg'
        exact h.apart k k' ((getD_set hk).resolve_left e) ((getD_set hk').resolve_left e') hkn hkn' hmk hmk' hkk g hg hg'
end

end Go.Proofs.Ytijcicgbhcphjaa
