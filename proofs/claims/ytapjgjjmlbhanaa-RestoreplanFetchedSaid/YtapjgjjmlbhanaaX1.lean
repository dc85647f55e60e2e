/- A region in whatever order, by facts on what has been done. -/
import Derived.Test.YtapjgjjmlbhanaaT1
import Derived.Deep.RegionHeld3
namespace Go.Proofs.Ytapjgjjmlbhanaa
open Go.RowKit Go.Lib

section
variable {P : Program} {ops : Array Oper} {Q : Exit → Act → World → Prop}
def lackC (l : Array Bool) (n : Nat) : Nat := ((List.range n).filter fun i => !l.getD i true).length

theorem lackC_set {l : Array Bool} {n i : Nat} (hl : l.size = n) (hi : i < n) (hf : l.getD i true = false) : lackC (l.setIfInBounds i true) n < lackC l n := by
  unfold lackC
  rw [← List.countP_eq_length_filter, ← List.countP_eq_length_filter]
  have hsub : ∀ j, (!(l.setIfInBounds i true).getD j true) = (decide (j ≠ i) && !l.getD j true) := fun j => by
    by_cases e : j = i
    · subst e; simp [Array.getD, hl, hi]
    · have : (l.setIfInBounds i true).getD j true = l.getD j true := by
        simp only [Array.getD_eq_getD_getElem?, Array.getElem?_setIfInBounds]
        rw [if_neg (fun x => e x.symm)]
      rw [this]; simp [e]
  have h1 : (List.range n).countP (fun j => !(l.setIfInBounds i true).getD j true) + 1 ≤ (List.range n).countP fun j => !l.getD j true := by
    have hmem : i ∈ List.range n := List.mem_range.2 hi
    obtain ⟨s, t, e⟩ := List.append_of_mem hmem
    rw [e, List.countP_append, List.countP_append, List.countP_cons, List.countP_cons]
    have m1 : ∀ r : List Nat, r.countP (fun j => !(l.setIfInBounds i true).getD j true) ≤ r.countP fun j => !l.getD j true := fun r => List.countP_mono_left fun j _ h => by
      rw [hsub] at h
      simp at h
      simp [h.2]
    have := m1 s
    have := m1 t
    rw [hsub i, hf, if_neg (by simp), if_pos (by simp)]
    omega
  omega

theorem wpAny_inv (Inv : Array Bool → Act → World → Prop)
    (hstep : ∀ (l : Array Bool) a w, l.size = ops.size → Inv l a w → ∀ i ∈ Region.ready .any ops l, wpOp P ops Q i (fun a' w' => Inv (l.setIfInBounds i true) a' w') a w)
    (hend : ∀ (l : Array Bool) a w, l.size = ops.size → Inv l a w → Region.ready .any ops l = [] → Q .normal a w) :
    ∀ (fuel : Nat) (l : Array Bool) a w, l.size = ops.size → Inv l a w → lackC l ops.size ≤ fuel → wpAny P .any ops Q fuel l a w
  | 0, l, a, w, hl, hi, hc => by
    have hr : Region.ready .any ops l = [] := by
      unfold Region.ready
      rw [List.filter_eq_nil_iff]
      intro i hi hx
      have h0 : (List.range ops.size).filter (fun i => !l.getD i true) = [] := List.length_eq_zero_iff.1 (by unfold lackC at hc; omega)
      rw [List.filter_eq_nil_iff] at h0
      rw [Bool.and_eq_true] at hx
      exact h0 i hi hx.1
    exact ⟨hr, hend l a w hl hi hr⟩
  | fuel + 1, l, a, w, hl, hi, hc => by
    refine ⟨fun hr => hend l a w hl hi hr, fun i hr => ?_⟩
    have hx := List.mem_filter.1 hr
    have hlt := List.mem_range.1 hx.1
    have hf : l.getD i true = false := by
      have := hx.2
      rw [Bool.and_eq_true] at this
      simpa using this.1
    refine wpOp_mono (fun a' w' h' => wpAny_inv Inv hstep hend fuel _ a' w' (by rw [Array.size_setIfInBounds]; exact hl) h' ?_) (hstep l a w hl hi i hr)
    have := lackC_set hl hlt hf
    omega

theorem wpOp_go {i : Nat} {o : Oper} {a : Act} {w : World} {K : Act → World → Prop} (ho : ops[i]? = some o)
    (h : ∀ K' : Act → World → Prop, Shut (∀ a w, K a w → K' a w) → if Region.wanted o (yielded ops a.tmps) = true then Oper.wp P o a w K' Q else K' (a.put o.dst undef) w) : wpOp P ops Q i K a w :=
  wpOp_step ho fun K' hK => h K' fun a w hk => hK a w hk

theorem wp_region_inv {id : Nat} {a : Act} {w : World} (hm : P.follows .mixedOrders = true) (Inv : Array Bool → Act → World → Prop)
    (h0 : Inv (Array.replicate ops.size false) a w.drew)
    (hstep : ∀ (l : Array Bool) a w, l.size = ops.size → Inv l a w → ∀ i ∈ Region.ready .any ops l, wpOp P ops Q i (fun a' w' => Inv (l.setIfInBounds i true) a' w') a w)
    (hend : ∀ (l : Array Bool) a w, l.size = ops.size → Inv l a w → Region.ready .any ops l = [] → Q .normal a w) : (Code.region id ops true).wp P Q a w :=
  wp_region_any hm (wpAny_inv Inv hstep hend _ _ _ _ (by simp) h0 (by
    unfold lackC
    have := List.length_filter_le (fun i => !(Array.replicate ops.size false).getD i true) (List.range ops.size)
    rw [List.length_range] at this
    exact this))
end

end Go.Proofs.Ytapjgjjmlbhanaa

/- The example of the chapter. -/
namespace Go.Proofs.Ytapjgjjmlbhanaa
open Go.RowKit Go.Lib

def sS : Value := .string ⟨#[115]⟩
/-- A slice of a block of its own, above block N. -/
def Blk (N : Nat) (w : World) (v : Value) (n : Nat) (cs : Array Value) (t : TypeId) : Prop := ∃ g, v = .slice (some ⟨g, 0, none⟩) n n ∧ N < g ∧ w.heap[g]? = some (.cells cs t (0, 0))
def HFct (N : Nat) (w : World) (v : Value) : Prop := ∃ p1 s1 p2 s2 p3, Blk N w v 3 #[.int .i64 1, p1, s1, .bool false, .int .i64 2, p2, s2, .bool false, .int .i64 3, p3, .slice none 0 0, .bool false] 88 ∧
  Blk N w p1 1 #[sS, .int .i64 0] 68 ∧ Blk N w s1 1 #[.int .i64 1] 3 ∧ Blk N w p2 1 #[sS, .int .i64 1] 68 ∧ Blk N w s2 1 #[.int .i64 2] 3 ∧ Blk N w p3 2 #[sS, .int .i64 0, sS, .int .i64 1] 68
def fct (N : Nat) (thr : Int) (w : World) (k : Nat) (v : Value) : Prop :=
  match k with
  | 0 => v = .agg #[sS, .int .i64 2]
  | 1 => Blk N w v 1 #[sS, .int .i64 2] 80
  | 2 => v = .int .i64 thr
  | 3 => ∃ nv, v = .agg #[nv, .int .i64 thr, .bool false, .slice none 0 0, .slice none 0 0] ∧ Blk N w nv 1 #[sS, .int .i64 2] 80
  | 4 => v = .agg #[sS, .int .i64 0]
  | 5 => Blk N w v 1 #[sS, .int .i64 0] 68
  | 6 => Blk N w v 1 #[.int .i64 1] 3
  | 7 => ∃ pv sv, v = .agg #[.int .i64 1, pv, sv, .bool false] ∧ Blk N w pv 1 #[sS, .int .i64 0] 68 ∧ Blk N w sv 1 #[.int .i64 1] 3
  | 8 => v = .agg #[sS, .int .i64 1]
  | 9 => Blk N w v 1 #[sS, .int .i64 1] 68
  | 10 => Blk N w v 1 #[.int .i64 2] 3
  | 11 => ∃ pv sv, v = .agg #[.int .i64 2, pv, sv, .bool false] ∧ Blk N w pv 1 #[sS, .int .i64 1] 68 ∧ Blk N w sv 1 #[.int .i64 2] 3
  | 12 => v = .agg #[sS, .int .i64 0]
  | 13 => v = .agg #[sS, .int .i64 1]
  | 14 => Blk N w v 2 #[sS, .int .i64 0, sS, .int .i64 1] 68
  | 15 => ∃ pv, v = .agg #[.int .i64 3, pv, .slice none 0 0, .bool false] ∧ Blk N w pv 2 #[sS, .int .i64 0, sS, .int .i64 1] 68
  | 16 => HFct N w v
  | 17 => ∃ nv, w.heap[N]? = some (.cells #[nv, .int .i64 thr, .bool false, .slice none 0 0, .slice none 0 0] 26 (0, 0)) ∧ Blk N w nv 1 #[sS, .int .i64 2] 80
  | 18 => HFct N w v
  | _ => True

def KeepN (N : Nat) (w w' : World) : Prop := ∀ g, N < g → g < w.heap.size → w'.heap[g]? = w.heap[g]?
theorem Blk.keep {N : Nat} {w w' : World} {v : Value} {n : Nat} {cs : Array Value} {t : TypeId} (h : Blk N w v n cs t) (hk : KeepN N w w') : Blk N w' v n cs t := by
  obtain ⟨g, h1, h2, h3⟩ := h
  exact ⟨g, h1, h2, (hk g h2 (Array.getElem?_eq_some_iff.1 h3).1).trans h3⟩
theorem Blk.new (N : Nat) (w : World) (n : Nat) (cs : Array Value) (t : TypeId) (h : N < w.heap.size) : Blk N (w.alloc (.cells cs t)) (.slice (some ⟨w.heap.size, 0, none⟩) n n) n cs t := ⟨_, rfl, h, heap_alloc_last w _⟩
theorem HFct.keep {N : Nat} {w w' : World} {v : Value} (h : HFct N w v) (hk : KeepN N w w') : HFct N w' v := by
  obtain ⟨p1, s1, p2, s2, p3, h1, h2, h3, h4, h5, h6⟩ := h
  exact ⟨p1, s1, p2, s2, p3, h1.keep hk, h2.keep hk, h3.keep hk, h4.keep hk, h5.keep hk, h6.keep hk⟩
theorem keep_alloc (N : Nat) (w : World) (o : Obj) : KeepN N w (w.alloc o) := fun g _ hl => Below.heap_alloc w o g hl
theorem fct_keep {N : Nat} {thr : Int} {w w' : World} {k : Nat} {v : Value} (h : fct N thr w k v) (hk : KeepN N w w') (hN : k = 17 → w'.heap[N]? = w.heap[N]?) : fct N thr w' k v := by
  match k, h, hN with
  | 0, h, _ => exact h
  | 1, h, _ => exact Blk.keep h hk
  | 2, h, _ => exact h
  | 3, ⟨nv, h1, h2⟩, _ => exact ⟨nv, h1, h2.keep hk⟩
  | 4, h, _ => exact h
  | 5, h, _ => exact Blk.keep h hk
  | 6, h, _ => exact Blk.keep h hk
  | 7, ⟨pv, sv, h1, h2, h3⟩, _ => exact ⟨pv, sv, h1, h2.keep hk, h3.keep hk⟩
  | 8, h, _ => exact h
  | 9, h, _ => exact Blk.keep h hk
  | 10, h, _ => exact Blk.keep h hk
  | 11, ⟨pv, sv, h1, h2, h3⟩, _ => exact ⟨pv, sv, h1, h2.keep hk, h3.keep hk⟩
  | 12, h, _ => exact h
  | 13, h, _ => exact h
  | 14, h, _ => exact Blk.keep h hk
  | 15, ⟨pv, h1, h2⟩, _ => exact ⟨pv, h1, h2.keep hk⟩
  | 16, h, _ => exact HFct.keep h hk
  | 17, ⟨nv, h1, h2⟩, hN => exact ⟨nv, (hN rfl).trans h1, h2.keep hk⟩
  | 18, h, _ => exact HFct.keep h hk
  | _ + 19, _, _ => trivial

def slotK (k : Nat) : Nat := if k ≤ 16 then 8 + k else if k = 18 then 3 else 99
def updV (x : Nat → Value) (s : Nat) (v : Value) : Nat → Value := fun i => if i = s then v else x i
def frX (N : Nat) (thr : Int) (x : Nat → Value) : Act := ⟨#[.int .i64 thr, undef, .pointer (some ⟨N, 0, none⟩), x 3, .pointer (some ⟨N + 1, 0, none⟩), .pointer (some ⟨N + 1 + 1, 0, none⟩), .agg #[sS, .int .i64 0], .agg #[sS, .int .i64 1],
  x 8, x 9, x 10, x 11, x 12, x 13, x 14, x 15, x 16, x 17, x 18, x 19, x 20, x 21, x 22, x 23, x 24], []⟩

structure InvX (w0 : World) (N : Nat) (thr : Int) (l : Array Bool) (x : Nat → Value) (w : World) : Prop where
  below : Below N w0 w
  size : N + 3 ≤ w.heap.size
  b0 : ∃ c : Array Value, w.heap[N]? = some (.cells c 26 (0, 0)) ∧ c.size = 5
  b1 : w.heap[N + 1]? = some (.cells #[sS, .int .i64 0] 68 (0, 0))
  b2 : w.heap[N + 1 + 1]? = some (.cells #[sS, .int .i64 1] 68 (0, 0))
  done : ∀ k, l.getD k false = true → fct N thr w k (x (slotK k))

theorem getD_set {l : Array Bool} {i k : Nat} (h : (l.setIfInBounds i true).getD k false = true) : k = i ∨ l.getD k false = true := by
  by_cases e : k = i
  · exact .inl e
  · right
    simp only [Array.getD_eq_getD_getElem?, Array.getElem?_setIfInBounds] at h ⊢
    rwa [if_neg (fun x => e x.symm)] at h

theorem InvX.put {w0 : World} {N : Nat} {thr : Int} {l : Array Bool} {x : Nat → Value} {w w' : World} (h : InvX w0 N thr l x w) (hsz : l.size = 19) (i : Nat) (hi : i < 19) (hi7 : i ≠ 17) (v : Value) (hw : w' = w ∨ ∃ o, w' = w.alloc o) (hnew : fct N thr w' i v) :
    InvX w0 N thr (l.setIfInBounds i true) (updV x (slotK i) v) w' := by
  have hk : KeepN N w w' := by
    rcases hw with rfl | ⟨o, rfl⟩
    · exact fun _ _ _ => rfl
    · exact keep_alloc N w o
  have hN : ∀ g, g < w.heap.size → w'.heap[g]? = w.heap[g]? := by
    rcases hw with rfl | ⟨o, rfl⟩
    · exact fun _ _ => rfl
    · exact fun g hg => Below.heap_alloc w o g hg
  have hs : w.heap.size ≤ w'.heap.size := by
    rcases hw with rfl | ⟨o, rfl⟩
    · exact Nat.le_refl _
    · rw [World.size_alloc]; omega
  have hb : Below N w0 w' := by
    have := h.size
    rcases hw with rfl | ⟨o, rfl⟩
    · exact h.below
    · exact h.below.alloc (by omega) _
  have h3 := h.size
  obtain ⟨c, c1, c2⟩ := h.b0
  refine ⟨hb, by omega, ⟨c, (hN N (by omega)).trans c1, c2⟩, (hN _ (by omega)).trans h.b1, (hN _ (by omega)).trans h.b2, fun k hk' => ?_⟩
  by_cases e : k = i
  · subst e
    unfold updV
    rw [if_pos rfl]
    exact hnew
  · have hl : l.getD k false = true := (getD_set hk').resolve_left e
    have hk19 : k < 19 := by
      by_cases g : k < l.size
      · omega
      · simp [Array.getD, g] at hl
    have hne : slotK k ≠ slotK i := by unfold slotK; split <;> split <;> (try split) <;> (try split) <;> omega
    unfold updV
    rw [if_neg hne]
    exact fct_keep (h.done k hl) hk (fun _ => hN N (by omega))

theorem all_done {ops : Array Oper} {l : Array Bool} (h : Region.ready .any ops l = []) : ∀ i (hi : i < ops.size), (∀ e ∈ (ops[i]'hi).after, Region.binds .any e = true → l.getD e.on false = true) → l.getD i true = true := by
  intro i hi hd
  unfold Region.ready at h
  rw [List.filter_eq_nil_iff] at h
  have := h i (List.mem_range.2 hi)
  cases hb : l.getD i true with
  | true => rfl
  | false =>
    exfalso
    apply this
    rw [hb, Array.getElem?_eq_getElem hi]
    simp only [Bool.not_false, Option.map_some, Option.getD_some, Bool.true_and]
    rw [Array.all_eq_true_iff_forall_mem]
    intro e he
    by_cases g : Region.binds .any e = true
    · rw [hd e he g]; simp
    · simp [g]
theorem all_listed {ops : Array Oper} {l : Array Bool} (hl : l.size = ops.size) (hc : ∀ i (hi : i < ops.size), ((ops[i]'hi).after.all fun e => !Region.binds .any e || decide (e.on < i)) = true) (h : Region.ready .any ops l = []) : ∀ i, i < ops.size → l.getD i false = true := by
  intro i
  induction i using Nat.strongRecOn with
  | ind i ih =>
    intro hi
    have := all_done h i hi (fun e he hb => by
      have := Array.all_eq_true_iff_forall_mem.1 (hc i hi) e he
      rw [hb] at this
      have hlt : e.on < i := by simpa using this
      exact ih e.on hlt (by omega))
    simp only [Array.getD_eq_getD_getElem?, Array.getElem?_eq_getElem (show i < l.size by omega), Option.getD_some] at this ⊢
    exact this
theorem heap_alloc_at (w : World) (o : Obj) : (w.alloc o).heap[w.heap.size]? = some o := by
  show (w.heap.push o)[_]? = _
  simp
theorem ready_dep {ops : Array Oper} {l : Array Bool} {i : Nat} (h : i ∈ Region.ready .any ops l) : i < ops.size ∧ ∀ o, ops[i]? = some o → ∀ e ∈ o.after, Region.binds .any e = true → l.getD e.on false = true := by
  have hx := List.mem_filter.1 h
  refine ⟨List.mem_range.1 hx.1, fun o ho e he hb => ?_⟩
  have h2 := hx.2
  rw [Bool.and_eq_true, ho] at h2
  have h3 := h2.2
  simp only [Option.map_some, Option.getD_some] at h3
  have := Array.all_eq_true_iff_forall_mem.1 h3 e he
  rw [hb] at this
  simpa using this

theorem three (w : World) (o0 o1 o2 : Obj) : (((w.alloc o0).alloc o1).alloc o2).heap.size = w.heap.size + 3 ∧ (((w.alloc o0).alloc o1).alloc o2).heap[w.heap.size]? = some o0 ∧ (((w.alloc o0).alloc o1).alloc o2).heap[w.heap.size + 1]? = some o1 ∧
    (((w.alloc o0).alloc o1).alloc o2).heap[w.heap.size + 1 + 1]? = some o2 ∧ Below w.heap.size w (((w.alloc o0).alloc o1).alloc o2) := by
  have s1 : (w.alloc o0).heap.size = w.heap.size + 1 := World.size_alloc ..
  have s2 : ((w.alloc o0).alloc o1).heap.size = w.heap.size + 1 + 1 := by rw [World.size_alloc, s1]
  have a0 := heap_alloc_at w o0
  have a1 := heap_alloc_at (w.alloc o0) o1
  have a2 := heap_alloc_at ((w.alloc o0).alloc o1) o2
  rw [s1] at a1
  rw [s2] at a2
  refine ⟨by rw [World.size_alloc, s2], ?_, ?_, a2, ((Below.refl _ _).alloc (Nat.le_refl _) _).alloc (by omega) _ |>.alloc (by omega) _⟩
  · rw [Below.heap_alloc _ _ _ (by omega), Below.heap_alloc _ _ _ (by omega)]; exact a0
  · rw [Below.heap_alloc _ _ _ (by omega)]; exact a1

set_option maxRecDepth 100000 in
set_option maxHeartbeats 4000000 in
theorem example_any (thr : Int) (w : World) :
    Calls Try.prog 40 #[.int .i64 thr] w fun e w' => ∃ nv v, e = .returned (.tuple #[.agg #[nv, .int .i64 thr, .bool false, .slice none 0 0, .slice none 0 0], v]) ∧ Blk w.heap.size w' nv 1 #[sS, .int .i64 2] 80 ∧ HFct w.heap.size w' v ∧ Below w.heap.size w w' := by
  obtain ⟨N, hN⟩ : ∃ N, N = w.heap.size := ⟨_, rfl⟩
  rw [← hN]
  have HN := Lib.hid hN
  go_enter Try.func40, Try.ntmps40
  go_upto_region 2 with fail
  obtain ⟨t1, t2, t3, t4, t5⟩ := three w (.cells #[.slice none 0 0, .int .i64 0, .bool false, .slice none 0 0, .slice none 0 0] 26) (.cells #[.string ⟨#[115]⟩, .int .i64 0] 68) (.cells #[.string ⟨#[115]⟩, .int .i64 1] 68)
  rw [← hN] at t1 t2 t3 t4 t5 ⊢
  generalize ((w.alloc (.cells #[.slice none 0 0, .int .i64 0, .bool false, .slice none 0 0, .slice none 0 0] 26)).alloc (.cells #[.string ⟨#[115]⟩, .int .i64 0] 68)).alloc (.cells #[.string ⟨#[115]⟩, .int .i64 1] 68) = W at *
  have hI : InvX w N thr (Array.replicate 19 false) (fun i => if i = 3 then .slice none 0 0 else undef) W.drew := ⟨t5.drew, Nat.le_of_eq t1.symm, ⟨_, t2, rfl⟩, t3, t4, fun k hk => by simp [Array.getD] at hk⟩
  refine wp_region_inv (by kernel_rfl) (fun l a w' => ∃ x, a = frX N thr x ∧ InvX w N thr l x w') ⟨_, rfl, hI⟩ ?_ ?_
  · rintro l a w' hl0 ⟨x, rfl, h⟩ i hi
    obtain ⟨hlt0, hdep⟩ := ready_dep hi
    have hlt : i < 19 := hlt0
    have hl : l.size = 19 := hl0
    have h3 := h.size
    clear hi hI hN hl0 hlt0
    rcases (show i = 0 ∨ i = 1 ∨ i = 2 ∨ i = 3 ∨ i = 4 ∨ i = 5 ∨ i = 6 ∨ i = 7 ∨ i = 8 ∨ i = 9 ∨ i = 10 ∨ i = 11 ∨ i = 12 ∨ i = 13 ∨ i = 14 ∨ i = 15 ∨ i = 16 ∨ i = 17 ∨ i = 18 by omega) with rfl | rfl | rfl | rfl | rfl | rfl | rfl | rfl | rfl | rfl | rfl | rfl | rfl | rfl | rfl | rfl | rfl | rfl | rfl
    · clear hdep
      refine wpOp_go rfl (fun K' hK => ?_)
      unfold frX
      go_simp
      exact hK.out _ _ ⟨_, rfl, h.put hl 0 (by omega) (by omega) _ (.inl rfl) rfl⟩
    · have d0 : x 8 = .agg #[sS, .int .i64 2] := h.done 0 (hdep _ rfl ⟨0, .data⟩ (by simp) rfl)
      clear hdep
      refine wpOp_go rfl (fun K' hK => ?_)
      unfold frX
      simp only [d0]
      go_simp
      exact hK.out _ _ ⟨_, by simp [frX, updV, slotK, d0], h.put hl 1 (by omega) (by omega) _ (.inr ⟨_, rfl⟩) (Blk.new _ _ _ _ _ (by omega))⟩
    · clear hdep
      refine wpOp_go rfl (fun K' hK => ?_)
      unfold frX
      go_simp
      exact hK.out _ _ ⟨_, rfl, h.put hl 2 (by omega) (by omega) _ (.inl rfl) rfl⟩
    · obtain ⟨q1, e1, f11, f12⟩ : fct N thr w' 1 (x 9) := h.done 1 (hdep _ rfl ⟨1, .data⟩ (by simp) rfl)
      have d2 : x 10 = .int .i64 thr := h.done 2 (hdep _ rfl ⟨2, .data⟩ (by simp) rfl)
      clear hdep
      refine wpOp_go rfl (fun K' hK => ?_)
      unfold frX
      simp only [e1, d2]
      go_simp
      exact hK.out _ _ ⟨_, by simp [frX, updV, slotK, e1, d2], h.put hl 3 (by omega) (by omega) _ (.inl rfl) ⟨_, rfl, ⟨_, rfl, f11, f12⟩⟩⟩
    · have c0 := cell_of_row _ _ 0 _ _ _ h.b1
      have c1 := cell_of_row _ _ 1 _ _ _ h.b1
      clear hdep
      refine wpOp_go rfl (fun K' hK => ?_)
      unfold frX
      go_simp
      exact hK.out _ _ ⟨_, rfl, h.put hl 4 (by omega) (by omega) _ (.inl rfl) rfl⟩
    · have d4 : x 12 = .agg #[sS, .int .i64 0] := h.done 4 (hdep _ rfl ⟨4, .data⟩ (by simp) rfl)
      clear hdep
      refine wpOp_go rfl (fun K' hK => ?_)
      unfold frX
      simp only [d4]
      go_simp
      exact hK.out _ _ ⟨_, by simp [frX, updV, slotK, d4], h.put hl 5 (by omega) (by omega) _ (.inr ⟨_, rfl⟩) (Blk.new _ _ _ _ _ (by omega))⟩
    · clear hdep
      refine wpOp_go rfl (fun K' hK => ?_)
      unfold frX
      go_simp
      exact hK.out _ _ ⟨_, rfl, h.put hl 6 (by omega) (by omega) _ (.inr ⟨_, rfl⟩) (Blk.new _ _ _ _ _ (by omega))⟩
    · obtain ⟨q5, e5, f51, f52⟩ : fct N thr w' 5 (x 13) := h.done 5 (hdep _ rfl ⟨5, .data⟩ (by simp) rfl)
      obtain ⟨q6, e6, f61, f62⟩ : fct N thr w' 6 (x 14) := h.done 6 (hdep _ rfl ⟨6, .data⟩ (by simp) rfl)
      clear hdep
      refine wpOp_go rfl (fun K' hK => ?_)
      unfold frX
      simp only [e5, e6]
      go_simp
      exact hK.out _ _ ⟨_, by simp [frX, updV, slotK, e5, e6], h.put hl 7 (by omega) (by omega) _ (.inl rfl) ⟨_, _, rfl, ⟨_, rfl, f51, f52⟩, ⟨_, rfl, f61, f62⟩⟩⟩
    · have c0 := cell_of_row _ _ 0 _ _ _ h.b2
      have c1 := cell_of_row _ _ 1 _ _ _ h.b2
      clear hdep
      refine wpOp_go rfl (fun K' hK => ?_)
      unfold frX
      go_simp
      exact hK.out _ _ ⟨_, rfl, h.put hl 8 (by omega) (by omega) _ (.inl rfl) rfl⟩
    · have d8 : x 16 = .agg #[sS, .int .i64 1] := h.done 8 (hdep _ rfl ⟨8, .data⟩ (by simp) rfl)
      clear hdep
      refine wpOp_go rfl (fun K' hK => ?_)
      unfold frX
      simp only [d8]
      go_simp
      exact hK.out _ _ ⟨_, by simp [frX, updV, slotK, d8], h.put hl 9 (by omega) (by omega) _ (.inr ⟨_, rfl⟩) (Blk.new _ _ _ _ _ (by omega))⟩
    · clear hdep
      refine wpOp_go rfl (fun K' hK => ?_)
      unfold frX
      go_simp
      exact hK.out _ _ ⟨_, rfl, h.put hl 10 (by omega) (by omega) _ (.inr ⟨_, rfl⟩) (Blk.new _ _ _ _ _ (by omega))⟩
    · obtain ⟨q9, e9, f91, f92⟩ : fct N thr w' 9 (x 17) := h.done 9 (hdep _ rfl ⟨9, .data⟩ (by simp) rfl)
      obtain ⟨q10, e10, f101, f102⟩ : fct N thr w' 10 (x 18) := h.done 10 (hdep _ rfl ⟨10, .data⟩ (by simp) rfl)
      clear hdep
      refine wpOp_go rfl (fun K' hK => ?_)
      unfold frX
      simp only [e9, e10]
      go_simp
      exact hK.out _ _ ⟨_, by simp [frX, updV, slotK, e9, e10], h.put hl 11 (by omega) (by omega) _ (.inl rfl) ⟨_, _, rfl, ⟨_, rfl, f91, f92⟩, ⟨_, rfl, f101, f102⟩⟩⟩
    · have c0 := cell_of_row _ _ 0 _ _ _ h.b1
      have c1 := cell_of_row _ _ 1 _ _ _ h.b1
      clear hdep
      refine wpOp_go rfl (fun K' hK => ?_)
      unfold frX
      go_simp
      exact hK.out _ _ ⟨_, rfl, h.put hl 12 (by omega) (by omega) _ (.inl rfl) rfl⟩
    · have c0 := cell_of_row _ _ 0 _ _ _ h.b2
      have c1 := cell_of_row _ _ 1 _ _ _ h.b2
      clear hdep
      refine wpOp_go rfl (fun K' hK => ?_)
      unfold frX
      go_simp
      exact hK.out _ _ ⟨_, rfl, h.put hl 13 (by omega) (by omega) _ (.inl rfl) rfl⟩
    · have d12 : x 20 = .agg #[sS, .int .i64 0] := h.done 12 (hdep _ rfl ⟨12, .data⟩ (by simp) rfl)
      have d13 : x 21 = .agg #[sS, .int .i64 1] := h.done 13 (hdep _ rfl ⟨13, .data⟩ (by simp) rfl)
      clear hdep
      refine wpOp_go rfl (fun K' hK => ?_)
      unfold frX
      simp only [d12, d13]
      go_simp
      exact hK.out _ _ ⟨_, by simp [frX, updV, slotK, d12, d13], h.put hl 14 (by omega) (by omega) _ (.inr ⟨_, rfl⟩) (Blk.new _ _ _ _ _ (by omega))⟩
    · obtain ⟨q14, e14, f141, f142⟩ : fct N thr w' 14 (x 22) := h.done 14 (hdep _ rfl ⟨14, .data⟩ (by simp) rfl)
      clear hdep
      refine wpOp_go rfl (fun K' hK => ?_)
      unfold frX
      simp only [e14]
      go_simp
      exact hK.out _ _ ⟨_, by simp [frX, updV, slotK, e14], h.put hl 15 (by omega) (by omega) _ (.inl rfl) ⟨_, rfl, ⟨_, rfl, f141, f142⟩⟩⟩
    · obtain ⟨p7, s7, e7, f7, g7⟩ : fct N thr w' 7 (x 15) := h.done 7 (hdep _ rfl ⟨7, .data⟩ (by simp) rfl)
      obtain ⟨q7, rfl, f71, f72⟩ := f7
      obtain ⟨r7, rfl, g71, g72⟩ := g7
      obtain ⟨p11, s11, e11, f11, g11⟩ : fct N thr w' 11 (x 19) := h.done 11 (hdep _ rfl ⟨11, .data⟩ (by simp) rfl)
      obtain ⟨q11, rfl, f111, f112⟩ := f11
      obtain ⟨r11, rfl, g111, g112⟩ := g11
      obtain ⟨p15, e15, f15⟩ : fct N thr w' 15 (x 23) := h.done 15 (hdep _ rfl ⟨15, .data⟩ (by simp) rfl)
      obtain ⟨q15, rfl, f151, f152⟩ := f15
      clear hdep
      refine wpOp_go rfl (fun K' hK => ?_)
      unfold frX
      simp only [e7, e11, e15]
      go_simp
      exact hK.out _ _ ⟨_, by simp [frX, updV, slotK, e7, e11, e15], h.put hl 16 (by omega) (by omega) _ (.inr ⟨_, rfl⟩) ⟨_, _, _, _, _, Blk.new _ _ _ _ _ (by omega), (Blk.keep ⟨_, rfl, f71, f72⟩ (keep_alloc _ _ _)), (Blk.keep ⟨_, rfl, g71, g72⟩ (keep_alloc _ _ _)), (Blk.keep ⟨_, rfl, f111, f112⟩ (keep_alloc _ _ _)), (Blk.keep ⟨_, rfl, g111, g112⟩ (keep_alloc _ _ _)), (Blk.keep ⟨_, rfl, f151, f152⟩ (keep_alloc _ _ _))⟩⟩
    · obtain ⟨p3, e3, f3⟩ : fct N thr w' 3 (x 11) := h.done 3 (hdep _ rfl ⟨3, .data⟩ (by simp) rfl)
      obtain ⟨q3, rfl, f31, f32⟩ := f3
      refine wpOp_go rfl (fun K' hK => ?_)
      obtain ⟨c, b0, b0s⟩ := h.b0
      have y0 := (cell_of_row _ _ 0 _ _ _ b0).trans (Array.getElem?_eq_getElem (show 0 < c.size by omega))
      have y1 := (cell_of_row _ _ 1 _ _ _ b0).trans (Array.getElem?_eq_getElem (show 1 < c.size by omega))
      have y2 := (cell_of_row _ _ 2 _ _ _ b0).trans (Array.getElem?_eq_getElem (show 2 < c.size by omega))
      have y3 := (cell_of_row _ _ 3 _ _ _ b0).trans (Array.getElem?_eq_getElem (show 3 < c.size by omega))
      have y4 := (cell_of_row _ _ 4 _ _ _ b0).trans (Array.getElem?_eq_getElem (show 4 < c.size by omega))
      generalize c[0]'(by omega) = c0 at y0
      generalize c[1]'(by omega) = c1 at y1
      generalize c[2]'(by omega) = c2 at y2
      generalize c[3]'(by omega) = c3 at y3
      generalize c[4]'(by omega) = c4 at y4
      have z0 := frozen_of_row w' N 0 _ _ b0
      have z1 := frozen_of_row w' N 1 _ _ b0
      have z2 := frozen_of_row w' N 2 _ _ b0
      have z3 := frozen_of_row w' N 3 _ _ b0
      have z4 := frozen_of_row w' N 4 _ _ b0
      have B0 := Lib.hid b0
      have BS := Lib.hid b0s
      clear b0 b0s
      unfold frX
      simp only [e3]
      clear hdep
      go_simp
      refine hK.out _ _ ⟨x, by simp [frX, e3], ?_⟩
      have hoth : ∀ g, g ≠ N → (((((w'.setCell ⟨N, 0, none⟩ (.slice (some ⟨q3, 0, none⟩) 1 1)).setCell ⟨N, 1, none⟩ (.int .i64 thr)).setCell ⟨N, 2, none⟩ (.bool false)).setCell ⟨N, 3, none⟩ (.slice none 0 0)).setCell ⟨N, 4, none⟩ (.slice none 0 0)).heap[g]? = w'.heap[g]? := fun g hg => by
        rw [setCell_other _ _ hg, setCell_other _ _ hg, setCell_other _ _ hg, setCell_other _ _ hg, setCell_other _ _ hg]
      have hself : (((((w'.setCell ⟨N, 0, none⟩ (.slice (some ⟨q3, 0, none⟩) 1 1)).setCell ⟨N, 1, none⟩ (.int .i64 thr)).setCell ⟨N, 2, none⟩ (.bool false)).setCell ⟨N, 3, none⟩ (.slice none 0 0)).setCell ⟨N, 4, none⟩ (.slice none 0 0)).heap[N]? = some (.cells #[.slice (some ⟨q3, 0, none⟩) 1 1, .int .i64 thr, .bool false, .slice none 0 0, .slice none 0 0] 26 (0, 0)) := by
        rw [setCell_block (setCell_block (setCell_block (setCell_block (setCell_block B0.out _) _) _) _) _]
        have hc5 := BS.out
        clear B0 BS
        obtain ⟨l5⟩ := c
        match l5, hc5 with
        | [_, _, _, _, _], _ => rfl
      have hsz : (((((w'.setCell ⟨N, 0, none⟩ (.slice (some ⟨q3, 0, none⟩) 1 1)).setCell ⟨N, 1, none⟩ (.int .i64 thr)).setCell ⟨N, 2, none⟩ (.bool false)).setCell ⟨N, 3, none⟩ (.slice none 0 0)).setCell ⟨N, 4, none⟩ (.slice none 0 0)).heap.size = w'.heap.size := by rw [setCell_size, setCell_size, setCell_size, setCell_size, setCell_size]
      have hbl : Below N w (((((w'.setCell ⟨N, 0, none⟩ (.slice (some ⟨q3, 0, none⟩) 1 1)).setCell ⟨N, 1, none⟩ (.int .i64 thr)).setCell ⟨N, 2, none⟩ (.bool false)).setCell ⟨N, 3, none⟩ (.slice none 0 0)).setCell ⟨N, 4, none⟩ (.slice none 0 0)) := ((((h.below.setCell (Nat.le_refl N) _).setCell (Nat.le_refl N) _).setCell (Nat.le_refl N) _).setCell (Nat.le_refl N) _).setCell (Nat.le_refl N) _
      generalize ((((w'.setCell ⟨N, 0, none⟩ (.slice (some ⟨q3, 0, none⟩) 1 1)).setCell ⟨N, 1, none⟩ (.int .i64 thr)).setCell ⟨N, 2, none⟩ (.bool false)).setCell ⟨N, 3, none⟩ (.slice none 0 0)).setCell ⟨N, 4, none⟩ (.slice none 0 0) = V at *
      have hkp : KeepN N w' V := fun g hg _ => hoth g (by omega)
      refine ⟨hbl, by omega, ⟨_, hself, rfl⟩, (hoth _ (by omega)).trans h.b1, (hoth _ (by omega)).trans h.b2, fun k hk => ?_⟩
      by_cases e : k = 17
      · subst e
        exact ⟨_, hself, Blk.keep ⟨_, rfl, f31, f32⟩ hkp⟩
      · exact fct_keep (h.done k ((getD_set hk).resolve_left e)) hkp (fun x => absurd x e)
    · have d16 : fct N thr w' 16 (x 24) := h.done 16 (hdep _ rfl ⟨16, .data⟩ (by simp) rfl)
      clear hdep
      refine wpOp_go rfl (fun K' hK => ?_)
      unfold frX
      have d16 := Lib.hid d16
      go_simp
      exact hK.out _ _ ⟨_, rfl, h.put hl 18 (by omega) (by omega) _ (.inl rfl) d16.out⟩
  · rintro l a w' hl0 ⟨x, rfl, h⟩ hr
    have hl : l.size = 19 := hl0
    have dn : ∀ k, k < 19 → l.getD k false = true := all_listed hl0 (by decide +kernel) hr
    clear hr hl0
    obtain ⟨nv, b0, q17, rfl, f1, f2⟩ : fct N thr w' 17 (x 99) := h.done 17 (dn 17 (by omega))
    have h18 : HFct N w' (x 3) := h.done 18 (dn 18 (by omega))
    have hbl := h.below
    have H18 := Lib.hid h18
    obtain ⟨p1, s1, p2, s2, p3, ⟨g3, e3, g31, g32⟩, h18'⟩ := h18
    have y0 := cell_of_row _ _ 0 _ _ _ b0
    have y1 := cell_of_row _ _ 1 _ _ _ b0
    have y2 := cell_of_row _ _ 2 _ _ _ b0
    have y3 := cell_of_row _ _ 3 _ _ _ b0
    have y4 := cell_of_row _ _ 4 _ _ _ b0
    clear h18' h dn hl b0
    unfold frX
    rw [e3] at H18
    simp only [e3]
    clear e3
    go_wp2
    simp at y0 y1 y2 y3 y4
    refine bodyPost_ret (v := .tuple #[.agg #[.slice (some ⟨q17, 0, none⟩) 1 1, .int .i64 thr, .bool false, .slice none 0 0, .slice none 0 0], .slice (some ⟨g3, 0, none⟩) 3 3]) (by simp [results, Try.results40, go_sem, y0, y1, y2, y3, y4]) rfl ⟨_, _, rfl, ⟨_, rfl, f1, f2⟩, H18.out, hbl⟩

end Go.Proofs.Ytapjgjjmlbhanaa
