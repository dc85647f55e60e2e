/- Minimal: rows of rows; the sets that are minimal. -/
import Derived.Test.YtapjgjjmlbhanaaH3
import Derived.Deep.LoopGhost
import Derived.WalkMore
namespace Go.Proofs.Ytapjgjjmlbhanaa
open Go.RowKit Go.Lib Go.ChangeMaps

theorem own_ne_map {w : World} {base : Nat} {e : TypeId} {v : Value} {k n : Nat} {f : Nat → Nat → Value} (h : Own w base e v k n f) {b : Nat} {es : Array MapEntry} {q : Nat} (hb : w.heap[b]? = some (.map es q)) : v.ownBlock ≠ some b := by
  obtain ⟨xs, ⟨_, h2⟩, _⟩ := h
  rcases h2 with ⟨rfl, _⟩ | ⟨g, cap, cur, rfl, _, h3, _⟩
  · simp [Value.ownBlock]
  · intro e
    simp [Value.ownBlock] at e
    subst e
    rw [h3] at hb
    cases hb
theorem own_apart' {w : World} {b1 b2 : Nat} {e1 e2 : TypeId} {v1 v2 : Value} {k1 k2 n1 n2 : Nat} {f1 f2 : Nat → Nat → Value} (h1 : Own w b1 e1 v1 k1 n1 f1) (h2 : Own w b2 e2 v2 k2 n2 f2) (he : e1 ≠ e2) : ∀ g, v1.ownBlock = some g → v2.ownBlock ≠ some g := by
  intro g hg
  obtain ⟨xs, ⟨_, h3⟩, _⟩ := h1
  rcases h3 with ⟨rfl, _⟩ | ⟨g', cap, cur, rfl, _, h4, _⟩
  · cases hg
  · cases hg
    exact own_ne h2 h4 he

/-- A row of rows of numbers, all of the call's own. -/
def OwnLL (w : World) (base : Nat) (v : Value) (xss : List (List Int)) : Prop :=
  ∃ vs : List Value, vs.length = xss.length ∧ Own w base 24 v 1 xss.length (fun i _ => vs.getD i undef) ∧ ∀ i, i < xss.length → OwnI w base (vs.getD i undef) (xss.getD i [])
theorem OwnLL.nil (w : World) (base : Nat) : OwnLL w base (.slice none 0 0) [] := ⟨[], rfl, Own.nil _ _ _ _ _, fun i hi => by simp at hi⟩
theorem OwnLL.below {w w' : World} {base : Nat} {v : Value} {xss : List (List Int)} (h : OwnLL w base v xss) (hb : Below w.heap.size w w') : OwnLL w' base v xss := by
  obtain ⟨vs, h1, h2, h3⟩ := h
  exact ⟨vs, h1, h2.below hb, fun i hi => (h3 i hi).below hb⟩
theorem OwnI.slice {w : World} {base : Nat} {v : Value} {ds : List Int} (h : OwnI w base v ds) : ∃ a c, v = .slice a ds.length c := by
  obtain ⟨xs, ⟨h0, h2⟩, _⟩ := h
  rcases h2 with ⟨rfl, h⟩ | ⟨g, cap, cur, rfl, _⟩
  · rw [h]; exact ⟨_, _, rfl⟩
  · exact ⟨_, _, rfl⟩
theorem OwnLL.append {V : World} {base : Nat} {v u : Value} {xss : List (List Int)} {ds : List Int} (h : OwnLL V base v xss) (hu : OwnI V base u ds) (hn : xss.length ≤ 1000000000) (hbase : base ≤ V.heap.size) :
    ∃ v' w', (Builtin.append_ #[57, 57] 57 #[v, .slice (some ⟨V.heap.size, 0, none⟩) 1 1]).run Try.prog (V.alloc (.cells #[u] 24)) = .ok v' w' ∧ OwnLL w' base v' (xss ++ [ds]) ∧ Below base V w' ∧
      (∀ b, b < V.heap.size → v.ownBlock ≠ some b → w'.heap[b]? = V.heap[b]?) ∧ V.heap.size + 1 ≤ w'.heap.size := by
  obtain ⟨vs, h1, h2, h3⟩ := h
  have h' : Own V base 24 v 1 xss.length fun i _ => (vs ++ [u]).getD i undef := Own.congr h2 fun i j hi hj => by rw [getD_at _ _ _ (by omega), getD_at _ _ _ (by rw [List.length_append]; omega), List.getElem_append_left (by omega)]
  obtain ⟨a, c, eu⟩ := hu.slice
  obtain ⟨v3, w3, r3, o1, o2, o3, o4, o5⟩ := Own.append (V := V) (t := 57) (e := 24) (z := .slice none 0 0) (k := 1) (bytes := 24) Try.underlying57 (by kernel_rfl) rfl (by omega) (by omega) h' 57 [u] rfl (fun q hq => by
    obtain rfl : q = 0 := by omega
    rw [← h1]; simp [List.getD]) (by intro x hx; simp at hx; subst hx; rw [eu]; rfl) hn hbase
  have sm : ∀ {x : Value} {ys : List Int}, OwnI V base x ys → OwnI w3 base x ys := fun hx => Own.same hx fun g hg => o3 g (Own.lt hx g hg).2 (own_apart' hx h2 (by decide) g hg)
  refine ⟨v3, w3, r3, ⟨vs ++ [u], by simp [h1], by rw [List.length_append]; exact o1, fun i hi => ?_⟩, o2, o3, o5⟩
  by_cases hi' : i < xss.length
  · rw [getD_at _ _ _ (by rw [List.length_append]; omega), getD_at _ _ _ hi, List.getElem_append_left (by omega), List.getElem_append_left hi']
    have := h3 i hi'
    rw [getD_at _ _ _ (by omega), getD_at _ _ _ hi'] at this
    exact sm this
  · have e : i = xss.length := by rw [List.length_append] at hi; simp at hi; omega
    subst e
    rw [getD_at _ _ _ (by rw [List.length_append]; simp; omega), getD_at _ _ _ hi, List.getElem_append_right (by omega), List.getElem_append_right (by omega)]
    simp
    exact sm hu

theorem OwnLL.slice {w : World} {base : Nat} {v : Value} {xss : List (List Int)} (h : OwnLL w base v xss) : ∃ a c, v = .slice a xss.length c := by
  obtain ⟨vs, h1, ⟨xs, ⟨h0, h2⟩, _⟩, _⟩ := h
  rcases h2 with ⟨rfl, h⟩ | ⟨g, cap, cur, rfl, _⟩
  · rw [h]; exact ⟨_, _, rfl⟩
  · exact ⟨_, _, rfl⟩
theorem Own.base {w : World} {b b' : Nat} {e : TypeId} {v : Value} {k n : Nat} {f : Nat → Nat → Value} (h : Own w b e v k n f) (hb : b' ≤ b) : Own w b' e v k n f := by
  obtain ⟨xs, ⟨h0, h2⟩, h3⟩ := h
  refine ⟨xs, ⟨h0, ?_⟩, h3⟩
  rcases h2 with h2 | ⟨g, cap, cur, e1, e2, e3⟩
  · exact .inl h2
  · exact .inr ⟨g, cap, cur, e1, Nat.le_trans hb e2, e3⟩

/-- Rows of rows, read. -/
def ReadsLL (w : World) (v : Value) (xss : List (List Int)) : Prop := ∃ vs : List Value, vs.length = xss.length ∧ RowAt w v 1 xss.length (fun i _ => vs.getD i undef) ∧ ∀ i, i < xss.length → ReadsI w (vs.getD i undef) (xss.getD i [])
theorem OwnLL.reads {w : World} {base : Nat} {v : Value} {xss : List (List Int)} (h : OwnLL w base v xss) (hn : xss.length ≤ 4611686018427387904) (hm : ∀ x ∈ xss, x.length ≤ 4611686018427387904) : ReadsLL w v xss := by
  obtain ⟨vs, h1, h2, h3⟩ := h
  exact ⟨vs, h1, h2.row hn, fun i hi => (h3 i hi).reads (hm _ (by rw [getD_at _ _ _ hi]; exact List.getElem_mem hi))⟩
theorem ReadsLL.below {w w' : World} {v : Value} {xss : List (List Int)} (h : ReadsLL w v xss) (hb : Below w.heap.size w w') : ReadsLL w' v xss := by
  obtain ⟨vs, h1, h2, h3⟩ := h
  exact ⟨vs, h1, RowAt.below h2 hb, fun i hi => (h3 i hi).below hb⟩

/-- A set without a holding. -/
def keyI (a i : Nat) : Nat := if a / 2 ^ i % 2 = 1 then a - 2 ^ i else a
theorem andNot_i64 : ∀ (a : Fin 64) (i : Fin 6), bits .andNot .i64 (a.val : Int) ((2 ^ i.val : Nat) : Int) = ((keyI a.val i.val : Nat) : Int) := by decide +kernel
/-- Of this set the holding i can be left out. -/
def canLeave (Q : List Nat) (a i : Nat) : Bool := decide (a / 2 ^ i % 2 = 1) && decide (keyI a i ∈ Q)
/-- No holding of the set can be left out. -/
def isMin (n : Nat) (Q : List Nat) (a : Nat) : Bool := (List.range n).all fun i => !canLeave Q a i
def minL (g : Gl) (L : List Hd) : List Nat := (suffL g L).filter (isMin L.length (suffL g L))
theorem suffL_nodup (g : Gl) (L : List Hd) : (suffL g L).Nodup := ((List.mergeSort_perm _ _).nodup_iff).2 (List.nodup_range.filter _)

end Go.Proofs.Ytapjgjjmlbhanaa
