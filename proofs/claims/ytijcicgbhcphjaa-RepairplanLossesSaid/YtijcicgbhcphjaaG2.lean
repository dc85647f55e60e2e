/- Rows of jobs. -/
import Derived.Test.YtijcicgbhcphjaaG1
namespace Go.Proofs.Ytijcicgbhcphjaa
open Go.RowKit Go.Lib Go.ChangeMaps
set_option linter.unusedSimpArgs false

theorem OwnI.take {w : World} {base : Nat} {a : Option Addr} {n c : Nat} {ds : List Int} (h : OwnI w base (.slice a n c) ds) (m : Nat) (hm : m ≤ ds.length) : OwnI w base (.slice a m c) (ds.take m) := by
  have hn : n = ds.length := by
    obtain ⟨_, _, e⟩ := OwnI.slice h
    cases e; rfl
  subst hn
  obtain ⟨xs, ⟨h1, h2⟩, h3⟩ := h
  unfold OwnI
  rw [List.length_take, Nat.min_eq_left hm]
  refine ⟨xs.take m, ⟨by rw [List.length_take, h1]; omega, ?_⟩, fun i j hi hj => ?_⟩
  · rcases h2 with ⟨e, e2⟩ | ⟨g, cap, cur, e, h4, h5, h6, h7, h8, h9⟩
    · have : m = 0 := by omega
      subst this
      rw [e2] at e
      rw [e]
      exact .inl ⟨rfl, rfl⟩
    · cases e
      refine .inr ⟨g, c, cur, rfl, h4, h5, by omega, h7, h8, ?_⟩
      rw [← h9, List.take_take, Nat.mul_one, Nat.min_eq_left (by omega)]
  · have hj0 : j = 0 := by omega
    subst hj0
    have h4 := h3 i 0 (by omega) (by omega)
    rw [Nat.mul_one, Nat.add_zero] at h4 ⊢
    rw [List.getElem?_take, if_pos hi, h4]
    simp only
    rw [getD_take _ _ _ _ hi]

theorem Own.keep {w w' : World} {lo hi base : Nat} {e : TypeId} {v : Value} {k n : Nat} {f : Nat → Nat → Value} (h : Own w base e v k n f) (hk : Keep lo hi w w') (hb : hi ≤ base) : Own w' base e v k n f :=
  h.same fun g hg => hk.2 g (Nat.le_trans hb (h.lt g hg).1) (h.lt g hg).2

/-- Jobs in a row of one's own. -/
def OwnJ (w : World) (base : Nat) (v : Value) (js : List Jp) : Prop := ∃ xs : List Value, xs.length = js.length ∧ Own w base 47 v 5 js.length (jpCell js xs) ∧ ∀ i, i < js.length → OwnI w base (xs.getD i undef) (js.getD i default).from_
theorem OwnJ.nil (w : World) (base : Nat) : OwnJ w base (.slice none 0 0) [] := ⟨[], rfl, Own.nil _ _ _ _ _, fun i hi => by simp at hi⟩
theorem OwnJ.below {w w' : World} {base : Nat} {v : Value} {js : List Jp} (h : OwnJ w base v js) (hb : Below w.heap.size w w') : OwnJ w' base v js := by
  obtain ⟨xs, h1, h2, h3⟩ := h
  exact ⟨xs, h1, h2.below hb, fun i hi => OwnI.below (h3 i hi) hb⟩
theorem OwnJ.keep {w w' : World} {lo hi base : Nat} {v : Value} {js : List Jp} (h : OwnJ w base v js) (hk : Keep lo hi w w') (hb : hi ≤ base) : OwnJ w' base v js := by
  obtain ⟨xs, h1, h2, h3⟩ := h
  exact ⟨xs, h1, h2.keep hk hb, fun i hi => Own.keep (h3 i hi) hk hb⟩
theorem OwnJ.lower {w : World} {base b' : Nat} {v : Value} {js : List Jp} (h : OwnJ w base v js) (hb : b' ≤ base) : OwnJ w b' v js := by
  obtain ⟨xs, h1, h2, h3⟩ := h
  exact ⟨xs, h1, h2.base hb, fun i hi => Own.base (h3 i hi) hb⟩
theorem OwnJ.slice {w : World} {base : Nat} {v : Value} {js : List Jp} (h : OwnJ w base v js) (hn : js.length ≤ 1000000) : ∃ a c, v = .slice a js.length c := by
  obtain ⟨xs, h1, h2, h3⟩ := h
  obtain ⟨a, c, e, _⟩ := h2.row (by omega)
  exact ⟨a, c, e⟩
theorem OwnJ.reads {w : World} {base : Nat} {v : Value} {js : List Jp} (h : OwnJ w base v js) (hn : js.length ≤ 1000000) (hf : ∀ j ∈ js, j.from_.length ≤ 1000000) : ReadsJ w v js := by
  obtain ⟨xs, h1, h2, h3⟩ := h
  refine ⟨xs, h1, h2.row (by omega), fun i hi => OwnI.reads (h3 i hi) ?_⟩
  have := hf (js.getD i default) (by rw [getD_at _ _ _ hi]; exact List.getElem_mem hi)
  omega
theorem jpCell_old {js : List Jp} {xs : List Value} (hx : xs.length = js.length) (y : Jp) (u : Value) {i : Nat} (hi : i < js.length) (j : Nat) : jpCell (js ++ [y]) (xs ++ [u]) i j = jpCell js xs i j := by
  unfold jpCell
  rw [getD_at (js ++ [y]) _ _ (by rw [List.length_append]; omega), List.getElem_append_left hi, getD_at js _ _ hi, getD_at (xs ++ [u]) _ _ (by rw [List.length_append]; omega), List.getElem_append_left (by omega), getD_at xs _ _ (by omega)]
theorem OwnJ.app {V : World} {base : Nat} {v : Value} {js : List Jp} (h : OwnJ V base v js) (y : Jp) (fv : Value) (hfv : OwnI V base fv y.from_) (hn : js.length ≤ 1000000) (hbase : base ≤ V.heap.size) :
    ∃ v' w', (Builtin.append_ #[35, 35] 35 #[v, .slice (some ⟨V.heap.size, 0, none⟩) 1 1]).run Try.prog (V.alloc (.cells #[.string y.pc.st, .int .i64 y.pc.ix, fv, .int .i64 y.to, .int .i64 y.size] 47)) = .ok v' w' ∧ OwnJ w' base v' (js ++ [y]) ∧ Below base V w' ∧
      (∀ b, b < V.heap.size → v.ownBlock ≠ some b → w'.heap[b]? = V.heap[b]?) := by
  obtain ⟨xs, hx, ho, hf⟩ := h
  have h' : Own V base 47 v 5 js.length (jpCell (js ++ [y]) (xs ++ [fv])) := Own.congr ho fun i j hi _ => (jpCell_old hx y fv hi j).symm
  have h1 : fv.oneCell' = true := by
    obtain ⟨_, _, rfl⟩ := OwnI.slice hfv
    rfl
  have hgy : (js ++ [y]).getD js.length default = y := by simp [List.getD]
  have hgx : (xs ++ [fv]).getD js.length undef = fv := by rw [← hx]; simp [List.getD]
  obtain ⟨v3, w3, r3, o1, o2, o3, _⟩ := Own.append (V := V) (t := 35) (e := 47) (z := .agg #[.string ⟨#[]⟩, .int .i64 0, .slice none 0 0, .int .i64 0, .int .i64 0]) (k := 5) (bytes := 64) Try.underlying35 (by kernel_rfl) rfl (by omega) (by omega) h' 35
    [.string y.pc.st, .int .i64 y.pc.ix, fv, .int .i64 y.to, .int .i64 y.size] rfl (fun q hq => by
      match q, hq with
      | 0, _ => simp only [jpCell, hgy]; rfl
      | 1, _ => simp only [jpCell, hgy]; rfl
      | 2, _ => simp only [jpCell, hgx]; rfl
      | 3, _ => simp only [jpCell, hgy]; rfl
      | 4, _ => simp only [jpCell, hgy]; rfl) (by
      intro u hu
      simp at hu
      rcases hu with rfl | rfl | rfl | rfl | rfl
      · rfl
      · rfl
      · exact h1
      · rfl
      · rfl) (by omega) hbase
  refine ⟨v3, w3, r3, ⟨xs ++ [fv], by simp [hx], by rw [List.length_append]; exact o1, fun i hi => ?_⟩, o2, o3⟩
  have hkeep : ∀ {u : Value} {ds : List Int}, OwnI V base u ds → OwnI w3 base u ds := fun o => Own.same o fun g hg => o3 g (Own.lt o g hg).2 (fun e => own_apart' ho o (by decide) g e hg)
  by_cases e : i < js.length
  · rw [getD_at _ _ _ (by rw [List.length_append]; omega), List.getElem_append_left (by omega), getD_at _ _ _ (by rw [List.length_append]; omega), List.getElem_append_left e]
    have := hf i e
    rw [getD_at _ _ _ (by omega), getD_at _ _ _ e] at this
    exact hkeep this
  · have hi2 : i = js.length := by rw [List.length_append, List.length_singleton] at hi; omega
    subst hi2
    rw [hgx, hgy]
    exact hkeep hfv

theorem OwnJ.own47 {w : World} {base : Nat} {v : Value} {js : List Jp} (h : OwnJ w base v js) : ∃ f : Nat → Nat → Value, Own w base 47 v 5 js.length f := by
  obtain ⟨xs, h1, h2, h3⟩ := h
  exact ⟨_, h2⟩
def lenV : Value → Nat
  | .slice _ n _ => n
  | _ => 0

end Go.Proofs.Ytijcicgbhcphjaa
