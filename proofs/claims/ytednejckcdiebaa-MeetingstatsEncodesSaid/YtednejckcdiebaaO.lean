/- Arguments that are read: a slice of meetings. -/
import Derived.Test.YtednejckcdiebaaY
import Derived.ProofKit
import Derived.OpenShut
import Derived.Deep.Slices
import Derived.Deep.Fields
import Derived.ChangeSame
namespace Go.Proofs.Ytednejckcdiebaa
open Go.ChangeShapes Go.WideShapes Go.ChangeAt Go.RowKit Go.Deep

theorem of_wf {x : Int} (h : (Lit.int .i64 x).wf = true) : -9223372036854775808 ≤ x ∧ x ≤ 9223372036854775807 := by
  have h1 : IntKind.i64.min = -9223372036854775808 := rfl
  have h2 : IntKind.i64.max = 9223372036854775807 := rfl
  simp only [Lit.wf, Bool.and_eq_true, decide_eq_true_eq] at h
  omega

section
variable {H : Type} {enc : TypeId × Value → H} {P : Program} {w : World} {base : Nat} {spare : Nat → Bool} {held : Bool}
theorem open_slice_fields {t e : TypeId} {fs : Array Field} {fuel : Nat} {cs : List Value} {x : DataW H × List MemPlace} (ht : P.underlying t = some (.slice e)) (he : P.underlying e = some (.struct fs))
    (hone : oneCellFields P fs = true) (hC : P.cellsOf e = fs.size) (h : DataW.trod enc P w base spare held fuel t cs = some x) :
    (cs = [.slice none 0 0] ∧ x = (.nil, [])) ∨
    ∃ (a : Addr) (len cap m : Nat) (D : Nat → DataW H) (Pl : Nat → List MemPlace), cs = [.slice (some a) len cap] ∧ base ≤ a.block ∧ len ≤ cap ∧ cap ≤ maxLen ∧ m = (if spare a.block then cap else len) ∧
      x = (.slice ((List.range len).map D) ((List.range (m - len)).map fun j => D (len + j)), MemPlace.row a (m * fs.size) ++ (List.range m).flatMap Pl) ∧
      ∀ i, i < m → ∃ (ys : List (DataW H × List MemPlace)) (n : Nat), D i = .agg (ys.map (·.1)) ∧ Pl i = ys.flatMap (·.2) ∧ ys.length = fs.size ∧
        ∀ (j : Nat) (f : Field), fs[j]? = some f → ∃ (v : Value) (y : DataW H × List MemPlace), w.cell? (a.add (i * fs.size + j)) = some v ∧ ys[j]? = some y ∧ DataW.trod enc P w base spare held n f.type [v] = some y := by
  rcases open_slice ht h with h0 | ⟨a, len, cap, m, n, D, Pl, hcs, hb, hl, hm, hmm, hx, hi⟩
  · exact .inl h0
  · refine .inr ⟨a, len, cap, m, D, Pl, hcs, hb, hl, hm, hmm, by rw [hC] at hx; exact hx, fun i him => ?_⟩
    obtain ⟨cs', hc, ht'⟩ := hi i him
    rw [hC] at hc
    obtain ⟨ys, n', hn', hy, hlen, hyl, hf⟩ := DataW.trod_struct he ht'
    obtain ⟨_, hcl, hat⟩ := World.cells?_some hc
    simp only [Prod.mk.injEq] at hy
    refine ⟨ys, n', hy.1, hy.2, hyl, fun j f hj => ?_⟩
    obtain ⟨ho, hk⟩ := hone_of hone j f hj
    have hjl : j < fs.size := (Array.getElem?_eq_some_iff.1 hj).1
    have hcell := hat j hjl
    have hv : cs'[j]? = some (cs'[j]'(by omega)) := List.getElem?_eq_getElem (by omega)
    have h1 := hf j f hj
    rw [ho, hk] at h1
    have hone' : (cs'.drop j).take 1 = [cs'[j]'(by omega)] := by
      rw [List.drop_eq_getElem_cons (by omega)]
      rfl
    rw [hone'] at h1
    have hys : ys[j]? = some (ys[j]'(by omega)) := List.getElem?_eq_getElem (by omega)
    refine ⟨_, _, ?_, hys, h1.trans hys⟩
    rw [← Go.Deep.add_add, hcell, hv]
end

theorem list_of {α : Type} : ∀ (len : Nat) (p : Nat → α → Prop), (∀ i, i < len → ∃ x, p i x) → ∃ xs : List α, xs.length = len ∧ ∀ i x, xs[i]? = some x → p i x
  | 0, _, _ => ⟨[], rfl, fun i x h => by simp at h⟩
  | len + 1, p, h => by
    obtain ⟨xs, h1, h2⟩ := list_of len p (fun i hi => h i (by omega))
    obtain ⟨x, hx⟩ := h len (by omega)
    refine ⟨xs ++ [x], by simp [h1], fun i y hy => ?_⟩
    rcases Nat.lt_or_ge i xs.length with hl | hl
    · rw [List.getElem?_append_left hl] at hy
      exact h2 i y hy
    · rw [List.getElem?_append_right hl] at hy
      have h3 : i - xs.length = 0 := by
        have := (List.getElem?_eq_some_iff.1 hy).1
        simp at this
        omega
      rw [h3] at hy
      simp at hy
      subst hy
      have : i = len := by omega
      subst this
      exact hx

set_option maxRecDepth 100000 in
/-- An argument that is a slice of meetings. -/
theorem open_meetings {H : Type} {enc : TypeId × Value → H} {w : World} {spare : Nat → Bool} {held : Bool} {r : Reach} {b0 : Nat} {v : Value} {d : DataW H} {p : List MemPlace} (hv : Value.okWide Try.prog w r b0 30 v) (h : DataW.Trod enc Try.prog w 0 spare held 30 v d p) :
    ∃ ao len c, v = .slice ao len c ∧ len ≤ 9223372036854775807 ∧ ∃ xs, xs.length = len ∧ ReadsM w (.slice ao len c) xs := by
  obtain ⟨a0, len, cap, rfl⟩ := okWide_slice Try.underlying30 hv
  obtain ⟨fuel, hf⟩ := h
  refine ⟨a0, len, cap, rfl, ?_⟩
  rcases open_slice_fields Try.underlying30 Try.underlying52 (by kernel_rfl) (by kernel_rfl) hf with ⟨e, _⟩ | ⟨a, len', cap', m, D, Pl, e, _, hl, hm, hmm, _, hi⟩
  · simp [Value.cells] at e
    obtain ⟨rfl, rfl, rfl⟩ := e
    exact ⟨by omega, [], rfl, none, 0, rfl, by simp, fun j x hj => by simp at hj⟩
  · simp [Value.cells] at e
    obtain ⟨rfl, rfl, rfl⟩ := e
    unfold maxLen at hm
    refine ⟨by omega, ?_⟩
    have hlm : len ≤ m := by rw [hmm]; split <;> omega
    have hcell : ∀ i, i < len → ∃ x : Mt, w.cell? (a.add (i * 3)) = some (.int .i64 x.a) ∧ w.cell? (a.add (i * 3 + 1)) = some (.int .i64 x.b) ∧ w.cell? (a.add (i * 3 + 2)) = some (.int .i64 x.d) := by
      intro i hil
      obtain ⟨ys, n', _, _, _, hF⟩ := hi i (by omega)
      obtain ⟨v0, y0, c0, _, t0⟩ := hF 0 _ rfl
      obtain ⟨v1, y1, c1, _, t1⟩ := hF 1 _ rfl
      obtain ⟨v2, y2, c2, _, t2⟩ := hF 2 _ rfl
      obtain ⟨x0, e0, _⟩ := DataW.trod_int Try.underlying3 t0
      obtain ⟨x1, e1, _⟩ := DataW.trod_int Try.underlying3 t1
      obtain ⟨x2, e2, _⟩ := DataW.trod_int Try.underlying3 t2
      simp at e0 e1 e2
      subst e0 e1 e2
      exact ⟨⟨x0, x1, x2⟩, c0, c1, c2⟩
    obtain ⟨xs, hxl, hxs⟩ := list_of len _ hcell
    refine ⟨xs, hxl, some a, cap, by rw [hxl], by omega, fun j x hj => ?_⟩
    obtain ⟨c0, c1, c2⟩ := hxs j x hj
    obtain ⟨b, o, spot⟩ := a
    have hjl := (List.getElem?_eq_some_iff.1 hj).1
    have hspot : spot = none := by
      obtain ⟨c0', _, _⟩ := hxs 0 _ (List.getElem?_eq_getElem (show 0 < xs.length by omega))
      have e : (⟨b, o, spot⟩ : Addr).add (0 * 3) = ⟨b, o, spot⟩ := by simp [Addr.add]
      rw [e] at c0'
      simpa using World.cell?_spot c0'
    subst hspot
    refine ⟨b, o, rfl, ?_, ?_, ?_⟩
    · rw [add_plain] at c0; exact c0
    · rw [add_plain] at c1; exact c1
    · rw [add_plain] at c2; exact c2

end Go.Proofs.Ytednejckcdiebaa
