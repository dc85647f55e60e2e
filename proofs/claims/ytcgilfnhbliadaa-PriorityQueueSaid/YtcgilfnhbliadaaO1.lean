/- Arguments that are read: tasks, slices of tasks. -/
import Derived.Test.YtcgilfnhbliadaaA1
import Derived.Maps.OwnRows
import Derived.ProofKit
import Derived.OpenShut
import Derived.SizedLaws
import Derived.Deep.Slices
import Derived.Deep.Strs
import Derived.Deep.Fields
import Derived.ChangeSame
import Derived.Lib.SmallJoins
namespace Go.Proofs.Ytcgilfnhbliadaa
open Go.ChangeShapes Go.WideShapes Go.ChangeAt Go.RowKit Go.Deep Go.Joins
set_option linter.unusedSimpArgs false

theorem of_wf {x : Int} (h : (Lit.int .i64 x).wf = true) : -9223372036854775808 ≤ x ∧ x ≤ 9223372036854775807 := by
  have h1 : IntKind.i64.min = -9223372036854775808 := rfl
  have h2 : IntKind.i64.max = 9223372036854775807 := rfl
  simp only [Lit.wf, Bool.and_eq_true, decide_eq_true_eq] at h
  omega

/-- Nothing in the datum takes more bytes than there are. -/
def FitsD {H : Type} (t : TypeId) (d : DataW H) : Prop := ∀ n ∈ d.weights Try.prog t, n ≤ reachBytes
theorem weightsAll_mem {H : Type} {P : Program} {e : TypeId} {n : Nat} : ∀ {ds : List (DataW H)} {d : DataW H}, d ∈ ds → n ∈ d.weights P e → n ∈ DataW.weightsAll P e ds
  | [], _, h, _ => by cases h
  | x :: r, d, h, hn => by
    simp only [DataW.weightsAll, List.mem_append]
    rcases List.mem_cons.1 h with rfl | h
    · exact .inl hn
    · exact .inr (weightsAll_mem h hn)
theorem FitsD.len {H : Type} {t e : TypeId} {elems spare : List (DataW H)} (h : FitsD t (.slice elems spare)) (hu : Try.prog.underlying t = some (.slice e)) : elems.length * Try.prog.bytesOf e ≤ reachBytes := by
  have := h ((elems.length + spare.length) * Try.prog.bytesOf e) (by simp [DataW.weights, hu])
  rw [Nat.add_mul] at this
  omega
theorem FitsD.elem {H : Type} {t e : TypeId} {elems spare : List (DataW H)} {d : DataW H} (h : FitsD t (.slice elems spare)) (hu : Try.prog.underlying t = some (.slice e)) (hd : d ∈ elems) : FitsD e d := fun n hn =>
  h n (by simp only [DataW.weights, hu, List.mem_cons, List.mem_append]; exact .inr (.inl (weightsAll_mem hd hn)))
theorem FitsD.field {H : Type} {t : TypeId} {fs : Array Field} {parts : List (DataW H)} {d : DataW H} {j : Nat} {f : Field} (h : FitsD t (.agg parts)) (hu : Try.prog.underlying t = some (.struct fs)) (hj : fs[j]? = some f) (hp : parts[j]? = some d) : FitsD f.type d := fun n hn =>
  h n (by
    simp only [DataW.weights, hu]
    exact DataW.weights_mem_each (j := j) (t := f.type) (by simp [hj]) hp n hn)
theorem reach_small : reachBytes ≤ 140737488355328 := by decide

section
variable {H : Type} {enc : TypeId × Value → H} {w : World} {base : Nat} {spare : Nat → Bool} {held : Bool}
/-- A slice whose elements are structs of one-cell fields. -/
theorem open_slice_fields {t e : TypeId} {fs : Array Field} {fuel : Nat} {cs : List Value} {x : DataW H × List MemPlace} (ht : Try.prog.underlying t = some (.slice e)) (he : Try.prog.underlying e = some (.struct fs))
    (hone : oneCellFields Try.prog fs = true) (hC : Try.prog.cellsOf e = fs.size) (hby : 1 ≤ Try.prog.bytesOf e) (hF : FitsD t x.1) (h : DataW.trod enc Try.prog w base spare held fuel t cs = some x) :
    cs = [.slice none 0 0] ∨
    ∃ (a : Addr) (len cap : Nat) (D : Nat → DataW H), cs = [.slice (some a) len cap] ∧ len ≤ cap ∧ len ≤ 140737488355328 ∧
      ∀ i, i < len → FitsD e (D i) ∧ ∃ ys : List (DataW H × List MemPlace), ∃ n : Nat, D i = .agg (ys.map (·.1)) ∧
        ∀ (j : Nat) (f : Field), fs[j]? = some f → ∃ (v : Value) (y : DataW H × List MemPlace), w.cell? (a.add (i * fs.size + j)) = some v ∧ ys[j]? = some y ∧ FitsD f.type y.1 ∧ DataW.trod enc Try.prog w base spare held n f.type [v] = some y := by
  rcases open_slice ht h with ⟨h0, _⟩ | ⟨a, len, cap, m, n, D, Pl, hcs, hb, hl, hm, hmm, hx, hi⟩
  · exact .inl h0
  · rw [hx] at hF
    have hlen := hF.len ht
    have hr := reach_small
    rw [List.length_map, List.length_range] at hlen
    have hlen2 : len * 1 ≤ len * Try.prog.bytesOf e := Nat.mul_le_mul_left _ hby
    refine .inr ⟨a, len, cap, D, hcs, hl, by omega, fun i hil => ?_⟩
    have him : i < m := by rw [hmm]; split <;> omega
    have hFi : FitsD e (D i) := hF.elem ht (List.mem_map.2 ⟨i, List.mem_range.2 hil, rfl⟩)
    obtain ⟨cs', hc, ht'⟩ := hi i him
    rw [hC] at hc
    obtain ⟨ys, n', hn', hy, hcl0, hyl, hf⟩ := DataW.trod_struct he ht'
    obtain ⟨_, hcl, hat⟩ := World.cells?_some hc
    simp only [Prod.mk.injEq] at hy
    refine ⟨hFi, ys, n', hy.1, fun j f hj => ?_⟩
    obtain ⟨ho, hk⟩ := hone_of hone j f hj
    have hjl : j < fs.size := (Array.getElem?_eq_some_iff.1 hj).1
    have hcell := hat j hjl
    have hv : cs'[j]? = some (cs'[j]'(by omega)) := List.getElem?_eq_getElem (by omega)
    have h1 := hf j f hj
    rw [ho, hk] at h1
    have hone' : (cs'.drop j).take 1 = [cs'[j]'(by omega)] := by
      rw [List.drop_eq_getElem_cons (by omega)]
      rfl
    rw [hone'] at h1
    have hys : ys[j]? = some (ys[j]'(by omega)) := List.getElem?_eq_getElem (by omega)
    refine ⟨_, _, ?_, hys, ?_, h1.trans hys⟩
    · rw [← Go.Deep.add_add, hcell, hv]
    · rw [hy.1] at hFi
      exact hFi.field he hj (by simp [hyl, hjl])

set_option maxRecDepth 100000 in
/-- A struct of one-cell fields, by value. -/
theorem open_agg_fields {r : Reach} {b0 : Nat} {t : TypeId} {fs : Array Field} {v : Value} {d : DataW H} {p : List MemPlace} (he : Try.prog.underlying t = some (.struct fs)) (hone : oneCellFields Try.prog fs = true) (hC : Try.prog.cellsOf t = fs.size)
    (hF : FitsD t d) (hv : Value.okWide Try.prog w r b0 t v) (h : DataW.Trod enc Try.prog w base spare held t v d p) :
    ∃ (cs : Array Value) (n : Nat), v = .agg cs ∧ cs.size = fs.size ∧ ∀ (j : Nat) (f : Field), fs[j]? = some f → ∃ (u : Value) (y : DataW H × List MemPlace), cs[j]? = some u ∧ FitsD f.type y.1 ∧ DataW.trod enc Try.prog w base spare held n f.type [u] = some y := by
  obtain ⟨cs, rfl, hsz⟩ := okWide_struct he hv
  obtain ⟨fuel, hf0⟩ := h
  obtain ⟨ys, n', hn', hy, hcl0, hyl, hf⟩ := DataW.trod_struct he hf0
  simp only [Prod.mk.injEq] at hy
  have hcs : (Value.agg cs).cells.toList = cs.toList := rfl
  refine ⟨cs, n', rfl, hsz.trans hC, fun j f hj => ?_⟩
  obtain ⟨ho, hk⟩ := hone_of hone j f hj
  have hjl : j < fs.size := (Array.getElem?_eq_some_iff.1 hj).1
  have hjc : j < cs.size := by rw [hsz, hC]; exact hjl
  have h1 := hf j f hj
  rw [ho, hk] at h1
  have hone' : ((Value.agg cs).cells.toList.drop j).take 1 = [cs[j]] := by
    rw [hcs, List.drop_eq_getElem_cons (by simpa using hjc)]
    rfl
  rw [hone'] at h1
  have hys : ys[j]? = some (ys[j]'(by omega)) := List.getElem?_eq_getElem (by omega)
  rw [hy.1] at hF
  exact ⟨_, _, Array.getElem?_eq_getElem hjc, hF.field he hj (by simp [hyl, hjl]), h1.trans hys⟩
end

theorem list_of {α : Type} : ∀ (len : Nat) (p : Nat → α → Prop), (∀ i, i < len → ∃ x, p i x) → ∃ xs : List α, xs.length = len ∧ ∀ i x, xs[i]? = some x → p i x
  | 0, _, _ => ⟨[], rfl, fun i x h => by simp at h⟩
  | len + 1, p, h => by
    obtain ⟨xs, h1, h2⟩ := list_of len p (fun i hi => h i (by omega))
    obtain ⟨x, hx⟩ := h len (by omega)
    refine ⟨xs ++ [x], by simp [h1], fun i y hy => ?_⟩
    rcases Nat.lt_or_ge i xs.length with hl | hl
    · rw [List.getElem?_append_left hl] at hy
      exact h2 i y hy
    · rw [List.getElem?_append_right hl] at hy
      have h3 : i - xs.length = 0 := by
        have := (List.getElem?_eq_some_iff.1 hy).1
        simp at this
        omega
      rw [h3] at hy
      simp at hy
      subst hy
      have : i = len := by omega
      subst this
      exact hx

/-- Cells that are there lie in a plain address. -/
theorem rowAt_mk {w : World} {a : Addr} {k len cap : Nat} {f : Nat → Nat → Value} (hk : 0 < k) (hl : len ≤ cap) (hm : len ≤ 140737488355328) (hc : ∀ i j, i < len → j < k → w.cell? (a.add (i * k + j)) = some (f i j)) : RowAt w (.slice (some a) len cap) k len f := by
  refine ⟨some a, cap, rfl, hl, by omega, fun h0 => ?_⟩
  obtain ⟨b, o, spot⟩ := a
  have hspot : spot = none := by
    have e : (⟨b, o, spot⟩ : Addr).add (0 * k + 0) = ⟨b, o, spot⟩ := by simp [Addr.add]
    have := hc 0 0 h0 hk
    rw [e] at this
    simpa using World.cell?_spot this
  subst hspot
  exact ⟨b, o, rfl, fun i j hi hj => by have := hc i j hi hj; rw [add_plain] at this; rw [Nat.add_assoc]; exact this⟩
theorem rowAt_nil (w : World) (k : Nat) (f : Nat → Nat → Value) : RowAt w (.slice none 0 0) k 0 f := ⟨none, 0, rfl, Nat.le_refl _, by omega, fun h => absurd h (by omega)⟩

section
variable {H : Type} {enc : TypeId × Value → H} {w : World} {base : Nat} {spare : Nat → Bool} {held : Bool} {n : Nat} {v : Value} {y : DataW H × List MemPlace}
/-- A slice of structs, element by element. -/
theorem open_slice_len {t e : TypeId} {fuel : Nat} {cs : List Value} {x : DataW H × List MemPlace} (ht : Try.prog.underlying t = some (.slice e)) (hby : 1 ≤ Try.prog.bytesOf e) (hF : FitsD t x.1) (h : DataW.trod enc Try.prog w base spare held fuel t cs = some x) :
    cs = [.slice none 0 0] ∨ ∃ (a : Addr) (len cap : Nat), cs = [.slice (some a) len cap] ∧ len ≤ cap ∧ len ≤ 140737488355328 ∧
      ∀ i, i < len → ∃ (cs' : List Value) (d : DataW H × List MemPlace) (n : Nat), cs'.length = Try.prog.cellsOf e ∧ (∀ j, j < Try.prog.cellsOf e → w.cell? (a.add (i * Try.prog.cellsOf e + j)) = cs'[j]?) ∧ FitsD e d.1 ∧ DataW.trod enc Try.prog w base spare held n e cs' = some d := by
  rcases open_slice ht h with ⟨h0, _⟩ | ⟨a, len, cap, m, n, D, Pl, hcs, hb, hl, hm, hmm, hx, hi⟩
  · exact .inl h0
  · rw [hx] at hF
    have hlen := hF.len ht
    have hr := reach_small
    rw [List.length_map, List.length_range] at hlen
    have hlen2 : len * 1 ≤ len * Try.prog.bytesOf e := Nat.mul_le_mul_left _ hby
    refine .inr ⟨a, len, cap, hcs, hl, by omega, fun i hil => ?_⟩
    have him : i < m := by rw [hmm]; split <;> omega
    obtain ⟨cs', hc, ht'⟩ := hi i him
    obtain ⟨_, hcl, hat⟩ := World.cells?_some hc
    exact ⟨cs', _, n, hcl, fun j hj => by rw [← hat j hj, Go.Deep.add_add], hF.elem ht (List.mem_map.2 ⟨i, List.mem_range.2 hil, rfl⟩), ht'⟩

theorem rd_piece {u0 u1 : Value} {d : DataW H × List MemPlace} (h : DataW.trod enc Try.prog w base spare held n 23 [u0, u1] = some d) : ∃ (s : ByteArray) (i : Int), u0 = .string s ∧ u1 = .int .i64 i := by
  obtain ⟨zs, n2, _, hz, _, hzl, hg⟩ := DataW.trod_struct Try.underlying23 h
  have hzl2 : zs.length = 2 := hzl
  match zs, hzl2 with
  | [z0, z1], _ =>
    have g0 : DataW.trod enc Try.prog w base spare held n2 9 (([u0, u1].drop 0).take (Try.prog.cellsOf 9)) = [z0, z1][0]? := hg 0 _ rfl
    have g1 : DataW.trod enc Try.prog w base spare held n2 3 (([u0, u1].drop 1).take (Try.prog.cellsOf 3)) = [z0, z1][1]? := hg 1 _ rfl
    rw [show Try.prog.cellsOf 9 = 1 by kernel_rfl] at g0
    rw [show Try.prog.cellsOf 3 = 1 by kernel_rfl] at g1
    obtain ⟨x0, e0, _⟩ := DataW.trod_string Try.underlying9 (show DataW.trod enc Try.prog w base spare held n2 9 [u0] = some z0 from g0)
    obtain ⟨x1, e1, _⟩ := DataW.trod_int Try.underlying3 (show DataW.trod enc Try.prog w base spare held n2 3 [u1] = some z1 from g1)
    cases e0; cases e1
    exact ⟨_, _, rfl, rfl⟩
theorem rd_frac {u0 u1 : Value} {d : DataW H × List MemPlace} (h : DataW.trod enc Try.prog w base spare held n 25 [u0, u1] = some d) : ∃ (s i : Int), u0 = .int .i64 s ∧ u1 = .int .i64 i := by
  obtain ⟨zs, n2, _, hz, _, hzl, hg⟩ := DataW.trod_struct Try.underlying25 h
  have hzl2 : zs.length = 2 := hzl
  match zs, hzl2 with
  | [z0, z1], _ =>
    have g0 : DataW.trod enc Try.prog w base spare held n2 3 (([u0, u1].drop 0).take (Try.prog.cellsOf 3)) = [z0, z1][0]? := hg 0 _ rfl
    have g1 : DataW.trod enc Try.prog w base spare held n2 3 (([u0, u1].drop 1).take (Try.prog.cellsOf 3)) = [z0, z1][1]? := hg 1 _ rfl
    rw [show Try.prog.cellsOf 3 = 1 by kernel_rfl] at g0 g1
    obtain ⟨x0, e0, _⟩ := DataW.trod_int Try.underlying3 (show DataW.trod enc Try.prog w base spare held n2 3 [u0] = some z0 from g0)
    obtain ⟨x1, e1, _⟩ := DataW.trod_int Try.underlying3 (show DataW.trod enc Try.prog w base spare held n2 3 [u1] = some z1 from g1)
    cases e0; cases e1
    exact ⟨_, _, rfl, rfl⟩
theorem rd_task {u0 u1 u2 u3 u4 u5 u6 : Value} {d : DataW H × List MemPlace} (h : DataW.trod enc Try.prog w base spare held n 27 [u0, u1, u2, u3, u4, u5, u6] = some d) :
    ∃ t : Tk, u0 = .string t.st ∧ u1 = .int .i64 t.ix ∧ u2 = .int .i64 t.size ∧ u3 = .int .i64 t.spare ∧ u4 = .int .i64 t.num ∧ u5 = .int .i64 t.den ∧ u6 = .int .i64 t.day := by
  obtain ⟨ys, n1, _, hy, _, hyl, hf⟩ := DataW.trod_struct Try.underlying27 h
  have f0 : DataW.trod enc Try.prog w base spare held n1 23 (([u0, u1, u2, u3, u4, u5, u6].drop 0).take (Try.prog.cellsOf 23)) = ys[0]? := hf 0 _ rfl
  have f1 : DataW.trod enc Try.prog w base spare held n1 3 (([u0, u1, u2, u3, u4, u5, u6].drop 2).take (Try.prog.cellsOf 3)) = ys[1]? := hf 1 _ rfl
  have f2 : DataW.trod enc Try.prog w base spare held n1 3 (([u0, u1, u2, u3, u4, u5, u6].drop 3).take (Try.prog.cellsOf 3)) = ys[2]? := hf 2 _ rfl
  have f3 : DataW.trod enc Try.prog w base spare held n1 25 (([u0, u1, u2, u3, u4, u5, u6].drop 4).take (Try.prog.cellsOf 25)) = ys[3]? := hf 3 _ rfl
  have f4 : DataW.trod enc Try.prog w base spare held n1 3 (([u0, u1, u2, u3, u4, u5, u6].drop 6).take (Try.prog.cellsOf 3)) = ys[4]? := hf 4 _ rfl
  rw [show Try.prog.cellsOf 23 = 2 by kernel_rfl] at f0
  rw [show Try.prog.cellsOf 3 = 1 by kernel_rfl] at f1 f2 f4
  rw [show Try.prog.cellsOf 25 = 2 by kernel_rfl] at f3
  have hyl2 : ys.length = 5 := hyl
  match ys, hyl2 with
  | [y0, y1, y2, y3, y4], _ =>
    obtain ⟨s, i, e0, e1⟩ := rd_piece (show DataW.trod enc Try.prog w base spare held n1 23 [u0, u1] = some y0 from f0)
    obtain ⟨x2, e2, _⟩ := DataW.trod_int Try.underlying3 (show DataW.trod enc Try.prog w base spare held n1 3 [u2] = some y1 from f1)
    obtain ⟨x3, e3, _⟩ := DataW.trod_int Try.underlying3 (show DataW.trod enc Try.prog w base spare held n1 3 [u3] = some y2 from f2)
    obtain ⟨x4, x5, e4, e5⟩ := rd_frac (show DataW.trod enc Try.prog w base spare held n1 25 [u4, u5] = some y3 from f3)
    obtain ⟨x6, e6, _⟩ := DataW.trod_int Try.underlying3 (show DataW.trod enc Try.prog w base spare held n1 3 [u6] = some y4 from f4)
    cases e2; cases e3; cases e6
    exact ⟨⟨s, i, x2, x3, x4, x5, x6⟩, e0, e1, rfl, rfl, e4, e5, rfl⟩

set_option maxRecDepth 100000 in
theorem rd_tasks (hF : FitsD 36 y.1) (h : DataW.trod enc Try.prog w base spare held n 36 [v] = some y) : ∃ ts, ReadsT w v ts := by
  rcases open_slice_len Try.underlying36 (by decide +kernel) hF h with hcs | ⟨a, len, cap, hcs, hl, hm, hi⟩
  · cases hcs
    exact ⟨[], rowAt_nil _ _ _⟩
  · cases hcs
    rw [show Try.prog.cellsOf 27 = 7 by kernel_rfl] at hi
    obtain ⟨ps, hpl, hps⟩ := list_of len (fun i (p : Tk) => (w.cell? (a.add (i * 7)) = some (.string p.st) ∧ w.cell? (a.add (i * 7 + 1)) = some (.int .i64 p.ix) ∧ w.cell? (a.add (i * 7 + 2)) = some (.int .i64 p.size) ∧ w.cell? (a.add (i * 7 + 3)) = some (.int .i64 p.spare) ∧
      w.cell? (a.add (i * 7 + 4)) = some (.int .i64 p.num) ∧ w.cell? (a.add (i * 7 + 5)) = some (.int .i64 p.den) ∧ w.cell? (a.add (i * 7 + 6)) = some (.int .i64 p.day))) fun i hil => by
      obtain ⟨cs', d, n', hcl, hat, hFd, ht⟩ := hi i hil
      match cs', hcl with
      | [u0, u1, u2, u3, u4, u5, u6], _ =>
        obtain ⟨t, rfl, rfl, rfl, rfl, rfl, rfl, rfl⟩ := rd_task ht
        exact ⟨t, hat 0 (by omega), hat 1 (by omega), hat 2 (by omega), hat 3 (by omega), hat 4 (by omega), hat 5 (by omega), hat 6 (by omega)⟩
    refine ⟨ps, ?_⟩
    unfold ReadsT
    rw [hpl]
    refine rowAt_mk (by omega) hl hm fun i j hi' hj => ?_
    obtain ⟨c0, c1, c2, c3, c4, c5, c6⟩ := hps i (ps.getD i default) (by rw [List.getElem?_eq_getElem (by omega), getD_at _ _ _ (by omega)])
    match j, hj with
    | 0, _ => exact c0
    | 1, _ => exact c1
    | 2, _ => exact c2
    | 3, _ => exact c3
    | 4, _ => exact c4
    | 5, _ => exact c5
    | 6, _ => exact c6
end

section
variable {H : Type} {enc : TypeId × Value → H} {w : World} {spare : Nat → Bool} {held : Bool} {v : Value} {d : DataW H} {p : List MemPlace} {r : Reach} {b0 : Nat}
set_option maxRecDepth 100000 in
theorem slice_cells {t e : TypeId} (ht : Try.prog.underlying t = some (.slice e)) (hv : Value.okWide Try.prog w r b0 t v) (h : DataW.Trod enc Try.prog w 0 spare held t v d p) : ∃ n, DataW.trod enc Try.prog w 0 spare held n t [v] = some (d, p) := by
  obtain ⟨a0, len, cap, rfl⟩ := okWide_slice ht hv
  obtain ⟨fuel, hf⟩ := h
  exact ⟨fuel, hf⟩
set_option maxRecDepth 100000 in
theorem arg_tasks (hF : FitsD 36 d) (hv : Value.okWide Try.prog w r b0 36 v) (h : DataW.Trod enc Try.prog w 0 spare held 36 v d p) : ∃ ts, ReadsT w v ts := by
  obtain ⟨n, hn⟩ := slice_cells Try.underlying36 hv h
  exact rd_tasks hF hn
set_option maxRecDepth 100000 in
theorem arg_task (hv : Value.okWide Try.prog w r b0 27 v) (h : DataW.Trod enc Try.prog w 0 spare held 27 v d p) : ∃ t : Tk, v = t.v := by
  obtain ⟨cs, rfl, hsz⟩ := okWide_struct Try.underlying27 hv
  have h2 : cs.size = 7 := by rw [hsz]; kernel_rfl
  obtain ⟨fuel, hf⟩ := h
  obtain ⟨l⟩ := cs
  match l, h2 with
  | [u0, u1, u2, u3, u4, u5, u6], _ =>
    obtain ⟨t, rfl, rfl, rfl, rfl, rfl, rfl, rfl⟩ := rd_task (show DataW.trod enc Try.prog w 0 spare held fuel 27 [u0, u1, u2, u3, u4, u5, u6] = some (d, p) from hf)
    exact ⟨t, rfl⟩
end

end Go.Proofs.Ytcgilfnhbliadaa
