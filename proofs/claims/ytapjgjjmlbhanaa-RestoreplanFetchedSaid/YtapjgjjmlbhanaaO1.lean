/- Arguments that are read: goals, holdings, numbers, files. -/
import Derived.Test.YtapjgjjmlbhanaaL0
import Derived.ProofKit
import Derived.OpenShut
import Derived.SizedLaws
import Derived.Deep.Slices
import Derived.Deep.Strs
import Derived.Deep.Fields
import Derived.ChangeSame
import Derived.Lib.SmallJoins
namespace Go.Proofs.Ytapjgjjmlbhanaa
open Go.ChangeShapes Go.WideShapes Go.ChangeAt Go.RowKit Go.Deep Go.Joins

theorem of_wf {x : Int} (h : (Lit.int .i64 x).wf = true) : -9223372036854775808 ≤ x ∧ x ≤ 9223372036854775807 := by
  have h1 : IntKind.i64.min = -9223372036854775808 := rfl
  have h2 : IntKind.i64.max = 9223372036854775807 := rfl
  simp only [Lit.wf, Bool.and_eq_true, decide_eq_true_eq] at h
  omega

/-- Nothing in the datum takes more bytes than there are. -/
def Fits {H : Type} (t : TypeId) (d : DataW H) : Prop := ∀ n ∈ d.weights Try.prog t, n ≤ reachBytes
theorem weightsAll_mem {H : Type} {P : Program} {e : TypeId} {n : Nat} : ∀ {ds : List (DataW H)} {d : DataW H}, d ∈ ds → n ∈ d.weights P e → n ∈ DataW.weightsAll P e ds
  | [], _, h, _ => by cases h
  | x :: r, d, h, hn => by
    simp only [DataW.weightsAll, List.mem_append]
    rcases List.mem_cons.1 h with rfl | h
    · exact .inl hn
    · exact .inr (weightsAll_mem h hn)
theorem Fits.len {H : Type} {t e : TypeId} {elems spare : List (DataW H)} (h : Fits t (.slice elems spare)) (hu : Try.prog.underlying t = some (.slice e)) : elems.length * Try.prog.bytesOf e ≤ reachBytes := by
  have := h ((elems.length + spare.length) * Try.prog.bytesOf e) (by simp [DataW.weights, hu])
  rw [Nat.add_mul] at this
  omega
theorem Fits.elem {H : Type} {t e : TypeId} {elems spare : List (DataW H)} {d : DataW H} (h : Fits t (.slice elems spare)) (hu : Try.prog.underlying t = some (.slice e)) (hd : d ∈ elems) : Fits e d := fun n hn =>
  h n (by simp only [DataW.weights, hu, List.mem_cons, List.mem_append]; exact .inr (.inl (weightsAll_mem hd hn)))
theorem Fits.field {H : Type} {t : TypeId} {fs : Array Field} {parts : List (DataW H)} {d : DataW H} {j : Nat} {f : Field} (h : Fits t (.agg parts)) (hu : Try.prog.underlying t = some (.struct fs)) (hj : fs[j]? = some f) (hp : parts[j]? = some d) : Fits f.type d := fun n hn =>
  h n (by
    simp only [DataW.weights, hu]
    exact DataW.weights_mem_each (j := j) (t := f.type) (by simp [hj]) hp n hn)
theorem reach_small : reachBytes ≤ 140737488355328 := by decide

section
variable {H : Type} {enc : TypeId × Value → H} {w : World} {base : Nat} {spare : Nat → Bool} {held : Bool}
/-- A slice whose elements are structs of one-cell fields. -/
theorem open_slice_fields {t e : TypeId} {fs : Array Field} {fuel : Nat} {cs : List Value} {x : DataW H × List MemPlace} (ht : Try.prog.underlying t = some (.slice e)) (he : Try.prog.underlying e = some (.struct fs))
    (hone : oneCellFields Try.prog fs = true) (hC : Try.prog.cellsOf e = fs.size) (hby : 1 ≤ Try.prog.bytesOf e) (hF : Fits t x.1) (h : DataW.trod enc Try.prog w base spare held fuel t cs = some x) :
    cs = [.slice none 0 0] ∨
    ∃ (a : Addr) (len cap : Nat) (D : Nat → DataW H), cs = [.slice (some a) len cap] ∧ len ≤ cap ∧ len ≤ 140737488355328 ∧
      ∀ i, i < len → Fits e (D i) ∧ ∃ ys : List (DataW H × List MemPlace), ∃ n : Nat, D i = .agg (ys.map (·.1)) ∧
        ∀ (j : Nat) (f : Field), fs[j]? = some f → ∃ (v : Value) (y : DataW H × List MemPlace), w.cell? (a.add (i * fs.size + j)) = some v ∧ ys[j]? = some y ∧ Fits f.type y.1 ∧ DataW.trod enc Try.prog w base spare held n f.type [v] = some y := by
  rcases open_slice ht h with ⟨h0, _⟩ | ⟨a, len, cap, m, n, D, Pl, hcs, hb, hl, hm, hmm, hx, hi⟩
  · exact .inl h0
  · rw [hx] at hF
    have hlen := hF.len ht
    have hr := reach_small
    rw [List.length_map, List.length_range] at hlen
    have hlen2 : len * 1 ≤ len * Try.prog.bytesOf e := Nat.mul_le_mul_left _ hby
    refine .inr ⟨a, len, cap, D, hcs, hl, by omega, fun i hil => ?_⟩
    have him : i < m := by rw [hmm]; split <;> omega
    have hFi : Fits e (D i) := hF.elem ht (List.mem_map.2 ⟨i, List.mem_range.2 hil, rfl⟩)
    obtain ⟨cs', hc, ht'⟩ := hi i him
    rw [hC] at hc
    obtain ⟨ys, n', hn', hy, hcl0, hyl, hf⟩ := DataW.trod_struct he ht'
    obtain ⟨_, hcl, hat⟩ := World.cells?_some hc
    simp only [Prod.mk.injEq] at hy
    refine ⟨hFi, ys, n', hy.1, fun j f hj => ?_⟩
    obtain ⟨ho, hk⟩ := hone_of hone j f hj
    have hjl : j < fs.size := (Array.getElem?_eq_some_iff.1 hj).1
    have hcell := hat j hjl
    have hv : cs'[j]? = some (cs'[j]'(by omega)) := List.getElem?_eq_getElem (by omega)
    have h1 := hf j f hj
    rw [ho, hk] at h1
    have hone' : (cs'.drop j).take 1 = [cs'[j]'(by omega)] := by
      rw [List.drop_eq_getElem_cons (by omega)]
      rfl
    rw [hone'] at h1
    have hys : ys[j]? = some (ys[j]'(by omega)) := List.getElem?_eq_getElem (by omega)
    refine ⟨_, _, ?_, hys, ?_, h1.trans hys⟩
    · rw [← Go.Deep.add_add, hcell, hv]
    · rw [hy.1] at hFi
      exact hFi.field he hj (by simp [hyl, hjl])

set_option maxRecDepth 100000 in
/-- A struct of one-cell fields, by value. -/
theorem open_agg_fields {r : Reach} {b0 : Nat} {t : TypeId} {fs : Array Field} {v : Value} {d : DataW H} {p : List MemPlace} (he : Try.prog.underlying t = some (.struct fs)) (hone : oneCellFields Try.prog fs = true) (hC : Try.prog.cellsOf t = fs.size)
    (hF : Fits t d) (hv : Value.okWide Try.prog w r b0 t v) (h : DataW.Trod enc Try.prog w base spare held t v d p) :
    ∃ (cs : Array Value) (n : Nat), v = .agg cs ∧ cs.size = fs.size ∧ ∀ (j : Nat) (f : Field), fs[j]? = some f → ∃ (u : Value) (y : DataW H × List MemPlace), cs[j]? = some u ∧ Fits f.type y.1 ∧ DataW.trod enc Try.prog w base spare held n f.type [u] = some y := by
  obtain ⟨cs, rfl, hsz⟩ := okWide_struct he hv
  obtain ⟨fuel, hf0⟩ := h
  obtain ⟨ys, n', hn', hy, hcl0, hyl, hf⟩ := DataW.trod_struct he hf0
  simp only [Prod.mk.injEq] at hy
  have hcs : (Value.agg cs).cells.toList = cs.toList := rfl
  refine ⟨cs, n', rfl, hsz.trans hC, fun j f hj => ?_⟩
  obtain ⟨ho, hk⟩ := hone_of hone j f hj
  have hjl : j < fs.size := (Array.getElem?_eq_some_iff.1 hj).1
  have hjc : j < cs.size := by rw [hsz, hC]; exact hjl
  have h1 := hf j f hj
  rw [ho, hk] at h1
  have hone' : ((Value.agg cs).cells.toList.drop j).take 1 = [cs[j]] := by
    rw [hcs, List.drop_eq_getElem_cons (by simpa using hjc)]
    rfl
  rw [hone'] at h1
  have hys : ys[j]? = some (ys[j]'(by omega)) := List.getElem?_eq_getElem (by omega)
  rw [hy.1] at hF
  exact ⟨_, _, Array.getElem?_eq_getElem hjc, hF.field he hj (by simp [hyl, hjl]), h1.trans hys⟩
end

theorem list_of {α : Type} : ∀ (len : Nat) (p : Nat → α → Prop), (∀ i, i < len → ∃ x, p i x) → ∃ xs : List α, xs.length = len ∧ ∀ i x, xs[i]? = some x → p i x
  | 0, _, _ => ⟨[], rfl, fun i x h => by simp at h⟩
  | len + 1, p, h => by
    obtain ⟨xs, h1, h2⟩ := list_of len p (fun i hi => h i (by omega))
    obtain ⟨x, hx⟩ := h len (by omega)
    refine ⟨xs ++ [x], by simp [h1], fun i y hy => ?_⟩
    rcases Nat.lt_or_ge i xs.length with hl | hl
    · rw [List.getElem?_append_left hl] at hy
      exact h2 i y hy
    · rw [List.getElem?_append_right hl] at hy
      have h3 : i - xs.length = 0 := by
        have := (List.getElem?_eq_some_iff.1 hy).1
        simp at this
        omega
      rw [h3] at hy
      simp at hy
      subst hy
      have : i = len := by omega
      subst this
      exact hx

/-- Cells that are there lie in a plain address. -/
theorem rowAt_mk {w : World} {a : Addr} {k len cap : Nat} {f : Nat → Nat → Value} (hk : 0 < k) (hl : len ≤ cap) (hm : len ≤ 140737488355328) (hc : ∀ i j, i < len → j < k → w.cell? (a.add (i * k + j)) = some (f i j)) : RowAt w (.slice (some a) len cap) k len f := by
  refine ⟨some a, cap, rfl, hl, by omega, fun h0 => ?_⟩
  obtain ⟨b, o, spot⟩ := a
  have hspot : spot = none := by
    have e : (⟨b, o, spot⟩ : Addr).add (0 * k + 0) = ⟨b, o, spot⟩ := by simp [Addr.add]
    have := hc 0 0 h0 hk
    rw [e] at this
    simpa using World.cell?_spot this
  subst hspot
  exact ⟨b, o, rfl, fun i j hi hj => by have := hc i j hi hj; rw [add_plain] at this; rw [Nat.add_assoc]; exact this⟩
theorem rowAt_nil (w : World) (k : Nat) (f : Nat → Nat → Value) : RowAt w (.slice none 0 0) k 0 f := ⟨none, 0, rfl, Nat.le_refl _, by omega, fun h => absurd h (by omega)⟩

section
variable {H : Type} {enc : TypeId × Value → H} {w : World} {base : Nat} {spare : Nat → Bool} {held : Bool} {n : Nat} {v : Value} {y : DataW H × List MemPlace}
theorem rd_ints (hF : Fits 24 y.1) (h : DataW.trod enc Try.prog w base spare held n 24 [v] = some y) : ∃ zs, ReadsI w v zs := by
  rcases open_ints Try.underlying24 Try.underlying3 (by kernel_rfl) h with ⟨hcs, _⟩ | ⟨a, len, cap, zs, hcs, _, hl, hm, hz, hx, hcell, _⟩
  · cases hcs
    exact ⟨[], rowAt_nil _ _ _⟩
  · cases hcs
    have hlz : len ≤ zs.length := by rw [hz]; split <;> omega
    rw [hx] at hF
    have hlen := hF.len Try.underlying24
    have hr := reach_small
    rw [show Try.prog.bytesOf 3 = 8 by kernel_rfl] at hlen
    simp only [lits, List.length_map, List.length_take] at hlen
    have hlt : (zs.take len).length = len := by rw [List.length_take]; omega
    refine ⟨zs.take len, ?_⟩
    unfold ReadsI
    rw [hlt]
    refine rowAt_mk (by omega) hl (by omega) fun i j hi hj => ?_
    obtain rfl : j = 0 := by omega
    rw [Nat.mul_one, Nat.add_zero, hcell i (by omega)]
    simp [List.getD, hi]
theorem rd_strs (hF : Fits 31 y.1) (h : DataW.trod enc Try.prog w base spare held n 31 [v] = some y) : ∃ ss, ReadsStr w v ss := by
  rcases open_strs Try.underlying31 Try.underlying9 (by kernel_rfl) h with ⟨hcs, _⟩ | ⟨a, len, cap, m, Sx, hcs, _, hl, hm, hmm, hx, hcell⟩
  · cases hcs
    exact ⟨[], rowAt_nil _ _ _⟩
  · cases hcs
    rw [hx] at hF
    have hlen := hF.len Try.underlying31
    have hr := reach_small
    rw [show Try.prog.bytesOf 9 = 16 by kernel_rfl] at hlen
    simp only [List.length_map, List.length_range] at hlen
    have hlt : ((List.range len).map Sx).length = len := by simp
    refine ⟨(List.range len).map Sx, ?_⟩
    unfold ReadsStr
    rw [hlt]
    refine rowAt_mk (by omega) hl (by omega) fun i j hi hj => ?_
    obtain rfl : j = 0 := by omega
    have him : i < m := by rw [hmm]; split <;> omega
    rw [Nat.mul_one, Nat.add_zero, (hcell i him).1]
    simp [List.getD, hi]
theorem rd_pieces (hF : Fits 23 y.1) (h : DataW.trod enc Try.prog w base spare held n 23 [v] = some y) : ∃ ps, ReadsP w v ps := by
  rcases open_slice_fields Try.underlying23 Try.underlying68 (by kernel_rfl) (by kernel_rfl) (by decide +kernel) hF h with hcs | ⟨a, len, cap, D, hcs, hl, hm, hi⟩
  · cases hcs
    exact ⟨[], rowAt_nil _ _ _⟩
  · cases hcs
    obtain ⟨ps, hpl, hps⟩ := list_of len (fun i (p : Pc) => w.cell? (a.add (i * 2)) = some (.string p.st) ∧ w.cell? (a.add (i * 2 + 1)) = some (.int .i64 p.ix)) fun i hil => by
      obtain ⟨_, ys, n', _, hf⟩ := hi i hil
      obtain ⟨v0, y0, c0, _, _, t0⟩ := hf 0 _ rfl
      obtain ⟨v1, y1, c1, _, _, t1⟩ := hf 1 _ rfl
      obtain ⟨s, e0, _⟩ := DataW.trod_string Try.underlying9 t0
      obtain ⟨x, e1, _⟩ := DataW.trod_int Try.underlying3 t1
      cases e0
      cases e1
      exact ⟨⟨s, x⟩, c0, c1⟩
    refine ⟨ps, ?_⟩
    unfold ReadsP
    rw [hpl]
    refine rowAt_mk (by omega) hl hm fun i j hi' hj => ?_
    obtain ⟨c0, c1⟩ := hps i (ps.getD i default) (by rw [List.getElem?_eq_getElem (by omega), getD_at _ _ _ (by omega)])
    match j, hj with
    | 0, _ => exact c0
    | 1, _ => exact c1
theorem rd_needs (hF : Fits 22 y.1) (h : DataW.trod enc Try.prog w base spare held n 22 [v] = some y) : ∃ ns, ReadsN w v ns := by
  rcases open_slice_fields Try.underlying22 Try.underlying80 (by kernel_rfl) (by kernel_rfl) (by decide +kernel) hF h with hcs | ⟨a, len, cap, D, hcs, hl, hm, hi⟩
  · cases hcs
    exact ⟨[], rowAt_nil _ _ _⟩
  · cases hcs
    obtain ⟨ns, hpl, hps⟩ := list_of len (fun i (p : Nd) => w.cell? (a.add (i * 2)) = some (.string p.st) ∧ w.cell? (a.add (i * 2 + 1)) = some (.int .i64 p.d)) fun i hil => by
      obtain ⟨_, ys, n', _, hf⟩ := hi i hil
      obtain ⟨v0, y0, c0, _, _, t0⟩ := hf 0 _ rfl
      obtain ⟨v1, y1, c1, _, _, t1⟩ := hf 1 _ rfl
      obtain ⟨s, e0, _⟩ := DataW.trod_string Try.underlying9 t0
      obtain ⟨x, e1, _⟩ := DataW.trod_int Try.underlying3 t1
      cases e0
      cases e1
      exact ⟨⟨s, x⟩, c0, c1⟩
    refine ⟨ns, ?_⟩
    unfold ReadsN
    rw [hpl]
    refine rowAt_mk (by omega) hl hm fun i j hi' hj => ?_
    obtain ⟨c0, c1⟩ := hps i (ns.getD i default) (by rw [List.getElem?_eq_getElem (by omega), getD_at _ _ _ (by omega)])
    match j, hj with
    | 0, _ => exact c0
    | 1, _ => exact c1
theorem rd_hds (hF : Fits 27 y.1) (h : DataW.trod enc Try.prog w base spare held n 27 [v] = some y) : ∃ hs, ReadsH w v hs := by
  rcases open_slice_fields Try.underlying27 Try.underlying88 (by kernel_rfl) (by kernel_rfl) (by decide +kernel) hF h with hcs | ⟨a, len, cap, D, hcs, hl, hm, hi⟩
  · cases hcs
    exact ⟨[], rowAt_nil _ _ _, fun x hx => by cases hx⟩
  · cases hcs
    obtain ⟨hs, hpl, hps⟩ := list_of len (fun i (p : Hd) => w.cell? (a.add (i * 4)) = some (.int .i64 p.dev) ∧ w.cell? (a.add (i * 4 + 1)) = some p.pv ∧ w.cell? (a.add (i * 4 + 2)) = some p.sv ∧ w.cell? (a.add (i * 4 + 3)) = some (.bool p.idx) ∧ HdAt w p) fun i hil => by
      obtain ⟨_, ys, n', _, hf⟩ := hi i hil
      obtain ⟨v0, y0, c0, _, _, t0⟩ := hf 0 _ rfl
      obtain ⟨v1, y1, c1, _, f1, t1⟩ := hf 1 _ rfl
      obtain ⟨v2, y2, c2, _, f2, t2⟩ := hf 2 _ rfl
      obtain ⟨v3, y3, c3, _, _, t3⟩ := hf 3 _ rfl
      obtain ⟨x, e0, _⟩ := DataW.trod_int Try.underlying3 t0
      obtain ⟨ps, hps⟩ := rd_pieces f1 t1
      obtain ⟨zs, hzs⟩ := rd_ints f2 t2
      obtain ⟨b, e3, _⟩ := DataW.trod_bool Try.underlying4 t3
      cases e0
      cases e3
      exact ⟨⟨x, v1, v2, b, ps, zs⟩, c0, c1, c2, c3, hps, hzs⟩
    refine ⟨hs, ?_, fun x hx => ?_⟩
    · rw [hpl]
      refine rowAt_mk (by omega) hl hm fun i j hi' hj => ?_
      obtain ⟨c0, c1, c2, c3, _⟩ := hps i (hs.getD i default) (by rw [List.getElem?_eq_getElem (by omega), getD_at _ _ _ (by omega)])
      match j, hj with
      | 0, _ => exact c0
      | 1, _ => exact c1
      | 2, _ => exact c2
      | 3, _ => exact c3
    · obtain ⟨i, hi', rfl⟩ := List.getElem_of_mem hx
      exact (hps i _ (List.getElem?_eq_getElem hi')).2.2.2.2
theorem rd_files (hF : Fits 28 y.1) (h : DataW.trod enc Try.prog w base spare held n 28 [v] = some y) : ∃ fs, ReadsFl w v fs := by
  rcases open_slice_fields Try.underlying28 Try.underlying45 (by kernel_rfl) (by kernel_rfl) (by decide +kernel) hF h with hcs | ⟨a, len, cap, D, hcs, hl, hm, hi⟩
  · cases hcs
    exact ⟨[], rowAt_nil _ _ _, fun x hx => by cases hx⟩
  · cases hcs
    obtain ⟨fs, hpl, hps⟩ := list_of len (fun i (p : Fl) => w.cell? (a.add (i * 2)) = some (.string p.path) ∧ w.cell? (a.add (i * 2 + 1)) = some p.sv ∧ ReadsStr w p.sv p.ss) fun i hil => by
      obtain ⟨_, ys, n', _, hf⟩ := hi i hil
      obtain ⟨v0, y0, c0, _, _, t0⟩ := hf 0 _ rfl
      obtain ⟨v1, y1, c1, _, f1, t1⟩ := hf 1 _ rfl
      obtain ⟨s, e0, _⟩ := DataW.trod_string Try.underlying9 t0
      obtain ⟨ss, hss⟩ := rd_strs f1 t1
      cases e0
      exact ⟨⟨s, v1, ss⟩, c0, c1, hss⟩
    refine ⟨fs, ?_, fun x hx => ?_⟩
    · rw [hpl]
      refine rowAt_mk (by omega) hl hm fun i j hi' hj => ?_
      obtain ⟨c0, c1, _⟩ := hps i (fs.getD i default) (by rw [List.getElem?_eq_getElem (by omega), getD_at _ _ _ (by omega)])
      match j, hj with
      | 0, _ => exact c0
      | 1, _ => exact c1
    · obtain ⟨i, hi', rfl⟩ := List.getElem_of_mem hx
      exact (hps i _ (List.getElem?_eq_getElem hi')).2.2
end

section
variable {H : Type} {enc : TypeId × Value → H} {w : World} {spare : Nat → Bool} {held : Bool} {r : Reach} {b0 : Nat} {v : Value} {d : DataW H} {p : List MemPlace}
set_option maxRecDepth 100000 in
theorem slice_cells {t e : TypeId} (ht : Try.prog.underlying t = some (.slice e)) (hv : Value.okWide Try.prog w r b0 t v) (h : DataW.Trod enc Try.prog w 0 spare held t v d p) : ∃ n, DataW.trod enc Try.prog w 0 spare held n t [v] = some (d, p) := by
  obtain ⟨a0, len, cap, rfl⟩ := okWide_slice ht hv
  obtain ⟨fuel, hf⟩ := h
  exact ⟨fuel, hf⟩
set_option maxRecDepth 100000 in
theorem arg_ints (hF : Fits 24 d) (hv : Value.okWide Try.prog w r b0 24 v) (h : DataW.Trod enc Try.prog w 0 spare held 24 v d p) : ∃ zs, ReadsI w v zs := by
  obtain ⟨n, hn⟩ := slice_cells Try.underlying24 hv h
  exact rd_ints hF hn
set_option maxRecDepth 100000 in
theorem arg_hds (hF : Fits 27 d) (hv : Value.okWide Try.prog w r b0 27 v) (h : DataW.Trod enc Try.prog w 0 spare held 27 v d p) : ∃ hs, ReadsH w v hs := by
  obtain ⟨n, hn⟩ := slice_cells Try.underlying27 hv h
  exact rd_hds hF hn
set_option maxRecDepth 100000 in
theorem arg_files (hF : Fits 28 d) (hv : Value.okWide Try.prog w r b0 28 v) (h : DataW.Trod enc Try.prog w 0 spare held 28 v d p) : ∃ fs, ReadsFl w v fs := by
  obtain ⟨n, hn⟩ := slice_cells Try.underlying28 hv h
  exact rd_files hF hn
set_option maxRecDepth 100000 in
theorem arg_goal (hF : Fits 26 d) (hv : Value.okWide Try.prog w r b0 26 v) (h : DataW.Trod enc Try.prog w 0 spare held 26 v d p) : ∃ g : Gl, v = g.v ∧ GlAt w g := by
  obtain ⟨cs, n, rfl, hsz, hf⟩ := open_agg_fields Try.underlying26 (by kernel_rfl) (by kernel_rfl) hF hv h
  obtain ⟨v0, y0, c0, f0, t0⟩ := hf 0 _ rfl
  obtain ⟨v1, y1, c1, _, t1⟩ := hf 1 _ rfl
  obtain ⟨v2, y2, c2, _, t2⟩ := hf 2 _ rfl
  obtain ⟨v3, y3, c3, f3, t3⟩ := hf 3 _ rfl
  obtain ⟨v4, y4, c4, f4, t4⟩ := hf 4 _ rfl
  obtain ⟨ns, hns⟩ := rd_needs f0 t0
  obtain ⟨x, e1, _⟩ := DataW.trod_int Try.underlying3 t1
  obtain ⟨b, e2, _⟩ := DataW.trod_bool Try.underlying4 t2
  obtain ⟨ps, hps⟩ := rd_pieces f3 t3
  obtain ⟨zs, hzs⟩ := rd_ints f4 t4
  cases e1
  cases e2
  refine ⟨⟨v0, x, b, v3, v4, ns, ps, zs⟩, ?_, hns, hps, hzs⟩
  unfold Gl.v
  congr 1
  obtain ⟨l⟩ := cs
  have hl : l.length = 5 := hsz
  match l, hl with
  | [u0, u1, u2, u3, u4], _ =>
    cases c0
    cases c1
    cases c2
    cases c3
    cases c4
    rfl
end

end Go.Proofs.Ytapjgjjmlbhanaa
