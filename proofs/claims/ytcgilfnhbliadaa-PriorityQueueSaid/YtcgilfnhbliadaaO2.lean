/- Arguments that are read: a slice of a queue's calls. -/
import Derived.Test.YtcgilfnhbliadaaO1
namespace Go.Proofs.Ytcgilfnhbliadaa
open Go.ChangeShapes Go.WideShapes Go.ChangeAt Go.RowKit Go.Deep Go.Joins
set_option linter.unusedSimpArgs false

/-- A call on a queue. -/
structure Qo where
  kind : Int
  t : Tk
  room : Int
instance : Inhabited Qo := ⟨⟨0, default, 0⟩⟩
def qoCell (os : List Qo) (i j : Nat) : Value := match j with
  | 0 => .int .i64 (os.getD i default).kind
  | 1 => .string (os.getD i default).t.st | 2 => .int .i64 (os.getD i default).t.ix | 3 => .int .i64 (os.getD i default).t.size | 4 => .int .i64 (os.getD i default).t.spare
  | 5 => .int .i64 (os.getD i default).t.num | 6 => .int .i64 (os.getD i default).t.den | 7 => .int .i64 (os.getD i default).t.day
  | _ => .int .i64 (os.getD i default).room
def ReadsO (w : World) (v : Value) (os : List Qo) : Prop := RowAt w v 9 os.length (qoCell os)
theorem ReadsO.below {w w' : World} {v : Value} {os : List Qo} (h : ReadsO w v os) (hb : Below w.heap.size w w') : ReadsO w' v os := RowAt.below h hb
theorem ReadsO.at {w : World} {v : Value} {os : List Qo} (h : ReadsO w v os) : ∃ ao c b off, v = .slice ao os.length c ∧ os.length ≤ c ∧ os.length ≤ 4611686018427387904 ∧
    ∀ i, i < os.length → ao = some ⟨b, off, none⟩ ∧ w.cell? ⟨b, off + i * 9, none⟩ = some (.int .i64 (os.getD i default).kind) ∧ w.cell? ⟨b, off + i * 9 + 1, none⟩ = some (.string (os.getD i default).t.st) ∧ w.cell? ⟨b, off + i * 9 + 2, none⟩ = some (.int .i64 (os.getD i default).t.ix) ∧
      w.cell? ⟨b, off + i * 9 + 3, none⟩ = some (.int .i64 (os.getD i default).t.size) ∧ w.cell? ⟨b, off + i * 9 + 4, none⟩ = some (.int .i64 (os.getD i default).t.spare) ∧ w.cell? ⟨b, off + i * 9 + 5, none⟩ = some (.int .i64 (os.getD i default).t.num) ∧
      w.cell? ⟨b, off + i * 9 + 6, none⟩ = some (.int .i64 (os.getD i default).t.den) ∧ w.cell? ⟨b, off + i * 9 + 7, none⟩ = some (.int .i64 (os.getD i default).t.day) ∧ w.cell? ⟨b, off + i * 9 + 8, none⟩ = some (.int .i64 (os.getD i default).room) := by
  obtain ⟨ao, c, b, off, e, h1, h2, h3⟩ := RowAt.at h
  refine ⟨ao, c, b, off, e, h1, h2, fun i hi => ?_⟩
  obtain ⟨h4, h5⟩ := h3 i hi
  exact ⟨h4, h5 0 (by omega), h5 1 (by omega), h5 2 (by omega), h5 3 (by omega), h5 4 (by omega), h5 5 (by omega), h5 6 (by omega), h5 7 (by omega), h5 8 (by omega)⟩

section
variable {H : Type} {enc : TypeId × Value → H} {w : World} {base : Nat} {spare : Nat → Bool} {held : Bool} {n : Nat} {v : Value} {y : DataW H × List MemPlace}
theorem rd_op {u0 u1 u2 u3 u4 u5 u6 u7 u8 : Value} {d : DataW H × List MemPlace} (h : DataW.trod enc Try.prog w base spare held n 68 [u0, u1, u2, u3, u4, u5, u6, u7, u8] = some d) :
    ∃ q : Qo, u0 = .int .i64 q.kind ∧ u1 = .string q.t.st ∧ u2 = .int .i64 q.t.ix ∧ u3 = .int .i64 q.t.size ∧ u4 = .int .i64 q.t.spare ∧ u5 = .int .i64 q.t.num ∧ u6 = .int .i64 q.t.den ∧ u7 = .int .i64 q.t.day ∧ u8 = .int .i64 q.room := by
  obtain ⟨ys, n1, _, hy, _, hyl, hf⟩ := DataW.trod_struct Try.underlying68 h
  have f0 : DataW.trod enc Try.prog w base spare held n1 3 (([u0, u1, u2, u3, u4, u5, u6, u7, u8].drop 0).take (Try.prog.cellsOf 3)) = ys[0]? := hf 0 _ rfl
  have f1 : DataW.trod enc Try.prog w base spare held n1 27 (([u0, u1, u2, u3, u4, u5, u6, u7, u8].drop 1).take (Try.prog.cellsOf 27)) = ys[1]? := hf 1 _ rfl
  have f2 : DataW.trod enc Try.prog w base spare held n1 3 (([u0, u1, u2, u3, u4, u5, u6, u7, u8].drop 8).take (Try.prog.cellsOf 3)) = ys[2]? := hf 2 _ rfl
  rw [show Try.prog.cellsOf 27 = 7 by kernel_rfl] at f1
  rw [show Try.prog.cellsOf 3 = 1 by kernel_rfl] at f0 f2
  have hyl2 : ys.length = 3 := hyl
  match ys, hyl2 with
  | [y0, y1, y2], _ =>
    obtain ⟨x0, e0, _⟩ := DataW.trod_int Try.underlying3 (show DataW.trod enc Try.prog w base spare held n1 3 [u0] = some y0 from f0)
    obtain ⟨t, e1, e2, e3, e4, e5, e6, e7⟩ := rd_task (show DataW.trod enc Try.prog w base spare held n1 27 [u1, u2, u3, u4, u5, u6, u7] = some y1 from f1)
    obtain ⟨x2, e8, _⟩ := DataW.trod_int Try.underlying3 (show DataW.trod enc Try.prog w base spare held n1 3 [u8] = some y2 from f2)
    cases e0; cases e8
    exact ⟨⟨x0, t, x2⟩, rfl, e1, e2, e3, e4, e5, e6, e7, rfl⟩
set_option maxRecDepth 100000 in
theorem rd_ops (hF : FitsD 66 y.1) (h : DataW.trod enc Try.prog w base spare held n 66 [v] = some y) : ∃ os, ReadsO w v os := by
  rcases open_slice_len Try.underlying66 (by decide +kernel) hF h with hcs | ⟨a, len, cap, hcs, hl, hm, hi⟩
  · cases hcs
    exact ⟨[], rowAt_nil _ _ _⟩
  · cases hcs
    rw [show Try.prog.cellsOf 68 = 9 by kernel_rfl] at hi
    obtain ⟨ps, hpl, hps⟩ := list_of len (fun i (p : Qo) => (w.cell? (a.add (i * 9)) = some (.int .i64 p.kind) ∧ w.cell? (a.add (i * 9 + 1)) = some (.string p.t.st) ∧ w.cell? (a.add (i * 9 + 2)) = some (.int .i64 p.t.ix) ∧ w.cell? (a.add (i * 9 + 3)) = some (.int .i64 p.t.size) ∧ w.cell? (a.add (i * 9 + 4)) = some (.int .i64 p.t.spare) ∧ w.cell? (a.add (i * 9 + 5)) = some (.int .i64 p.t.num) ∧ w.cell? (a.add (i * 9 + 6)) = some (.int .i64 p.t.den) ∧ w.cell? (a.add (i * 9 + 7)) = some (.int .i64 p.t.day) ∧ w.cell? (a.add (i * 9 + 8)) = some (.int .i64 p.room))) fun i hil => by
      obtain ⟨cs', d, n', hcl, hat, hFd, ht⟩ := hi i hil
      match cs', hcl with
      | [u0, u1, u2, u3, u4, u5, u6, u7, u8], _ =>
        obtain ⟨q, rfl, rfl, rfl, rfl, rfl, rfl, rfl, rfl, rfl⟩ := rd_op ht
        exact ⟨q, hat 0 (by omega), hat 1 (by omega), hat 2 (by omega), hat 3 (by omega), hat 4 (by omega), hat 5 (by omega), hat 6 (by omega), hat 7 (by omega), hat 8 (by omega)⟩
    refine ⟨ps, ?_⟩
    unfold ReadsO
    rw [hpl]
    refine rowAt_mk (by omega) hl hm fun i j hi' hj => ?_
    obtain ⟨c0, c1, c2, c3, c4, c5, c6, c7, c8⟩ := hps i (ps.getD i default) (by rw [List.getElem?_eq_getElem (by omega), getD_at _ _ _ (by omega)])
    match j, hj with
    | 0, _ => exact c0
    | 1, _ => exact c1
    | 2, _ => exact c2
    | 3, _ => exact c3
    | 4, _ => exact c4
    | 5, _ => exact c5
    | 6, _ => exact c6
    | 7, _ => exact c7
    | 8, _ => exact c8
end

section
variable {H : Type} {enc : TypeId × Value → H} {w : World} {spare : Nat → Bool} {held : Bool} {v : Value} {d : DataW H} {p : List MemPlace} {r : Reach} {b0 : Nat}
set_option maxRecDepth 100000 in
theorem arg_ops (hF : FitsD 66 d) (hv : Value.okWide Try.prog w r b0 66 v) (h : DataW.Trod enc Try.prog w 0 spare held 66 v d p) : ∃ os, ReadsO w v os := by
  obtain ⟨n, hn⟩ := slice_cells Try.underlying66 hv h
  exact rd_ops hF hn
end

end Go.Proofs.Ytcgilfnhbliadaa
