/- Jobs that are read as arguments. -/
import Derived.Test.YtijcicgbhcphjaaO1
namespace Go.Proofs.Ytijcicgbhcphjaa
open Go.ChangeShapes Go.WideShapes Go.ChangeAt Go.RowKit Go.Deep Go.Joins
set_option linter.unusedSimpArgs false

section
variable {H : Type} {enc : TypeId × Value → H} {w : World} {base : Nat} {spare : Nat → Bool} {held : Bool} {n : Nat} {v : Value} {y : DataW H × List MemPlace}
set_option maxRecDepth 100000 in
theorem rd_jobs (hF : FitsD 35 y.1) (h : DataW.trod enc Try.prog w base spare held n 35 [v] = some y) : ∃ js, ReadsJ w v js := by
  rcases open_slice_len Try.underlying35 (by decide +kernel) hF h with hcs | ⟨a, len, cap, hcs, hl, hm, hi⟩
  · cases hcs
    exact ⟨[], [], rfl, rowAt_nil _ _ _, fun i hi => by simp at hi⟩
  · cases hcs
    rw [show Try.prog.cellsOf 47 = 5 by kernel_rfl] at hi
    obtain ⟨ps, hpl, hps⟩ := list_of len (fun i (p : Jp × Value) => (w.cell? (a.add (i * 5)) = some (.string p.1.pc.st) ∧ w.cell? (a.add (i * 5 + 1)) = some (.int .i64 p.1.pc.ix) ∧ w.cell? (a.add (i * 5 + 2)) = some p.2 ∧ w.cell? (a.add (i * 5 + 3)) = some (.int .i64 p.1.to) ∧
      w.cell? (a.add (i * 5 + 4)) = some (.int .i64 p.1.size)) ∧ ReadsI w p.2 p.1.from_) fun i hil => by
      obtain ⟨cs', d, n', hcl, hat, hFd, ht⟩ := hi i hil
      match cs', hcl with
      | [u0, u1, u2, u3, u4], _ =>
        obtain ⟨ys, n1, _, hy, _, hyl, hf⟩ := DataW.trod_struct Try.underlying47 ht
        have f0 : DataW.trod enc Try.prog w base spare held n1 45 (([u0, u1, u2, u3, u4].drop 0).take (Try.prog.cellsOf 45)) = ys[0]? := hf 0 _ rfl
        have f1 : DataW.trod enc Try.prog w base spare held n1 24 (([u0, u1, u2, u3, u4].drop 2).take (Try.prog.cellsOf 24)) = ys[1]? := hf 1 _ rfl
        have f2 : DataW.trod enc Try.prog w base spare held n1 3 (([u0, u1, u2, u3, u4].drop 3).take (Try.prog.cellsOf 3)) = ys[2]? := hf 2 _ rfl
        have f3 : DataW.trod enc Try.prog w base spare held n1 3 (([u0, u1, u2, u3, u4].drop 4).take (Try.prog.cellsOf 3)) = ys[3]? := hf 3 _ rfl
        rw [show Try.prog.cellsOf 45 = 2 by kernel_rfl] at f0
        rw [show Try.prog.cellsOf 24 = 1 by kernel_rfl] at f1
        rw [show Try.prog.cellsOf 3 = 1 by kernel_rfl] at f2 f3
        have f0 : DataW.trod enc Try.prog w base spare held n1 45 [u0, u1] = ys[0]? := f0
        have f1 : DataW.trod enc Try.prog w base spare held n1 24 [u2] = ys[1]? := f1
        have f2 : DataW.trod enc Try.prog w base spare held n1 3 [u3] = ys[2]? := f2
        have f3 : DataW.trod enc Try.prog w base spare held n1 3 [u4] = ys[3]? := f3
        have hyl2 : ys.length = 4 := hyl
        rw [hy] at hFd
        match ys, hyl2 with
        | [y0, y1, y2, y3], _ =>
          have hF0 : FitsD 45 y0.1 := hFd.field (j := 0) Try.underlying47 rfl rfl
          have hF1 : FitsD 24 y1.1 := hFd.field (j := 1) Try.underlying47 rfl rfl
          obtain ⟨zs, n2, _, hz, _, hzl, hg⟩ := DataW.trod_struct Try.underlying45 (f0.trans rfl)
          have hzl2 : zs.length = 2 := hzl
          match zs, hzl2 with
          | [z0, z1], _ =>
            have g0 : DataW.trod enc Try.prog w base spare held n2 9 (([u0, u1].drop 0).take (Try.prog.cellsOf 9)) = [z0, z1][0]? := hg 0 _ rfl
            have g1 : DataW.trod enc Try.prog w base spare held n2 3 (([u0, u1].drop 1).take (Try.prog.cellsOf 3)) = [z0, z1][1]? := hg 1 _ rfl
            rw [show Try.prog.cellsOf 9 = 1 by kernel_rfl] at g0
            rw [show Try.prog.cellsOf 3 = 1 by kernel_rfl] at g1
            obtain ⟨x0, e0, _⟩ := DataW.trod_string Try.underlying9 (show DataW.trod enc Try.prog w base spare held n2 9 [u0] = some z0 from g0)
            obtain ⟨x1, e1, _⟩ := DataW.trod_int Try.underlying3 (show DataW.trod enc Try.prog w base spare held n2 3 [u1] = some z1 from g1)
            obtain ⟨fs, hfs⟩ := rd_ints hF1 (show DataW.trod enc Try.prog w base spare held n1 24 [u2] = some y1 from f1)
            obtain ⟨x3, e3, _⟩ := DataW.trod_int Try.underlying3 (show DataW.trod enc Try.prog w base spare held n1 3 [u3] = some y2 from f2)
            obtain ⟨x4, e4, _⟩ := DataW.trod_int Try.underlying3 (show DataW.trod enc Try.prog w base spare held n1 3 [u4] = some y3 from f3)
            cases e0; cases e1; cases e3; cases e4
            exact ⟨(⟨⟨x0, x1⟩, fs, x3, x4⟩, u2), ⟨hat 0 (by omega), hat 1 (by omega), hat 2 (by omega), hat 3 (by omega), hat 4 (by omega)⟩, hfs⟩
    have hgd : ∀ i, i < len → ps[i]? = some (ps.getD i (default, undef)) := fun i hi => by rw [List.getElem?_eq_getElem (by omega), getD_at _ _ _ (by omega)]
    have hm1 : ∀ i, i < len → (ps.map (·.1)).getD i default = (ps.getD i (default, undef)).1 := fun i hi => by
      rw [getD_at _ _ _ (by simp; omega), getD_at _ _ _ (by omega), List.getElem_map]
    have hm2 : ∀ i, i < len → (ps.map (·.2)).getD i undef = (ps.getD i (default, undef)).2 := fun i hi => by
      rw [getD_at _ _ _ (by simp; omega), getD_at _ _ _ (by omega), List.getElem_map]
    refine ⟨ps.map (·.1), ps.map (·.2), by simp, ?_, fun i hi => ?_⟩
    · rw [List.length_map, hpl]
      refine rowAt_mk (by omega) hl hm fun i j hi' hj => ?_
      obtain ⟨⟨c0, c1, c2, c3, c4⟩, _⟩ := hps i _ (hgd i hi')
      unfold jpCell
      rw [hm1 i hi', hm2 i hi']
      match j, hj with
      | 0, _ => exact c0
      | 1, _ => exact c1
      | 2, _ => exact c2
      | 3, _ => exact c3
      | 4, _ => exact c4
    · rw [List.length_map, hpl] at hi
      rw [hm1 i hi, hm2 i hi]
      exact (hps i _ (hgd i hi)).2
end

section
variable {H : Type} {enc : TypeId × Value → H} {w : World} {spare : Nat → Bool} {held : Bool} {v : Value} {d : DataW H} {p : List MemPlace} {r : Reach} {b0 : Nat}
set_option maxRecDepth 100000 in
theorem arg_jobs (hF : FitsD 35 d) (hv : Value.okWide Try.prog w r b0 35 v) (h : DataW.Trod enc Try.prog w 0 spare held 35 v d p) : ∃ js, ReadsJ w v js := by
  obtain ⟨n, hn⟩ := slice_cells Try.underlying35 hv h
  exact rd_jobs hF hn
end

end Go.Proofs.Ytijcicgbhcphjaa
