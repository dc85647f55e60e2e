/- A slice literal of one supply; the rows of holdings and supplies. -/
import Derived.Test.YtapjgjjmlbhanaaC5
namespace Go.Proofs.Ytapjgjjmlbhanaa
open Go.RowKit Go.Lib

set_option maxRecDepth 100000 in
theorem run_buildSup (s : Sup) (W : World) : (Instr.buildSlice 105 1 #[(0, .agg s.cells)]).run Try.prog W = .ok (.slice (some ⟨W.heap.size, 0, none⟩) 1 1) (W.alloc (.cells s.cells 99)) := by
  kernel_rfl

/-- The slice literal, as one step of a region that draws. -/
theorem step_build_sup {ops : Array Oper} {o : Oper} {a : Act} {w : World} {K : Act → World → Prop} {Q : Exit → Act → World → Prop} {E : Prop}
    (hg : o.guard = none) (x : Operand) (hop : o.op = Op.buildSlice 105 1 #[(0, x)]) (s : Sup) (hx : a.eval x = s.v)
    (hK : K (a.put o.dst (.slice (some ⟨w.heap.size, 0, none⟩) 1 1)) (w.alloc (.cells s.cells 99))) : if Region.wanted o (yielded ops a.tmps) = true then Oper.wp Try.prog o a w K Q else E := by
  have hw : Region.wanted o (yielded ops a.tmps) = true := by simp [Region.wanted, hg]
  have hr := run_buildSup s w
  rw [if_pos hw]
  unfold Oper.wp execOp
  have hx' : (#[(0, x)].map fun (i, y) => (i, a.eval y) : Array (Nat × Value)) = #[(0, .agg s.cells)] := by simp [hx, Sup.v]
  simp only [hop, Sem.run_bind, hx', hr, Result.andThen_ok]
  exact hK

theorem info88 : (Try.prog.info? 88).map (fun i => (i.zero, i.size, i.bytes)) = some (some (.agg #[.int .i64 0, .slice none 0 0, .slice none 0 0, .bool false]), 4, 64) := by kernel_rfl
theorem info99' : (Try.prog.info? 99).map (fun i => (i.zero, i.size, i.bytes)) = some (some (.agg (zeroS false).cells), 69, 168) := by kernel_rfl

end Go.Proofs.Ytapjgjjmlbhanaa
