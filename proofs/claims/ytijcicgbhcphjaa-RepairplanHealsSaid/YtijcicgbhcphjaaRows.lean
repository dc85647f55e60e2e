/-
  No cell of these rows narrows 'for every input' (looked for: loops, veiled, ifaces, maps, wideKeys, modest, calm, conditions, laid).
  DERIVED. THE GIVEN ROWS OF THIS SEAT. 9 by the template 'for every input the law returns true; each argument reads behind the call as it read before'; 0 by the template 'total and deterministic' (their statements: YtijcicgbhcphjaaTotals.lean).
  GIVEN WITH THE SEED: the statements are not yours to turn. If you find one false, say at which input.
  Laid BY PROGRAM, IN A SANDBOX (cutbox-rows.mjs): the forced cells as the released guide's own fill.sh prints them over the translation 3822163bfbd45fbf… (all of the seat's roots in one cut). By AI agents, Wed Nov 11 2026. No macro, syntax, notation, axiom, sorry.
-/
import Derived.Test.YtijcicgbhcphjaaChecked
import GoSem.Claim
import GoSem.ClaimJoined
import GoSem.ClaimMapViews
import Derived.JoinedTies
import Derived.KernelRfl
namespace Go.Proofs.Ytijcicgbhcphjaa
/- THE CELL 'sum', in the pinned program and in every row, IS THE sha256 OF THE DUMP (.gsa) THAT YtijcicgbhcphjaaProg.lean LOADS. Nothing in Lean hashes anything: it is a label: what it is worth is what the hold of that sum in a sandbox is worth. -/
noncomputable def Try.pinned : Pinned := { name := "ytijcicgbhcphjaa", sum := "3822163bfbd45fbf7f1d57594ce4d42b53b77572368daf8edb0e7f3a34980401", checked := Try.checked }
namespace Rows
def none {H : Type} : Left H := { results := [], args := [] }

/-- 'kinkeeplaw50.RepairplanValid': WHATEVER THE INPUT: true; the input reads as it did. -/
def repairplanValidSpec : ChangeSpec := { name := "repairplanValid", fn := fun _ => fun
  | [d] => { results := [.lit (.bool true)], args := [d] }
  | _ => none }
def repairplanValidRow : OpenClaim := { program := "ytijcicgbhcphjaa", sum := "3822163bfbd45fbf7f1d57594ce4d42b53b77572368daf8edb0e7f3a34980401", func := "kinkeep/kinkeeplaw50.RepairplanValid", spec := "repairplanValid", unfollowed := true, recurses := true, apart := false }
def RepairplanValidSaid : Prop := repairplanValidRow.holds Try.pinned (OpenSpec.ofChange repairplanValidSpec)

/-- ITS FALSE NEIGHBOUR: 'it returns false'. Refute it at one input. -/
def repairplanValidWrong : ChangeSpec := { name := "repairplanValid", fn := fun _ => fun
  | [d] => { results := [.lit (.bool false)], args := [d] }
  | _ => none }
def RepairplanValidWrongFalsely : Prop := repairplanValidRow.holds Try.pinned (OpenSpec.ofChange repairplanValidWrong)

/-- 'kinkeeplaw50.RepairplanPlans': WHATEVER THE INPUT: true; the input reads as it did. -/
def repairplanPlansSpec : ChangeSpec := { name := "repairplanPlans", fn := fun _ => fun
  | [d1, d2] => { results := [.lit (.bool true)], args := [d1, d2] }
  | _ => none }
def repairplanPlansRow : OpenClaim := { program := "ytijcicgbhcphjaa", sum := "3822163bfbd45fbf7f1d57594ce4d42b53b77572368daf8edb0e7f3a34980401", func := "kinkeep/kinkeeplaw50.RepairplanPlans", spec := "repairplanPlans", unfollowed := true, recurses := true, apart := false }
def RepairplanPlansSaid : Prop := repairplanPlansRow.holds Try.pinned (OpenSpec.ofChange repairplanPlansSpec)

/-- ITS FALSE NEIGHBOUR: 'it returns false'. Refute it at one input. -/
def repairplanPlansWrong : ChangeSpec := { name := "repairplanPlans", fn := fun _ => fun
  | [d1, d2] => { results := [.lit (.bool false)], args := [d1, d2] }
  | _ => none }
def RepairplanPlansWrongFalsely : Prop := repairplanPlansRow.holds Try.pinned (OpenSpec.ofChange repairplanPlansWrong)

/-- 'kinkeeplaw50.RepairplanPossible': WHATEVER THE INPUT: true; the input reads as it did. -/
def repairplanPossibleSpec : ChangeSpec := { name := "repairplanPossible", fn := fun _ => fun
  | [d1, d2] => { results := [.lit (.bool true)], args := [d1, d2] }
  | _ => none }
def repairplanPossibleRow : OpenClaim := { program := "ytijcicgbhcphjaa", sum := "3822163bfbd45fbf7f1d57594ce4d42b53b77572368daf8edb0e7f3a34980401", func := "kinkeep/kinkeeplaw50.RepairplanPossible", spec := "repairplanPossible", unfollowed := true, recurses := true, apart := false }
def RepairplanPossibleSaid : Prop := repairplanPossibleRow.holds Try.pinned (OpenSpec.ofChange repairplanPossibleSpec)

/-- ITS FALSE NEIGHBOUR: 'it returns false'. Refute it at one input. -/
def repairplanPossibleWrong : ChangeSpec := { name := "repairplanPossible", fn := fun _ => fun
  | [d1, d2] => { results := [.lit (.bool false)], args := [d1, d2] }
  | _ => none }
def RepairplanPossibleWrongFalsely : Prop := repairplanPossibleRow.holds Try.pinned (OpenSpec.ofChange repairplanPossibleWrong)

/-- 'kinkeeplaw50.RepairplanLosses': WHATEVER THE INPUT: true; the input reads as it did. -/
def repairplanLossesSpec : ChangeSpec := { name := "repairplanLosses", fn := fun _ => fun
  | [d1, d2] => { results := [.lit (.bool true)], args := [d1, d2] }
  | _ => none }
def repairplanLossesRow : OpenClaim := { program := "ytijcicgbhcphjaa", sum := "3822163bfbd45fbf7f1d57594ce4d42b53b77572368daf8edb0e7f3a34980401", func := "kinkeep/kinkeeplaw50.RepairplanLosses", spec := "repairplanLosses", unfollowed := true, recurses := true, apart := false }
def RepairplanLossesSaid : Prop := repairplanLossesRow.holds Try.pinned (OpenSpec.ofChange repairplanLossesSpec)

/-- ITS FALSE NEIGHBOUR: 'it returns false'. Refute it at one input. -/
def repairplanLossesWrong : ChangeSpec := { name := "repairplanLosses", fn := fun _ => fun
  | [d1, d2] => { results := [.lit (.bool false)], args := [d1, d2] }
  | _ => none }
def RepairplanLossesWrongFalsely : Prop := repairplanLossesRow.holds Try.pinned (OpenSpec.ofChange repairplanLossesWrong)

/-- 'kinkeeplaw50.RepairplanApply': WHATEVER THE INPUT: true; the input reads as it did. -/
def repairplanApplySpec : ChangeSpec := { name := "repairplanApply", fn := fun _ => fun
  | [d1, d2, d3] => { results := [.lit (.bool true)], args := [d1, d2, d3] }
  | _ => none }
def repairplanApplyRow : OpenClaim := { program := "ytijcicgbhcphjaa", sum := "3822163bfbd45fbf7f1d57594ce4d42b53b77572368daf8edb0e7f3a34980401", func := "kinkeep/kinkeeplaw50.RepairplanApply", spec := "repairplanApply", unfollowed := true, recurses := true, apart := false }
def RepairplanApplySaid : Prop := repairplanApplyRow.holds Try.pinned (OpenSpec.ofChange repairplanApplySpec)

/-- ITS FALSE NEIGHBOUR: 'it returns false'. Refute it at one input. -/
def repairplanApplyWrong : ChangeSpec := { name := "repairplanApply", fn := fun _ => fun
  | [d1, d2, d3] => { results := [.lit (.bool false)], args := [d1, d2, d3] }
  | _ => none }
def RepairplanApplyWrongFalsely : Prop := repairplanApplyRow.holds Try.pinned (OpenSpec.ofChange repairplanApplyWrong)

/-- 'kinkeeplaw50.RepairplanLeast': WHATEVER THE INPUT: true; the input reads as it did. -/
def repairplanLeastSpec : ChangeSpec := { name := "repairplanLeast", fn := fun _ => fun
  | [d1, d2] => { results := [.lit (.bool true)], args := [d1, d2] }
  | _ => none }
def repairplanLeastRow : OpenClaim := { program := "ytijcicgbhcphjaa", sum := "3822163bfbd45fbf7f1d57594ce4d42b53b77572368daf8edb0e7f3a34980401", func := "kinkeep/kinkeeplaw50.RepairplanLeast", spec := "repairplanLeast", unfollowed := true, recurses := true, apart := false }
def RepairplanLeastSaid : Prop := repairplanLeastRow.holds Try.pinned (OpenSpec.ofChange repairplanLeastSpec)

/-- ITS FALSE NEIGHBOUR: 'it returns false'. Refute it at one input. -/
def repairplanLeastWrong : ChangeSpec := { name := "repairplanLeast", fn := fun _ => fun
  | [d1, d2] => { results := [.lit (.bool false)], args := [d1, d2] }
  | _ => none }
def RepairplanLeastWrongFalsely : Prop := repairplanLeastRow.holds Try.pinned (OpenSpec.ofChange repairplanLeastWrong)

/-- 'kinkeeplaw50.RepairplanCost': WHATEVER THE INPUT: true; the input reads as it did. -/
def repairplanCostSpec : ChangeSpec := { name := "repairplanCost", fn := fun _ => fun
  | [d1, d2] => { results := [.lit (.bool true)], args := [d1, d2] }
  | _ => none }
def repairplanCostRow : OpenClaim := { program := "ytijcicgbhcphjaa", sum := "3822163bfbd45fbf7f1d57594ce4d42b53b77572368daf8edb0e7f3a34980401", func := "kinkeep/kinkeeplaw50.RepairplanCost", spec := "repairplanCost", unfollowed := true, recurses := true, apart := false }
def RepairplanCostSaid : Prop := repairplanCostRow.holds Try.pinned (OpenSpec.ofChange repairplanCostSpec)

/-- ITS FALSE NEIGHBOUR: 'it returns false'. Refute it at one input. -/
def repairplanCostWrong : ChangeSpec := { name := "repairplanCost", fn := fun _ => fun
  | [d1, d2] => { results := [.lit (.bool false)], args := [d1, d2] }
  | _ => none }
def RepairplanCostWrongFalsely : Prop := repairplanCostRow.holds Try.pinned (OpenSpec.ofChange repairplanCostWrong)

/-- 'kinkeeplaw50.RepairplanNext': WHATEVER THE INPUT: true; the input reads as it did. -/
def repairplanNextSpec : ChangeSpec := { name := "repairplanNext", fn := fun _ => fun
  | [d1, d2, d3, d4, d5] => { results := [.lit (.bool true)], args := [d1, d2, d3, d4, d5] }
  | _ => none }
def repairplanNextRow : OpenClaim := { program := "ytijcicgbhcphjaa", sum := "3822163bfbd45fbf7f1d57594ce4d42b53b77572368daf8edb0e7f3a34980401", func := "kinkeep/kinkeeplaw50.RepairplanNext", spec := "repairplanNext", unfollowed := true, recurses := true, apart := false }
def RepairplanNextSaid : Prop := repairplanNextRow.holds Try.pinned (OpenSpec.ofChange repairplanNextSpec)

/-- ITS FALSE NEIGHBOUR: 'it returns false'. Refute it at one input. -/
def repairplanNextWrong : ChangeSpec := { name := "repairplanNext", fn := fun _ => fun
  | [d1, d2, d3, d4, d5] => { results := [.lit (.bool false)], args := [d1, d2, d3, d4, d5] }
  | _ => none }
def RepairplanNextWrongFalsely : Prop := repairplanNextRow.holds Try.pinned (OpenSpec.ofChange repairplanNextWrong)

/-- 'kinkeeplaw50.RepairplanHeals': WHATEVER THE INPUT: true; the input reads as it did. -/
def repairplanHealsSpec : ChangeSpec := { name := "repairplanHeals", fn := fun _ => fun
  | [d1, d2] => { results := [.lit (.bool true)], args := [d1, d2] }
  | _ => none }
def repairplanHealsRow : OpenClaim := { program := "ytijcicgbhcphjaa", sum := "3822163bfbd45fbf7f1d57594ce4d42b53b77572368daf8edb0e7f3a34980401", func := "kinkeep/kinkeeplaw50.RepairplanHeals", spec := "repairplanHeals", unfollowed := true, recurses := true, apart := false }
def RepairplanHealsSaid : Prop := repairplanHealsRow.holds Try.pinned (OpenSpec.ofChange repairplanHealsSpec)

/-- ITS FALSE NEIGHBOUR: 'it returns false'. Refute it at one input. -/
def repairplanHealsWrong : ChangeSpec := { name := "repairplanHeals", fn := fun _ => fun
  | [d1, d2] => { results := [.lit (.bool false)], args := [d1, d2] }
  | _ => none }
def RepairplanHealsWrongFalsely : Prop := repairplanHealsRow.holds Try.pinned (OpenSpec.ofChange repairplanHealsWrong)

/- THE SECOND FORM. 'bulk': how many values and letters a reading holds, each counted each time it is reached (what is shared counts as often as it is met; a slice's spare places count too). A statement '..UptoSaid' is the law's where the arguments, and the package variables that the reading takes, are together of bulk at most 1048576: NARROWER than '..Said'. Prove '..Said' where nothing that the law and all that it calls make is longer than what came in: it says more and counts as full. Else prove '..UptoSaid'. A law counts once. -/
mutual
def uptoBulk {H : Type} : DataW H → Nat
  | .lit (.string bytes) => bytes.length + 1
  | .lit _ => 1
  | .nil => 1
  | .ptr d => uptoBulk d + 1
  | .slice elems spare => uptoBulkAll elems + uptoBulkAll spare + 1
  | .agg parts => uptoBulkAll parts + 1
  | .iface _ d => uptoBulk d + 1
  | .map entries => uptoBulkEntries entries + 1
  | .held _ => 1
def uptoBulkAll {H : Type} : List (DataW H) → Nat
  | [] => 0
  | d :: r => uptoBulk d + uptoBulkAll r
def uptoBulkEntries {H : Type} : List (Lit × DataW H) → Nat
  | [] => 0
  | x :: r => uptoBulkEntry x + uptoBulkEntries r
def uptoBulkEntry {H : Type} : Lit × DataW H → Nat
  | (.string bytes, d) => bytes.length + uptoBulk d + 1
  | (_, d) => uptoBulk d + 1
 end
def uptoSmall : (H : Type) → List (DataW H) → Bool := fun _ ds => decide (uptoBulkAll ds ≤ 1048576)
def OpenSpec.upto (s : _root_.Go.ChangeSpec) : _root_.Go.OpenSpec := { _root_.Go.OpenSpec.ofChange s with cond := some uptoSmall }

/-- 'kinkeeplaw50.RepairplanValid', WHERE WHAT IT READS IS OF BULK AT MOST 1048576: true; the input reads as it did. -/
def repairplanValidUptoRow : OpenClaim := { program := "ytijcicgbhcphjaa", sum := "3822163bfbd45fbf7f1d57594ce4d42b53b77572368daf8edb0e7f3a34980401", func := "kinkeep/kinkeeplaw50.RepairplanValid", spec := "repairplanValid", unfollowed := true, recurses := true, apart := false, narrowed := true }
def RepairplanValidUptoSaid : Prop := repairplanValidUptoRow.holds Try.pinned (OpenSpec.upto repairplanValidSpec)

/-- 'kinkeeplaw50.RepairplanPlans', WHERE WHAT IT READS IS OF BULK AT MOST 1048576: true; the input reads as it did. -/
def repairplanPlansUptoRow : OpenClaim := { program := "ytijcicgbhcphjaa", sum := "3822163bfbd45fbf7f1d57594ce4d42b53b77572368daf8edb0e7f3a34980401", func := "kinkeep/kinkeeplaw50.RepairplanPlans", spec := "repairplanPlans", unfollowed := true, recurses := true, apart := false, narrowed := true }
def RepairplanPlansUptoSaid : Prop := repairplanPlansUptoRow.holds Try.pinned (OpenSpec.upto repairplanPlansSpec)

/-- 'kinkeeplaw50.RepairplanPossible', WHERE WHAT IT READS IS OF BULK AT MOST 1048576: true; the input reads as it did. -/
def repairplanPossibleUptoRow : OpenClaim := { program := "ytijcicgbhcphjaa", sum := "3822163bfbd45fbf7f1d57594ce4d42b53b77572368daf8edb0e7f3a34980401", func := "kinkeep/kinkeeplaw50.RepairplanPossible", spec := "repairplanPossible", unfollowed := true, recurses := true, apart := false, narrowed := true }
def RepairplanPossibleUptoSaid : Prop := repairplanPossibleUptoRow.holds Try.pinned (OpenSpec.upto repairplanPossibleSpec)

/-- 'kinkeeplaw50.RepairplanLosses', WHERE WHAT IT READS IS OF BULK AT MOST 1048576: true; the input reads as it did. -/
def repairplanLossesUptoRow : OpenClaim := { program := "ytijcicgbhcphjaa", sum := "3822163bfbd45fbf7f1d57594ce4d42b53b77572368daf8edb0e7f3a34980401", func := "kinkeep/kinkeeplaw50.RepairplanLosses", spec := "repairplanLosses", unfollowed := true, recurses := true, apart := false, narrowed := true }
def RepairplanLossesUptoSaid : Prop := repairplanLossesUptoRow.holds Try.pinned (OpenSpec.upto repairplanLossesSpec)

/-- 'kinkeeplaw50.RepairplanApply', WHERE WHAT IT READS IS OF BULK AT MOST 1048576: true; the input reads as it did. -/
def repairplanApplyUptoRow : OpenClaim := { program := "ytijcicgbhcphjaa", sum := "3822163bfbd45fbf7f1d57594ce4d42b53b77572368daf8edb0e7f3a34980401", func := "kinkeep/kinkeeplaw50.RepairplanApply", spec := "repairplanApply", unfollowed := true, recurses := true, apart := false, narrowed := true }
def RepairplanApplyUptoSaid : Prop := repairplanApplyUptoRow.holds Try.pinned (OpenSpec.upto repairplanApplySpec)

/-- 'kinkeeplaw50.RepairplanLeast', WHERE WHAT IT READS IS OF BULK AT MOST 1048576: true; the input reads as it did. -/
def repairplanLeastUptoRow : OpenClaim := { program := "ytijcicgbhcphjaa", sum := "3822163bfbd45fbf7f1d57594ce4d42b53b77572368daf8edb0e7f3a34980401", func := "kinkeep/kinkeeplaw50.RepairplanLeast", spec := "repairplanLeast", unfollowed := true, recurses := true, apart := false, narrowed := true }
def RepairplanLeastUptoSaid : Prop := repairplanLeastUptoRow.holds Try.pinned (OpenSpec.upto repairplanLeastSpec)

/-- 'kinkeeplaw50.RepairplanCost', WHERE WHAT IT READS IS OF BULK AT MOST 1048576: true; the input reads as it did. -/
def repairplanCostUptoRow : OpenClaim := { program := "ytijcicgbhcphjaa", sum := "3822163bfbd45fbf7f1d57594ce4d42b53b77572368daf8edb0e7f3a34980401", func := "kinkeep/kinkeeplaw50.RepairplanCost", spec := "repairplanCost", unfollowed := true, recurses := true, apart := false, narrowed := true }
def RepairplanCostUptoSaid : Prop := repairplanCostUptoRow.holds Try.pinned (OpenSpec.upto repairplanCostSpec)

/-- 'kinkeeplaw50.RepairplanNext', WHERE WHAT IT READS IS OF BULK AT MOST 1048576: true; the input reads as it did. -/
def repairplanNextUptoRow : OpenClaim := { program := "ytijcicgbhcphjaa", sum := "3822163bfbd45fbf7f1d57594ce4d42b53b77572368daf8edb0e7f3a34980401", func := "kinkeep/kinkeeplaw50.RepairplanNext", spec := "repairplanNext", unfollowed := true, recurses := true, apart := false, narrowed := true }
def RepairplanNextUptoSaid : Prop := repairplanNextUptoRow.holds Try.pinned (OpenSpec.upto repairplanNextSpec)

/-- 'kinkeeplaw50.RepairplanHeals', WHERE WHAT IT READS IS OF BULK AT MOST 1048576: true; the input reads as it did. -/
def repairplanHealsUptoRow : OpenClaim := { program := "ytijcicgbhcphjaa", sum := "3822163bfbd45fbf7f1d57594ce4d42b53b77572368daf8edb0e7f3a34980401", func := "kinkeep/kinkeeplaw50.RepairplanHeals", spec := "repairplanHeals", unfollowed := true, recurses := true, apart := false, narrowed := true }
def RepairplanHealsUptoSaid : Prop := repairplanHealsUptoRow.holds Try.pinned (OpenSpec.upto repairplanHealsSpec)

end Rows
end Go.Proofs.Ytijcicgbhcphjaa
