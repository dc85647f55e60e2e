/-
  No cell of these rows narrows 'for every input' (looked for: loops, veiled, ifaces, maps, wideKeys, modest, calm, conditions, laid).
  DERIVED. THE GIVEN ROWS OF THIS SEAT. 9 by the template 'for every input the law returns true; each argument reads behind the call as it read before'; 0 by the template 'total and deterministic' (their statements: YtcgilfnhbliadaaTotals.lean).
  GIVEN WITH THE SEED: the statements are not yours to turn. If you find one false, say at which input.
  Laid BY PROGRAM, IN A SANDBOX (cutbox-rows.mjs): the forced cells as the released guide's own fill.sh prints them over the translation 26cf2bf31c1eb098… (all of the seat's roots in one cut). By AI agents, Wed Nov 11 2026. No macro, syntax, notation, axiom, sorry.
-/
import Derived.Test.YtcgilfnhbliadaaChecked
import GoSem.Claim
import GoSem.ClaimJoined
import GoSem.ClaimMapViews
import Derived.JoinedTies
import Derived.KernelRfl
namespace Go.Proofs.Ytcgilfnhbliadaa
/- THE CELL 'sum', in the pinned program and in every row, IS THE sha256 OF THE DUMP (.gsa) THAT YtcgilfnhbliadaaProg.lean LOADS. Nothing in Lean hashes anything: it is a label: what it is worth is what the hold of that sum in a sandbox is worth. -/
noncomputable def Try.pinned : Pinned := { name := "ytcgilfnhbliadaa", sum := "26cf2bf31c1eb098e0267c55768e430a7b93cc14cd0e542e551aacc6a95e5ae9", checked := Try.checked }
namespace Rows
def none {H : Type} : Left H := { results := [], args := [] }

/-- 'kinkeeplaw41.PriorityCompare': WHATEVER THE INPUT: true; the input reads as it did. -/
def priorityCompareSpec : ChangeSpec := { name := "priorityCompare", fn := fun _ => fun
  | [d1, d2] => { results := [.lit (.bool true)], args := [d1, d2] }
  | _ => none }
def priorityCompareRow : OpenClaim := { program := "ytcgilfnhbliadaa", sum := "26cf2bf31c1eb098e0267c55768e430a7b93cc14cd0e542e551aacc6a95e5ae9", func := "kinkeep/kinkeeplaw41.PriorityCompare", spec := "priorityCompare", unfollowed := true, recurses := true, plainKeys := false, apart := false }
def PriorityCompareSaid : Prop := priorityCompareRow.holds Try.pinned (OpenSpec.ofChange priorityCompareSpec)

/-- ITS FALSE NEIGHBOUR: 'it returns false'. Refute it at one input. -/
def priorityCompareWrong : ChangeSpec := { name := "priorityCompare", fn := fun _ => fun
  | [d1, d2] => { results := [.lit (.bool false)], args := [d1, d2] }
  | _ => none }
def PriorityCompareWrongFalsely : Prop := priorityCompareRow.holds Try.pinned (OpenSpec.ofChange priorityCompareWrong)

/-- 'kinkeeplaw41.PriorityTotal': WHATEVER THE INPUT: true; the input reads as it did. -/
def priorityTotalSpec : ChangeSpec := { name := "priorityTotal", fn := fun _ => fun
  | [d1, d2, d3] => { results := [.lit (.bool true)], args := [d1, d2, d3] }
  | _ => none }
def priorityTotalRow : OpenClaim := { program := "ytcgilfnhbliadaa", sum := "26cf2bf31c1eb098e0267c55768e430a7b93cc14cd0e542e551aacc6a95e5ae9", func := "kinkeep/kinkeeplaw41.PriorityTotal", spec := "priorityTotal", unfollowed := true, recurses := true, plainKeys := false, apart := false }
def PriorityTotalSaid : Prop := priorityTotalRow.holds Try.pinned (OpenSpec.ofChange priorityTotalSpec)

/-- ITS FALSE NEIGHBOUR: 'it returns false'. Refute it at one input. -/
def priorityTotalWrong : ChangeSpec := { name := "priorityTotal", fn := fun _ => fun
  | [d1, d2, d3] => { results := [.lit (.bool false)], args := [d1, d2, d3] }
  | _ => none }
def PriorityTotalWrongFalsely : Prop := priorityTotalRow.holds Try.pinned (OpenSpec.ofChange priorityTotalWrong)

/-- 'kinkeeplaw41.PriorityCut': WHATEVER THE INPUT: true; the input reads as it did. -/
def priorityCutSpec : ChangeSpec := { name := "priorityCut", fn := fun _ => fun
  | [d1, d2] => { results := [.lit (.bool true)], args := [d1, d2] }
  | _ => none }
def priorityCutRow : OpenClaim := { program := "ytcgilfnhbliadaa", sum := "26cf2bf31c1eb098e0267c55768e430a7b93cc14cd0e542e551aacc6a95e5ae9", func := "kinkeep/kinkeeplaw41.PriorityCut", spec := "priorityCut", unfollowed := true, recurses := true, plainKeys := false, apart := false }
def PriorityCutSaid : Prop := priorityCutRow.holds Try.pinned (OpenSpec.ofChange priorityCutSpec)

/-- ITS FALSE NEIGHBOUR: 'it returns false'. Refute it at one input. -/
def priorityCutWrong : ChangeSpec := { name := "priorityCut", fn := fun _ => fun
  | [d1, d2] => { results := [.lit (.bool false)], args := [d1, d2] }
  | _ => none }
def PriorityCutWrongFalsely : Prop := priorityCutRow.holds Try.pinned (OpenSpec.ofChange priorityCutWrong)

/-- 'kinkeeplaw41.PriorityBounds': WHATEVER THE INPUT: true; the input reads as it did. -/
def priorityBoundsSpec : ChangeSpec := { name := "priorityBounds", fn := fun _ => fun
  | [d1, d2] => { results := [.lit (.bool true)], args := [d1, d2] }
  | _ => none }
def priorityBoundsRow : OpenClaim := { program := "ytcgilfnhbliadaa", sum := "26cf2bf31c1eb098e0267c55768e430a7b93cc14cd0e542e551aacc6a95e5ae9", func := "kinkeep/kinkeeplaw41.PriorityBounds", spec := "priorityBounds", unfollowed := true, recurses := true, plainKeys := false, apart := false }
def PriorityBoundsSaid : Prop := priorityBoundsRow.holds Try.pinned (OpenSpec.ofChange priorityBoundsSpec)

/-- ITS FALSE NEIGHBOUR: 'it returns false'. Refute it at one input. -/
def priorityBoundsWrong : ChangeSpec := { name := "priorityBounds", fn := fun _ => fun
  | [d1, d2] => { results := [.lit (.bool false)], args := [d1, d2] }
  | _ => none }
def PriorityBoundsWrongFalsely : Prop := priorityBoundsRow.holds Try.pinned (OpenSpec.ofChange priorityBoundsWrong)

/-- 'kinkeeplaw41.PriorityOrder': WHATEVER THE INPUT: true; the input reads as it did. -/
def priorityOrderSpec : ChangeSpec := { name := "priorityOrder", fn := fun _ => fun
  | [d] => { results := [.lit (.bool true)], args := [d] }
  | _ => none }
def priorityOrderRow : OpenClaim := { program := "ytcgilfnhbliadaa", sum := "26cf2bf31c1eb098e0267c55768e430a7b93cc14cd0e542e551aacc6a95e5ae9", func := "kinkeep/kinkeeplaw41.PriorityOrder", spec := "priorityOrder", unfollowed := true, recurses := true, plainKeys := false, apart := false }
def PriorityOrderSaid : Prop := priorityOrderRow.holds Try.pinned (OpenSpec.ofChange priorityOrderSpec)

/-- ITS FALSE NEIGHBOUR: 'it returns false'. Refute it at one input. -/
def priorityOrderWrong : ChangeSpec := { name := "priorityOrder", fn := fun _ => fun
  | [d] => { results := [.lit (.bool false)], args := [d] }
  | _ => none }
def PriorityOrderWrongFalsely : Prop := priorityOrderRow.holds Try.pinned (OpenSpec.ofChange priorityOrderWrong)

/-- 'kinkeeplaw41.PriorityMatch': WHATEVER THE INPUT: true; the input reads as it did. -/
def priorityMatchSpec : ChangeSpec := { name := "priorityMatch", fn := fun _ => fun
  | [d1, d2, d3] => { results := [.lit (.bool true)], args := [d1, d2, d3] }
  | _ => none }
def priorityMatchRow : OpenClaim := { program := "ytcgilfnhbliadaa", sum := "26cf2bf31c1eb098e0267c55768e430a7b93cc14cd0e542e551aacc6a95e5ae9", func := "kinkeep/kinkeeplaw41.PriorityMatch", spec := "priorityMatch", unfollowed := true, recurses := true, plainKeys := false, apart := false }
def PriorityMatchSaid : Prop := priorityMatchRow.holds Try.pinned (OpenSpec.ofChange priorityMatchSpec)

/-- ITS FALSE NEIGHBOUR: 'it returns false'. Refute it at one input. -/
def priorityMatchWrong : ChangeSpec := { name := "priorityMatch", fn := fun _ => fun
  | [d1, d2, d3] => { results := [.lit (.bool false)], args := [d1, d2, d3] }
  | _ => none }
def PriorityMatchWrongFalsely : Prop := priorityMatchRow.holds Try.pinned (OpenSpec.ofChange priorityMatchWrong)

/-- 'kinkeeplaw41.PriorityAlone': WHATEVER THE INPUT: true; the input reads as it did. -/
def priorityAloneSpec : ChangeSpec := { name := "priorityAlone", fn := fun _ => fun
  | [d1, d2] => { results := [.lit (.bool true)], args := [d1, d2] }
  | _ => none }
def priorityAloneRow : OpenClaim := { program := "ytcgilfnhbliadaa", sum := "26cf2bf31c1eb098e0267c55768e430a7b93cc14cd0e542e551aacc6a95e5ae9", func := "kinkeep/kinkeeplaw41.PriorityAlone", spec := "priorityAlone", unfollowed := true, recurses := true, plainKeys := false, apart := false }
def PriorityAloneSaid : Prop := priorityAloneRow.holds Try.pinned (OpenSpec.ofChange priorityAloneSpec)

/-- ITS FALSE NEIGHBOUR: 'it returns false'. Refute it at one input. -/
def priorityAloneWrong : ChangeSpec := { name := "priorityAlone", fn := fun _ => fun
  | [d1, d2] => { results := [.lit (.bool false)], args := [d1, d2] }
  | _ => none }
def PriorityAloneWrongFalsely : Prop := priorityAloneRow.holds Try.pinned (OpenSpec.ofChange priorityAloneWrong)

/-- 'kinkeeplaw41.PriorityTakes': WHATEVER THE INPUT: true; the input reads as it did. -/
def priorityTakesSpec : ChangeSpec := { name := "priorityTakes", fn := fun _ => fun
  | [d] => { results := [.lit (.bool true)], args := [d] }
  | _ => none }
def priorityTakesRow : OpenClaim := { program := "ytcgilfnhbliadaa", sum := "26cf2bf31c1eb098e0267c55768e430a7b93cc14cd0e542e551aacc6a95e5ae9", func := "kinkeep/kinkeeplaw41.PriorityTakes", spec := "priorityTakes", unfollowed := true, recurses := true, plainKeys := false, apart := false }
def PriorityTakesSaid : Prop := priorityTakesRow.holds Try.pinned (OpenSpec.ofChange priorityTakesSpec)

/-- ITS FALSE NEIGHBOUR: 'it returns false'. Refute it at one input. -/
def priorityTakesWrong : ChangeSpec := { name := "priorityTakes", fn := fun _ => fun
  | [d] => { results := [.lit (.bool false)], args := [d] }
  | _ => none }
def PriorityTakesWrongFalsely : Prop := priorityTakesRow.holds Try.pinned (OpenSpec.ofChange priorityTakesWrong)

/-- 'kinkeeplaw41.PriorityQueue': WHATEVER THE INPUT: true; the input reads as it did. -/
def priorityQueueSpec : ChangeSpec := { name := "priorityQueue", fn := fun _ => fun
  | [d] => { results := [.lit (.bool true)], args := [d] }
  | _ => none }
def priorityQueueRow : OpenClaim := { program := "ytcgilfnhbliadaa", sum := "26cf2bf31c1eb098e0267c55768e430a7b93cc14cd0e542e551aacc6a95e5ae9", func := "kinkeep/kinkeeplaw41.PriorityQueue", spec := "priorityQueue", unfollowed := true, recurses := true, plainKeys := false, apart := false }
def PriorityQueueSaid : Prop := priorityQueueRow.holds Try.pinned (OpenSpec.ofChange priorityQueueSpec)

/-- ITS FALSE NEIGHBOUR: 'it returns false'. Refute it at one input. -/
def priorityQueueWrong : ChangeSpec := { name := "priorityQueue", fn := fun _ => fun
  | [d] => { results := [.lit (.bool false)], args := [d] }
  | _ => none }
def PriorityQueueWrongFalsely : Prop := priorityQueueRow.holds Try.pinned (OpenSpec.ofChange priorityQueueWrong)

/- THE SECOND FORM. 'bulk': how many values and letters a reading holds, each counted each time it is reached (what is shared counts as often as it is met; a slice's spare places count too). A statement '..UptoSaid' is the law's where the arguments, and the package variables that the reading takes, are together of bulk at most 1048576: NARROWER than '..Said'. Prove '..Said' where nothing that the law and all that it calls make is longer than what came in: it says more and counts as full. Else prove '..UptoSaid'. A law counts once. -/
mutual
def uptoBulk {H : Type} : DataW H → Nat
  | .lit (.string bytes) => bytes.length + 1
  | .lit _ => 1
  | .nil => 1
  | .ptr d => uptoBulk d + 1
  | .slice elems spare => uptoBulkAll elems + uptoBulkAll spare + 1
  | .agg parts => uptoBulkAll parts + 1
  | .iface _ d => uptoBulk d + 1
  | .map entries => uptoBulkEntries entries + 1
  | .held _ => 1
def uptoBulkAll {H : Type} : List (DataW H) → Nat
  | [] => 0
  | d :: r => uptoBulk d + uptoBulkAll r
def uptoBulkEntries {H : Type} : List (Lit × DataW H) → Nat
  | [] => 0
  | x :: r => uptoBulkEntry x + uptoBulkEntries r
def uptoBulkEntry {H : Type} : Lit × DataW H → Nat
  | (.string bytes, d) => bytes.length + uptoBulk d + 1
  | (_, d) => uptoBulk d + 1
 end
def uptoSmall : (H : Type) → List (DataW H) → Bool := fun _ ds => decide (uptoBulkAll ds ≤ 1048576)
def OpenSpec.upto (s : _root_.Go.ChangeSpec) : _root_.Go.OpenSpec := { _root_.Go.OpenSpec.ofChange s with cond := some uptoSmall }

/-- 'kinkeeplaw41.PriorityCompare', WHERE WHAT IT READS IS OF BULK AT MOST 1048576: true; the input reads as it did. -/
def priorityCompareUptoRow : OpenClaim := { program := "ytcgilfnhbliadaa", sum := "26cf2bf31c1eb098e0267c55768e430a7b93cc14cd0e542e551aacc6a95e5ae9", func := "kinkeep/kinkeeplaw41.PriorityCompare", spec := "priorityCompare", unfollowed := true, recurses := true, plainKeys := false, apart := false, narrowed := true }
def PriorityCompareUptoSaid : Prop := priorityCompareUptoRow.holds Try.pinned (OpenSpec.upto priorityCompareSpec)

/-- 'kinkeeplaw41.PriorityTotal', WHERE WHAT IT READS IS OF BULK AT MOST 1048576: true; the input reads as it did. -/
def priorityTotalUptoRow : OpenClaim := { program := "ytcgilfnhbliadaa", sum := "26cf2bf31c1eb098e0267c55768e430a7b93cc14cd0e542e551aacc6a95e5ae9", func := "kinkeep/kinkeeplaw41.PriorityTotal", spec := "priorityTotal", unfollowed := true, recurses := true, plainKeys := false, apart := false, narrowed := true }
def PriorityTotalUptoSaid : Prop := priorityTotalUptoRow.holds Try.pinned (OpenSpec.upto priorityTotalSpec)

/-- 'kinkeeplaw41.PriorityCut', WHERE WHAT IT READS IS OF BULK AT MOST 1048576: true; the input reads as it did. -/
def priorityCutUptoRow : OpenClaim := { program := "ytcgilfnhbliadaa", sum := "26cf2bf31c1eb098e0267c55768e430a7b93cc14cd0e542e551aacc6a95e5ae9", func := "kinkeep/kinkeeplaw41.PriorityCut", spec := "priorityCut", unfollowed := true, recurses := true, plainKeys := false, apart := false, narrowed := true }
def PriorityCutUptoSaid : Prop := priorityCutUptoRow.holds Try.pinned (OpenSpec.upto priorityCutSpec)

/-- 'kinkeeplaw41.PriorityBounds', WHERE WHAT IT READS IS OF BULK AT MOST 1048576: true; the input reads as it did. -/
def priorityBoundsUptoRow : OpenClaim := { program := "ytcgilfnhbliadaa", sum := "26cf2bf31c1eb098e0267c55768e430a7b93cc14cd0e542e551aacc6a95e5ae9", func := "kinkeep/kinkeeplaw41.PriorityBounds", spec := "priorityBounds", unfollowed := true, recurses := true, plainKeys := false, apart := false, narrowed := true }
def PriorityBoundsUptoSaid : Prop := priorityBoundsUptoRow.holds Try.pinned (OpenSpec.upto priorityBoundsSpec)

/-- 'kinkeeplaw41.PriorityOrder', WHERE WHAT IT READS IS OF BULK AT MOST 1048576: true; the input reads as it did. -/
def priorityOrderUptoRow : OpenClaim := { program := "ytcgilfnhbliadaa", sum := "26cf2bf31c1eb098e0267c55768e430a7b93cc14cd0e542e551aacc6a95e5ae9", func := "kinkeep/kinkeeplaw41.PriorityOrder", spec := "priorityOrder", unfollowed := true, recurses := true, plainKeys := false, apart := false, narrowed := true }
def PriorityOrderUptoSaid : Prop := priorityOrderUptoRow.holds Try.pinned (OpenSpec.upto priorityOrderSpec)

/-- 'kinkeeplaw41.PriorityMatch', WHERE WHAT IT READS IS OF BULK AT MOST 1048576: true; the input reads as it did. -/
def priorityMatchUptoRow : OpenClaim := { program := "ytcgilfnhbliadaa", sum := "26cf2bf31c1eb098e0267c55768e430a7b93cc14cd0e542e551aacc6a95e5ae9", func := "kinkeep/kinkeeplaw41.PriorityMatch", spec := "priorityMatch", unfollowed := true, recurses := true, plainKeys := false, apart := false, narrowed := true }
def PriorityMatchUptoSaid : Prop := priorityMatchUptoRow.holds Try.pinned (OpenSpec.upto priorityMatchSpec)

/-- 'kinkeeplaw41.PriorityAlone', WHERE WHAT IT READS IS OF BULK AT MOST 1048576: true; the input reads as it did. -/
def priorityAloneUptoRow : OpenClaim := { program := "ytcgilfnhbliadaa", sum := "26cf2bf31c1eb098e0267c55768e430a7b93cc14cd0e542e551aacc6a95e5ae9", func := "kinkeep/kinkeeplaw41.PriorityAlone", spec := "priorityAlone", unfollowed := true, recurses := true, plainKeys := false, apart := false, narrowed := true }
def PriorityAloneUptoSaid : Prop := priorityAloneUptoRow.holds Try.pinned (OpenSpec.upto priorityAloneSpec)

/-- 'kinkeeplaw41.PriorityTakes', WHERE WHAT IT READS IS OF BULK AT MOST 1048576: true; the input reads as it did. -/
def priorityTakesUptoRow : OpenClaim := { program := "ytcgilfnhbliadaa", sum := "26cf2bf31c1eb098e0267c55768e430a7b93cc14cd0e542e551aacc6a95e5ae9", func := "kinkeep/kinkeeplaw41.PriorityTakes", spec := "priorityTakes", unfollowed := true, recurses := true, plainKeys := false, apart := false, narrowed := true }
def PriorityTakesUptoSaid : Prop := priorityTakesUptoRow.holds Try.pinned (OpenSpec.upto priorityTakesSpec)

/-- 'kinkeeplaw41.PriorityQueue', WHERE WHAT IT READS IS OF BULK AT MOST 1048576: true; the input reads as it did. -/
def priorityQueueUptoRow : OpenClaim := { program := "ytcgilfnhbliadaa", sum := "26cf2bf31c1eb098e0267c55768e430a7b93cc14cd0e542e551aacc6a95e5ae9", func := "kinkeep/kinkeeplaw41.PriorityQueue", spec := "priorityQueue", unfollowed := true, recurses := true, plainKeys := false, apart := false, narrowed := true }
def PriorityQueueUptoSaid : Prop := priorityQueueUptoRow.holds Try.pinned (OpenSpec.upto priorityQueueSpec)

end Rows
end Go.Proofs.Ytcgilfnhbliadaa
