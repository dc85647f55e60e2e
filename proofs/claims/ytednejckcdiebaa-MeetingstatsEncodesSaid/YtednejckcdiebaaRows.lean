/-
  No cell of these rows narrows 'for every input' (looked for: loops, veiled, ifaces, maps, wideKeys, modest, calm, conditions, laid).
  DERIVED. THE GIVEN ROWS OF THIS SEAT. 10 by the template 'for every input the law returns true; each argument reads behind the call as it read before'; 0 by the template 'total and deterministic' (their statements: YtednejckcdiebaaTotals.lean).
  GIVEN WITH THE SEED: the statements are not yours to turn. If you find one false, say at which input.
  Laid BY PROGRAM, IN A SANDBOX (cutbox-rows.mjs): the forced cells as the released guide's own fill.sh prints them over the translation 7d5c31ef9caeee5e… (all of the seat's roots in one cut). By AI agents, Wed Nov 11 2026. No macro, syntax, notation, axiom, sorry.
-/
import Derived.Test.YtednejckcdiebaaChecked
import GoSem.Claim
import GoSem.ClaimJoined
import GoSem.ClaimMapViews
import Derived.JoinedTies
import Derived.KernelRfl
namespace Go.Proofs.Ytednejckcdiebaa
/- THE CELL 'sum', in the pinned program and in every row, IS THE sha256 OF THE DUMP (.gsa) THAT YtednejckcdiebaaProg.lean LOADS. Nothing in Lean hashes anything: it is a label: what it is worth is what the hold of that sum in a sandbox is worth. -/
noncomputable def Try.pinned : Pinned := { name := "ytednejckcdiebaa", sum := "7d5c31ef9caeee5eb1b5ef567a44fcf758131ae4a0ee012a316e8a5717c4631a", checked := Try.checked }
namespace Rows
def none {H : Type} : Left H := { results := [], args := [] }

/-- 'kinkeeplaw32.MeetingstatsReduces': WHATEVER THE INPUT: true; the input reads as it did. -/
def meetingstatsReducesSpec : ChangeSpec := { name := "meetingstatsReduces", fn := fun _ => fun
  | [d1, d2] => { results := [.lit (.bool true)], args := [d1, d2] }
  | _ => none }
def meetingstatsReducesRow : OpenClaim := { program := "ytednejckcdiebaa", sum := "7d5c31ef9caeee5eb1b5ef567a44fcf758131ae4a0ee012a316e8a5717c4631a", func := "kinkeep/kinkeeplaw32.MeetingstatsReduces", spec := "meetingstatsReduces", plainKeys := false, apart := false }
def MeetingstatsReducesSaid : Prop := meetingstatsReducesRow.holds Try.pinned (OpenSpec.ofChange meetingstatsReducesSpec)

/-- ITS FALSE NEIGHBOUR: 'it returns false'. Refute it at one input. -/
def meetingstatsReducesWrong : ChangeSpec := { name := "meetingstatsReduces", fn := fun _ => fun
  | [d1, d2] => { results := [.lit (.bool false)], args := [d1, d2] }
  | _ => none }
def MeetingstatsReducesWrongFalsely : Prop := meetingstatsReducesRow.holds Try.pinned (OpenSpec.ofChange meetingstatsReducesWrong)

/-- 'kinkeeplaw32.MeetingstatsMeet': WHATEVER THE INPUT: true; the input reads as it did. -/
def meetingstatsMeetSpec : ChangeSpec := { name := "meetingstatsMeet", fn := fun _ => fun
  | [d1, d2, d3, d4] => { results := [.lit (.bool true)], args := [d1, d2, d3, d4] }
  | _ => none }
def meetingstatsMeetRow : OpenClaim := { program := "ytednejckcdiebaa", sum := "7d5c31ef9caeee5eb1b5ef567a44fcf758131ae4a0ee012a316e8a5717c4631a", func := "kinkeep/kinkeeplaw32.MeetingstatsMeet", spec := "meetingstatsMeet", plainKeys := false, apart := false }
def MeetingstatsMeetSaid : Prop := meetingstatsMeetRow.holds Try.pinned (OpenSpec.ofChange meetingstatsMeetSpec)

/-- ITS FALSE NEIGHBOUR: 'it returns false'. Refute it at one input. -/
def meetingstatsMeetWrong : ChangeSpec := { name := "meetingstatsMeet", fn := fun _ => fun
  | [d1, d2, d3, d4] => { results := [.lit (.bool false)], args := [d1, d2, d3, d4] }
  | _ => none }
def MeetingstatsMeetWrongFalsely : Prop := meetingstatsMeetRow.holds Try.pinned (OpenSpec.ofChange meetingstatsMeetWrong)

/-- 'kinkeeplaw32.MeetingstatsRates': WHATEVER THE INPUT: true; the input reads as it did. -/
def meetingstatsRatesSpec : ChangeSpec := { name := "meetingstatsRates", fn := fun _ => fun
  | [d1, d2, d3, d4, d5, d6] => { results := [.lit (.bool true)], args := [d1, d2, d3, d4, d5, d6] }
  | _ => none }
def meetingstatsRatesRow : OpenClaim := { program := "ytednejckcdiebaa", sum := "7d5c31ef9caeee5eb1b5ef567a44fcf758131ae4a0ee012a316e8a5717c4631a", func := "kinkeep/kinkeeplaw32.MeetingstatsRates", spec := "meetingstatsRates", plainKeys := false, apart := false }
def MeetingstatsRatesSaid : Prop := meetingstatsRatesRow.holds Try.pinned (OpenSpec.ofChange meetingstatsRatesSpec)

/-- ITS FALSE NEIGHBOUR: 'it returns false'. Refute it at one input. -/
def meetingstatsRatesWrong : ChangeSpec := { name := "meetingstatsRates", fn := fun _ => fun
  | [d1, d2, d3, d4, d5, d6] => { results := [.lit (.bool false)], args := [d1, d2, d3, d4, d5, d6] }
  | _ => none }
def MeetingstatsRatesWrongFalsely : Prop := meetingstatsRatesRow.holds Try.pinned (OpenSpec.ofChange meetingstatsRatesWrong)

/-- 'kinkeeplaw32.MeetingstatsCompares': WHATEVER THE INPUT: true; the input reads as it did. -/
def meetingstatsComparesSpec : ChangeSpec := { name := "meetingstatsCompares", fn := fun _ => fun
  | [d1, d2] => { results := [.lit (.bool true)], args := [d1, d2] }
  | _ => none }
def meetingstatsComparesRow : OpenClaim := { program := "ytednejckcdiebaa", sum := "7d5c31ef9caeee5eb1b5ef567a44fcf758131ae4a0ee012a316e8a5717c4631a", func := "kinkeep/kinkeeplaw32.MeetingstatsCompares", spec := "meetingstatsCompares", recurses := true, plainKeys := false, apart := false }
def MeetingstatsComparesSaid : Prop := meetingstatsComparesRow.holds Try.pinned (OpenSpec.ofChange meetingstatsComparesSpec)

/-- ITS FALSE NEIGHBOUR: 'it returns false'. Refute it at one input. -/
def meetingstatsComparesWrong : ChangeSpec := { name := "meetingstatsCompares", fn := fun _ => fun
  | [d1, d2] => { results := [.lit (.bool false)], args := [d1, d2] }
  | _ => none }
def MeetingstatsComparesWrongFalsely : Prop := meetingstatsComparesRow.holds Try.pinned (OpenSpec.ofChange meetingstatsComparesWrong)

/-- 'kinkeeplaw32.MeetingstatsGrows': WHATEVER THE INPUT: true; the input reads as it did. -/
def meetingstatsGrowsSpec : ChangeSpec := { name := "meetingstatsGrows", fn := fun _ => fun
  | [d1, d2, d3, d4, d5] => { results := [.lit (.bool true)], args := [d1, d2, d3, d4, d5] }
  | _ => none }
def meetingstatsGrowsRow : OpenClaim := { program := "ytednejckcdiebaa", sum := "7d5c31ef9caeee5eb1b5ef567a44fcf758131ae4a0ee012a316e8a5717c4631a", func := "kinkeep/kinkeeplaw32.MeetingstatsGrows", spec := "meetingstatsGrows", plainKeys := false, apart := false }
def MeetingstatsGrowsSaid : Prop := meetingstatsGrowsRow.holds Try.pinned (OpenSpec.ofChange meetingstatsGrowsSpec)

/-- ITS FALSE NEIGHBOUR: 'it returns false'. Refute it at one input. -/
def meetingstatsGrowsWrong : ChangeSpec := { name := "meetingstatsGrows", fn := fun _ => fun
  | [d1, d2, d3, d4, d5] => { results := [.lit (.bool false)], args := [d1, d2, d3, d4, d5] }
  | _ => none }
def MeetingstatsGrowsWrongFalsely : Prop := meetingstatsGrowsRow.holds Try.pinned (OpenSpec.ofChange meetingstatsGrowsWrong)

/-- 'kinkeeplaw32.MeetingstatsHelps': WHATEVER THE INPUT: true; the input reads as it did. -/
def meetingstatsHelpsSpec : ChangeSpec := { name := "meetingstatsHelps", fn := fun _ => fun
  | [d1, d2, d3, d4, d5] => { results := [.lit (.bool true)], args := [d1, d2, d3, d4, d5] }
  | _ => none }
def meetingstatsHelpsRow : OpenClaim := { program := "ytednejckcdiebaa", sum := "7d5c31ef9caeee5eb1b5ef567a44fcf758131ae4a0ee012a316e8a5717c4631a", func := "kinkeep/kinkeeplaw32.MeetingstatsHelps", spec := "meetingstatsHelps", plainKeys := false, apart := false }
def MeetingstatsHelpsSaid : Prop := meetingstatsHelpsRow.holds Try.pinned (OpenSpec.ofChange meetingstatsHelpsSpec)

/-- ITS FALSE NEIGHBOUR: 'it returns false'. Refute it at one input. -/
def meetingstatsHelpsWrong : ChangeSpec := { name := "meetingstatsHelps", fn := fun _ => fun
  | [d1, d2, d3, d4, d5] => { results := [.lit (.bool false)], args := [d1, d2, d3, d4, d5] }
  | _ => none }
def MeetingstatsHelpsWrongFalsely : Prop := meetingstatsHelpsRow.holds Try.pinned (OpenSpec.ofChange meetingstatsHelpsWrong)

/-- 'kinkeeplaw32.MeetingstatsEncodes': WHATEVER THE INPUT: true; the input reads as it did. -/
def meetingstatsEncodesSpec : ChangeSpec := { name := "meetingstatsEncodes", fn := fun _ => fun
  | [d1, d2, d3] => { results := [.lit (.bool true)], args := [d1, d2, d3] }
  | _ => none }
def meetingstatsEncodesRow : OpenClaim := { program := "ytednejckcdiebaa", sum := "7d5c31ef9caeee5eb1b5ef567a44fcf758131ae4a0ee012a316e8a5717c4631a", func := "kinkeep/kinkeeplaw32.MeetingstatsEncodes", spec := "meetingstatsEncodes", unfollowed := true, recurses := true, plainKeys := false, apart := false }
def MeetingstatsEncodesSaid : Prop := meetingstatsEncodesRow.holds Try.pinned (OpenSpec.ofChange meetingstatsEncodesSpec)

/-- ITS FALSE NEIGHBOUR: 'it returns false'. Refute it at one input. -/
def meetingstatsEncodesWrong : ChangeSpec := { name := "meetingstatsEncodes", fn := fun _ => fun
  | [d1, d2, d3] => { results := [.lit (.bool false)], args := [d1, d2, d3] }
  | _ => none }
def MeetingstatsEncodesWrongFalsely : Prop := meetingstatsEncodesRow.holds Try.pinned (OpenSpec.ofChange meetingstatsEncodesWrong)

/-- 'kinkeeplaw32.MeetingstatsDecodes': WHATEVER THE INPUT: true; the input reads as it did. -/
def meetingstatsDecodesSpec : ChangeSpec := { name := "meetingstatsDecodes", fn := fun _ => fun
  | [d] => { results := [.lit (.bool true)], args := [d] }
  | _ => none }
def meetingstatsDecodesRow : OpenClaim := { program := "ytednejckcdiebaa", sum := "7d5c31ef9caeee5eb1b5ef567a44fcf758131ae4a0ee012a316e8a5717c4631a", func := "kinkeep/kinkeeplaw32.MeetingstatsDecodes", spec := "meetingstatsDecodes", unfollowed := true, recurses := true, plainKeys := false, apart := false }
def MeetingstatsDecodesSaid : Prop := meetingstatsDecodesRow.holds Try.pinned (OpenSpec.ofChange meetingstatsDecodesSpec)

/-- ITS FALSE NEIGHBOUR: 'it returns false'. Refute it at one input. -/
def meetingstatsDecodesWrong : ChangeSpec := { name := "meetingstatsDecodes", fn := fun _ => fun
  | [d] => { results := [.lit (.bool false)], args := [d] }
  | _ => none }
def MeetingstatsDecodesWrongFalsely : Prop := meetingstatsDecodesRow.holds Try.pinned (OpenSpec.ofChange meetingstatsDecodesWrong)

/-- 'kinkeeplaw32.MeetingstatsWeights': WHATEVER THE INPUT: true; the input reads as it did. -/
def meetingstatsWeightsSpec : ChangeSpec := { name := "meetingstatsWeights", fn := fun _ => fun
  | [d1, d2, d3, d4, d5] => { results := [.lit (.bool true)], args := [d1, d2, d3, d4, d5] }
  | _ => none }
def meetingstatsWeightsRow : OpenClaim := { program := "ytednejckcdiebaa", sum := "7d5c31ef9caeee5eb1b5ef567a44fcf758131ae4a0ee012a316e8a5717c4631a", func := "kinkeep/kinkeeplaw32.MeetingstatsWeights", spec := "meetingstatsWeights", unfollowed := true, recurses := true, plainKeys := false, apart := false }
def MeetingstatsWeightsSaid : Prop := meetingstatsWeightsRow.holds Try.pinned (OpenSpec.ofChange meetingstatsWeightsSpec)

/-- ITS FALSE NEIGHBOUR: 'it returns false'. Refute it at one input. -/
def meetingstatsWeightsWrong : ChangeSpec := { name := "meetingstatsWeights", fn := fun _ => fun
  | [d1, d2, d3, d4, d5] => { results := [.lit (.bool false)], args := [d1, d2, d3, d4, d5] }
  | _ => none }
def MeetingstatsWeightsWrongFalsely : Prop := meetingstatsWeightsRow.holds Try.pinned (OpenSpec.ofChange meetingstatsWeightsWrong)

/-- 'kinkeeplaw32.MeetingstatsOthers': WHATEVER THE INPUT: true; the input reads as it did. -/
def meetingstatsOthersSpec : ChangeSpec := { name := "meetingstatsOthers", fn := fun _ => fun
  | [d1, d2, d3, d4] => { results := [.lit (.bool true)], args := [d1, d2, d3, d4] }
  | _ => none }
def meetingstatsOthersRow : OpenClaim := { program := "ytednejckcdiebaa", sum := "7d5c31ef9caeee5eb1b5ef567a44fcf758131ae4a0ee012a316e8a5717c4631a", func := "kinkeep/kinkeeplaw32.MeetingstatsOthers", spec := "meetingstatsOthers", unfollowed := true, recurses := true, plainKeys := false, apart := false }
def MeetingstatsOthersSaid : Prop := meetingstatsOthersRow.holds Try.pinned (OpenSpec.ofChange meetingstatsOthersSpec)

/-- ITS FALSE NEIGHBOUR: 'it returns false'. Refute it at one input. -/
def meetingstatsOthersWrong : ChangeSpec := { name := "meetingstatsOthers", fn := fun _ => fun
  | [d1, d2, d3, d4] => { results := [.lit (.bool false)], args := [d1, d2, d3, d4] }
  | _ => none }
def MeetingstatsOthersWrongFalsely : Prop := meetingstatsOthersRow.holds Try.pinned (OpenSpec.ofChange meetingstatsOthersWrong)

/- THE SECOND FORM. 'bulk': how many values and letters a reading holds, each counted each time it is reached (what is shared counts as often as it is met; a slice's spare places count too). A statement '..UptoSaid' is the law's where the arguments, and the package variables that the reading takes, are together of bulk at most 1048576: NARROWER than '..Said'. Prove '..Said' where nothing that the law and all that it calls make is longer than what came in: it says more and counts as full. Else prove '..UptoSaid'. A law counts once. -/
mutual
def uptoBulk {H : Type} : DataW H → Nat
  | .lit (.string bytes) => bytes.length + 1
  | .lit _ => 1
  | .nil => 1
  | .ptr d => uptoBulk d + 1
  | .slice elems spare => uptoBulkAll elems + uptoBulkAll spare + 1
  | .agg parts => uptoBulkAll parts + 1
  | .iface _ d => uptoBulk d + 1
  | .map entries => uptoBulkEntries entries + 1
  | .held _ => 1
def uptoBulkAll {H : Type} : List (DataW H) → Nat
  | [] => 0
  | d :: r => uptoBulk d + uptoBulkAll r
def uptoBulkEntries {H : Type} : List (Lit × DataW H) → Nat
  | [] => 0
  | x :: r => uptoBulkEntry x + uptoBulkEntries r
def uptoBulkEntry {H : Type} : Lit × DataW H → Nat
  | (.string bytes, d) => bytes.length + uptoBulk d + 1
  | (_, d) => uptoBulk d + 1
 end
def uptoSmall : (H : Type) → List (DataW H) → Bool := fun _ ds => decide (uptoBulkAll ds ≤ 1048576)
def OpenSpec.upto (s : _root_.Go.ChangeSpec) : _root_.Go.OpenSpec := { _root_.Go.OpenSpec.ofChange s with cond := some uptoSmall }

/-- 'kinkeeplaw32.MeetingstatsReduces', WHERE WHAT IT READS IS OF BULK AT MOST 1048576: true; the input reads as it did. -/
def meetingstatsReducesUptoRow : OpenClaim := { program := "ytednejckcdiebaa", sum := "7d5c31ef9caeee5eb1b5ef567a44fcf758131ae4a0ee012a316e8a5717c4631a", func := "kinkeep/kinkeeplaw32.MeetingstatsReduces", spec := "meetingstatsReduces", plainKeys := false, apart := false, narrowed := true }
def MeetingstatsReducesUptoSaid : Prop := meetingstatsReducesUptoRow.holds Try.pinned (OpenSpec.upto meetingstatsReducesSpec)

/-- 'kinkeeplaw32.MeetingstatsMeet', WHERE WHAT IT READS IS OF BULK AT MOST 1048576: true; the input reads as it did. -/
def meetingstatsMeetUptoRow : OpenClaim := { program := "ytednejckcdiebaa", sum := "7d5c31ef9caeee5eb1b5ef567a44fcf758131ae4a0ee012a316e8a5717c4631a", func := "kinkeep/kinkeeplaw32.MeetingstatsMeet", spec := "meetingstatsMeet", plainKeys := false, apart := false, narrowed := true }
def MeetingstatsMeetUptoSaid : Prop := meetingstatsMeetUptoRow.holds Try.pinned (OpenSpec.upto meetingstatsMeetSpec)

/-- 'kinkeeplaw32.MeetingstatsRates', WHERE WHAT IT READS IS OF BULK AT MOST 1048576: true; the input reads as it did. -/
def meetingstatsRatesUptoRow : OpenClaim := { program := "ytednejckcdiebaa", sum := "7d5c31ef9caeee5eb1b5ef567a44fcf758131ae4a0ee012a316e8a5717c4631a", func := "kinkeep/kinkeeplaw32.MeetingstatsRates", spec := "meetingstatsRates", plainKeys := false, apart := false, narrowed := true }
def MeetingstatsRatesUptoSaid : Prop := meetingstatsRatesUptoRow.holds Try.pinned (OpenSpec.upto meetingstatsRatesSpec)

/-- 'kinkeeplaw32.MeetingstatsCompares', WHERE WHAT IT READS IS OF BULK AT MOST 1048576: true; the input reads as it did. -/
def meetingstatsComparesUptoRow : OpenClaim := { program := "ytednejckcdiebaa", sum := "7d5c31ef9caeee5eb1b5ef567a44fcf758131ae4a0ee012a316e8a5717c4631a", func := "kinkeep/kinkeeplaw32.MeetingstatsCompares", spec := "meetingstatsCompares", recurses := true, plainKeys := false, apart := false, narrowed := true }
def MeetingstatsComparesUptoSaid : Prop := meetingstatsComparesUptoRow.holds Try.pinned (OpenSpec.upto meetingstatsComparesSpec)

/-- 'kinkeeplaw32.MeetingstatsGrows', WHERE WHAT IT READS IS OF BULK AT MOST 1048576: true; the input reads as it did. -/
def meetingstatsGrowsUptoRow : OpenClaim := { program := "ytednejckcdiebaa", sum := "7d5c31ef9caeee5eb1b5ef567a44fcf758131ae4a0ee012a316e8a5717c4631a", func := "kinkeep/kinkeeplaw32.MeetingstatsGrows", spec := "meetingstatsGrows", plainKeys := false, apart := false, narrowed := true }
def MeetingstatsGrowsUptoSaid : Prop := meetingstatsGrowsUptoRow.holds Try.pinned (OpenSpec.upto meetingstatsGrowsSpec)

/-- 'kinkeeplaw32.MeetingstatsHelps', WHERE WHAT IT READS IS OF BULK AT MOST 1048576: true; the input reads as it did. -/
def meetingstatsHelpsUptoRow : OpenClaim := { program := "ytednejckcdiebaa", sum := "7d5c31ef9caeee5eb1b5ef567a44fcf758131ae4a0ee012a316e8a5717c4631a", func := "kinkeep/kinkeeplaw32.MeetingstatsHelps", spec := "meetingstatsHelps", plainKeys := false, apart := false, narrowed := true }
def MeetingstatsHelpsUptoSaid : Prop := meetingstatsHelpsUptoRow.holds Try.pinned (OpenSpec.upto meetingstatsHelpsSpec)

/-- 'kinkeeplaw32.MeetingstatsEncodes', WHERE WHAT IT READS IS OF BULK AT MOST 1048576: true; the input reads as it did. -/
def meetingstatsEncodesUptoRow : OpenClaim := { program := "ytednejckcdiebaa", sum := "7d5c31ef9caeee5eb1b5ef567a44fcf758131ae4a0ee012a316e8a5717c4631a", func := "kinkeep/kinkeeplaw32.MeetingstatsEncodes", spec := "meetingstatsEncodes", unfollowed := true, recurses := true, plainKeys := false, apart := false, narrowed := true }
def MeetingstatsEncodesUptoSaid : Prop := meetingstatsEncodesUptoRow.holds Try.pinned (OpenSpec.upto meetingstatsEncodesSpec)

/-- 'kinkeeplaw32.MeetingstatsDecodes', WHERE WHAT IT READS IS OF BULK AT MOST 1048576: true; the input reads as it did. -/
def meetingstatsDecodesUptoRow : OpenClaim := { program := "ytednejckcdiebaa", sum := "7d5c31ef9caeee5eb1b5ef567a44fcf758131ae4a0ee012a316e8a5717c4631a", func := "kinkeep/kinkeeplaw32.MeetingstatsDecodes", spec := "meetingstatsDecodes", unfollowed := true, recurses := true, plainKeys := false, apart := false, narrowed := true }
def MeetingstatsDecodesUptoSaid : Prop := meetingstatsDecodesUptoRow.holds Try.pinned (OpenSpec.upto meetingstatsDecodesSpec)

/-- 'kinkeeplaw32.MeetingstatsWeights', WHERE WHAT IT READS IS OF BULK AT MOST 1048576: true; the input reads as it did. -/
def meetingstatsWeightsUptoRow : OpenClaim := { program := "ytednejckcdiebaa", sum := "7d5c31ef9caeee5eb1b5ef567a44fcf758131ae4a0ee012a316e8a5717c4631a", func := "kinkeep/kinkeeplaw32.MeetingstatsWeights", spec := "meetingstatsWeights", unfollowed := true, recurses := true, plainKeys := false, apart := false, narrowed := true }
def MeetingstatsWeightsUptoSaid : Prop := meetingstatsWeightsUptoRow.holds Try.pinned (OpenSpec.upto meetingstatsWeightsSpec)

/-- 'kinkeeplaw32.MeetingstatsOthers', WHERE WHAT IT READS IS OF BULK AT MOST 1048576: true; the input reads as it did. -/
def meetingstatsOthersUptoRow : OpenClaim := { program := "ytednejckcdiebaa", sum := "7d5c31ef9caeee5eb1b5ef567a44fcf758131ae4a0ee012a316e8a5717c4631a", func := "kinkeep/kinkeeplaw32.MeetingstatsOthers", spec := "meetingstatsOthers", unfollowed := true, recurses := true, plainKeys := false, apart := false, narrowed := true }
def MeetingstatsOthersUptoSaid : Prop := meetingstatsOthersUptoRow.holds Try.pinned (OpenSpec.upto meetingstatsOthersSpec)

end Rows
end Go.Proofs.Ytednejckcdiebaa
