/- The example of the chapter, plain. -/
import Derived.Test.YtijcicgbhcphjaaG3
namespace Go.Proofs.Ytijcicgbhcphjaa
open Go.RowKit Go.Lib Go.ChangeMaps
set_option linter.unusedSimpArgs false

def eId : ByteArray := ⟨#[0, 0, 0, 0, 0, 0, 0, 0, 0, 0, 0, 0, 0, 0, 0, 0, 0, 0, 0, 0, 0, 0, 0, 0, 0, 0, 0, 0, 0, 0, 0, 0]⟩
def eMs : List Mem := [⟨0, ⟨#[]⟩, ⟨#[]⟩, 0, false⟩, ⟨1, ⟨#[]⟩, ⟨#[]⟩, 0, false⟩, ⟨2, ⟨#[]⟩, ⟨#[]⟩, 0, false⟩]
def eV : Vp := ⟨eMs, [⟨eId, 0, 64, 1, 3, [], [0, 1, -1]⟩], [100, 100, 100], [1, 5, 3]⟩
def eJ : Jp := ⟨⟨eId, 1⟩, [0], 2, 64⟩
theorem e_fits : Fits eV [1] := by decide +kernel
theorem e_dam : dmTo (goneB eV.mem [1]) eV.held eV.held.length = [⟨eId, 1⟩] := by decide +kernel
theorem e_least : leastI eV (goneB eV.mem [1]) = 0 := by decide +kernel
theorem e_plan : (planR eV (goneB eV.mem [1])).2 = [eJ] := by decide +kernel
theorem e_check : checkB eV [1] [eJ] = true := by decide +kernel

end Go.Proofs.Ytijcicgbhcphjaa
