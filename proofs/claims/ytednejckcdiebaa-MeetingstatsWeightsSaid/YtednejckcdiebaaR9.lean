/- The law MeetingstatsWeights, all its cases. -/
import Derived.Test.YtednejckcdiebaaR7
namespace Go.Proofs.Ytednejckcdiebaa
open Go.RowKit Go.Lib Go.ChangeMaps

theorem weights_any (n : Int) (v : Value) (xs : List Mt) (a b d : Int) (w : World) (hv : ReadsM w v xs) (hm : xs.length ≤ 9223372036854775807) :
    Calls Try.prog 11 #[.int .i64 n, v, .int .i64 a, .int .i64 b, .int .i64 d] w fun e w' => e = .returned (.bool true) ∧ Below w.heap.size w w' := by
  by_cases h : 60 < xs.length
  · obtain ⟨ao, c, rfl, _, _⟩ := hv
    exact weights_long n ao xs.length c a b d w h hm
  · by_cases hn : n < 2 ∨ 12 < n
    · exact weights_bad n v xs a b d w hv (by omega) hn
    · by_cases hf : 0 ≤ a ∧ a < n ∧ 0 ≤ d ∧ d ≤ 999999
      · obtain ⟨nn, rfl⟩ : ∃ nn : Nat, n = nn := ⟨n.toNat, by omega⟩
        exact weights_fit nn v xs a b d w hv (by omega) (by omega) (by omega) hf.1 hf.2.1 hf.2.2.1 hf.2.2.2
      · exact weights_none n v xs a b d w hv (by omega) (by omega) (by omega) hf

end Go.Proofs.Ytednejckcdiebaa
