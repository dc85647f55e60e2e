/- bits.OnesCount64, walked. -/
import Derived.Test.YtapjgjjmlbhanaaA5
namespace Go.Proofs.Ytapjgjjmlbhanaa
open Go.RowKit Go.Lib

theorem wraps_i64 (n : Int) (h₀ : 0 ≤ n) (h₁ : n < 2 ^ 63) : IntKind.i64.wrap n = n := by
  rw [IntKind.wrap_i64]; omega
theorem wraps_u64 (n : Int) (h₀ : 0 ≤ n) (h₁ : n < 18446744073709551616) : IntKind.u64.wrap n = n := by
  simp [IntKind.wrap, IntKind.bits, IntKind.signed]
  omega

set_option maxRecDepth 100000 in
set_option maxHeartbeats 4000000 in
theorem ones64_any (x : Nat) (w : World) (h1 : x < 18446744073709551616) :
    Calls Try.prog 70 #[.int .u64 x] w fun e w' => e = .returned (.int .i64 (pop 64 x : Nat)) ∧ w = w' := by
  obtain ⟨y1, hy1⟩ : ∃ y1, y1 = (x / 2 &&& 6148914691236517205) + (x &&& 6148914691236517205) := ⟨_, rfl⟩
  obtain ⟨y2, hy2⟩ : ∃ y2, y2 = (y1 / 4 &&& 3689348814741910323) + (y1 &&& 3689348814741910323) := ⟨_, rfl⟩
  obtain ⟨s1, s2, s3⟩ := swar3 x y1 y2 hy1 hy2
  obtain ⟨y3, hy3⟩ : ∃ y3, y3 = (y2 / 16 + y2) &&& 1085102592571150095 := ⟨_, rfl⟩
  obtain ⟨y4, hy4⟩ : ∃ y4, y4 = y3 + y3 / 256 := ⟨_, rfl⟩
  obtain ⟨y5, hy5⟩ : ∃ y5, y5 = y4 + y4 / 65536 := ⟨_, rfl⟩
  obtain ⟨y6, hy6⟩ : ∃ y6, y6 = y5 + y5 / 4294967296 := ⟨_, rfl⟩
  obtain ⟨t1, t2, t3, t4, t5⟩ := swar6 x y3 y4 y5 y6 (hy3.trans s1) hy4 hy5 hy6
  -- each step in the walk's words
  have c2 : ((x / 2 : Nat) : Int) = (x : Int) / 2 := by omega
  have a1 := bits_and_u64_nat (x / 2) 6148914691236517205 (by omega) (by omega)
  have a2 := bits_and_u64_nat x 6148914691236517205 (by omega) (by omega)
  rw [c2] at a1
  have b1 : IntKind.u64.wrap (((x / 2 &&& 6148914691236517205 : Nat) : Int) + ((x &&& 6148914691236517205 : Nat) : Int)) = (y1 : Int) := by rw [wraps_u64 _ (by omega) (by omega)]; omega
  have c4 : ((y1 / 4 : Nat) : Int) = (y1 : Int) / 4 := by omega
  have a3 := bits_and_u64_nat (y1 / 4) 3689348814741910323 (by omega) (by omega)
  have a4 := bits_and_u64_nat y1 3689348814741910323 (by omega) (by omega)
  rw [c4] at a3
  have b2 : IntKind.u64.wrap (((y1 / 4 &&& 3689348814741910323 : Nat) : Int) + ((y1 &&& 3689348814741910323 : Nat) : Int)) = (y2 : Int) := by rw [wraps_u64 _ (by omega) (by omega)]; omega
  have b3 : IntKind.u64.wrap ((y2 : Int) / 16 + y2) = ((y2 / 16 + y2 : Nat) : Int) := by rw [wraps_u64 _ (by omega) (by omega)]; omega
  have a5 := bits_and_u64_nat (y2 / 16 + y2) 1085102592571150095 (by omega) (by omega)
  rw [← hy3] at a5
  have b4 : IntKind.u64.wrap ((y3 : Int) + (y3 : Int) / 256) = (y4 : Int) := by rw [wraps_u64 _ (by omega) (by omega)]; omega
  have b5 : IntKind.u64.wrap ((y4 : Int) + (y4 : Int) / 65536) = (y5 : Int) := by rw [wraps_u64 _ (by omega) (by omega)]; omega
  have b6 : IntKind.u64.wrap ((y5 : Int) + (y5 : Int) / 4294967296) = (y6 : Int) := by rw [wraps_u64 _ (by omega) (by omega)]; omega
  have a6 := bits_mask .i64 63 (by decide) wraps_i64 7 (by decide) (y6 : Int) (by omega) (by omega)
  rw [show ((2 : Int) ^ 7 - 1) = 127 from rfl, show ((2 : Int) ^ 7) = 128 from rfl] at a6
  have e6 : (y6 : Int) % 128 = ((pop 64 x : Nat) : Int) := by omega
  rw [e6] at a6
  have n6 : IntKind.i64.wrap (y6 : Int) = y6 := by rw [IntKind.wrap_i64]; omega
  rw [show ((6148914691236517205 : Nat) : Int) = 6148914691236517205 from rfl] at a1 a2
  rw [show ((3689348814741910323 : Nat) : Int) = 3689348814741910323 from rfl] at a3 a4
  rw [show ((1085102592571150095 : Nat) : Int) = 1085102592571150095 from rfl] at a5
  generalize (x / 2 &&& 6148914691236517205) = u1 at a1 b1 hy1
  generalize (x &&& 6148914691236517205) = u2 at a2 b1 hy1
  generalize (y1 / 4 &&& 3689348814741910323) = u3 at a3 b2 hy2
  generalize (y1 &&& 3689348814741910323) = u4 at a4 b2 hy2
  generalize (y2 / 16 + y2) = u5 at a5 b3 hy3
  generalize pop 64 x = p at *
  clear hy1 hy2 hy3 hy4 hy5 hy6 s1 c2 c4 e6 t1
  go_enter Try.func70, Try.ntmps70
  go_wp2
  go_ret
  exact ⟨rfl, rfl⟩

end Go.Proofs.Ytapjgjjmlbhanaa
