/- The closure that orders places. -/
import Derived.Test.YtapjgjjmlbhanaaC5
namespace Go.Proofs.Ytapjgjjmlbhanaa
open Go.RowKit Go.Lib

theorem quiet_same2 {P : Program} {f : FuncId} {args : Array Value} {w : World} {x : Nat} {v : Value} (h : Calls P f args (w.drewN x) fun e w' => e = .returned v ∧ w.drewN x = w') : Calls P f args (w.drewN x) fun e w' => e = .returned v ∧ ∃ n, w' = w.drewN n :=
  h.mono fun _ _ ⟨he, hw⟩ => ⟨he, x, hw.symm⟩

set_option maxHeartbeats 1000000 in
theorem less66 (t b off c n i j : Nat) (di dj : Int) (w : World) (ht : w.cell? ⟨t, 0, none⟩ = some (.slice (some ⟨b, off, none⟩) n c)) (hi : i < n) (hj : j < n) (ci : w.cell? ⟨b, off + i * 4, none⟩ = some (.int .i64 di)) (cj : w.cell? ⟨b, off + j * 4, none⟩ = some (.int .i64 dj)) :
    Calls Try.prog 66 #[.int .i64 i, .int .i64 j, .pointer (some ⟨t, 0, none⟩)] w fun e w' => e = .returned (.int .i64 (cmpI di dj)) ∧ ∃ q, w' = w.drewN q := by
  have CC := Lib.hid (fun W => compare_any di dj W)
  generalize cmpI di dj = r at *
  go_enter Try.func66, Try.ntmps66
  go_wp2_with fail
  go_quiet ((go_at_call 58; exact quiet_same2 (CC.out _)))
  go_wp2
  go_ret
  exact ⟨rfl, _, rfl⟩

end Go.Proofs.Ytapjgjjmlbhanaa
