/- Least. -/
import Derived.Test.YtijcicgbhcphjaaF2
namespace Go.Proofs.Ytijcicgbhcphjaa
open Go.RowKit Go.Lib Go.ChangeMaps
set_option linter.unusedSimpArgs false

def leastTo (V : Vp) (gone : Nat → Bool) : Nat → Int
  | 0 => 16
  | m + 1 => if spareI V gone m < leastTo V gone m then spareI V gone m else leastTo V gone m
def leastI (V : Vp) (gone : Nat → Bool) : Int := leastTo V gone V.held.length

set_option maxRecDepth 100000 in
set_option maxHeartbeats 2000000 in
theorem least_any (v lv : Value) (V : Vp) (ls : List Int) (w : World) (hv : VwAt w v V) (hl : ReadsI w lv ls) (hrf : ∀ h ∈ V.held, h.refs.length ≤ 1000) :
    Calls Try.prog 25 #[v, lv] w fun e w' => e = .returned (if Fits V ls then .tuple #[.int .i64 (leastI V (goneB V.mem ls)), .int .i64 0] else .tuple #[.int .i64 0, .int .i64 1]) ∧ Below w.heap.size w w' := by
  have hA := fun o => (Below.refl w.heap.size w).alloc (Nat.le_refl _) o
  have CR := Lib.hid (fun o => read_any v lv V ls (w.alloc o) (hv.below (hA o)) (hl.below (hA o)) hrf)
  have HA := Lib.hid hA
  obtain ⟨ma, mc, ha, hc, ra, rl, rc, wa, wl, wc, rfl⟩ := hv.val
  obtain ⟨la, lc, _, _, rfl, -⟩ := hl.at
  clear hA hv hl
  obtain ⟨nh, hnh⟩ : ∃ nh, nh = V.held.length := ⟨_, rfl⟩
  have HNH := Lib.hid hnh
  rw [← hnh] at CR ⊢
  clear hnh
  generalize V.mem.length = ml at *
  generalize ls.length = ll at *
  obtain ⟨R, hR⟩ : ∃ R, R = (if Fits V ls then Value.tuple #[.int .i64 (leastI V (goneB V.mem ls)), .int .i64 0] else .tuple #[.int .i64 0, .int .i64 1]) := ⟨_, rfl⟩
  rw [← hR]
  have HR := Lib.hid hR
  clear hR
  go_enter Try.func25, Try.ntmps25
  go_wp2_with fail
  refine (CR.out _).mono ?_
  rintro e w3 ⟨hb3, hcase⟩
  have hb1 := HA.out (.cells #[.slice ma ml mc, .slice ha nh hc, .slice ra rl rc, .slice wa wl wc] 26)
  have hbw := hb1.trans (hb3.mono hb1.size)
  rcases hcase with ⟨hno, rfl⟩ | ⟨hfit, p, rfl, hp, hst⟩
  · have HNO := Lib.hid hno
    clear hno
    go_wp2
    refine bodyPost_ret (results_tmp2 Try.results25 _ _ _) rfl ?_
    exact ⟨by rw [HR.out, if_neg HNO.out]; rfl, hbw⟩
  · have HFIT := Lib.hid hfit
    have h256 : nh ≤ 256 := by rw [HNH.out]; exact hfit.1.1.2
    have HST := Lib.hid hst
    obtain ⟨mv, hv, rv, wv, gv, mp, c0, c1, c2, c3, c4, c5, hM, hH, hR, hW, hG, hmp⟩ := hst.at
    obtain ⟨xa, xc, _, _, rfl, -⟩ := hH.at
    have plt := cell_lt c1
    rw [← HNH.out] at c1
    clear hfit hst hb3 hM hH hR hW hG hmp c0 c2 c3 c4 c5
    go_wp2
    go_loopw [25, 8, 9] (fun v25 v8 _ wr => ∃ j : Nat, j ≤ nh ∧ v25 = .int .i64 j ∧ v8 = .int .i64 (leastTo V (goneB V.mem ls) j) ∧ Below w3.heap.size w3 wr) (fun v25 _ _ _ => nh - (intOf v25).toNat)
    case atStart => exact ⟨0, Nat.zero_le _, rfl, rfl, Below.refl _ _⟩
    case round =>
      obtain ⟨j, hj, rfl, rfl, hbel⟩ := hrel
      have hb9 := hbw.trans (hbel.mono hbw.size)
      by_cases hlt : j < nh
      · have CS := Lib.hid (spare_any j wr (HST.out.below hbel) (by rw [← HNH.out]; exact hlt))
        have HLE := Lib.hid (show leastTo V (goneB V.mem ls) (j + 1) = if spareI V (goneB V.mem ls) j < leastTo V (goneB V.mem ls) j then spareI V (goneB V.mem ls) j else leastTo V (goneB V.mem ls) j from rfl)
        generalize spareI V (goneB V.mem ls) j = sp at *
        generalize leastTo V (goneB V.mem ls) j = le at *
        go_wp2_with fail
        refine CS.out.mono ?_
        rintro e w4 ⟨rfl, hb4⟩
        go_wp2
        go_roundw
        case rel => exact ⟨j + 1, by omega, by go_num, by rw [HLE.out], hbel.trans (hb4.mono hbel.size)⟩
        case measure => simp [intOf]; omega
      · have hjl : j = nh := by omega
        subst hjl
        go_wp2
        refine bodyPost_ret (results_tmp2 Try.results25 _ _ _) rfl ?_
        exact ⟨by rw [HR.out, if_pos HFIT.out]; unfold leastI; rw [← HNH.out]; rfl, hb9⟩

end Go.Proofs.Ytijcicgbhcphjaa
