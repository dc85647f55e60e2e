/- When tasks are valid. -/
import Derived.Test.YtcgilfnhbliadaaA2
namespace Go.Proofs.Ytcgilfnhbliadaa
open Go.RowKit Go.Lib Go.ChangeMaps
set_option linter.unusedSimpArgs false

theorem tok_mk {st : ByteArray} {ix size spare num den day : Int} : TOk ⟨st, ix, size, spare, num, den, day⟩ ↔ st.size = 32 ∧ (0 ≤ ix ∧ ix ≤ 15) ∧ (0 ≤ size ∧ size ≤ 1048576) ∧ (-16 ≤ spare ∧ spare ≤ 16) ∧ (1 ≤ den ∧ den ≤ 1073741824) ∧ (0 ≤ num ∧ num ≤ den) ∧ Nat.gcd den.toNat num.toNat = 1 ∧ (0 ≤ day ∧ day ≤ 999999) := Iff.rfl
theorem divisor_int (a b : Int) (w : World) (ha : 0 ≤ a) (hb : 0 ≤ b) (ha2 : a ≤ 9223372036854775807) (hb2 : b ≤ 9223372036854775807) :
    Calls Try.prog 54 #[.int .i64 a, .int .i64 b] w fun e w' => e = .returned (.int .i64 (Nat.gcd a.toNat b.toNat : Nat)) ∧ ∃ n, w' = w.drewN n := by
  obtain ⟨x, rfl⟩ : ∃ x : Nat, a = x := ⟨a.toNat, by omega⟩
  obtain ⟨y, rfl⟩ : ∃ y : Nat, b = y := ⟨b.toNat, by omega⟩
  exact divisor_any x y w (by omega) (by omega)
theorem gcd_int (a b : Int) (w : World) (ha : 0 ≤ a) (hb : 0 ≤ b) (ha2 : a ≤ 9223372036854775807) (hb2 : b ≤ 9223372036854775807) :
    Calls Try.prog 44 #[.int .i64 a, .int .i64 b] w fun e w' => e = .returned (.int .i64 (Nat.gcd b.toNat a.toNat : Nat)) ∧ ∃ n, w' = w.drewN n := by
  obtain ⟨x, rfl⟩ : ∃ x : Nat, a = x := ⟨a.toNat, by omega⟩
  obtain ⟨y, rfl⟩ : ∃ y : Nat, b = y := ⟨b.toNat, by omega⟩
  have := gcd_any x y w (by omega) (by omega)
  rw [Nat.gcd_comm] at this
  exact this

set_option maxRecDepth 100000 in
set_option maxHeartbeats 8000000 in
theorem valid_any (t : Tk) (w : World) : Calls Try.prog 43 #[t.v] w fun e w' => e = .returned (.bool (decide (TOk t))) ∧ Below w.heap.size w w' := by
  obtain ⟨st, ix, size, spare, num, den, day⟩ := t
  obtain ⟨r, hr⟩ : ∃ r, r = decide (TOk ⟨st, ix, size, spare, num, den, day⟩) := ⟨_, rfl⟩
  rw [← hr]
  have HR := Lib.hid hr
  unfold Tk.v
  simp only
  clear hr
  by_cases c0 : st.size = 32
  rotate_left
  · obtain rfl : r = false := by rw [HR.out]; exact decide_eq_false (fun h => c0 h.1)
    have q0 : ((st.size : Int) == 32) = false := by simp; omega
    clear c0
    go_enter Try.func43, Try.ntmps43
    go_wp2
    go_ret
    exact ⟨rfl, by (repeat' (first | (with_reducible exact Below.refl _ _) | (with_reducible assumption) | (with_reducible refine Below.alloc ?_ ?_ _) | (with_reducible refine Below.drew ?_) | (with_reducible refine below_drewN ?_ _) | (with_reducible refine Below.setCell ?_ ?_ _) | (with_reducible refine below_step ?_ (by with_reducible assumption) ?_) | go_size))⟩
  have C0 := Lib.hid c0
  have q0 : ((st.size : Int) == 32) = true := by simp; omega
  clear c0
  obtain ⟨b1, hb1⟩ : ∃ b, b = decide (0 ≤ ix ∧ ix ≤ 15) := ⟨_, rfl⟩
  have W1 := Lib.hid (fun W => within_any ix 0 15 W)
  rw [← hb1] at W1
  have B1 := Lib.hid hb1
  clear hb1
  obtain ⟨b2, hb2⟩ : ∃ b, b = decide (0 ≤ size ∧ size ≤ 1048576) := ⟨_, rfl⟩
  have W2 := Lib.hid (fun W => within_any size 0 1048576 W)
  rw [← hb2] at W2
  have B2 := Lib.hid hb2
  clear hb2
  obtain ⟨b3, hb3⟩ : ∃ b, b = decide ((-16) ≤ spare ∧ spare ≤ 16) := ⟨_, rfl⟩
  have W3 := Lib.hid (fun W => within_any spare (-16) 16 W)
  rw [← hb3] at W3
  have B3 := Lib.hid hb3
  clear hb3
  obtain ⟨b4, hb4⟩ : ∃ b, b = decide (1 ≤ den ∧ den ≤ 1073741824) := ⟨_, rfl⟩
  have W4 := Lib.hid (fun W => within_any den 1 1073741824 W)
  rw [← hb4] at W4
  have B4 := Lib.hid hb4
  clear hb4
  obtain ⟨b5, hb5⟩ : ∃ b, b = decide (0 ≤ num ∧ num ≤ den) := ⟨_, rfl⟩
  have W5 := Lib.hid (fun W => within_any num 0 den W)
  rw [← hb5] at W5
  have B5 := Lib.hid hb5
  clear hb5
  obtain ⟨b7, hb7⟩ : ∃ b, b = decide (0 ≤ day ∧ day ≤ 999999) := ⟨_, rfl⟩
  have W7 := Lib.hid (fun W => within_any day 0 999999 W)
  rw [← hb7] at W7
  have B7 := Lib.hid hb7
  clear hb7
  go_enter Try.func43, Try.ntmps43
  go_wp2_with fail
  refine (W1.out _).mono ?_
  rintro e w1 ⟨rfl, rfl⟩
  cases b1 with
  | false =>
    obtain rfl : r = false := by rw [HR.out]; exact decide_eq_false (fun h => of_decide_eq_false B1.out.symm h.2.1)
    go_wp2
    go_ret
    exact ⟨rfl, by (repeat' (first | (with_reducible exact Below.refl _ _) | (with_reducible assumption) | (with_reducible refine Below.alloc ?_ ?_ _) | (with_reducible refine Below.drew ?_) | (with_reducible refine below_drewN ?_ _) | (with_reducible refine Below.setCell ?_ ?_ _) | (with_reducible refine below_step ?_ (by with_reducible assumption) ?_) | go_size))⟩
  | true =>
  have C1 := Lib.hid (of_decide_eq_true B1.out.symm)
  clear B1 W1
  go_wp2_with fail
  refine (W2.out _).mono ?_
  rintro e w2 ⟨rfl, rfl⟩
  cases b2 with
  | false =>
    obtain rfl : r = false := by rw [HR.out]; exact decide_eq_false (fun h => of_decide_eq_false B2.out.symm h.2.2.1)
    go_wp2
    go_ret
    exact ⟨rfl, by (repeat' (first | (with_reducible exact Below.refl _ _) | (with_reducible assumption) | (with_reducible refine Below.alloc ?_ ?_ _) | (with_reducible refine Below.drew ?_) | (with_reducible refine below_drewN ?_ _) | (with_reducible refine Below.setCell ?_ ?_ _) | (with_reducible refine below_step ?_ (by with_reducible assumption) ?_) | go_size))⟩
  | true =>
  have C2 := Lib.hid (of_decide_eq_true B2.out.symm)
  clear B2 W2
  go_wp2_with fail
  refine (W3.out _).mono ?_
  rintro e w3 ⟨rfl, rfl⟩
  cases b3 with
  | false =>
    obtain rfl : r = false := by rw [HR.out]; exact decide_eq_false (fun h => of_decide_eq_false B3.out.symm h.2.2.2.1)
    go_wp2
    go_ret
    exact ⟨rfl, by (repeat' (first | (with_reducible exact Below.refl _ _) | (with_reducible assumption) | (with_reducible refine Below.alloc ?_ ?_ _) | (with_reducible refine Below.drew ?_) | (with_reducible refine below_drewN ?_ _) | (with_reducible refine Below.setCell ?_ ?_ _) | (with_reducible refine below_step ?_ (by with_reducible assumption) ?_) | go_size))⟩
  | true =>
  have C3 := Lib.hid (of_decide_eq_true B3.out.symm)
  clear B3 W3
  go_wp2_with fail
  refine (W4.out _).mono ?_
  rintro e w4 ⟨rfl, rfl⟩
  cases b4 with
  | false =>
    obtain rfl : r = false := by rw [HR.out]; exact decide_eq_false (fun h => of_decide_eq_false B4.out.symm h.2.2.2.2.1)
    go_wp2
    go_ret
    exact ⟨rfl, by (repeat' (first | (with_reducible exact Below.refl _ _) | (with_reducible assumption) | (with_reducible refine Below.alloc ?_ ?_ _) | (with_reducible refine Below.drew ?_) | (with_reducible refine below_drewN ?_ _) | (with_reducible refine Below.setCell ?_ ?_ _) | (with_reducible refine below_step ?_ (by with_reducible assumption) ?_) | go_size))⟩
  | true =>
  have C4 := Lib.hid (of_decide_eq_true B4.out.symm)
  clear B4 W4
  go_wp2_with fail
  refine (W5.out _).mono ?_
  rintro e w5 ⟨rfl, rfl⟩
  cases b5 with
  | false =>
    obtain rfl : r = false := by rw [HR.out]; exact decide_eq_false (fun h => of_decide_eq_false B5.out.symm h.2.2.2.2.2.1)
    go_wp2
    go_ret
    exact ⟨rfl, by (repeat' (first | (with_reducible exact Below.refl _ _) | (with_reducible assumption) | (with_reducible refine Below.alloc ?_ ?_ _) | (with_reducible refine Below.drew ?_) | (with_reducible refine below_drewN ?_ _) | (with_reducible refine Below.setCell ?_ ?_ _) | (with_reducible refine below_step ?_ (by with_reducible assumption) ?_) | go_size))⟩
  | true =>
  have C5 := Lib.hid (of_decide_eq_true B5.out.symm)
  clear B5 W5
  go_wp2_with fail
  refine (divisor_int den num _ (by have := C4.out; omega) (by have := C5.out; omega) (by have := C4.out; omega) (by have := C4.out; have := C5.out; omega)).mono ?_
  rintro e w6 ⟨rfl, nq, rfl⟩
  by_cases c6 : Nat.gcd den.toNat num.toNat = 1
  rotate_left
  · obtain rfl : r = false := by rw [HR.out]; exact decide_eq_false (fun h => c6 h.2.2.2.2.2.2.1)
    have q6 : (((Nat.gcd den.toNat num.toNat : Nat) : Int) == 1) = false := by simp; omega
    clear c6
    generalize Nat.gcd den.toNat num.toNat = g at *
    go_wp2
    go_ret
    exact ⟨rfl, by (repeat' (first | (with_reducible exact Below.refl _ _) | (with_reducible assumption) | (with_reducible refine Below.alloc ?_ ?_ _) | (with_reducible refine Below.drew ?_) | (with_reducible refine below_drewN ?_ _) | (with_reducible refine Below.setCell ?_ ?_ _) | (with_reducible refine below_step ?_ (by with_reducible assumption) ?_) | go_size))⟩
  have C6 := Lib.hid c6
  have q6 : (((Nat.gcd den.toNat num.toNat : Nat) : Int) == 1) = true := by simp; omega
  clear c6
  have HR2 := Lib.hid (show r = decide (0 ≤ day ∧ day ≤ 999999) from by rw [HR.out]; exact decide_eq_decide.2 ⟨fun h => h.2.2.2.2.2.2.2, fun h => ⟨C0.out, C1.out, C2.out, C3.out, C4.out, C5.out, C6.out, h⟩⟩)
  clear HR C6
  generalize Nat.gcd den.toNat num.toNat = g at *
  go_wp2_with fail
  refine (W7.out _).mono ?_
  rintro e w7 ⟨rfl, rfl⟩
  cases b7 with
  | false =>
    obtain rfl : r = false := by rw [HR2.out]; exact B7.out.symm
    go_wp2
    go_ret
    exact ⟨rfl, by (repeat' (first | (with_reducible exact Below.refl _ _) | (with_reducible assumption) | (with_reducible refine Below.alloc ?_ ?_ _) | (with_reducible refine Below.drew ?_) | (with_reducible refine below_drewN ?_ _) | (with_reducible refine Below.setCell ?_ ?_ _) | (with_reducible refine below_step ?_ (by with_reducible assumption) ?_) | go_size))⟩
  | true =>
  have C7 := Lib.hid (of_decide_eq_true B7.out.symm)
  clear B7 W7
  obtain rfl : r = true := by rw [HR2.out]; exact decide_eq_true C7.out
  go_wp2
  go_ret
  exact ⟨rfl, by (repeat' (first | (with_reducible exact Below.refl _ _) | (with_reducible assumption) | (with_reducible refine Below.alloc ?_ ?_ _) | (with_reducible refine Below.drew ?_) | (with_reducible refine below_drewN ?_ _) | (with_reducible refine Below.setCell ?_ ?_ _) | (with_reducible refine below_step ?_ (by with_reducible assumption) ?_) | go_size))⟩

set_option maxRecDepth 100000 in
set_option maxHeartbeats 8000000 in
theorem valid_ref (t : Tk) (w : World) : Calls Try.prog 32 #[t.v] w fun e w' => e = .returned (.bool (decide (TOk t))) ∧ Below w.heap.size w w' := by
  obtain ⟨st, ix, size, spare, num, den, day⟩ := t
  obtain ⟨r, hr⟩ : ∃ r, r = decide (TOk ⟨st, ix, size, spare, num, den, day⟩) := ⟨_, rfl⟩
  rw [← hr]
  have HR := Lib.hid hr
  unfold Tk.v
  simp only
  clear hr
  by_cases c0 : st.size = 32
  rotate_left
  · obtain rfl : r = false := by rw [HR.out]; exact decide_eq_false (fun h => c0 h.1)
    have q0 : ((st.size : Int) == 32) = false := by simp; omega
    clear c0
    go_enter Try.func32, Try.ntmps32
    go_wp2
    go_ret
    exact ⟨rfl, by (repeat' (first | (with_reducible exact Below.refl _ _) | (with_reducible assumption) | (with_reducible refine Below.alloc ?_ ?_ _) | (with_reducible refine Below.drew ?_) | (with_reducible refine below_drewN ?_ _) | (with_reducible refine Below.setCell ?_ ?_ _) | (with_reducible refine below_step ?_ (by with_reducible assumption) ?_) | go_size))⟩
  have C0 := Lib.hid c0
  have q0 : ((st.size : Int) == 32) = true := by simp; omega
  clear c0
  go_enter Try.func32, Try.ntmps32
  go_wp2_with (go_at_call 44; refine (gcd_int num den _ (by omega) (by omega) (by omega) (by omega)).mono ?_; rintro e w1 ⟨rfl, nq, rfl⟩)
  all_goals
    go_ret
    refine ⟨congrArg (fun x : Bool => Ending.returned (.bool x)) ?_, by (repeat' (first | (with_reducible exact Below.refl _ _) | (with_reducible assumption) | (with_reducible refine Below.alloc ?_ ?_ _) | (with_reducible refine Below.drew ?_) | (with_reducible refine below_drewN ?_ _) | (with_reducible refine Below.setCell ?_ ?_ _) | (with_reducible refine below_step ?_ (by with_reducible assumption) ?_) | go_size))⟩
    rw [HR.out]
    first
      | (refine (decide_eq_false (fun h => ?_)).symm; obtain ⟨_, ⟨h1, h2⟩, ⟨h3, h4⟩, ⟨h5, h6⟩, ⟨h7, h8⟩, ⟨h9, h10⟩, h11, h12, h13⟩ := tok_mk.1 h; omega)
      | (exact decide_eq_decide.2 ⟨fun h => tok_mk.2 ⟨C0.out, ⟨by omega, by omega⟩, ⟨by omega, by omega⟩, ⟨by omega, by omega⟩, ⟨by omega, by omega⟩, ⟨by omega, by omega⟩, by omega, by omega, h⟩, fun h => (tok_mk.1 h).2.2.2.2.2.2.2.2⟩)


end Go.Proofs.Ytcgilfnhbliadaa
