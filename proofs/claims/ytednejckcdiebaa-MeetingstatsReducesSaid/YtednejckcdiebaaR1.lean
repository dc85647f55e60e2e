/- The law MeetingstatsReduces, walked. -/
import Derived.Test.YtednejckcdiebaaX
namespace Go.Proofs.Ytednejckcdiebaa
open Go.RowKit Go.Lib

set_option maxHeartbeats 1000000 in
theorem reduces_bad (num den : Int) (w : World) (h : den = 0 ∨ num = -9223372036854775808 ∨ den = -9223372036854775808) :
    Calls Try.prog 3 #[.int .i64 num, .int .i64 den] w fun e w' => e = .returned (.bool true) ∧ Below w.heap.size w w' := by
  have cR := reduced_bad num den w h
  have CR := Lib.hid cR
  clear cR
  have CA := Lib.hid awake_any
  by_cases h1 : den = 0
  · subst h1
    clear h
    go_enter Try.func3, Try.ntmps3
    go_wp2_with fail
    refine CR.out.mono ?_
    rintro e w1 ⟨rfl, hb1⟩
    have z1 := hb1.size
    go_wp2_with fail
    refine (CA.out _).mono ?_
    rintro e w2 ⟨rfl, hb2⟩
    have z2 := hb2.size
    obtain ⟨q2, f2⟩ := bcell hb2
    go_wp2
    go_ret
    exact ⟨rfl, by (repeat' (first | (with_reducible exact Below.refl _ _) | (with_reducible assumption) | (with_reducible refine Below.alloc ?_ ?_ _) | (with_reducible refine Below.drew ?_) | (with_reducible refine below_drewN ?_ _) | (with_reducible refine Below.setCell ?_ ?_ _) | (with_reducible refine below_step ?_ (by with_reducible assumption) ?_) | go_size))⟩
  · have k1 : (den == 0) = false := by rw [beq_eq_false_iff_ne]; omega
    by_cases h2 : num = -9223372036854775808
    · subst h2
      clear h h1
      go_enter Try.func3, Try.ntmps3
      go_wp2_with fail
      refine CR.out.mono ?_
      rintro e w1 ⟨rfl, hb1⟩
      have z1 := hb1.size
      go_wp2_with fail
      refine (CA.out _).mono ?_
      rintro e w2 ⟨rfl, hb2⟩
      have z2 := hb2.size
      obtain ⟨q2, f2⟩ := bcell hb2
      go_wp2
      go_ret
      exact ⟨rfl, by (repeat' (first | (with_reducible exact Below.refl _ _) | (with_reducible assumption) | (with_reducible refine Below.alloc ?_ ?_ _) | (with_reducible refine Below.drew ?_) | (with_reducible refine below_drewN ?_ _) | (with_reducible refine Below.setCell ?_ ?_ _) | (with_reducible refine below_step ?_ (by with_reducible assumption) ?_) | go_size))⟩
    · obtain rfl : den = -9223372036854775808 := by omega
      have k2 : (num == -9223372036854775808) = false := by rw [beq_eq_false_iff_ne]; omega
      clear h h1 h2
      go_enter Try.func3, Try.ntmps3
      go_wp2_with fail
      refine CR.out.mono ?_
      rintro e w1 ⟨rfl, hb1⟩
      have z1 := hb1.size
      go_wp2_with fail
      refine (CA.out _).mono ?_
      rintro e w2 ⟨rfl, hb2⟩
      have z2 := hb2.size
      obtain ⟨q2, f2⟩ := bcell hb2
      go_wp2
      go_ret
      exact ⟨rfl, by (repeat' (first | (with_reducible exact Below.refl _ _) | (with_reducible assumption) | (with_reducible refine Below.alloc ?_ ?_ _) | (with_reducible refine Below.drew ?_) | (with_reducible refine below_drewN ?_ _) | (with_reducible refine Below.setCell ?_ ?_ _) | (with_reducible refine below_step ?_ (by with_reducible assumption) ?_) | go_size))⟩

theorem div_bounds (n D : Int) (h0 : 0 ≤ n) (h1 : n ≤ 9223372036854775807) (h2 : 1 ≤ D) (h3 : D ≤ 9223372036854775807) :
    0 ≤ n / (Int.gcd n D) ∧ n / (Int.gcd n D) ≤ 9223372036854775807 ∧ 0 ≤ D / (Int.gcd n D) ∧ D / (Int.gcd n D) ≤ 9223372036854775807 ∧ (1 : Int) ≤ Int.gcd n D := by
  have hg : 0 < Int.gcd n D := by
    rcases Nat.eq_zero_or_pos (Int.gcd n D) with h | h
    · have := (Int.gcd_eq_zero_iff.1 h).2; omega
    · exact h
  have hg' : (1 : Int) ≤ Int.gcd n D := by omega
  exact ⟨Int.ediv_nonneg h0 (by omega), Int.le_trans (Int.ediv_le_self _ h0) h1, Int.ediv_nonneg (by omega) (by omega), Int.le_trans (Int.ediv_le_self _ (by omega)) h3, hg'⟩

set_option maxHeartbeats 1000000 in
theorem reduces_pp (n D : Int) (w : World) (h0 : 0 ≤ n) (h1 : n ≤ 9223372036854775807) (h2 : 1 ≤ D) (h3 : D ≤ 9223372036854775807) :
    Calls Try.prog 3 #[.int .i64 n, .int .i64 D] w fun e w' => e = .returned (.bool true) ∧ Below w.heap.size w w' := by
  have cR := reduced_pos n D w (by omega) h1 h2 h3
  rw [Int.tdiv_eq_ediv_of_nonneg h0] at cR
  have cL := fun w => lowest_any n D w (by omega) h1 h2 h3
  obtain ⟨b1, b2, b3, b4, b5⟩ := div_bounds n D (by omega) h1 h2 h3
  generalize n / (Int.gcd n D) = r at cR cL b1 b2
  generalize D / (Int.gcd n D) = t at cR cL b3 b4
  have CR := Lib.hid cR
  have CL := Lib.hid cL
  clear cR cL b5
  have CA := Lib.hid awake_any
  have k1 : (D == 0) = false := by rw [beq_eq_false_iff_ne]; omega
  have k2 : (n == -9223372036854775808) = false := by rw [beq_eq_false_iff_ne]; omega
  have k3 : (D == -9223372036854775808) = false := by rw [beq_eq_false_iff_ne]; omega
  have k4 : decide (n < 0) = false := by simp; omega
  have k5 : decide (D < 0) = false := by simp; omega
  go_enter Try.func3, Try.ntmps3
  go_wp2_with fail
  refine CR.out.mono ?_
  rintro e w1 ⟨rfl, hb1⟩
  have z1 := hb1.size
  go_wp2_with fail
  refine (CL.out _).mono ?_
  rintro e w2 ⟨rfl, hb2⟩
  have z2 := hb2.size
  obtain ⟨q2, f2⟩ := bcell hb2
  have y2 : w1.heap.size < w2.heap.size := by simp at z2; omega
  go_wp2_with fail
  refine (CA.out _).mono ?_
  rintro e w3 ⟨rfl, hb3⟩
  have z3 := hb3.size
  obtain ⟨q3, f3⟩ := bcell hb3
  have y3 : w2.heap.size < w3.heap.size := by simp at z3; omega
  have y4 : w1.heap.size < w3.heap.size := by omega
  go_wp2
  go_ret
  exact ⟨rfl, by (repeat' (first | (with_reducible exact Below.refl _ _) | (with_reducible assumption) | (with_reducible refine Below.alloc ?_ ?_ _) | (with_reducible refine Below.drew ?_) | (with_reducible refine below_drewN ?_ _) | (with_reducible refine Below.setCell ?_ ?_ _) | (with_reducible refine below_step ?_ (by with_reducible assumption) ?_) | go_size))⟩

set_option maxHeartbeats 1000000 in
theorem reduces_np (n D : Int) (w : World) (h0 : 1 ≤ n) (h1 : n ≤ 9223372036854775807) (h2 : 1 ≤ D) (h3 : D ≤ 9223372036854775807) :
    Calls Try.prog 3 #[.int .i64 (-n), .int .i64 D] w fun e w' => e = .returned (.bool true) ∧ Below w.heap.size w w' := by
  have cR := reduced_pos (-n) D w (by omega) (by omega) h2 h3
  rw [Int.neg_tdiv, Int.tdiv_eq_ediv_of_nonneg (by omega), Int.neg_gcd] at cR
  have cL := fun w => lowest_any n D w (by omega) h1 h2 h3
  obtain ⟨b1, b2, b3, b4, b5⟩ := div_bounds n D (by omega) h1 h2 h3
  generalize n / (Int.gcd n D) = r at cR cL b1 b2
  generalize D / (Int.gcd n D) = t at cR cL b3 b4
  have CR := Lib.hid cR
  have CL := Lib.hid cL
  clear cR cL b5
  have CA := Lib.hid awake_any
  have k1 : (D == 0) = false := by rw [beq_eq_false_iff_ne]; omega
  have k2 : ((-n) == -9223372036854775808) = false := by rw [beq_eq_false_iff_ne]; omega
  have k3 : (D == -9223372036854775808) = false := by rw [beq_eq_false_iff_ne]; omega
  have k4 : decide ((-n) < 0) = true := by simp; omega
  have k5 : decide (D < 0) = false := by simp; omega
  go_enter Try.func3, Try.ntmps3
  go_wp2_with fail
  refine CR.out.mono ?_
  rintro e w1 ⟨rfl, hb1⟩
  have z1 := hb1.size
  go_wp2_with fail
  refine (CL.out _).mono ?_
  rintro e w2 ⟨rfl, hb2⟩
  have z2 := hb2.size
  obtain ⟨q2, f2⟩ := bcell hb2
  have y2 : w1.heap.size < w2.heap.size := by simp at z2; omega
  go_wp2_with fail
  refine (CA.out _).mono ?_
  rintro e w3 ⟨rfl, hb3⟩
  have z3 := hb3.size
  obtain ⟨q3, f3⟩ := bcell hb3
  have y3 : w2.heap.size < w3.heap.size := by simp at z3; omega
  have y4 : w1.heap.size < w3.heap.size := by omega
  go_wp2
  go_ret
  exact ⟨rfl, by (repeat' (first | (with_reducible exact Below.refl _ _) | (with_reducible assumption) | (with_reducible refine Below.alloc ?_ ?_ _) | (with_reducible refine Below.drew ?_) | (with_reducible refine below_drewN ?_ _) | (with_reducible refine Below.setCell ?_ ?_ _) | (with_reducible refine below_step ?_ (by with_reducible assumption) ?_) | go_size))⟩

set_option maxHeartbeats 1000000 in
theorem reduces_pn (n D : Int) (w : World) (h0 : 0 ≤ n) (h1 : n ≤ 9223372036854775807) (h2 : 1 ≤ D) (h3 : D ≤ 9223372036854775807) :
    Calls Try.prog 3 #[.int .i64 n, .int .i64 (-D)] w fun e w' => e = .returned (.bool true) ∧ Below w.heap.size w w' := by
  have cR := reduced_neg (-n) D w (by omega) (by omega) h2 h3
  rw [Int.neg_tdiv, Int.tdiv_eq_ediv_of_nonneg (by omega), Int.neg_gcd, Int.neg_neg] at cR
  have cL := fun w => lowest_any n D w (by omega) h1 h2 h3
  obtain ⟨b1, b2, b3, b4, b5⟩ := div_bounds n D (by omega) h1 h2 h3
  generalize n / (Int.gcd n D) = r at cR cL b1 b2
  generalize D / (Int.gcd n D) = t at cR cL b3 b4
  have CR := Lib.hid cR
  have CL := Lib.hid cL
  clear cR cL b5
  have CA := Lib.hid awake_any
  have k1 : ((-D) == 0) = false := by rw [beq_eq_false_iff_ne]; omega
  have k2 : (n == -9223372036854775808) = false := by rw [beq_eq_false_iff_ne]; omega
  have k3 : ((-D) == -9223372036854775808) = false := by rw [beq_eq_false_iff_ne]; omega
  have k4 : decide (n < 0) = false := by simp; omega
  have k5 : decide ((-D) < 0) = true := by simp; omega
  go_enter Try.func3, Try.ntmps3
  go_wp2_with fail
  refine CR.out.mono ?_
  rintro e w1 ⟨rfl, hb1⟩
  have z1 := hb1.size
  go_wp2_with fail
  refine (CL.out _).mono ?_
  rintro e w2 ⟨rfl, hb2⟩
  have z2 := hb2.size
  obtain ⟨q2, f2⟩ := bcell hb2
  have y2 : w1.heap.size < w2.heap.size := by simp at z2; omega
  go_wp2_with fail
  refine (CA.out _).mono ?_
  rintro e w3 ⟨rfl, hb3⟩
  have z3 := hb3.size
  obtain ⟨q3, f3⟩ := bcell hb3
  have y3 : w2.heap.size < w3.heap.size := by simp at z3; omega
  have y4 : w1.heap.size < w3.heap.size := by omega
  go_wp2
  go_ret
  exact ⟨rfl, by (repeat' (first | (with_reducible exact Below.refl _ _) | (with_reducible assumption) | (with_reducible refine Below.alloc ?_ ?_ _) | (with_reducible refine Below.drew ?_) | (with_reducible refine below_drewN ?_ _) | (with_reducible refine Below.setCell ?_ ?_ _) | (with_reducible refine below_step ?_ (by with_reducible assumption) ?_) | go_size))⟩

set_option maxRecDepth 100000 in
set_option maxHeartbeats 1000000 in
theorem reduces_nn (n D : Int) (w : World) (h0 : 1 ≤ n) (h1 : n ≤ 9223372036854775807) (h2 : 1 ≤ D) (h3 : D ≤ 9223372036854775807) :
    Calls Try.prog 3 #[.int .i64 (-n), .int .i64 (-D)] w fun e w' => e = .returned (.bool true) ∧ Below w.heap.size w w' := by
  have cR := reduced_neg n D w (by omega) (by omega) h2 h3
  rw [Int.tdiv_eq_ediv_of_nonneg (by omega)] at cR
  have cL := fun w => lowest_any n D w (by omega) h1 h2 h3
  obtain ⟨b1, b2, b3, b4, b5⟩ := div_bounds n D (by omega) h1 h2 h3
  generalize n / (Int.gcd n D) = r at cR cL b1 b2
  generalize D / (Int.gcd n D) = t at cR cL b3 b4
  have CR := Lib.hid cR
  have CL := Lib.hid cL
  clear cR cL b5
  have CA := Lib.hid awake_any
  have k1 : ((-D) == 0) = false := by rw [beq_eq_false_iff_ne]; omega
  have k2 : ((-n) == -9223372036854775808) = false := by rw [beq_eq_false_iff_ne]; omega
  have k3 : ((-D) == -9223372036854775808) = false := by rw [beq_eq_false_iff_ne]; omega
  have k4 : decide ((-n) < 0) = true := by simp; omega
  have k5 : decide ((-D) < 0) = true := by simp; omega
  have k6 : decide (0 < n) = true := by simp; omega
  have k7 : decide (0 < D) = true := by simp; omega
  go_enter Try.func3, Try.ntmps3
  go_wp2_with fail
  refine CR.out.mono ?_
  rintro e w1 ⟨rfl, hb1⟩
  have z1 := hb1.size
  go_wp2_with fail
  refine (CL.out _).mono ?_
  rintro e w2 ⟨rfl, hb2⟩
  have z2 := hb2.size
  obtain ⟨q2, f2⟩ := bcell hb2
  have y2 : w1.heap.size < w2.heap.size := by simp at z2; omega
  go_wp2_with fail
  refine (CA.out _).mono ?_
  rintro e w3 ⟨rfl, hb3⟩
  have z3 := hb3.size
  obtain ⟨q3, f3⟩ := bcell hb3
  have y3 : w2.heap.size < w3.heap.size := by simp at z3; omega
  have y4 : w1.heap.size < w3.heap.size := by omega
  go_wp2
  go_ret
  exact ⟨rfl, by (repeat' (first | (with_reducible exact Below.refl _ _) | (with_reducible assumption) | (with_reducible refine Below.alloc ?_ ?_ _) | (with_reducible refine Below.drew ?_) | (with_reducible refine below_drewN ?_ _) | (with_reducible refine Below.setCell ?_ ?_ _) | (with_reducible refine below_step ?_ (by with_reducible assumption) ?_) | go_size))⟩

/-- The law, at all ints. -/
theorem reduces_any (num den : Int) (w : World) (h1 : -9223372036854775808 ≤ num) (h2 : num ≤ 9223372036854775807) (h3 : -9223372036854775808 ≤ den) (h4 : den ≤ 9223372036854775807) :
    Calls Try.prog 3 #[.int .i64 num, .int .i64 den] w fun e w' => e = .returned (.bool true) ∧ Below w.heap.size w w' := by
  by_cases hb : den = 0 ∨ num = -9223372036854775808 ∨ den = -9223372036854775808
  · exact reduces_bad num den w hb
  · rcases Int.lt_or_le num 0 with hn | hn <;> rcases Int.lt_or_le den 0 with hd | hd
    · have := reduces_nn (-num) (-den) w (by omega) (by omega) (by omega) (by omega)
      rwa [Int.neg_neg, Int.neg_neg] at this
    · have := reduces_np (-num) den w (by omega) (by omega) (by omega) (by omega)
      rwa [Int.neg_neg] at this
    · have := reduces_pn num (-den) w (by omega) (by omega) (by omega) (by omega)
      rwa [Int.neg_neg] at this
    · exact reduces_pp num den w (by omega) (by omega) (by omega) (by omega)

end Go.Proofs.Ytednejckcdiebaa
