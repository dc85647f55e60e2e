/- Expected, Within, and the reference's Recent and Within. -/
import Derived.Test.YtednejckcdiebaaL
namespace Go.Proofs.Ytednejckcdiebaa
open Go.RowKit Go.Lib

theorem pow_bounds (z : Int) (h0 : 0 ≤ z) (h1 : z ≤ 32) (k : Nat) (hk : k ≤ 12) : 0 ≤ z ^ k ∧ z ^ k ≤ 32 ^ k ∧ (32 : Int) ^ k ≤ 1152921504606846976 ∧ 1 ≤ (32 : Int) ^ k := by
  obtain ⟨m, rfl⟩ := Int.eq_ofNat_of_zero_le h0
  have hm : m ≤ 32 := by omega
  have e1 := Nat.pow_le_pow_left hm k
  have e2 := Nat.pow_le_pow_right (n := 32) (by omega) hk
  have e3 := Nat.one_le_two_pow (n := 0)
  have e4 : 1 ≤ 32 ^ k := Nat.one_le_pow _ _ (by omega)
  have c1 : ((m : Int)) ^ k = ((m ^ k : Nat) : Int) := by simp
  have c2 : (32 : Int) ^ k = ((32 ^ k : Nat) : Int) := by simp
  rw [c1, c2]
  have e5 : (32 : Nat) ^ 12 = 1152921504606846976 := by decide
  rw [e5] at e2
  exact ⟨Int.natCast_nonneg _, Int.ofNat_le.2 e1, Int.ofNat_le.2 e2, Int.ofNat_le.2 e4⟩

theorem pow_step (z : Int) (j : Nat) : z ^ (j + 1) = z ^ j * z := Int.pow_succ z j

/-- The chance within some days, as a fraction in lowest terms. -/
def chance (m : Nat) (k : Nat) : Value := fracV (32 ^ k - (32 - (m : Int)) ^ k) (32 ^ k)

set_option maxHeartbeats 2000000 in
theorem Within_ok (F : Nat → Prop) (k : Nat) (n N : Int) (M : Days) (w : World) (hB : IsBook w F k n N M) (hR : Rise N M) (a b d : Int) (hf : Fit n a b d) (q : Nat) (hq : q ≤ 12) :
    Calls Try.prog 23 #[.pointer (some ⟨k, 0, none⟩), .int .i64 a, .int .i64 b, .int .i64 d, .int .i64 q] w fun e w' => e = .returned (.tuple #[chance (win (M (min a b) (max a b)) (d - 32 + 1) d).length q, .int .i64 0]) ∧ Below w.heap.size w w' := by
  have cA := fun w hB => recent_ok F k n N M w hB hR a b d hf
  have hl := win_short hR (min a b) (max a b) (d - 32 + 1) d (by omega)
  generalize (win (M (min a b) (max a b)) (d - 32 + 1) d).length = m at cA hl ⊢
  have hm : (m : Int) ≤ 32 := by omega
  have CA := Lib.hid cA
  have HB := Lib.hid hB
  clear cA hB hl
  have hq0 : (0 : Int) ≤ (q : Int) := by omega
  have hq1 : (q : Int) ≤ 12 := by omega
  go_enter Try.func23, Try.ntmps23
  go_wp2_with fail
  refine (CA.out _ (HB.out.below (by (repeat' (first | (with_reducible exact Below.refl _ _) | (with_reducible assumption) | (with_reducible refine Below.alloc ?_ ?_ _) | (with_reducible refine Below.drew ?_) | (with_reducible refine below_drewN ?_ _) | (with_reducible refine Below.setCell ?_ ?_ _) | (with_reducible refine below_step ?_ (by with_reducible assumption) ?_) | go_size))))).mono ?_
  rintro e w1 ⟨rfl, hb⟩
  have z1 := hb.size
  obtain ⟨c1, f1⟩ := bcell hb
  go_wp2_with fail
  go_loop [14, 15, 36] (fun v14 v15 v36 => ∃ j : Nat, j ≤ q ∧ v36 = .int .i64 j ∧ v14 = .int .i64 (32 ^ j) ∧ v15 = .int .i64 ((32 - (m : Int)) ^ j)) (fun _ _ v36 => q - (intOf v36).toNat)
  case atStart => exact ⟨0, Nat.zero_le _, rfl, rfl, by rw [Int.pow_zero]⟩
  case round =>
    obtain ⟨j, hj, rfl, rfl, rfl⟩ := hrel
    by_cases hlt : j < q
    · obtain ⟨p1, p2, p3, p4⟩ := pow_bounds (32 - (m : Int)) (by omega) (by omega) j (by omega)
      obtain ⟨s1, s2, s3, s4⟩ := pow_bounds (32 - (m : Int)) (by omega) (by omega) (j + 1) (by omega)
      have e1 := pow_step 32 j
      have e2 := pow_step (32 - (m : Int)) j
      generalize hX : (32 : Int) ^ j = X at p2 p3 p4 e1 ⊢
      generalize hY : (32 - (m : Int)) ^ j = Y at p1 p2 e2 ⊢
      have E1 := Lib.hid e1
      have E2 := Lib.hid e2
      have hX32 : X * 32 ≤ 1152921504606846976 := by rw [← e1]; exact s3
      have S1 := Lib.hid s1
      have S2 := Lib.hid s2
      have S3 := Lib.hid s3
      clear e1 e2 hX hY s1 s2 s3 s4 p2
      go_wp2
      go_round
      case rel =>
        refine ⟨j + 1, by omega, by go_num, by rw [E1.out], ?_⟩
        have := S1.out
        have := S2.out
        have := S3.out
        rw [E2.out] at *
        rw [IntWalk.wrap64_in _ (by constructor <;> omega)]
      case measure => simp [intOf]; omega
    · obtain rfl : j = q := by omega
      obtain ⟨p1, p2, p3, p4⟩ := pow_bounds (32 - (m : Int)) (by omega) (by omega) j (by omega)
      generalize hX : (32 : Int) ^ j = X at p2 p3 p4 ⊢
      generalize hY : (32 - (m : Int)) ^ j = Y at p1 p2 ⊢
      have HCH := Lib.hid (show chance m j = fracV (X - Y) X by unfold chance; rw [hX, hY])
      clear CA hX hY
      go_wp2_with fail
      refine (reduced_pos _ _ _ (by omega) (by omega) (by omega) (by omega)).mono ?_
      rintro e w2 ⟨rfl, hb2⟩
      have z2 := hb2.size
      obtain ⟨c2, f2⟩ := bcell hb2
      have z3 : w.heap.size < w1.heap.size := by simp at z1; omega
      rw [Int.tdiv_eq_ediv_of_nonneg (by omega)]
      go_wp2
      refine bodyPost_ret (v := .tuple #[fracV (X - Y) X, .int .i64 0]) (by simp [results, Try.results23, go_sem, c2, c1, z3, fracV]) rfl ⟨by rw [HCH.out], ?_⟩
      (repeat' (first | (with_reducible exact Below.refl _ _) | (with_reducible assumption) | (with_reducible refine Below.alloc ?_ ?_ _) | (with_reducible refine Below.drew ?_) | (with_reducible refine below_drewN ?_ _) | (with_reducible refine Below.setCell ?_ ?_ _) | (with_reducible refine below_step ?_ (by with_reducible assumption) ?_) | go_size))

/-- Within asked for a number of days that is none of 0 to 12. -/
theorem Within_days (F : Nat → Prop) (k : Nat) (n N : Int) (M : Days) (w : World) (hB : IsBook w F k n N M) (hR : Rise N M) (a b d q : Int) (hf : Fit n a b d) (hq : q < 0 ∨ 12 < q) :
    Calls Try.prog 23 #[.pointer (some ⟨k, 0, none⟩), .int .i64 a, .int .i64 b, .int .i64 d, .int .i64 q] w fun e w' => e = .returned (.tuple #[.agg #[.int .i64 0, .int .i64 0], .int .i64 1]) ∧ Below w.heap.size w w' := by
  have cA := fun w hB => recent_ok F k n N M w hB hR a b d hf
  generalize (win (M (min a b) (max a b)) (d - 32 + 1) d).length = m at cA
  have CA := Lib.hid cA
  have HB := Lib.hid hB
  clear cA hB
  rcases hq with hq | hq
  all_goals
    go_enter Try.func23, Try.ntmps23
    go_wp2_with fail
    refine (CA.out _ (HB.out.below (by (repeat' (first | (with_reducible exact Below.refl _ _) | (with_reducible assumption) | (with_reducible refine Below.alloc ?_ ?_ _) | (with_reducible refine Below.drew ?_) | (with_reducible refine below_drewN ?_ _) | (with_reducible refine Below.setCell ?_ ?_ _) | (with_reducible refine below_step ?_ (by with_reducible assumption) ?_) | go_size))))).mono ?_
    rintro e w1 ⟨rfl, hb⟩
    have z1 := hb.size
    obtain ⟨c1, f1⟩ := bcell hb
    have z3 : w.heap.size < w1.heap.size := by simp at z1; omega
    go_wp2
    refine bodyPost_ret (v := .tuple #[.agg #[.int .i64 0, .int .i64 0], .int .i64 1]) (by simp [results, Try.results23, go_sem, c1]) rfl ⟨rfl, ?_⟩
    (repeat' (first | (with_reducible exact Below.refl _ _) | (with_reducible assumption) | (with_reducible refine Below.alloc ?_ ?_ _) | (with_reducible refine Below.drew ?_) | (with_reducible refine below_drewN ?_ _) | (with_reducible refine Below.setCell ?_ ?_ _) | (with_reducible refine below_step ?_ (by with_reducible assumption) ?_) | go_size))

theorem Within_bad (k : Nat) (n : Int) (w : World) (hB : w.cell? ⟨k, 0, none⟩ = some (.int .i64 n)) (a b d q : Int) (hf : ¬ Fit n a b d) :
    Calls Try.prog 23 #[.pointer (some ⟨k, 0, none⟩), .int .i64 a, .int .i64 b, .int .i64 d, .int .i64 q] w fun e w' => e = .returned (.tuple #[.agg #[.int .i64 0, .int .i64 0], .int .i64 1]) ∧ Below w.heap.size w w' := by
  have cA := fun w hB => recent_bad k n w hB a b d hf
  have CA := Lib.hid cA
  have klt := cell_lt hB
  have HB := Lib.hid hB
  clear cA hB
  go_enter Try.func23, Try.ntmps23
  go_wp2_with fail
  refine (CA.out _ ?_).mono ?_
  · rw [((Below.refl _ w).alloc (Nat.le_refl _) _).cell (p := ⟨k, 0, none⟩) klt]; exact HB.out
  rintro e w1 ⟨rfl, hb⟩
  have z1 := hb.size
  obtain ⟨c1, f1⟩ := bcell hb
  have z3 : w.heap.size < w1.heap.size := by simp at z1; omega
  go_wp2
  refine bodyPost_ret (v := .tuple #[.agg #[.int .i64 0, .int .i64 0], .int .i64 1]) (by simp [results, Try.results23, go_sem, c1]) rfl ⟨rfl, ?_⟩
  (repeat' (first | (with_reducible exact Below.refl _ _) | (with_reducible assumption) | (with_reducible refine Below.alloc ?_ ?_ _) | (with_reducible refine Below.drew ?_) | (with_reducible refine below_drewN ?_ _) | (with_reducible refine Below.setCell ?_ ?_ _) | (with_reducible refine below_step ?_ (by with_reducible assumption) ?_) | go_size))

/-- Book.Expected. -/
theorem Expected_bad (k : Nat) (n : Int) (w : World) (hB : w.cell? ⟨k, 0, none⟩ = some (.int .i64 n)) (a b d : Int) (hf : ¬ Fit n a b d) :
    Calls Try.prog 22 #[.pointer (some ⟨k, 0, none⟩), .int .i64 a, .int .i64 b, .int .i64 d] w fun e w' => e = .returned (.tuple #[.agg #[.int .i64 0, .int .i64 0], .int .i64 1]) ∧ Below w.heap.size w w' := by
  have cA := fun w hB => recent_bad k n w hB a b d hf
  have CA := Lib.hid cA
  have klt := cell_lt hB
  have HB := Lib.hid hB
  clear cA hB
  go_enter Try.func22, Try.ntmps22
  go_wp2_with fail
  refine (CA.out _ ?_).mono ?_
  · rw [((Below.refl _ w).alloc (Nat.le_refl _) _).cell (p := ⟨k, 0, none⟩) klt]; exact HB.out
  rintro e w1 ⟨rfl, hb⟩
  have z1 := hb.size
  obtain ⟨c1, f1⟩ := bcell hb
  have z3 : w.heap.size < w1.heap.size := by simp at z1; omega
  go_wp2
  refine bodyPost_ret (v := .tuple #[.agg #[.int .i64 0, .int .i64 0], .int .i64 1]) (by simp [results, Try.results22, go_sem, c1]) rfl ⟨rfl, ?_⟩
  (repeat' (first | (with_reducible exact Below.refl _ _) | (with_reducible assumption) | (with_reducible refine Below.alloc ?_ ?_ _) | (with_reducible refine Below.drew ?_) | (with_reducible refine below_drewN ?_ _) | (with_reducible refine Below.setCell ?_ ?_ _) | (with_reducible refine below_step ?_ (by with_reducible assumption) ?_) | go_size))

theorem Expected_none (F : Nat → Prop) (k : Nat) (n N : Int) (M : Days) (w : World) (hB : IsBook w F k n N M) (hR : Rise N M) (a b d : Int) (hf : Fit n a b d) (h0 : (win (M (min a b) (max a b)) (d - 32 + 1) d).length = 0) :
    Calls Try.prog 22 #[.pointer (some ⟨k, 0, none⟩), .int .i64 a, .int .i64 b, .int .i64 d] w fun e w' => e = .returned (.tuple #[.agg #[.int .i64 0, .int .i64 0], .int .i64 4]) ∧ Below w.heap.size w w' := by
  have cA := fun w hB => recent_ok F k n N M w hB hR a b d hf
  rw [h0] at cA
  have CA := Lib.hid cA
  have HB := Lib.hid hB
  clear cA hB h0
  go_enter Try.func22, Try.ntmps22
  go_wp2_with fail
  refine (CA.out _ (HB.out.below (by (repeat' (first | (with_reducible exact Below.refl _ _) | (with_reducible assumption) | (with_reducible refine Below.alloc ?_ ?_ _) | (with_reducible refine Below.drew ?_) | (with_reducible refine below_drewN ?_ _) | (with_reducible refine Below.setCell ?_ ?_ _) | (with_reducible refine below_step ?_ (by with_reducible assumption) ?_) | go_size))))).mono ?_
  rintro e w1 ⟨rfl, hb⟩
  have z1 := hb.size
  obtain ⟨c1, f1⟩ := bcell hb
  have z3 : w.heap.size < w1.heap.size := by simp at z1; omega
  go_wp2
  refine bodyPost_ret (v := .tuple #[.agg #[.int .i64 0, .int .i64 0], .int .i64 4]) (by simp [results, Try.results22, go_sem, c1]) rfl ⟨rfl, ?_⟩
  (repeat' (first | (with_reducible exact Below.refl _ _) | (with_reducible assumption) | (with_reducible refine Below.alloc ?_ ?_ _) | (with_reducible refine Below.drew ?_) | (with_reducible refine below_drewN ?_ _) | (with_reducible refine Below.setCell ?_ ?_ _) | (with_reducible refine below_step ?_ (by with_reducible assumption) ?_) | go_size))

theorem Expected_some (F : Nat → Prop) (k : Nat) (n N : Int) (M : Days) (w : World) (hB : IsBook w F k n N M) (hR : Rise N M) (a b d : Int) (hf : Fit n a b d) (h0 : 0 < (win (M (min a b) (max a b)) (d - 32 + 1) d).length) :
    Calls Try.prog 22 #[.pointer (some ⟨k, 0, none⟩), .int .i64 a, .int .i64 b, .int .i64 d] w fun e w' => e = .returned (.tuple #[fracV 32 ((win (M (min a b) (max a b)) (d - 32 + 1) d).length : Nat), .int .i64 0]) ∧ Below w.heap.size w w' := by
  have cA := fun w hB => recent_ok F k n N M w hB hR a b d hf
  have hl := win_short hR (min a b) (max a b) (d - 32 + 1) d (by omega)
  generalize (win (M (min a b) (max a b)) (d - 32 + 1) d).length = m at cA hl h0 ⊢
  have hz : ((m : Int) == 0) = false := by rw [beq_eq_false_iff_ne]; omega
  have hm : (m : Int) ≤ 32 := by omega
  have CA := Lib.hid cA
  have HB := Lib.hid hB
  clear cA hB hl
  go_enter Try.func22, Try.ntmps22
  go_wp2_with fail
  refine (CA.out _ (HB.out.below (by (repeat' (first | (with_reducible exact Below.refl _ _) | (with_reducible assumption) | (with_reducible refine Below.alloc ?_ ?_ _) | (with_reducible refine Below.drew ?_) | (with_reducible refine below_drewN ?_ _) | (with_reducible refine Below.setCell ?_ ?_ _) | (with_reducible refine below_step ?_ (by with_reducible assumption) ?_) | go_size))))).mono ?_
  rintro e w1 ⟨rfl, hb⟩
  have z1 := hb.size
  obtain ⟨c1, f1⟩ := bcell hb
  go_wp2_with fail
  refine (reduced_pos _ _ _ (by omega) (by omega) (by omega) (by omega)).mono ?_
  rintro e w2 ⟨rfl, hb2⟩
  have z2 := hb2.size
  obtain ⟨c2, f2⟩ := bcell hb2
  have z3 : w.heap.size < w1.heap.size := by simp at z1; omega
  rw [Int.tdiv_eq_ediv_of_nonneg (by omega)]
  go_wp2
  refine bodyPost_ret (v := .tuple #[fracV 32 m, .int .i64 0]) (by simp [results, Try.results22, go_sem, c2, c1, z3, fracV]) rfl ⟨rfl, ?_⟩
  (repeat' (first | (with_reducible exact Below.refl _ _) | (with_reducible assumption) | (with_reducible refine Below.alloc ?_ ?_ _) | (with_reducible refine Below.drew ?_) | (with_reducible refine below_drewN ?_ _) | (with_reducible refine Below.setCell ?_ ?_ _) | (with_reducible refine below_step ?_ (by with_reducible assumption) ?_) | go_size))

end Go.Proofs.Ytednejckcdiebaa
