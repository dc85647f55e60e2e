/- The number functions of package meetingstats and of its reference: validDay, has, ordered, Reduced, Lowest, Pair. -/
import Derived.Test.YtednejckcdiebaaProg
import Derived.WalkKit
import Derived.WalkLawsBesides
import Derived.WalkSpells
import Derived.BigQuiet
import Derived.Deep.QuietTactic
import Derived.Deep.LoopGhost
import Derived.Lib.Hide
import Derived.Outline
import Derived.Handy
namespace Go.Proofs.Ytednejckcdiebaa
open Go.RowKit Go.Lib

/-- Behind a callee that leaves all old blocks as they were. -/
theorem below_step {B : Nat} {w w1 w2 : World} (h1 : Below B w w1) (h2 : Below w1.heap.size w1 w2) (hB : B ≤ w1.heap.size) : Below B w w2 := h1.trans (h2.mono hB)

theorem pair_any (n a b : Int) (w : World) :
    Calls Try.prog 18 #[.int .i64 n, .int .i64 a, .int .i64 b] w fun e w' => e = .returned (.bool (decide (0 ≤ a ∧ a < n ∧ 0 ≤ b ∧ b < n ∧ a ≠ b))) ∧ w = w' := by
  by_cases h1 : 0 ≤ a <;> by_cases h2 : a < n <;> by_cases h3 : 0 ≤ b <;> by_cases h4 : b < n <;> by_cases h5 : a = b
  all_goals
    go_enter Try.func18, Try.ntmps18
    go_wp2
    go_ret
    exact ⟨by simp [*], rfl⟩

theorem validDay_any (d : Int) (w : World) :
    Calls Try.prog 57 #[.int .i64 d] w fun e w' => e = .returned (.bool (decide (0 ≤ d ∧ d ≤ 999999))) ∧ w = w' := by
  by_cases h1 : 0 ≤ d <;> by_cases h2 : d ≤ 999999
  all_goals
    go_enter Try.func57, Try.ntmps57
    go_wp2
    go_ret
    exact ⟨by simp [*], rfl⟩


theorem ordered_any (a b : Int) (w : World) :
    Calls Try.prog 37 #[.int .i64 a, .int .i64 b] w fun e w' => e = .returned (.agg #[.int .i64 (min a b), .int .i64 (max a b)]) ∧ Below w.heap.size w w' := by
  rcases Int.lt_trichotomy a b with h | h | h
  · rw [Int.min_eq_left (by omega), Int.max_eq_right (by omega)]
    go_enter Try.func37, Try.ntmps37
    go_wp2
    go_returns
    exact ⟨rfl, by go_grown⟩
  · subst h
    rw [Int.min_self, Int.max_self]
    go_enter Try.func37, Try.ntmps37
    go_wp2
    all_goals
      go_returns
      exact ⟨rfl, by go_grown⟩
  · rw [Int.min_eq_right (by omega), Int.max_eq_left (by omega)]
    go_enter Try.func37, Try.ntmps37
    go_wp2
    go_returns
    exact ⟨rfl, by go_grown⟩

/-- The numbers that an int holds. -/
def I64 (x : Int) : Prop := -9223372036854775808 ≤ x ∧ x ≤ 9223372036854775807


set_option maxHeartbeats 1000000 in
theorem reduced_pos (num den : Int) (w : World) (hn1 : -9223372036854775807 ≤ num) (hn2 : num ≤ 9223372036854775807) (hd1 : 1 ≤ den) (hd2 : den ≤ 9223372036854775807) :
    Calls Try.prog 13 #[.int .i64 num, .int .i64 den] w fun e w' => e = .returned (.tuple #[.agg #[.int .i64 (num.tdiv (Int.gcd num den)), .int .i64 (den / (Int.gcd num den))], .int .i64 0]) ∧ Below w.heap.size w w' := by
  have k1 : (den == 0) = false := by rw [beq_eq_false_iff_ne]; omega
  have k2 : (num == -9223372036854775808) = false := by rw [beq_eq_false_iff_ne]; omega
  have k3 : (den == -9223372036854775808) = false := by rw [beq_eq_false_iff_ne]; omega
  have hG : Hid (Nat.gcd num.natAbs den.toNat = Int.gcd num den) := by
    show Nat.gcd num.natAbs den.toNat = Nat.gcd num.natAbs den.natAbs
    congr 1; omega
  go_enter Try.func13, Try.ntmps13
  go_wp2
  all_goals
    go_loopw [6, 7] (fun v6 v7 wr => ∃ x y q : Nat, v6 = .int .i64 (x : Int) ∧ v7 = .int .i64 (y : Int) ∧ Nat.gcd x y = Int.gcd num den ∧ x ≤ 9223372036854775807 ∧ y ≤ 9223372036854775807 ∧ 0 < x + y ∧ wr = (w.alloc (Obj.cells #[Value.int IntKind.i64 0, Value.int IntKind.i64 0] 23)).drewN q)
      (fun _ v7 _ => (intOf v7).toNat)
    case atStart => exact ⟨num.natAbs, den.toNat, 0, by congr 1; omega, by congr 1; omega, hG.out, by omega, by omega, by omega, rfl⟩
    case round =>
      obtain ⟨x, y, q, rfl, rfl, hg, hx, hy, hxy, rfl⟩ := hrel
      have HG := Lib.hid hg; clear hg
      by_cases hy0 : y = 0
      · subst hy0
        have hx0 : x = Int.gcd num den := by rw [← HG.out]; simp
        clear HG
        subst hx0
        go_wp2
        go_region
        go_wp2
        go_returns
        refine ⟨?_, ?_⟩
        · first | rfl | rw [Int.tdiv_eq_ediv_of_nonneg (by omega)]
        · (repeat' (first | (with_reducible exact Below.refl _ _) | (with_reducible assumption) | (with_reducible refine Below.alloc ?_ ?_ _) | (with_reducible refine Below.drew ?_) | (with_reducible refine below_drewN ?_ _) | (with_reducible refine Below.setCell ?_ ?_ _) | (with_reducible refine below_step ?_ (by with_reducible assumption) ?_) | go_size))
      · have hy1 : 0 < y := by omega
        have hb : ((y : Int) != 0) = true := by simp; omega
        clear hy0
        go_wp2
        go_quiet (fail)
        go_wp2
        go_roundw
        case rel => 
          refine ⟨y, x % y, q + nq, rfl, rfl, ?_, hy, ?_, ?_, World.drewN_drewN ..⟩
          · rw [← HG.out, Nat.gcd_comm, ← Nat.gcd_rec, Nat.gcd_comm]
          · have := Nat.mod_lt x hy1; omega
          · omega
        case measure => simp [intOf]; have := Nat.mod_lt x hy1; omega

set_option maxHeartbeats 1000000 in
theorem reduced_neg (num den : Int) (w : World) (hn1 : -9223372036854775807 ≤ num) (hn2 : num ≤ 9223372036854775807) (hd1 : 1 ≤ den) (hd2 : den ≤ 9223372036854775807) :
    Calls Try.prog 13 #[.int .i64 (-num), .int .i64 (-den)] w fun e w' => e = .returned (.tuple #[.agg #[.int .i64 (num.tdiv (Int.gcd num den)), .int .i64 (den / (Int.gcd num den))], .int .i64 0]) ∧ Below w.heap.size w w' := by
  have k1 : (-den == 0) = false := by rw [beq_eq_false_iff_ne]; omega
  have k2 : (-num == -9223372036854775808) = false := by rw [beq_eq_false_iff_ne]; omega
  have k3 : (-den == -9223372036854775808) = false := by rw [beq_eq_false_iff_ne]; omega
  have hG : Hid (Nat.gcd num.natAbs den.toNat = Int.gcd num den) := by
    show Nat.gcd num.natAbs den.toNat = Nat.gcd num.natAbs den.natAbs
    congr 1; omega
  go_enter Try.func13, Try.ntmps13
  go_wp2
  all_goals
    go_loopw [6, 7] (fun v6 v7 wr => ∃ x y q : Nat, v6 = .int .i64 (x : Int) ∧ v7 = .int .i64 (y : Int) ∧ Nat.gcd x y = Int.gcd num den ∧ x ≤ 9223372036854775807 ∧ y ≤ 9223372036854775807 ∧ 0 < x + y ∧ wr = (w.alloc (Obj.cells #[Value.int IntKind.i64 0, Value.int IntKind.i64 0] 23)).drewN q)
      (fun _ v7 _ => (intOf v7).toNat)
    case atStart => exact ⟨num.natAbs, den.toNat, 0, by congr 1; omega, by congr 1; omega, hG.out, by omega, by omega, by omega, rfl⟩
    case round =>
      obtain ⟨x, y, q, rfl, rfl, hg, hx, hy, hxy, rfl⟩ := hrel
      have HG := Lib.hid hg; clear hg
      by_cases hy0 : y = 0
      · subst hy0
        have hx0 : x = Int.gcd num den := by rw [← HG.out]; simp
        clear HG
        subst hx0
        go_wp2
        go_region
        go_wp2
        go_returns
        refine ⟨?_, ?_⟩
        · first | rfl | rw [Int.tdiv_eq_ediv_of_nonneg (by omega)]
        · (repeat' (first | (with_reducible exact Below.refl _ _) | (with_reducible assumption) | (with_reducible refine Below.alloc ?_ ?_ _) | (with_reducible refine Below.drew ?_) | (with_reducible refine below_drewN ?_ _) | (with_reducible refine Below.setCell ?_ ?_ _) | (with_reducible refine below_step ?_ (by with_reducible assumption) ?_) | go_size))
      · have hy1 : 0 < y := by omega
        have hb : ((y : Int) != 0) = true := by simp; omega
        clear hy0
        go_wp2
        go_quiet (fail)
        go_wp2
        go_roundw
        case rel => 
          refine ⟨y, x % y, q + nq, rfl, rfl, ?_, hy, ?_, ?_, World.drewN_drewN ..⟩
          · rw [← HG.out, Nat.gcd_comm, ← Nat.gcd_rec, Nat.gcd_comm]
          · have := Nat.mod_lt x hy1; omega
          · omega
        case measure => simp [intOf]; have := Nat.mod_lt x hy1; omega

theorem reduced_bad (num den : Int) (w : World) (h : den = 0 ∨ num = -9223372036854775808 ∨ den = -9223372036854775808) :
    Calls Try.prog 13 #[.int .i64 num, .int .i64 den] w fun e w' => e = .returned (.tuple #[.agg #[.int .i64 0, .int .i64 0], .int .i64 1]) ∧ Below w.heap.size w w' := by
  by_cases h1 : den = 0
  · subst h1
    go_enter Try.func13, Try.ntmps13
    go_wp2
    go_returns
    exact ⟨rfl, by (repeat' (first | (with_reducible exact Below.refl _ _) | (with_reducible assumption) | (with_reducible refine Below.alloc ?_ ?_ _) | (with_reducible refine Below.drew ?_) | (with_reducible refine below_drewN ?_ _) | (with_reducible refine Below.setCell ?_ ?_ _) | (with_reducible refine below_step ?_ (by with_reducible assumption) ?_) | go_size))⟩
  · by_cases h2 : num = -9223372036854775808
    · subst h2
      have k1 : (den == 0) = false := by rw [beq_eq_false_iff_ne]; omega
      clear h h1
      go_enter Try.func13, Try.ntmps13
      go_wp2
      go_returns
      exact ⟨rfl, by (repeat' (first | (with_reducible exact Below.refl _ _) | (with_reducible assumption) | (with_reducible refine Below.alloc ?_ ?_ _) | (with_reducible refine Below.drew ?_) | (with_reducible refine below_drewN ?_ _) | (with_reducible refine Below.setCell ?_ ?_ _) | (with_reducible refine below_step ?_ (by with_reducible assumption) ?_) | go_size))⟩
    · obtain rfl : den = -9223372036854775808 := by omega
      have k1 : (num == -9223372036854775808) = false := by rw [beq_eq_false_iff_ne]; omega
      clear h h1 h2
      go_enter Try.func13, Try.ntmps13
      go_wp2
      go_returns
      exact ⟨rfl, by (repeat' (first | (with_reducible exact Below.refl _ _) | (with_reducible assumption) | (with_reducible refine Below.alloc ?_ ?_ _) | (with_reducible refine Below.drew ?_) | (with_reducible refine below_drewN ?_ _) | (with_reducible refine Below.setCell ?_ ?_ _) | (with_reducible refine below_step ?_ (by with_reducible assumption) ?_) | go_size))⟩


set_option maxHeartbeats 1000000 in
theorem lowest_any (num den : Int) (w : World) (hn1 : 0 ≤ num) (hn2 : num ≤ 9223372036854775807) (hd1 : 1 ≤ den) (hd2 : den ≤ 9223372036854775807) :
    Calls Try.prog 15 #[.int .i64 num, .int .i64 den] w fun e w' => e = .returned (.agg #[.int .i64 (num / (Int.gcd num den)), .int .i64 (den / (Int.gcd num den))]) ∧ Below w.heap.size w w' := by
  have k1 : (den == 0) = false := by rw [beq_eq_false_iff_ne]; omega
  have k2 : (num == -9223372036854775808) = false := by rw [beq_eq_false_iff_ne]; omega
  have k3 : (den == -9223372036854775808) = false := by rw [beq_eq_false_iff_ne]; omega
  have hG : Hid (Nat.gcd num.natAbs den.toNat = Int.gcd num den) := by
    show Nat.gcd num.natAbs den.toNat = Nat.gcd num.natAbs den.natAbs
    congr 1; omega
  go_enter Try.func15, Try.ntmps15
  go_wp2
  all_goals
    go_loopw [5, 6] (fun v6 v7 wr => ∃ x y q : Nat, v6 = .int .i64 (x : Int) ∧ v7 = .int .i64 (y : Int) ∧ Nat.gcd x y = Int.gcd num den ∧ x ≤ 9223372036854775807 ∧ y ≤ 9223372036854775807 ∧ 0 < x + y ∧ wr = (w.alloc (Obj.cells #[Value.int IntKind.i64 0, Value.int IntKind.i64 0] 23)).drewN q)
      (fun _ v7 _ => (intOf v7).toNat)
    case atStart => exact ⟨num.natAbs, den.toNat, 0, by congr 1; omega, by congr 1; omega, hG.out, by omega, by omega, by omega, rfl⟩
    case round =>
      obtain ⟨x, y, q, rfl, rfl, hg, hx, hy, hxy, rfl⟩ := hrel
      have HG := Lib.hid hg; clear hg
      by_cases hy0 : y = 0
      · subst hy0
        have hx0 : x = Int.gcd num den := by rw [← HG.out]; simp
        clear HG
        subst hx0
        go_wp2
        go_region
        go_wp2
        go_returns
        refine ⟨?_, ?_⟩
        · first | rfl | rw [Int.tdiv_eq_ediv_of_nonneg (by omega)]
        · (repeat' (first | (with_reducible exact Below.refl _ _) | (with_reducible assumption) | (with_reducible refine Below.alloc ?_ ?_ _) | (with_reducible refine Below.drew ?_) | (with_reducible refine below_drewN ?_ _) | (with_reducible refine Below.setCell ?_ ?_ _) | (with_reducible refine below_step ?_ (by with_reducible assumption) ?_) | go_size))
      · have hy1 : 0 < y := by omega
        have hb : ((y : Int) != 0) = true := by simp; omega
        clear hy0
        go_wp2
        go_quiet (fail)
        go_wp2
        go_roundw
        case rel => 
          refine ⟨y, x % y, q + nq, rfl, rfl, ?_, hy, ?_, ?_, World.drewN_drewN ..⟩
          · rw [← HG.out, Nat.gcd_comm, ← Nat.gcd_rec, Nat.gcd_comm]
          · have := Nat.mod_lt x hy1; omega
          · omega
        case measure => simp [intOf]; have := Nat.mod_lt x hy1; omega

end Go.Proofs.Ytednejckcdiebaa
