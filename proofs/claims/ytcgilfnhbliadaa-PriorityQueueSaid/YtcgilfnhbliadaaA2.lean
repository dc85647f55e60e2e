/- Small functions: cmp.Compare, cmp.Or, sign, gcd, and when a task is valid. -/
import Derived.Test.YtcgilfnhbliadaaP1
import Derived.WalkLawsBesides
namespace Go.Proofs.Ytcgilfnhbliadaa
open Go.RowKit Go.Lib Go.ChangeMaps
set_option linter.unusedSimpArgs false

theorem nan46 (x : Int) (w : World) : Calls Try.prog 46 #[.int .i64 x] w fun e w' => e = .returned (.bool false) ∧ w = w' := by
  go_enter Try.func46, Try.ntmps46
  go_wp2
  go_ret
  exact ⟨by simp, rfl⟩
theorem nan47 (x : ByteArray) (w : World) : Calls Try.prog 47 #[.string x] w fun e w' => e = .returned (.bool false) ∧ w = w' := by
  go_enter Try.func47, Try.ntmps47
  go_wp2
  go_ret
  exact ⟨by simp, rfl⟩
set_option maxHeartbeats 1000000 in
theorem cmpI_any (x y : Int) (w : World) : Calls Try.prog 36 #[.int .i64 x, .int .i64 y] w fun e w' => e = .returned (.int .i64 (ord x y)) ∧ w = w' := by
  unfold ord
  go_enter Try.func36, Try.ntmps36
  go_wp2_with (go_at_call 46; refine (nan46 _ _).mono ?_; rintro e w' ⟨rfl, rfl⟩)
  all_goals
    go_ret
    refine ⟨?_, rfl⟩
    (repeat' split) <;> first | rfl | (exfalso; omega)
set_option maxHeartbeats 1000000 in
theorem cmpS_any (x y : ByteArray) (w : World) : Calls Try.prog 37 #[.string x, .string y] w fun e w' => e = .returned (.int .i64 (cmpS x y)) ∧ w = w' := by
  have hc := cmpS_cases x y
  have h0 := str_eq x y
  generalize hL : Op.bytesLess x.toList y.toList = L at *
  generalize hE : (x.toList == y.toList) = E at *
  have hR : cmpS x y = if L = true then -1 else if E = true then 0 else 1 := by unfold cmpS; rw [hL, h0]; simp
  have HR := Lib.hid hR
  clear hR hc h0
  generalize cmpS x y = r at *
  cases L <;> cases E
  all_goals
    go_enter Try.func37, Try.ntmps37
    go_wp2_with (go_at_call 47; refine (nan47 _ _).mono ?_; rintro e w' ⟨rfl, rfl⟩)
    go_ret
    exact ⟨by rw [HR.out]; rfl, rfl⟩
theorem sign_any (a b : Bool) (w : World) : Calls Try.prog 38 #[.bool a, .bool b] w fun e w' => e = .returned (.int .i64 (if a = true then -1 else if b = true then 0 else 1)) ∧ w = w' := by
  cases a <;> cases b
  all_goals
    go_enter Try.func38, Try.ntmps38
    go_wp2
    go_ret
    exact ⟨rfl, rfl⟩

theorem orL_drop (xs : List Int) (i : Nat) (h : i < xs.length) : orL (xs.drop i) = if xs.getD i 0 = 0 then orL (xs.drop (i + 1)) else xs.getD i 0 := by
  rw [List.drop_eq_getElem_cons h, getD_at _ _ _ h]
  rfl
set_option maxHeartbeats 1000000 in
/-- cmp.Or. -/
theorem or_any (v : Value) (xs : List Int) (w : World) (hv : ReadsI w v xs) :
    Calls Try.prog 35 #[v] w fun e w' => e = .returned (.int .i64 (orL xs)) ∧ w = w' := by
  obtain ⟨ao, c, b, off, rfl, hl, hm, hcell⟩ := hv.at
  have HC := Lib.hid hcell
  clear hcell hv
  go_enter Try.func35, Try.ntmps35
  go_wp2
  go_loop [8, 5] (fun s8 s5 => ∃ i : Nat, s8 = .int .i64 i ∧ i ≤ xs.length ∧ orL (xs.drop i) = orL xs) (fun s8 _ => xs.length - (intOf s8).toNat)
  case atStart => exact ⟨0, rfl, Nat.zero_le _, rfl⟩
  case round =>
    obtain ⟨i, rfl, hi, hr⟩ := hrel
    have HR := Lib.hid hr
    clear hr
    by_cases hlt : i < xs.length
    · obtain ⟨rfl, h1⟩ := HC.out i hlt
      have HD := Lib.hid (orL_drop xs i hlt)
      generalize xs.getD i 0 = x at *
      by_cases hx : x = 0
      · have t : (x != 0) = false := by simp [hx]
        rw [if_pos hx] at HD
        clear hx
        go_wp2
        go_round
        case rel => exact ⟨i + 1, by go_num, by omega, by rw [← HD.out]; exact HR.out⟩
        case measure => simp [intOf]; omega
      · have t : (x != 0) = true := by simp [hx]
        rw [if_neg hx] at HD
        clear hx
        go_wp2
        go_ret
        exact ⟨by rw [← HR.out, HD.out]; rfl, rfl⟩
    · have hd : xs.drop i = [] := List.drop_eq_nil_of_le (by omega)
      have HO := Lib.hid (show orL xs = 0 by rw [← HR.out, hd]; rfl)
      clear hd
      go_wp2
      go_ret
      exact ⟨by rw [HO.out]; rfl, rfl⟩

theorem within_any (x a b : Int) (w : World) : Calls Try.prog 53 #[.int .i64 x, .int .i64 a, .int .i64 b] w fun e w' => e = .returned (.bool (decide (a ≤ x ∧ x ≤ b))) ∧ w = w' := by
  by_cases h1 : a ≤ x <;> by_cases h2 : x ≤ b
  all_goals
    go_enter Try.func53, Try.ntmps53
    go_wp2
    go_ret
    exact ⟨by simp [*], rfl⟩

set_option maxHeartbeats 1000000 in
theorem divisor_any (a b : Nat) (w : World) (ha : a ≤ 9223372036854775807) (hb : b ≤ 9223372036854775807) :
    Calls Try.prog 54 #[.int .i64 a, .int .i64 b] w fun e w' => e = .returned (.int .i64 (Nat.gcd a b : Nat)) ∧ ∃ n, w' = w.drewN n := by
  go_enter Try.func54, Try.ntmps54
  go_wp2
  go_loopw [0, 1] (fun v0 v1 wr => ∃ x y q : Nat, v0 = .int .i64 (x : Int) ∧ v1 = .int .i64 (y : Int) ∧ Nat.gcd x y = Nat.gcd a b ∧ x ≤ 9223372036854775807 ∧ y ≤ 9223372036854775807 ∧ wr = w.drewN q) (fun _ v1 _ => (intOf v1).toNat)
  case atStart => exact ⟨a, b, 0, rfl, rfl, rfl, ha, hb, rfl⟩
  case round =>
    obtain ⟨x, y, q, rfl, rfl, hg, hx, hy, rfl⟩ := hrel
    have HG := Lib.hid hg
    clear hg
    by_cases hy0 : y = 0
    · subst hy0
      have hx0 : x = Nat.gcd a b := by rw [← HG.out]; simp
      clear HG
      subst hx0
      go_wp2
      go_ret
      exact ⟨rfl, _, rfl⟩
    · have hy1 : 0 < y := by omega
      have hb : ((y : Int) != 0) = true := by simp; omega
      clear hy0
      go_wp2
      go_quiet (fail)
      go_wp2
      go_roundw
      case rel =>
        refine ⟨y, x % y, q + nq, rfl, rfl, ?_, hy, ?_, World.drewN_drewN ..⟩
        · rw [← HG.out, Nat.gcd_comm, ← Nat.gcd_rec, Nat.gcd_comm]
        · have := Nat.mod_lt x hy1; omega
      case measure => simp [intOf]; have := Nat.mod_lt x hy1; omega
set_option maxHeartbeats 1000000 in
theorem gcd_any (a b : Nat) (w : World) (ha : a ≤ 9223372036854775807) (hb : b ≤ 9223372036854775807) :
    Calls Try.prog 44 #[.int .i64 a, .int .i64 b] w fun e w' => e = .returned (.int .i64 (Nat.gcd a b : Nat)) ∧ ∃ n, w' = w.drewN n := by
  go_enter Try.func44, Try.ntmps44
  go_wp2
  go_loopw [0, 1] (fun v0 v1 wr => ∃ x y q : Nat, v0 = .int .i64 (x : Int) ∧ v1 = .int .i64 (y : Int) ∧ Nat.gcd x y = Nat.gcd a b ∧ x ≤ 9223372036854775807 ∧ y ≤ 9223372036854775807 ∧ wr = w.drewN q) (fun _ v1 _ => (intOf v1).toNat)
  case atStart => exact ⟨a, b, 0, rfl, rfl, rfl, ha, hb, rfl⟩
  case round =>
    obtain ⟨x, y, q, rfl, rfl, hg, hx, hy, rfl⟩ := hrel
    have HG := Lib.hid hg
    clear hg
    by_cases hy0 : y = 0
    · subst hy0
      have hx0 : x = Nat.gcd a b := by rw [← HG.out]; simp
      clear HG
      subst hx0
      go_wp2
      go_ret
      exact ⟨rfl, _, rfl⟩
    · have hy1 : 0 < y := by omega
      have hb : decide ((0 : Int) < (y : Int)) = true := by simp; omega
      clear hy0
      go_wp2
      go_quiet (fail)
      go_wp2
      go_roundw
      case rel =>
        refine ⟨y, x % y, q + nq, rfl, rfl, ?_, hy, ?_, World.drewN_drewN ..⟩
        · rw [← HG.out, Nat.gcd_comm, ← Nat.gcd_rec, Nat.gcd_comm]
        · have := Nat.mod_lt x hy1; omega
      case measure => simp [intOf]; have := Nat.mod_lt x hy1; omega

end Go.Proofs.Ytcgilfnhbliadaa
