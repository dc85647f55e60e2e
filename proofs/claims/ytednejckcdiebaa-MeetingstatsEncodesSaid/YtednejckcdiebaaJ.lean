/- meetingstats.Compare, and the reference's. -/
import Derived.Test.YtednejckcdiebaaU
import Derived.Test.YtednejckcdiebaaI
namespace Go.Proofs.Ytednejckcdiebaa
open Go.RowKit Go.Lib Go.ChangeMaps

theorem quiet_same {f : FuncId} {args : Array Value} {w : World} {n : Nat} {v : Value}
    (h : Calls Try.prog f args (w.drewN n) fun e w' => e = .returned v ∧ w.drewN n = w') : Calls Try.prog f args (w.drewN n) fun e w'' => e = .returned v ∧ ∃ m, w'' = w.drewN m :=
  h.mono fun _ _ ⟨he, hm⟩ => ⟨he, n, hm.symm⟩

set_option maxHeartbeats 1000000 in
theorem compare_bad (an ad bn bd : Int) (w : World) (h : ad ≤ 0 ∨ bd ≤ 0) :
    Calls Try.prog 26 #[.agg #[.int .i64 an, .int .i64 ad], .agg #[.int .i64 bn, .int .i64 bd]] w fun e w' => e = .returned (.tuple #[.int .i64 0, .int .i64 1]) ∧ Below w.heap.size w w' := by
  by_cases h1 : ad ≤ 0
  · have t1 : decide (ad ≤ 0) = true := by simp [h1]
    clear h h1
    go_enter Try.func26, Try.ntmps26
    go_wp2_with fail
    go_ret2
    exact ⟨rfl, by (repeat' (first | (with_reducible exact Below.refl _ _) | (with_reducible assumption) | (with_reducible refine Below.alloc ?_ ?_ _) | (with_reducible refine Below.drew ?_) | (with_reducible refine below_drewN ?_ _) | (with_reducible refine Below.setCell ?_ ?_ _) | (with_reducible refine below_step ?_ (by with_reducible assumption) ?_) | go_size))⟩
  · have t1 : decide (ad ≤ 0) = false := by simp; omega
    have t2 : decide (bd ≤ 0) = true := by simp; omega
    clear h h1
    go_enter Try.func26, Try.ntmps26
    go_wp2_with fail
    go_ret2
    exact ⟨rfl, by (repeat' (first | (with_reducible exact Below.refl _ _) | (with_reducible assumption) | (with_reducible refine Below.alloc ?_ ?_ _) | (with_reducible refine Below.drew ?_) | (with_reducible refine below_drewN ?_ _) | (with_reducible refine Below.setCell ?_ ?_ _) | (with_reducible refine below_step ?_ (by with_reducible assumption) ?_) | go_size))⟩

set_option maxRecDepth 100000 in
set_option maxHeartbeats 4000000 in
theorem compare_ok (an ad bn bd : Int) (w : World) (ha1 : -9223372036854775808 ≤ an) (ha2 : an ≤ 9223372036854775807) (hb1 : -9223372036854775808 ≤ bn) (hb2 : bn ≤ 9223372036854775807)
    (hn0 : 0 < ad) (hn : ad ≤ 9223372036854775807) (hm0 : 0 < bd) (hm : bd ≤ 9223372036854775807) :
    Calls Try.prog 26 #[.agg #[.int .i64 an, .int .i64 ad], .agg #[.int .i64 bn, .int .i64 bd]] w fun e w' => e = .returned (.tuple #[.int .i64 (ord (an * bd) (bn * ad)), .int .i64 0]) ∧ Below w.heap.size w w' := by
  have t1 : decide (ad ≤ 0) = false := by simp; omega
  have t2 : decide (bd ≤ 0) = false := by simp; omega
  have e1 : IntKind.u64.wrap ad = ad := by rw [IntKind.wrap_u64]; omega
  have e2 : IntKind.u64.wrap bd = bd := by rw [IntKind.wrap_u64]; omega
  obtain ⟨n, en⟩ : ∃ n : Nat, (n : Int) = ad := ⟨ad.toNat, by omega⟩
  obtain ⟨m, em⟩ : ∃ m : Nat, (m : Int) = bd := ⟨bd.toNat, by omega⟩
  have hD := ord_differ an bn n m (by omega) (by omega)
  have hS := ord_signs an bn n m
  have hP := ord_halves (an.natAbs * m) (bn.natAbs * n) 18446744073709551616 (by omega)
  have c3 := fun w => mul_any an.natAbs m w (by omega) (by omega)
  have c4 := fun w => mul_any bn.natAbs n w (by omega) (by omega)
  rw [em] at c3 hD hS
  rw [en] at c4 hD hS
  rw [hP] at hS
  have HD := Lib.hid hD
  have HS := Lib.hid hS
  have C1 := Lib.hid (fun w => magnitude_any an w ha1 ha2)
  have C2 := Lib.hid (fun w => magnitude_any bn w hb1 hb2)
  have C3 := Lib.hid c3
  have C4 := Lib.hid c4
  clear c3 c4 hD hS hP en em
  have b1 := ord_bounds an 0
  have b2 := ord_bounds bn 0
  clear ha1 ha2 hb1 hb2 hn0 hm0 hn hm
  go_enter Try.func26, Try.ntmps26
  go_wp2_with fail
  have f1 := (Frac.new w an ad).alloc (.cells #[.int .i64 bn, .int .i64 bd] 23)
  have f2 := Frac.new (w.alloc (.cells #[.int .i64 an, .int .i64 ad] 23)) bn bd
  have hb : Below w.heap.size w ((w.alloc (.cells #[.int .i64 an, .int .i64 ad] 23)).alloc (.cells #[.int .i64 bn, .int .i64 bd] 23)) := by (repeat' (first | (with_reducible exact Below.refl _ _) | (with_reducible assumption) | (with_reducible refine Below.alloc ?_ ?_ _) | (with_reducible refine Below.drew ?_) | (with_reducible refine below_drewN ?_ _) | (with_reducible refine Below.setCell ?_ ?_ _) | (with_reducible refine below_step ?_ (by with_reducible assumption) ?_) | go_size))
  rw [World.size_alloc] at f2
  generalize ((w.alloc (.cells #[.int .i64 an, .int .i64 ad] 23)).alloc (.cells #[.int .i64 bn, .int .i64 bd] 23)) = W at f1 f2 hb ⊢
  have F1W := Lib.hid f1
  have F2W := Lib.hid f2
  have pW := hb
  clear f1 f2 hb
  have a1 := F1W.out.c0
  have a2 := F1W.out.c1
  have a3 := F2W.out.c0
  have a4 := F2W.out.c1
  go_quiet ((go_at_call 39; exact quiet_same (cmpI_any _ _ _)))
  have pW2 : Below W.heap.size W (W.drewN nq) := by (repeat' (first | (with_reducible exact Below.refl _ _) | (with_reducible assumption) | (with_reducible refine Below.alloc ?_ ?_ _) | (with_reducible refine Below.drew ?_) | (with_reducible refine below_drewN ?_ _) | (with_reducible refine Below.setCell ?_ ?_ _) | (with_reducible refine below_step ?_ (by with_reducible assumption) ?_) | go_size))
  have F1W2 := Lib.hid (F1W.out.below pW2)
  have F2W2 := Lib.hid (F2W.out.below pW2)
  generalize W.drewN nq = W2 at pW2 F1W2 F2W2 ⊢
  have qW2 := pW.trans (pW2.mono pW.size)
  clear pW2
  have pW2 := qW2
  clear qW2 a1 a2 a3 a4
  have a1 := F1W2.out.c0
  have a2 := F1W2.out.c1
  have a3 := F2W2.out.c0
  have a4 := F2W2.out.c1
  cases ht : (ord an 0 != ord bn 0)
  · have hs : ord an 0 = ord bn 0 := by simpa using ht
    have hss := HS.out hs
    have g1 := ord_bounds ((an.natAbs * m / 18446744073709551616 : Nat) : Int) ((bn.natAbs * n / 18446744073709551616 : Nat) : Int)
    have g2 := ord_bounds ((an.natAbs * m % 18446744073709551616 : Nat) : Int) ((bn.natAbs * n % 18446744073709551616 : Nat) : Int)
    have cO := fun b w h0 h1 => or_any b (ord ((an.natAbs * m / 18446744073709551616 : Nat) : Int) ((bn.natAbs * n / 18446744073709551616 : Nat) : Int)) (ord ((an.natAbs * m % 18446744073709551616 : Nat) : Int) ((bn.natAbs * n % 18446744073709551616 : Nat) : Int)) w h0 h1
    have cU1 := fun w => cmpU_any ((an.natAbs * m / 18446744073709551616 : Nat) : Int) ((bn.natAbs * n / 18446744073709551616 : Nat) : Int) w
    have cU2 := fun w => cmpU_any ((an.natAbs * m % 18446744073709551616 : Nat) : Int) ((bn.natAbs * n % 18446744073709551616 : Nat) : Int) w
    generalize ord ((an.natAbs * m / 18446744073709551616 : Nat) : Int) ((bn.natAbs * n / 18446744073709551616 : Nat) : Int) = o1 at hss g1 cO cU1
    generalize ord ((an.natAbs * m % 18446744073709551616 : Nat) : Int) ((bn.natAbs * n % 18446744073709551616 : Nat) : Int) = o2 at hss g2 cO cU2
    obtain ⟨o, ho⟩ : ∃ o, o = if o1 = 0 then o2 else o1 := ⟨_, rfl⟩
    rw [← ho] at hss cO
    have g3 : -1 ≤ o ∧ o ≤ 1 := by rw [ho]; split <;> assumption
    have k : IntKind.i64.wrap (ord an 0 * o) = ord (an * bd) (bn * ad) := by
      rw [← hss, IntKind.wrap_i64]
      have : ord an 0 = -1 ∨ ord an 0 = 0 ∨ ord an 0 = 1 := by omega
      rcases this with h | h | h <;> rw [h] <;> omega
    have CO := Lib.hid cO
    have CU1 := Lib.hid cU1
    have CU2 := Lib.hid cU2
    clear hss hs ho g1 g2 g3 cO cU1 cU2 b1 b2 HS HD
    go_wp2_with fail
    go_quiet (first | (go_at_call 41; exact quiet_same (C1.out _)) | (go_at_call 40; exact quiet_same (C3.out _)))
    have pW3 : Below W2.heap.size W2 (W2.drewN nq) := by (repeat' (first | (with_reducible exact Below.refl _ _) | (with_reducible assumption) | (with_reducible refine Below.alloc ?_ ?_ _) | (with_reducible refine Below.drew ?_) | (with_reducible refine below_drewN ?_ _) | (with_reducible refine Below.setCell ?_ ?_ _) | (with_reducible refine below_step ?_ (by with_reducible assumption) ?_) | go_size))
    have F1W3 := Lib.hid (F1W2.out.below pW3)
    have F2W3 := Lib.hid (F2W2.out.below pW3)
    generalize W2.drewN nq = W3 at pW3 F1W3 F2W3 ⊢
    have qW3 := pW2.trans (pW3.mono pW2.size)
    clear pW3
    have pW3 := qW3
    clear qW3 a1 a2 a3 a4
    have a1 := F1W3.out.c0
    have a2 := F1W3.out.c1
    have a3 := F2W3.out.c0
    have a4 := F2W3.out.c1
    go_wp2_with fail
    go_quiet (first | (go_at_call 41; exact quiet_same (C2.out _)) | (go_at_call 40; exact quiet_same (C4.out _)))
    have pW4 : Below W3.heap.size W3 (W3.drewN nq) := by (repeat' (first | (with_reducible exact Below.refl _ _) | (with_reducible assumption) | (with_reducible refine Below.alloc ?_ ?_ _) | (with_reducible refine Below.drew ?_) | (with_reducible refine below_drewN ?_ _) | (with_reducible refine Below.setCell ?_ ?_ _) | (with_reducible refine below_step ?_ (by with_reducible assumption) ?_) | go_size))
    have F1W4 := Lib.hid (F1W3.out.below pW4)
    have F2W4 := Lib.hid (F2W3.out.below pW4)
    generalize W3.drewN nq = W4 at pW4 F1W4 F2W4 ⊢
    have qW4 := pW3.trans (pW4.mono pW3.size)
    clear pW4
    have pW4 := qW4
    clear qW4 a1 a2 a3 a4
    have a1 := F1W4.out.c0
    have a2 := F1W4.out.c1
    have a3 := F2W4.out.c0
    have a4 := F2W4.out.c1
    have z4 := pW4.size
    go_wp2_with fail
    refine (CU1.out _).mono ?_
    rintro e w' ⟨rfl, rfl⟩
    go_wp2_with fail
    refine (CU2.out _).mono ?_
    rintro e w' ⟨rfl, rfl⟩
    go_wp2_with fail
    refine (CO.out _ _ (by rw [cell_of_block (blk_new _ _)]; rfl) (by rw [cell_of_block (blk_new _ _)]; rfl)).mono ?_
    rintro e w' ⟨rfl, rfl⟩
    go_wp2_with fail
    go_ret2
    exact ⟨rfl, by (repeat' (first | (with_reducible exact Below.refl _ _) | (with_reducible assumption) | (with_reducible refine Below.alloc ?_ ?_ _) | (with_reducible refine Below.drew ?_) | (with_reducible refine below_drewN ?_ _) | (with_reducible refine Below.setCell ?_ ?_ _) | (with_reducible refine below_step ?_ (by with_reducible assumption) ?_) | go_size))⟩
  · have hd : ord (ord an 0) (ord bn 0) = ord (an * bd) (bn * ad) := HD.out (by simpa using ht)
    go_wp2_with (go_at_call 39; refine (cmpI_any _ _ _).mono ?_; rintro e w' ⟨rfl, rfl⟩)
    go_ret2
    exact ⟨rfl, by (repeat' (first | (with_reducible exact Below.refl _ _) | (with_reducible assumption) | (with_reducible refine Below.alloc ?_ ?_ _) | (with_reducible refine Below.drew ?_) | (with_reducible refine below_drewN ?_ _) | (with_reducible refine Below.setCell ?_ ?_ _) | (with_reducible refine below_step ?_ (by with_reducible assumption) ?_) | go_size))⟩

set_option maxHeartbeats 1000000 in
theorem floor_any (a b : Int) (w : World) (ha1 : -9223372036854775808 ≤ a) (ha2 : a ≤ 9223372036854775807) (hb1 : 0 < b) (hb2 : b ≤ 9223372036854775807) :
    Calls Try.prog 44 #[.int .i64 a, .int .i64 b] w fun e w' => e = .returned (.tuple #[.int .i64 (a / b), .int .i64 (a % b)]) ∧ Below w.heap.size w w' := by
  have k1 : (b == 0) = false := by rw [beq_eq_false_iff_ne]; omega
  have k2 : (b == -1) = false := by rw [beq_eq_false_iff_ne]; omega
  have hp := floor_parts a b hb1
  have l := Int.emod_lt_of_pos a hb1
  have g := Int.emod_nonneg a (Int.ne_of_gt hb1)
  have hlo : -9223372036854775808 ≤ a / b := (Int.le_ediv_iff_mul_le hb1).2 (by omega)
  cases ht : decide (a.tmod b < 0)
  · obtain ⟨e1, e2⟩ := hp.2 (by simpa using ht)
    rw [e1, e2]
    clear hp l g hlo e1 e2
    go_enter Try.func44, Try.ntmps44
    go_wp2_with fail
    go_quiet (fail)
    go_wp2_with fail
    go_ret2
    exact ⟨rfl, by (repeat' (first | (with_reducible exact Below.refl _ _) | (with_reducible assumption) | (with_reducible refine Below.alloc ?_ ?_ _) | (with_reducible refine Below.drew ?_) | (with_reducible refine below_drewN ?_ _) | (with_reducible refine Below.setCell ?_ ?_ _) | (with_reducible refine below_step ?_ (by with_reducible assumption) ?_) | go_size))⟩
  · obtain ⟨e1, e2⟩ := hp.1 (by simpa using ht)
    have k3 : IntKind.i64.wrap (a.tdiv b - 1) = a.tdiv b - 1 := by
      have : a.tdiv b = a / b + 1 := by omega
      have : a / b ≤ 9223372036854775806 := by
        have h0 : a < 0 := by
          have := Int.mul_tdiv_add_tmod a b
          have ht2 : a.tmod b < 0 := by simpa using ht
          by_cases h : a < 0
          · exact h
          · have := Int.tmod_nonneg b (show 0 ≤ a by omega); omega
        have := Int.ediv_neg_of_neg_of_pos h0 hb1
        omega
      rw [IntKind.wrap_i64]; omega
    have k4 : IntKind.i64.wrap (a.tmod b + b) = a.tmod b + b := by rw [IntKind.wrap_i64]; omega
    rw [e1, e2]
    clear hp l g hlo e1 e2
    go_enter Try.func44, Try.ntmps44
    go_wp2_with fail
    go_quiet (fail)
    go_wp2_with fail
    go_ret2
    exact ⟨rfl, by (repeat' (first | (with_reducible exact Below.refl _ _) | (with_reducible assumption) | (with_reducible refine Below.alloc ?_ ?_ _) | (with_reducible refine Below.drew ?_) | (with_reducible refine below_drewN ?_ _) | (with_reducible refine Below.setCell ?_ ?_ _) | (with_reducible refine below_step ?_ (by with_reducible assumption) ?_) | go_size))⟩

set_option maxHeartbeats 2000000 in
theorem refCompare_any : ∀ (N : Nat) (a b c d : Int) (w : World), -9223372036854775808 ≤ a → a ≤ 9223372036854775807 → -9223372036854775808 ≤ c → c ≤ 9223372036854775807 → 0 < b → b ≤ 9223372036854775807 → 0 < d → d ≤ 9223372036854775807 → b + d ≤ N →
    Calls Try.prog 27 #[.int .i64 a, .int .i64 b, .int .i64 c, .int .i64 d] w fun e w' => e = .returned (.int .i64 (ord (a * d) (c * b))) ∧ Below w.heap.size w w'
  | 0 => fun a b c d w _ _ _ _ hb _ hd _ hN => by omega
  | N + 1 => fun a b c d w ha1 ha2 hc1 hc2 hb1 hb2 hd1 hd2 hN => by
    have C1 := Lib.hid (fun w => floor_any a b w ha1 ha2 hb1 hb2)
    have C2 := Lib.hid (fun w => floor_any c d w hc1 hc2 hd1 hd2)
    have h1 := (Int.mul_ediv_add_emod a b).symm
    have h2 := (Int.mul_ediv_add_emod c d).symm
    have l1 := Int.emod_lt_of_pos a hb1
    have g1 := Int.emod_nonneg a (Int.ne_of_gt hb1)
    have l2 := Int.emod_lt_of_pos c hd1
    have g2 := Int.emod_nonneg c (Int.ne_of_gt hd1)
    generalize a / b = p at C1 h1
    generalize c / d = q at C2 h2
    generalize a % b = x at C1 h1 l1 g1
    generalize c % d = y at C2 h2 l2 g2
    have ih := fun w => refCompare_any N d y b x w (by omega) (by omega) (by omega) (by omega)
    obtain ⟨r, hr⟩ : ∃ r, r = ord (a * d) (c * b) := ⟨_, rfl⟩
    rw [← hr]
    rcases Int.lt_trichotomy p q with hpq | hpq | hpq
    · rw [ord_lt (parts_lt hb1 hd1 h1 h2 l1 g2 hpq)] at hr
      subst hr
      have t1 : decide (p < q) = true := by simp [hpq]
      clear hpq ih h1 h2 l1 g1 l2 g2 ha1 ha2 hb1 hb2 hc1 hc2 hd1 hd2 hN
      go_enter Try.func27, Try.ntmps27
      go_wp2_with fail
      refine (C1.out _).mono ?_
      rintro e w1 ⟨rfl, hb1⟩; have z1 := hb1.size
      go_wp2_with fail
      refine (C2.out _).mono ?_
      rintro e w2 ⟨rfl, hb2⟩; have z2 := hb2.size
      go_wp2_with fail
      go_ret
      exact ⟨rfl, by (repeat' (first | (with_reducible exact Below.refl _ _) | (with_reducible assumption) | (with_reducible refine Below.alloc ?_ ?_ _) | (with_reducible refine Below.drew ?_) | (with_reducible refine below_drewN ?_ _) | (with_reducible refine Below.setCell ?_ ?_ _) | (with_reducible refine below_step ?_ (by with_reducible assumption) ?_) | go_size))⟩
    · subst hpq
      rw [parts_eq h1 h2] at hr
      have t1 : decide (p < p) = false := by simp
      by_cases hx : x = 0
      · by_cases hy : y = 0
        · subst hx hy
          rw [Int.zero_mul, Int.zero_mul, ord_self] at hr
          subst hr
          clear ih h1 h2 l1 g1 l2 g2 ha1 ha2 hb1 hb2 hc1 hc2 hd1 hd2 hN
          go_enter Try.func27, Try.ntmps27
          go_wp2_with fail
          refine (C1.out _).mono ?_
          rintro e w1 ⟨rfl, hb1⟩; have z1 := hb1.size
          go_wp2_with fail
          refine (C2.out _).mono ?_
          rintro e w2 ⟨rfl, hb2⟩; have z2 := hb2.size
          go_wp2_with fail
          go_ret
          exact ⟨rfl, by (repeat' (first | (with_reducible exact Below.refl _ _) | (with_reducible assumption) | (with_reducible refine Below.alloc ?_ ?_ _) | (with_reducible refine Below.drew ?_) | (with_reducible refine below_drewN ?_ _) | (with_reducible refine Below.setCell ?_ ?_ _) | (with_reducible refine below_step ?_ (by with_reducible assumption) ?_) | go_size))⟩
        · subst hx
          have t2 : (y == 0) = false := by rw [beq_eq_false_iff_ne]; omega
          rw [Int.zero_mul, ord_lt (Int.mul_pos (by omega) hb1)] at hr
          subst hr
          clear ih h1 h2 l1 g1 l2 g2 ha1 ha2 hb1 hb2 hc1 hc2 hd1 hd2 hN hy
          go_enter Try.func27, Try.ntmps27
          go_wp2_with fail
          refine (C1.out _).mono ?_
          rintro e w1 ⟨rfl, hb1⟩; have z1 := hb1.size
          go_wp2_with fail
          refine (C2.out _).mono ?_
          rintro e w2 ⟨rfl, hb2⟩; have z2 := hb2.size
          go_wp2_with fail
          go_ret
          exact ⟨rfl, by (repeat' (first | (with_reducible exact Below.refl _ _) | (with_reducible assumption) | (with_reducible refine Below.alloc ?_ ?_ _) | (with_reducible refine Below.drew ?_) | (with_reducible refine below_drewN ?_ _) | (with_reducible refine Below.setCell ?_ ?_ _) | (with_reducible refine below_step ?_ (by with_reducible assumption) ?_) | go_size))⟩
      · have t3 : (x == 0) = false := by rw [beq_eq_false_iff_ne]; omega
        by_cases hy : y = 0
        · subst hy
          rw [Int.zero_mul, ord_gt (Int.mul_pos (by omega) hd1)] at hr
          subst hr
          clear ih h1 h2 l1 g1 l2 g2 ha1 ha2 hb1 hb2 hc1 hc2 hd1 hd2 hN hx
          go_enter Try.func27, Try.ntmps27
          go_wp2_with fail
          refine (C1.out _).mono ?_
          rintro e w1 ⟨rfl, hb1⟩; have z1 := hb1.size
          go_wp2_with fail
          refine (C2.out _).mono ?_
          rintro e w2 ⟨rfl, hb2⟩; have z2 := hb2.size
          go_wp2_with fail
          go_ret
          exact ⟨rfl, by (repeat' (first | (with_reducible exact Below.refl _ _) | (with_reducible assumption) | (with_reducible refine Below.alloc ?_ ?_ _) | (with_reducible refine Below.drew ?_) | (with_reducible refine below_drewN ?_ _) | (with_reducible refine Below.setCell ?_ ?_ _) | (with_reducible refine below_step ?_ (by with_reducible assumption) ?_) | go_size))⟩
        · have t2 : (y == 0) = false := by rw [beq_eq_false_iff_ne]; omega
          have cI := fun w => ih w (by omega) (by omega) (by omega) (by omega) (by omega)
          rw [Int.mul_comm d x, Int.mul_comm b y, ← hr] at cI
          have CI := Lib.hid cI
          clear ih h1 h2 l1 g1 l2 g2 ha1 ha2 hb1 hb2 hc1 hc2 hd1 hd2 hN hx hy hr cI
          go_enter Try.func27, Try.ntmps27
          go_wp2_with fail
          refine (C1.out _).mono ?_
          rintro e w1 ⟨rfl, hb1⟩; have z1 := hb1.size
          go_wp2_with fail
          refine (C2.out _).mono ?_
          rintro e w2 ⟨rfl, hb2⟩; have z2 := hb2.size
          go_wp2_with fail
          refine (CI.out _).mono ?_
          rintro e w3 ⟨rfl, hb3⟩
          go_wp2_with fail
          go_ret
          exact ⟨rfl, by (repeat' (first | (with_reducible exact Below.refl _ _) | (with_reducible assumption) | (with_reducible refine Below.alloc ?_ ?_ _) | (with_reducible refine Below.drew ?_) | (with_reducible refine below_drewN ?_ _) | (with_reducible refine Below.setCell ?_ ?_ _) | (with_reducible refine below_step ?_ (by with_reducible assumption) ?_) | go_size))⟩
    · rw [ord_gt (parts_lt hd1 hb1 h2 h1 l2 g1 hpq)] at hr
      subst hr
      have t1 : decide (p < q) = false := by simp; omega
      have t2 : decide (q < p) = true := by simp [hpq]
      clear hpq ih h1 h2 l1 g1 l2 g2 ha1 ha2 hb1 hb2 hc1 hc2 hd1 hd2 hN
      go_enter Try.func27, Try.ntmps27
      go_wp2_with fail
      refine (C1.out _).mono ?_
      rintro e w1 ⟨rfl, hb1⟩; have z1 := hb1.size
      go_wp2_with fail
      refine (C2.out _).mono ?_
      rintro e w2 ⟨rfl, hb2⟩; have z2 := hb2.size
      go_wp2_with fail
      go_ret
      exact ⟨rfl, by (repeat' (first | (with_reducible exact Below.refl _ _) | (with_reducible assumption) | (with_reducible refine Below.alloc ?_ ?_ _) | (with_reducible refine Below.drew ?_) | (with_reducible refine below_drewN ?_ _) | (with_reducible refine Below.setCell ?_ ?_ _) | (with_reducible refine below_step ?_ (by with_reducible assumption) ?_) | go_size))⟩
termination_by N => N

end Go.Proofs.Ytednejckcdiebaa
