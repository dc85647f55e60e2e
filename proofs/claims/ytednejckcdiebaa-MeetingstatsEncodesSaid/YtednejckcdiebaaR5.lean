/- The law MeetingstatsGrows, walked. -/
import Derived.Test.YtednejckcdiebaaJ
import Derived.Test.YtednejckcdiebaaG1
import Derived.Test.YtednejckcdiebaaX
import Derived.Lib.SmallJoins
namespace Go.Proofs.Ytednejckcdiebaa
open Go.RowKit Go.Lib Go.ChangeMaps

theorem Frac.set {w : World} {b : Nat} {x y : Int} (h : Frac w b x y) (x' y' : Int) : Frac ((w.setCell ⟨b, 0, none⟩ (.int .i64 x')).setCell ⟨b, 1, none⟩ (.int .i64 y')) b x' y' := by
  unfold Frac at h ⊢
  simp [World.setCell, Array.getElem?_modify, h]
theorem Frac.other {w : World} {b : Nat} {x y : Int} (h : Frac w b x y) (c o : Nat) (v : Value) (hne : b ≠ c) : Frac (w.setCell ⟨c, o, none⟩ v) b x y := by
  unfold Frac
  rw [Below.heap_setCell w _ _ _ hne]
  exact h
theorem Frac.free {w : World} {b : Nat} {x y : Int} (h : Frac w b x y) (o : Nat) : w.frozen? ⟨b, o, none⟩ = false := free_of_block h o

theorem chance_c (m k : Nat) : chance m k = .agg #[.int .i64 (cNum (32 - (m : Int)) k), .int .i64 (cDen (32 - (m : Int)) k)] := rfl
theorem rate_c (m : Nat) : fracV (m : Int) 32 = .agg #[.int .i64 (cNum (32 - (m : Int)) 1), .int .i64 (cDen (32 - (m : Int)) 1)] := by
  obtain ⟨e1, e2⟩ := c_one (32 - (m : Int))
  rw [e1, e2, show (32 : Int) - (32 - (m : Int)) = m by omega]
  rfl

set_option maxRecDepth 100000 in
set_option maxHeartbeats 1000000 in
theorem grows_long (n : Int) (ao : Option Addr) (len c : Nat) (a b d : Int) (w : World) (h : 60 < len) (hm : len ≤ 9223372036854775807) :
    Calls Try.prog 7 #[.int .i64 n, .slice ao len c, .int .i64 a, .int .i64 b, .int .i64 d] w fun e w' => e = .returned (.bool true) ∧ Below w.heap.size w w' := by
  have CA := Lib.hid awake_any
  go_enter Try.func7, Try.ntmps7
  go_wp2_with fail
  refine (CA.out _).mono ?_
  rintro e w1 ⟨rfl, hb1⟩
  go_wp2
  go_ret
  exact ⟨rfl, by (repeat' (first | (with_reducible exact Below.refl _ _) | (with_reducible assumption) | (with_reducible refine Below.alloc ?_ ?_ _) | (with_reducible refine Below.drew ?_) | (with_reducible refine below_drewN ?_ _) | (with_reducible refine Below.setCell ?_ ?_ _) | (with_reducible refine below_step ?_ (by with_reducible assumption) ?_) | go_size))⟩

set_option maxRecDepth 100000 in
set_option maxHeartbeats 1000000 in
theorem grows_bad (n : Int) (v : Value) (xs : List Mt) (a b d : Int) (w : World) (hv : ReadsM w v xs) (h : xs.length ≤ 60) (hn : n < 2 ∨ 12 < n) :
    Calls Try.prog 7 #[.int .i64 n, v, .int .i64 a, .int .i64 b, .int .i64 d] w fun e w' => e = .returned (.bool true) ∧ Below w.heap.size w w' := by
  have CA := Lib.hid awake_any
  have CP := Lib.hid (fun v w => play_bad n v w hn)
  obtain ⟨ao, c, rfl, hcap, _⟩ := hv
  clear hn
  go_enter Try.func7, Try.ntmps7
  go_wp2_with fail
  refine (CP.out _ _).mono ?_
  rintro e w1 ⟨rfl, rfl⟩
  go_wp2_with fail
  refine (CA.out _).mono ?_
  rintro e w2 ⟨rfl, hb2⟩
  go_wp2
  go_ret
  exact ⟨rfl, by (repeat' (first | (with_reducible exact Below.refl _ _) | (with_reducible assumption) | (with_reducible refine Below.alloc ?_ ?_ _) | (with_reducible refine Below.drew ?_) | (with_reducible refine below_drewN ?_ _) | (with_reducible refine Below.setCell ?_ ?_ _) | (with_reducible refine below_step ?_ (by with_reducible assumption) ?_) | go_size))⟩

set_option maxRecDepth 100000 in
set_option maxHeartbeats 4000000 in
/-- The pair or the day is none. -/
theorem grows_unfit (n : Int) (v : Value) (xs : List Mt) (a b d : Int) (w : World) (hv : ReadsM w v xs) (h : xs.length ≤ 60) (hn1 : 2 ≤ n) (hn2 : n ≤ 12) (hf : ¬ Fit n a b d) :
    Calls Try.prog 7 #[.int .i64 n, v, .int .i64 a, .int .i64 b, .int .i64 d] w fun e w' => e = .returned (.bool true) ∧ Below w.heap.size w w' := by
  have CA := Lib.hid awake_any
  have cP := play_ok n v xs w hn1 hn2 hv h
  obtain ⟨ao, c, rfl, hcap, _⟩ := hv
  have CP := Lib.hid cP
  have HF := Lib.hid hf
  clear cP hf
  go_enter Try.func7, Try.ntmps7
  go_wp2_with fail
  refine CP.out.mono ?_
  rintro e w1 ⟨k, dv, F, N, M, rfl, hb1, hB, hT, hF, hO⟩
  have z1 := hb1.size
  clear hB hT hF hO
  go_wp2_with fail
  refine (pair_any _ _ _ _).mono ?_
  rintro e w5 ⟨rfl, rfl⟩
  cases hp : decide (0 ≤ a ∧ a < n ∧ 0 ≤ b ∧ b < n ∧ a ≠ b)
  · go_wp2_with fail
    refine (CA.out _).mono ?_
    rintro e w6 ⟨rfl, hb6⟩
    go_wp2
    go_ret
    exact ⟨rfl, by (repeat' (first | (with_reducible exact Below.refl _ _) | (with_reducible assumption) | (with_reducible refine Below.alloc ?_ ?_ _) | (with_reducible refine Below.drew ?_) | (with_reducible refine below_drewN ?_ _) | (with_reducible refine Below.setCell ?_ ?_ _) | (with_reducible refine below_step ?_ (by with_reducible assumption) ?_) | go_size))⟩
  · by_cases hd : d < 0
    · have t1 : decide (d < 0) = true := by simp [hd]
      clear hd
      go_wp2_with fail
      refine (CA.out _).mono ?_
      rintro e w6 ⟨rfl, hb6⟩
      go_wp2
      go_ret
      exact ⟨rfl, by (repeat' (first | (with_reducible exact Below.refl _ _) | (with_reducible assumption) | (with_reducible refine Below.alloc ?_ ?_ _) | (with_reducible refine Below.drew ?_) | (with_reducible refine below_drewN ?_ _) | (with_reducible refine Below.setCell ?_ ?_ _) | (with_reducible refine below_step ?_ (by with_reducible assumption) ?_) | go_size))⟩
    · have hd2 : 999999 < d := by
        have := HF.out
        simp at hp
        unfold Fit at this
        omega
      have t1 : decide (d < 0) = false := by simp; omega
      have t2 : decide ((999999 : Int) < d) = true := by simp; omega
      clear hd hd2
      go_wp2_with fail
      refine (CA.out _).mono ?_
      rintro e w6 ⟨rfl, hb6⟩
      go_wp2
      go_ret
      exact ⟨rfl, by (repeat' (first | (with_reducible exact Below.refl _ _) | (with_reducible assumption) | (with_reducible refine Below.alloc ?_ ?_ _) | (with_reducible refine Below.drew ?_) | (with_reducible refine below_drewN ?_ _) | (with_reducible refine Below.setCell ?_ ?_ _) | (with_reducible refine below_step ?_ (by with_reducible assumption) ?_) | go_size))⟩

set_option maxRecDepth 100000 in
set_option maxHeartbeats 8000000 in
theorem grows_fit (n : Int) (v : Value) (xs : List Mt) (a b d : Int) (w : World) (hv : ReadsM w v xs) (h : xs.length ≤ 60) (hn1 : 2 ≤ n) (hn2 : n ≤ 12) (hf : Fit n a b d) :
    Calls Try.prog 7 #[.int .i64 n, v, .int .i64 a, .int .i64 b, .int .i64 d] w fun e w' => e = .returned (.bool true) ∧ Below w.heap.size w w' := by
  have CA := Lib.hid awake_any
  have cP := play_ok n v xs w hn1 hn2 hv h
  obtain ⟨ao, c, rfl, hcap, _⟩ := hv
  have CP := Lib.hid cP
  have HF := Lib.hid hf
  obtain ⟨p1, p2, p3, p4, p5, p6, p7⟩ := hf
  clear cP
  go_enter Try.func7, Try.ntmps7
  go_wp2_with fail
  refine CP.out.mono ?_
  rintro e w1 ⟨k, dv, F, N, M, rfl, hb1, hB, hT, hF, hO⟩
  have z1 := hb1.size
  have hf' : Fit n b a d := by unfold Fit; omega
  have cR := fun w h => Rate_ok F k n N M w h hT.rise b a d hf'
  rw [Int.min_comm b a, Int.max_comm b a] at cR
  have cW := fun w h => Within_ok F k n N M w h hT.rise a b d HF.out
  have hsh := win_short hT.rise (min a b) (max a b) (d - 32 + 1) d (by omega)
  generalize (win (M (min a b) (max a b)) (d - 32 + 1) d).length = m at cR cW hsh
  have hm : m ≤ 32 := by omega
  rw [rate_c] at cR
  have cW' : ∀ (q : Nat) w, q ≤ 12 → IsBook w F k n N M → Calls Try.prog 23 #[.pointer (some ⟨k, 0, none⟩), .int .i64 a, .int .i64 b, .int .i64 d, .int .i64 q] w fun e w' => e = .returned (.tuple #[.agg #[.int .i64 (cNum (32 - (m : Int)) q), .int .i64 (cDen (32 - (m : Int)) q)], .int .i64 0]) ∧ Below w.heap.size w w' := fun q w hq hB => by
    rw [← chance_c]; exact cW w hB q hq
  have hz0 : 0 ≤ 32 - (m : Int) := by omega
  have hz1 : 32 - (m : Int) ≤ 32 := by omega
  generalize 32 - (m : Int) = z at cR cW' hz0 hz1
  have hp : decide (0 ≤ a ∧ a < n ∧ 0 ≤ b ∧ b < n ∧ a ≠ b) = true := by simp [*]
  have t1 : decide (d < 0) = false := by simp; omega
  have t2 : decide ((999999 : Int) < d) = false := by simp; omega
  have CR := Lib.hid cR
  have CW := Lib.hid cW'
  have HB := Lib.hid hB
  have HFF := Lib.hid hF
  clear cR cW cW' hB hT hO hsh hm hf' HF CP p1 p2 p3 p4 p5 p6 p7 hF
  go_wp2_with fail
  refine (pair_any _ _ _ _).mono ?_
  rintro e w5 ⟨rfl, rfl⟩
  rw [hp]
  go_wp2_with fail
  refine (CR.out _ HB.out).mono ?_
  rintro e w2 ⟨rfl, hb2⟩
  have z2 := hb2.size
  go_wp2_with fail
  have q14 := (Frac.new w2 (cNum z 1) (cDen z 1)).alloc (.cells #[.int .i64 0, .int .i64 1] 23)
  have q16 := Frac.new (w2.alloc (.cells #[.int .i64 (cNum z 1), .int .i64 (cDen z 1)] 23)) 0 1
  rw [World.size_alloc] at q16
  have QB := Lib.hid ((HB.out.below hb2).below (show Below w2.heap.size w2 ((w2.alloc (.cells #[.int .i64 (cNum z 1), .int .i64 (cDen z 1)] 23)).alloc (.cells #[.int .i64 0, .int .i64 1] 23)) by (repeat' (first | (with_reducible exact Below.refl _ _) | (with_reducible assumption) | (with_reducible refine Below.alloc ?_ ?_ _) | (with_reducible refine Below.drew ?_) | (with_reducible refine below_drewN ?_ _) | (with_reducible refine Below.setCell ?_ ?_ _) | (with_reducible refine below_step ?_ (by with_reducible assumption) ?_) | go_size))))
  have qb : Below w2.heap.size w2 ((w2.alloc (.cells #[.int .i64 (cNum z 1), .int .i64 (cDen z 1)] 23)).alloc (.cells #[.int .i64 0, .int .i64 1] 23)) := by (repeat' (first | (with_reducible exact Below.refl _ _) | (with_reducible assumption) | (with_reducible refine Below.alloc ?_ ?_ _) | (with_reducible refine Below.drew ?_) | (with_reducible refine below_drewN ?_ _) | (with_reducible refine Below.setCell ?_ ?_ _) | (with_reducible refine below_step ?_ (by with_reducible assumption) ?_) | go_size))
  have Q14 := Lib.hid q14
  have Q16 := Lib.hid q16
  clear q14 q16
  go_loopw [17] (fun s17 wr => ∃ j : Nat, s17 = .int .i64 (j : Int) ∧ j ≤ 13 ∧ IsBook wr F k n N M ∧ Frac wr w2.heap.size (cNum z 1) (cDen z 1) ∧ Frac wr (w2.heap.size + 1) (cNum z (j - 1)) (cDen z (j - 1)) ∧ Below w2.heap.size w2 wr) (fun s17 _ => 13 - (intOf s17).toNat)
  case atStart =>
    obtain ⟨e1, e2⟩ := c_zero z
    exact ⟨0, rfl, by omega, QB.out, Q14.out, by rw [e1, e2]; exact Q16.out, qb⟩
  case round =>
    obtain ⟨j, rfl, hj, rB, r14, r16, rb⟩ := hrel
    have zr := rb.size
    clear Q14 Q16 QB qb
    by_cases hj13 : j = 13
    · have tt : decide ((j : Int) ≤ 12) = false := by simp; omega
      clear rB r14 r16
      go_wp2_with fail
      refine (CA.out _).mono ?_
      rintro e w3 ⟨rfl, hb3⟩
      go_wp2_with fail
      go_ret
      exact ⟨rfl, by (repeat' (first | (with_reducible exact Below.refl _ _) | (with_reducible assumption) | (with_reducible refine Below.alloc ?_ ?_ _) | (with_reducible refine Below.drew ?_) | (with_reducible refine below_drewN ?_ _) | (with_reducible refine Below.setCell ?_ ?_ _) | (with_reducible refine below_step ?_ (by with_reducible assumption) ?_) | go_size))⟩
    have tt : decide ((j : Int) ≤ 12) = true := by simp; omega
    have hgrow : 1 ≤ j → ord (cNum z (j - 1) * cDen z j) (cNum z j * cDen z (j - 1)) ≤ 0 := fun h1 => by
      obtain ⟨i, rfl⟩ : ∃ i, j = i + 1 := ⟨j - 1, by omega⟩
      have := c_grows z hz0 hz1 i
      rw [Nat.add_sub_cancel]
      rcases ord_cases (cNum z i * cDen z (i + 1)) (cNum z (i + 1) * cDen z i) with ⟨e, _⟩ | ⟨e, _⟩ | ⟨e, g⟩ <;> rw [e] <;> omega
    rcases (show j = 0 ∨ j = 1 ∨ 2 ≤ j by omega) with hc | hc | hc
    · have t0 : ((j : Int) == 0) = true := by rw [beq_iff_eq]; omega
      have t9 : ((j : Int) == 1) = false := by rw [beq_eq_false_iff_ne]; omega
      have ej : j - 1 = j := by omega
      rw [ej] at r16
      clear ej
      have ho : ord (cNum z j * cDen z j) (cNum z j * cDen z j) ≤ 0 := by rw [ord_self]; omega
      have bu := c_bounds z hz0 hz1 j (by omega)
      have bj := c_bounds z hz0 hz1 j (by omega)
      have cO := fun w => compare_ok (cNum z j) (cDen z j) (cNum z j) (cDen z j) w (by omega) (by omega) (by omega) (by omega) (by omega) (by omega) (by omega) (by omega)
      generalize ord (cNum z j * cDen z j) (cNum z j * cDen z j) = o at ho cO
      have t8 : decide (0 < o) = false := by simp; omega
      have CO := Lib.hid cO
      have R14 := Lib.hid r14
      have R16 := Lib.hid r16
      have RB := Lib.hid rB
      have HJ := Lib.hid hc
      clear r14 r16 rB cO bu bj ho hgrow hc
      go_wp2_with fail
      refine (CW.out j _ (by omega) RB.out).mono ?_
      rintro e w3 ⟨rfl, hb3⟩
      have z3 := hb3.size
      have g16 := (R16.out.below hb3).alloc (.cells #[.int .i64 (cNum z j), .int .i64 (cDen z j)] 23)
      have g18 := Frac.new w3 (cNum z j) (cDen z j)
      have a1 := g16.c0
      have a2 := g16.c1
      have a3 := g18.c0
      have a4 := g18.c1
      go_wp2_with fail
      refine (CO.out _).mono ?_
      rintro e w4 ⟨rfl, hb4⟩
      have z4 := hb4.size
      try simp only [World.size_alloc] at z4
      have k14 := ((R14.out.below hb3).alloc (.cells #[.int .i64 (cNum z j), .int .i64 (cDen z j)] 23)).below hb4
      have k16 := g16.below hb4
      have k18 := g18.below hb4
      have K14 := Lib.hid k14
      have K16 := Lib.hid k16
      clear a1 a2 a3 a4 g16 g18
      have a1 := k14.c0
      have a2 := k14.c1
      have a3 := k16.c0
      have a4 := k16.c1
      have a5 := k18.c0
      have a6 := k18.c1
      have f5 := k16.free 0
      have f6 := k16.free 1
      clear k14 k16 k18
      have ej1 : IntKind.i64.wrap ((j : Int) + 1) = ((j + 1 : Nat) : Int) := by rw [IntKind.wrap_i64]; omega
      go_wp2_with fail
      go_roundw
      case rel =>
        have r14 := K14.out
        have rB := RB.out
        refine ⟨j + 1, rfl, by omega, ?_, (r14.other _ _ _ (by omega)).other _ _ _ (by omega), K16.out.set _ _, ?_⟩
        · have rB4 : IsBook w4 F k n N M := (rB.below hb3).below (show Below w3.heap.size w3 w4 by (repeat' (first | (with_reducible exact Below.refl _ _) | (with_reducible assumption) | (with_reducible refine Below.alloc ?_ ?_ _) | (with_reducible refine Below.drew ?_) | (with_reducible refine below_drewN ?_ _) | (with_reducible refine Below.setCell ?_ ?_ _) | (with_reducible refine below_step ?_ (by with_reducible assumption) ?_) | go_size)))
          refine rB4.same (fun g hg => ?_)
          have := (HFF.out g hg).2
          rw [Below.heap_setCell _ _ _ _ (by show g ≠ w2.heap.size + 1; omega), Below.heap_setCell _ _ _ _ (by show g ≠ w2.heap.size + 1; omega)]
        · (repeat' (first | (with_reducible exact Below.refl _ _) | (with_reducible assumption) | (with_reducible refine Below.alloc ?_ ?_ _) | (with_reducible refine Below.drew ?_) | (with_reducible refine below_drewN ?_ _) | (with_reducible refine Below.setCell ?_ ?_ _) | (with_reducible refine below_step ?_ (by with_reducible assumption) ?_) | go_size))
      case measure => simp [intOf]; omega
    · have t0 : ((j : Int) == 0) = false := by rw [beq_eq_false_iff_ne]; omega
      have t9 : ((j : Int) == 1) = true := by rw [beq_iff_eq]; omega
      have ej : (1 : Nat) = j := by omega
      rw [ej] at r14
      have EJ := Lib.hid ej
      clear ej
      have ho : ord (cNum z (j - 1) * cDen z j) (cNum z j * cDen z (j - 1)) ≤ 0 := hgrow (by omega)
      have bu := c_bounds z hz0 hz1 (j - 1) (by omega)
      have bj := c_bounds z hz0 hz1 j (by omega)
      have cO := fun w => compare_ok (cNum z (j - 1)) (cDen z (j - 1)) (cNum z j) (cDen z j) w (by omega) (by omega) (by omega) (by omega) (by omega) (by omega) (by omega) (by omega)
      generalize ord (cNum z (j - 1) * cDen z j) (cNum z j * cDen z (j - 1)) = o at ho cO
      have t8 : decide (0 < o) = false := by simp; omega
      have CO := Lib.hid cO
      have R14 := Lib.hid r14
      have R16 := Lib.hid r16
      have RB := Lib.hid rB
      have HJ := Lib.hid hc
      clear r14 r16 rB cO bu bj ho hgrow hc
      go_wp2_with fail
      refine (CW.out j _ (by omega) RB.out).mono ?_
      rintro e w3 ⟨rfl, hb3⟩
      have z3 := hb3.size
      have g16 := (R16.out.below hb3).alloc (.cells #[.int .i64 (cNum z j), .int .i64 (cDen z j)] 23)
      have g18 := Frac.new w3 (cNum z j) (cDen z j)
      have a1 := g16.c0
      have a2 := g16.c1
      have a3 := g18.c0
      have a4 := g18.c1
      go_wp2_with fail
      refine (CO.out _).mono ?_
      rintro e w4 ⟨rfl, hb4⟩
      have z4 := hb4.size
      try simp only [World.size_alloc] at z4
      have k14 := ((R14.out.below hb3).alloc (.cells #[.int .i64 (cNum z j), .int .i64 (cDen z j)] 23)).below hb4
      have k16 := g16.below hb4
      have k18 := g18.below hb4
      have K14 := Lib.hid k14
      have K16 := Lib.hid k16
      clear a1 a2 a3 a4 g16 g18
      have a1 := k14.c0
      have a2 := k14.c1
      have a3 := k16.c0
      have a4 := k16.c1
      have a5 := k18.c0
      have a6 := k18.c1
      have f5 := k16.free 0
      have f6 := k16.free 1
      clear k14 k16 k18
      have ej1 : IntKind.i64.wrap ((j : Int) + 1) = ((j + 1 : Nat) : Int) := by rw [IntKind.wrap_i64]; omega
      go_wp2_with fail
      go_roundw
      case rel =>
        have r14 := K14.out
        have rB := RB.out
        rw [← EJ.out] at r14
        refine ⟨j + 1, rfl, by omega, ?_, (r14.other _ _ _ (by omega)).other _ _ _ (by omega), K16.out.set _ _, ?_⟩
        · have rB4 : IsBook w4 F k n N M := (rB.below hb3).below (show Below w3.heap.size w3 w4 by (repeat' (first | (with_reducible exact Below.refl _ _) | (with_reducible assumption) | (with_reducible refine Below.alloc ?_ ?_ _) | (with_reducible refine Below.drew ?_) | (with_reducible refine below_drewN ?_ _) | (with_reducible refine Below.setCell ?_ ?_ _) | (with_reducible refine below_step ?_ (by with_reducible assumption) ?_) | go_size)))
          refine rB4.same (fun g hg => ?_)
          have := (HFF.out g hg).2
          rw [Below.heap_setCell _ _ _ _ (by show g ≠ w2.heap.size + 1; omega), Below.heap_setCell _ _ _ _ (by show g ≠ w2.heap.size + 1; omega)]
        · (repeat' (first | (with_reducible exact Below.refl _ _) | (with_reducible assumption) | (with_reducible refine Below.alloc ?_ ?_ _) | (with_reducible refine Below.drew ?_) | (with_reducible refine below_drewN ?_ _) | (with_reducible refine Below.setCell ?_ ?_ _) | (with_reducible refine below_step ?_ (by with_reducible assumption) ?_) | go_size))
      case measure => simp [intOf]; omega
    · have t0 : ((j : Int) == 0) = false := by rw [beq_eq_false_iff_ne]; omega
      have t9 : ((j : Int) == 1) = false := by rw [beq_eq_false_iff_ne]; omega
      have ho : ord (cNum z (j - 1) * cDen z j) (cNum z j * cDen z (j - 1)) ≤ 0 := hgrow (by omega)
      have bu := c_bounds z hz0 hz1 (j - 1) (by omega)
      have bj := c_bounds z hz0 hz1 j (by omega)
      have cO := fun w => compare_ok (cNum z (j - 1)) (cDen z (j - 1)) (cNum z j) (cDen z j) w (by omega) (by omega) (by omega) (by omega) (by omega) (by omega) (by omega) (by omega)
      generalize ord (cNum z (j - 1) * cDen z j) (cNum z j * cDen z (j - 1)) = o at ho cO
      have t8 : decide (0 < o) = false := by simp; omega
      have CO := Lib.hid cO
      have R14 := Lib.hid r14
      have R16 := Lib.hid r16
      have RB := Lib.hid rB
      have HJ := Lib.hid hc
      clear r14 r16 rB cO bu bj ho hgrow hc
      go_wp2_with fail
      refine (CW.out j _ (by omega) RB.out).mono ?_
      rintro e w3 ⟨rfl, hb3⟩
      have z3 := hb3.size
      have g16 := (R16.out.below hb3).alloc (.cells #[.int .i64 (cNum z j), .int .i64 (cDen z j)] 23)
      have g18 := Frac.new w3 (cNum z j) (cDen z j)
      have a1 := g16.c0
      have a2 := g16.c1
      have a3 := g18.c0
      have a4 := g18.c1
      go_wp2_with fail
      refine (CO.out _).mono ?_
      rintro e w4 ⟨rfl, hb4⟩
      have z4 := hb4.size
      try simp only [World.size_alloc] at z4
      have k14 := ((R14.out.below hb3).alloc (.cells #[.int .i64 (cNum z j), .int .i64 (cDen z j)] 23)).below hb4
      have k16 := g16.below hb4
      have k18 := g18.below hb4
      have K14 := Lib.hid k14
      have K16 := Lib.hid k16
      clear a1 a2 a3 a4 g16 g18
      have a1 := k14.c0
      have a2 := k14.c1
      have a3 := k16.c0
      have a4 := k16.c1
      have a5 := k18.c0
      have a6 := k18.c1
      have f5 := k16.free 0
      have f6 := k16.free 1
      clear k14 k16 k18
      have ej1 : IntKind.i64.wrap ((j : Int) + 1) = ((j + 1 : Nat) : Int) := by rw [IntKind.wrap_i64]; omega
      go_wp2_with fail
      go_roundw
      case rel =>
        have r14 := K14.out
        have rB := RB.out
        refine ⟨j + 1, rfl, by omega, ?_, (r14.other _ _ _ (by omega)).other _ _ _ (by omega), K16.out.set _ _, ?_⟩
        · have rB4 : IsBook w4 F k n N M := (rB.below hb3).below (show Below w3.heap.size w3 w4 by (repeat' (first | (with_reducible exact Below.refl _ _) | (with_reducible assumption) | (with_reducible refine Below.alloc ?_ ?_ _) | (with_reducible refine Below.drew ?_) | (with_reducible refine below_drewN ?_ _) | (with_reducible refine Below.setCell ?_ ?_ _) | (with_reducible refine below_step ?_ (by with_reducible assumption) ?_) | go_size)))
          refine rB4.same (fun g hg => ?_)
          have := (HFF.out g hg).2
          rw [Below.heap_setCell _ _ _ _ (by show g ≠ w2.heap.size + 1; omega), Below.heap_setCell _ _ _ _ (by show g ≠ w2.heap.size + 1; omega)]
        · (repeat' (first | (with_reducible exact Below.refl _ _) | (with_reducible assumption) | (with_reducible refine Below.alloc ?_ ?_ _) | (with_reducible refine Below.drew ?_) | (with_reducible refine below_drewN ?_ _) | (with_reducible refine Below.setCell ?_ ?_ _) | (with_reducible refine below_step ?_ (by with_reducible assumption) ?_) | go_size))
      case measure => simp [intOf]; omega

theorem grows_any (n : Int) (ao : Option Addr) (len c : Nat) (a b d : Int) (w : World) (hm : len ≤ 9223372036854775807) (xs : List Mt) (hx : xs.length = len) (hv : ReadsM w (.slice ao len c) xs) :
    Calls Try.prog 7 #[.int .i64 n, .slice ao len c, .int .i64 a, .int .i64 b, .int .i64 d] w fun e w' => e = .returned (.bool true) ∧ Below w.heap.size w w' := by
  by_cases h : 60 < len
  · exact grows_long n ao len c a b d w h hm
  · by_cases hn : n < 2 ∨ 12 < n
    · exact grows_bad n _ xs a b d w hv (by omega) hn
    · by_cases hf : Fit n a b d
      · exact grows_fit n _ xs a b d w hv (by omega) (by omega) (by omega) hf
      · exact grows_unfit n _ xs a b d w hv (by omega) (by omega) (by omega) hf

end Go.Proofs.Ytednejckcdiebaa
