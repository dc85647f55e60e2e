/- The law MeetingstatsCompares, walked. -/
import Derived.Test.YtednejckcdiebaaJ
import Derived.Test.YtednejckcdiebaaX
namespace Go.Proofs.Ytednejckcdiebaa
open Go.RowKit Go.Lib Go.ChangeMaps

set_option maxHeartbeats 2000000 in
theorem compares_bad (an ad bn bd : Int) (w : World) (h : ad ≤ 0 ∨ bd ≤ 0) :
    Calls Try.prog 6 #[.agg #[.int .i64 an, .int .i64 ad], .agg #[.int .i64 bn, .int .i64 bd]] w fun e w' => e = .returned (.bool true) ∧ Below w.heap.size w w' := by
  have CA := Lib.hid awake_any
  have CC := Lib.hid (fun w => compare_bad an ad bn bd w h)
  by_cases h1 : ad ≤ 0
  · have t1 : decide (ad ≤ 0) = true := by simp [h1]
    clear h h1
    go_enter Try.func6, Try.ntmps6
    go_wp2_with fail
    refine (CC.out _).mono ?_
    rintro e w1 ⟨rfl, hb1⟩
    have z1 := hb1.size
    try simp only [World.size_alloc] at z1
    obtain ⟨q1, f1⟩ := bcell hb1
    go_wp2_with fail
    refine (CA.out _).mono ?_
    rintro e w2 ⟨rfl, hb2⟩
    go_wp2_with fail
    go_ret
    exact ⟨rfl, by (repeat' (first | (with_reducible exact Below.refl _ _) | (with_reducible assumption) | (with_reducible refine Below.alloc ?_ ?_ _) | (with_reducible refine Below.drew ?_) | (with_reducible refine below_drewN ?_ _) | (with_reducible refine Below.setCell ?_ ?_ _) | (with_reducible refine below_step ?_ (by with_reducible assumption) ?_) | go_size))⟩
  · have t1 : decide (ad ≤ 0) = false := by simp; omega
    have t2 : decide (bd ≤ 0) = true := by simp; omega
    clear h h1
    go_enter Try.func6, Try.ntmps6
    go_wp2_with fail
    refine (CC.out _).mono ?_
    rintro e w1 ⟨rfl, hb1⟩
    have z1 := hb1.size
    try simp only [World.size_alloc] at z1
    obtain ⟨q1, f1⟩ := bcell hb1
    go_wp2_with fail
    refine (CA.out _).mono ?_
    rintro e w2 ⟨rfl, hb2⟩
    go_wp2_with fail
    go_ret
    exact ⟨rfl, by (repeat' (first | (with_reducible exact Below.refl _ _) | (with_reducible assumption) | (with_reducible refine Below.alloc ?_ ?_ _) | (with_reducible refine Below.drew ?_) | (with_reducible refine below_drewN ?_ _) | (with_reducible refine Below.setCell ?_ ?_ _) | (with_reducible refine below_step ?_ (by with_reducible assumption) ?_) | go_size))⟩

set_option maxRecDepth 100000 in
set_option maxHeartbeats 4000000 in
theorem compares_ok (an ad bn bd : Int) (w : World) (ha1 : -9223372036854775808 ≤ an) (ha2 : an ≤ 9223372036854775807) (hb1 : -9223372036854775808 ≤ bn) (hb2 : bn ≤ 9223372036854775807)
    (hn0 : 0 < ad) (hn : ad ≤ 9223372036854775807) (hm0 : 0 < bd) (hm : bd ≤ 9223372036854775807) :
    Calls Try.prog 6 #[.agg #[.int .i64 an, .int .i64 ad], .agg #[.int .i64 bn, .int .i64 bd]] w fun e w' => e = .returned (.bool true) ∧ Below w.heap.size w w' := by
  have CA := Lib.hid awake_any
  have t1 : decide (ad ≤ 0) = false := by simp; omega
  have t2 : decide (bd ≤ 0) = false := by simp; omega
  have c1 := fun w => compare_ok an ad bn bd w ha1 ha2 hb1 hb2 hn0 hn hm0 hm
  have c2 := fun w => compare_ok bn bd an ad w hb1 hb2 ha1 ha2 hm0 hm hn0 hn
  have c3 := fun w => refCompare_any (ad + bd).toNat an ad bn bd w ha1 ha2 hb1 hb2 hn0 hn hm0 hm (by omega)
  have hbd := ord_bounds (an * bd) (bn * ad)
  rw [ord_neg (an * bd) (bn * ad)] at c2
  generalize ord (an * bd) (bn * ad) = r at c1 c2 c3 hbd
  have e1 : IntKind.i64.wrap (-r) = -r := by rw [IntKind.wrap_i64]; omega
  have C1 := Lib.hid c1
  have C2 := Lib.hid c2
  have C3 := Lib.hid c3
  clear c1 c2 c3 ha1 ha2 hb1 hb2 hn0 hn hm0 hm hbd
  go_enter Try.func6, Try.ntmps6
  go_wp2_with fail
  have f1 := (Frac.new w an ad).alloc (.cells #[.int .i64 bn, .int .i64 bd] 23)
  have f2 := Frac.new (w.alloc (.cells #[.int .i64 an, .int .i64 ad] 23)) bn bd
  have hb : Below w.heap.size w ((w.alloc (.cells #[.int .i64 an, .int .i64 ad] 23)).alloc (.cells #[.int .i64 bn, .int .i64 bd] 23)) := by (repeat' (first | (with_reducible exact Below.refl _ _) | (with_reducible assumption) | (with_reducible refine Below.alloc ?_ ?_ _) | (with_reducible refine Below.drew ?_) | (with_reducible refine below_drewN ?_ _) | (with_reducible refine Below.setCell ?_ ?_ _) | (with_reducible refine below_step ?_ (by with_reducible assumption) ?_) | go_size))
  rw [World.size_alloc] at f2
  generalize ((w.alloc (.cells #[.int .i64 an, .int .i64 ad] 23)).alloc (.cells #[.int .i64 bn, .int .i64 bd] 23)) = W at f1 f2 hb ⊢
  have zW := hb.size
  have F1 := Lib.hid f1
  have F2 := Lib.hid f2
  clear f1 f2
  refine (C1.out _).mono ?_
  rintro e w1 ⟨rfl, hb1⟩
  have z1 := hb1.size
  have a1 := (F1.out.below hb1).c0
  have a2 := (F1.out.below hb1).c1
  have a3 := (F2.out.below hb1).c0
  have a4 := (F2.out.below hb1).c1
  go_wp2_with fail
  refine (C2.out _).mono ?_
  rintro e w2 ⟨rfl, hb2⟩
  have z2 := hb2.size
  go_wp2_with fail
  refine (CA.out _).mono ?_
  rintro e w3 ⟨rfl, hb3⟩
  have z3 := hb3.size
  have d1 := (((F1.out.below hb1).below hb2).below hb3).c0
  have d2 := (((F1.out.below hb1).below hb2).below hb3).c1
  have d3 := (((F2.out.below hb1).below hb2).below hb3).c0
  have d4 := (((F2.out.below hb1).below hb2).below hb3).c1
  go_wp2_with fail
  refine (C3.out _).mono ?_
  rintro e w4 ⟨rfl, hb4⟩
  go_wp2_with fail
  go_ret
  exact ⟨rfl, by (repeat' (first | (with_reducible exact Below.refl _ _) | (with_reducible assumption) | (with_reducible refine Below.alloc ?_ ?_ _) | (with_reducible refine Below.drew ?_) | (with_reducible refine below_drewN ?_ _) | (with_reducible refine Below.setCell ?_ ?_ _) | (with_reducible refine below_step ?_ (by with_reducible assumption) ?_) | go_size))⟩

theorem compares_any (an ad bn bd : Int) (w : World) (ha1 : -9223372036854775808 ≤ an) (ha2 : an ≤ 9223372036854775807) (had : ad ≤ 9223372036854775807) (hb1 : -9223372036854775808 ≤ bn) (hb2 : bn ≤ 9223372036854775807) (hbd : bd ≤ 9223372036854775807) :
    Calls Try.prog 6 #[.agg #[.int .i64 an, .int .i64 ad], .agg #[.int .i64 bn, .int .i64 bd]] w fun e w' => e = .returned (.bool true) ∧ Below w.heap.size w w' := by
  by_cases h : ad ≤ 0 ∨ bd ≤ 0
  · exact compares_bad an ad bn bd w h
  · exact compares_ok an ad bn bd w ha1 ha2 hb1 hb2 (by omega) had (by omega) hbd

end Go.Proofs.Ytednejckcdiebaa
