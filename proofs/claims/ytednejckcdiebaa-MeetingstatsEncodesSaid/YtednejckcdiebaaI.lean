/- The law MeetingstatsRates, walked: the cases without a fit. -/
import Derived.Test.YtednejckcdiebaaR2
import Derived.Test.YtednejckcdiebaaT
import Derived.Deep.RegionWith
import Derived.Deep.RegionHeld3
namespace Go.Proofs.Ytednejckcdiebaa
open Go.RowKit Go.Lib Go.ChangeMaps

theorem blk_new (w : World) (o : Obj) : (w.alloc o).heap[w.heap.size]? = some o := by
  show (w.heap.push _)[_]? = _
  rw [Array.getElem?_push, if_pos rfl]
theorem blk_below {u w : World} {b : Nat} {o : Obj} (h : u.heap[b]? = some o) (hb : Below u.heap.size u w) : w.heap[b]? = some o := by
  rw [hb.block b (Array.getElem?_eq_some_iff.1 h).1]; exact h
theorem blk_alloc {u : World} {b : Nat} {o : Obj} (h : u.heap[b]? = some o) (x : Obj) : (u.alloc x).heap[b]? = some o := by
  rw [Below.heap_alloc u x b (Array.getElem?_eq_some_iff.1 h).1]; exact h
theorem blk_lt {u : World} {b : Nat} {o : Obj} (h : u.heap[b]? = some o) : b < u.heap.size := (Array.getElem?_eq_some_iff.1 h).1

/-- A fraction lies in block b. -/
def Frac (w : World) (b : Nat) (x y : Int) : Prop := w.heap[b]? = some (.cells #[.int .i64 x, .int .i64 y] 23 (0, 0))
theorem Frac.below {u w : World} {b : Nat} {x y : Int} (h : Frac u b x y) (hb : Below u.heap.size u w) : Frac w b x y := blk_below h hb
theorem Frac.alloc {u : World} {b : Nat} {x y : Int} (h : Frac u b x y) (o : Obj) : Frac (u.alloc o) b x y := blk_alloc h o
theorem Frac.new (w : World) (x y : Int) : Frac (w.alloc (.cells #[.int .i64 x, .int .i64 y] 23)) w.heap.size x y := blk_new w _
theorem Frac.c0 {w : World} {b : Nat} {x y : Int} (h : Frac w b x y) : w.cell? ⟨b, 0, none⟩ = some (.int .i64 x) := by rw [cell_of_block h]; rfl
theorem Frac.c1 {w : World} {b : Nat} {x y : Int} (h : Frac w b x y) : w.cell? ⟨b, 1, none⟩ = some (.int .i64 y) := by rw [cell_of_block h]; rfl

set_option maxRecDepth 100000 in
set_option maxHeartbeats 1000000 in
theorem rates_long (n : Int) (ao : Option Addr) (len c : Nat) (a b d q : Int) (w : World) (h : 60 < len) (hm : len ≤ 9223372036854775807) :
    Calls Try.prog 5 #[.int .i64 n, .slice ao len c, .int .i64 a, .int .i64 b, .int .i64 d, .int .i64 q] w fun e w' => e = .returned (.bool true) ∧ Below w.heap.size w w' := by
  have CA := Lib.hid awake_any
  go_enter Try.func5, Try.ntmps5
  go_wp2_with fail
  refine (CA.out _).mono ?_
  rintro e w1 ⟨rfl, hb1⟩
  go_wp2
  go_ret
  exact ⟨rfl, by (repeat' (first | (with_reducible exact Below.refl _ _) | (with_reducible assumption) | (with_reducible refine Below.alloc ?_ ?_ _) | (with_reducible refine Below.drew ?_) | (with_reducible refine below_drewN ?_ _) | (with_reducible refine Below.setCell ?_ ?_ _) | (with_reducible refine below_step ?_ (by with_reducible assumption) ?_) | go_size))⟩

set_option maxRecDepth 100000 in
set_option maxHeartbeats 1000000 in
theorem rates_bad (n : Int) (v : Value) (xs : List Mt) (a b d q : Int) (w : World) (hv : ReadsM w v xs) (h : xs.length ≤ 60) (hn : n < 2 ∨ 12 < n) :
    Calls Try.prog 5 #[.int .i64 n, v, .int .i64 a, .int .i64 b, .int .i64 d, .int .i64 q] w fun e w' => e = .returned (.bool true) ∧ Below w.heap.size w w' := by
  have CA := Lib.hid awake_any
  have CP := Lib.hid (fun v w => play_bad n v w hn)
  obtain ⟨ao, c, rfl, hcap, _⟩ := hv
  clear hn
  go_enter Try.func5, Try.ntmps5
  go_wp2_with fail
  refine (CP.out _ _).mono ?_
  rintro e w1 ⟨rfl, rfl⟩
  go_wp2_with fail
  refine (CA.out _).mono ?_
  rintro e w2 ⟨rfl, hb2⟩
  go_wp2
  go_ret
  exact ⟨rfl, by (repeat' (first | (with_reducible exact Below.refl _ _) | (with_reducible assumption) | (with_reducible refine Below.alloc ?_ ?_ _) | (with_reducible refine Below.drew ?_) | (with_reducible refine below_drewN ?_ _) | (with_reducible refine Below.setCell ?_ ?_ _) | (with_reducible refine below_step ?_ (by with_reducible assumption) ?_) | go_size))⟩

set_option maxRecDepth 100000 in
set_option maxHeartbeats 4000000 in
/-- The pair or the day is none. -/
theorem rates_unfit (n : Int) (v : Value) (xs : List Mt) (a b d q : Int) (w : World) (hv : ReadsM w v xs) (h : xs.length ≤ 60) (hn1 : 2 ≤ n) (hn2 : n ≤ 12) (hf : ¬ Fit n a b d) :
    Calls Try.prog 5 #[.int .i64 n, v, .int .i64 a, .int .i64 b, .int .i64 d, .int .i64 q] w fun e w' => e = .returned (.bool true) ∧ Below w.heap.size w w' := by
  have CA := Lib.hid awake_any
  have cP := play_ok n v xs w hn1 hn2 hv h
  have cR := fun k w h => Rate_bad k n w h a b d hf
  have cE := fun k w h => Expected_bad k n w h a b d hf
  have cW := fun k w h => Within_bad k n w h a b d q hf
  have CR := Lib.hid cR
  have CE := Lib.hid cE
  have CW := Lib.hid cW
  obtain ⟨ao, c, rfl, hcap, _⟩ := hv
  have CP := Lib.hid cP
  have HF := Lib.hid hf
  clear cP cR cE cW hf
  go_enter Try.func5, Try.ntmps5
  go_wp2_with fail
  refine CP.out.mono ?_
  rintro e w1 ⟨k, dv, F, N, M, rfl, hb1, hB, hT, hF, hO⟩
  have z1 := hb1.size
  try simp only [World.size_alloc] at z1
  have HB := Lib.hid hB
  clear hB hT hF hO
  go_wp2_with fail
  refine (CR.out k _ HB.out.cell0).mono ?_
  rintro e w2 ⟨rfl, hb2⟩
  have z2 := hb2.size
  try simp only [World.size_alloc] at z2
  go_wp2_with fail
  refine (CE.out k _ ((HB.out.below hb2).below (by (repeat' (first | (with_reducible exact Below.refl _ _) | (with_reducible assumption) | (with_reducible refine Below.alloc ?_ ?_ _) | (with_reducible refine Below.drew ?_) | (with_reducible refine below_drewN ?_ _) | (with_reducible refine Below.setCell ?_ ?_ _) | (with_reducible refine below_step ?_ (by with_reducible assumption) ?_) | go_size)))).cell0).mono ?_
  rintro e w3 ⟨rfl, hb3⟩
  have z3 := hb3.size
  try simp only [World.size_alloc] at z3
  go_wp2_with fail
  refine (CW.out k _ ((((HB.out.below hb2).below (by (repeat' (first | (with_reducible exact Below.refl _ _) | (with_reducible assumption) | (with_reducible refine Below.alloc ?_ ?_ _) | (with_reducible refine Below.drew ?_) | (with_reducible refine below_drewN ?_ _) | (with_reducible refine Below.setCell ?_ ?_ _) | (with_reducible refine below_step ?_ (by with_reducible assumption) ?_) | go_size)))).below hb3).below (by (repeat' (first | (with_reducible exact Below.refl _ _) | (with_reducible assumption) | (with_reducible refine Below.alloc ?_ ?_ _) | (with_reducible refine Below.drew ?_) | (with_reducible refine below_drewN ?_ _) | (with_reducible refine Below.setCell ?_ ?_ _) | (with_reducible refine below_step ?_ (by with_reducible assumption) ?_) | go_size)))).cell0).mono ?_
  rintro e w4 ⟨rfl, hb4⟩
  have z4 := hb4.size
  try simp only [World.size_alloc] at z4
  go_wp2_with fail
  refine (pair_any _ _ _ _).mono ?_
  rintro e w5 ⟨rfl, rfl⟩
  have g1 := (((Frac.new w2 0 0).below hb3).alloc (.cells #[.int .i64 0, .int .i64 0] 23)).below hb4
  have g2 := (Frac.new w3 0 0).below hb4
  have f1 := (g1.alloc (.cells #[.int .i64 0, .int .i64 0] 23)).alloc (.cells #[.int .i64 0, .int .i64 0] 23)
  have f2 := (g2.alloc (.cells #[.int .i64 0, .int .i64 0] 23)).alloc (.cells #[.int .i64 0, .int .i64 0] 23)
  have f3 := (Frac.new w4 0 0).alloc (.cells #[.int .i64 0, .int .i64 0] 23)
  have f4 := Frac.new (w4.alloc (.cells #[.int .i64 0, .int .i64 0] 23)) 0 0
  have b4 : Below w.heap.size w ((w4.alloc (Obj.cells #[.int .i64 0, .int .i64 0] 23)).alloc (Obj.cells #[.int .i64 0, .int .i64 0] 23)) := by (repeat' (first | (with_reducible exact Below.refl _ _) | (with_reducible assumption) | (with_reducible refine Below.alloc ?_ ?_ _) | (with_reducible refine Below.drew ?_) | (with_reducible refine below_drewN ?_ _) | (with_reducible refine Below.setCell ?_ ?_ _) | (with_reducible refine below_step ?_ (by with_reducible assumption) ?_) | go_size))
  rw [World.size_alloc] at f4
  generalize ((w4.alloc (Obj.cells #[.int .i64 0, .int .i64 0] 23)).alloc (Obj.cells #[.int .i64 0, .int .i64 0] 23)) = W0 at f1 f2 f3 f4 b4 ⊢
  have F1 := Lib.hid f1
  have F2 := Lib.hid f2
  have F3 := Lib.hid f3
  have F4 := Lib.hid f4
  clear f1 f2 f3 f4 g1 g2 hb2 hb3 hb4 z2 z3 z4 HB CR CE CW CP
  generalize w2.heap.size = k1 at F1 ⊢
  generalize w3.heap.size = k2 at F2 ⊢
  generalize w4.heap.size = k3 at F3 F4 ⊢
  have zW := b4.size
  cases hp : decide (0 ≤ a ∧ a < n ∧ 0 ≤ b ∧ b < n ∧ a ≠ b)
  · go_wp2_with fail
    refine (CA.out _).mono ?_
    rintro e w6 ⟨rfl, hb6⟩
    have z6 := hb6.size
    try simp only [World.size_alloc] at z6
    have a1 := (F1.out.below hb6).c0
    have a2 := (F1.out.below hb6).c1
    have a3 := (F2.out.below hb6).c0
    have a4 := (F2.out.below hb6).c1
    have a5 := (F3.out.below hb6).c0
    have a6 := (F3.out.below hb6).c1
    have a7 := (F4.out.below hb6).c0
    have a8 := (F4.out.below hb6).c1
    go_wp2
    go_ret
    exact ⟨rfl, by (repeat' (first | (with_reducible exact Below.refl _ _) | (with_reducible assumption) | (with_reducible refine Below.alloc ?_ ?_ _) | (with_reducible refine Below.drew ?_) | (with_reducible refine below_drewN ?_ _) | (with_reducible refine Below.setCell ?_ ?_ _) | (with_reducible refine below_step ?_ (by with_reducible assumption) ?_) | go_size))⟩
  · by_cases hd : d < 0
    · go_wp2_with fail
      refine (CA.out _).mono ?_
      rintro e w6 ⟨rfl, hb6⟩
      have z6 := hb6.size
      try simp only [World.size_alloc] at z6
      have a1 := (F1.out.below hb6).c0
      have a2 := (F1.out.below hb6).c1
      have a3 := (F2.out.below hb6).c0
      have a4 := (F2.out.below hb6).c1
      have a5 := (F3.out.below hb6).c0
      have a6 := (F3.out.below hb6).c1
      have a7 := (F4.out.below hb6).c0
      have a8 := (F4.out.below hb6).c1
      go_wp2
      go_ret
      exact ⟨rfl, by (repeat' (first | (with_reducible exact Below.refl _ _) | (with_reducible assumption) | (with_reducible refine Below.alloc ?_ ?_ _) | (with_reducible refine Below.drew ?_) | (with_reducible refine below_drewN ?_ _) | (with_reducible refine Below.setCell ?_ ?_ _) | (with_reducible refine below_step ?_ (by with_reducible assumption) ?_) | go_size))⟩
    · have hd2 : 999999 < d := by
        have := HF.out
        simp at hp
        unfold Fit at this
        omega
      go_wp2_with fail
      refine (CA.out _).mono ?_
      rintro e w6 ⟨rfl, hb6⟩
      have z6 := hb6.size
      try simp only [World.size_alloc] at z6
      have a1 := (F1.out.below hb6).c0
      have a2 := (F1.out.below hb6).c1
      have a3 := (F2.out.below hb6).c0
      have a4 := (F2.out.below hb6).c1
      have a5 := (F3.out.below hb6).c0
      have a6 := (F3.out.below hb6).c1
      have a7 := (F4.out.below hb6).c0
      have a8 := (F4.out.below hb6).c1
      go_wp2
      go_ret
      exact ⟨rfl, by (repeat' (first | (with_reducible exact Below.refl _ _) | (with_reducible assumption) | (with_reducible refine Below.alloc ?_ ?_ _) | (with_reducible refine Below.drew ?_) | (with_reducible refine below_drewN ?_ _) | (with_reducible refine Below.setCell ?_ ?_ _) | (with_reducible refine below_step ?_ (by with_reducible assumption) ?_) | go_size))⟩


end Go.Proofs.Ytednejckcdiebaa
