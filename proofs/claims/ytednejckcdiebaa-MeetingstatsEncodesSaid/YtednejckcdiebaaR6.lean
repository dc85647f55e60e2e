/- The law MeetingstatsHelps, walked. -/
import Derived.Test.YtednejckcdiebaaR5
import Derived.Test.YtednejckcdiebaaG2
import Derived.Test.YtednejckcdiebaaA
namespace Go.Proofs.Ytednejckcdiebaa
open Go.RowKit Go.Lib Go.ChangeMaps

/-- Three ints lie in block b: a meeting. -/
def Trip (w : World) (b : Nat) (x y z : Int) : Prop := w.heap[b]? = some (.cells #[.int .i64 x, .int .i64 y, .int .i64 z] 52 (0, 0))
theorem Trip.below {u w : World} {b : Nat} {x y z : Int} (h : Trip u b x y z) (hb : Below u.heap.size u w) : Trip w b x y z := blk_below h hb
theorem Trip.alloc {u : World} {b : Nat} {x y z : Int} (h : Trip u b x y z) (o : Obj) : Trip (u.alloc o) b x y z := blk_alloc h o
theorem Trip.c0 {w : World} {b : Nat} {x y z : Int} (h : Trip w b x y z) : w.cell? ⟨b, 0, none⟩ = some (.int .i64 x) := by rw [cell_of_block h]; rfl
theorem Trip.c1 {w : World} {b : Nat} {x y z : Int} (h : Trip w b x y z) : w.cell? ⟨b, 1, none⟩ = some (.int .i64 y) := by rw [cell_of_block h]; rfl
theorem Trip.c2 {w : World} {b : Nat} {x y z : Int} (h : Trip w b x y z) : w.cell? ⟨b, 2, none⟩ = some (.int .i64 z) := by rw [cell_of_block h]; rfl
theorem Trip.lt {w : World} {b : Nat} {x y z : Int} (h : Trip w b x y z) : b < w.heap.size := blk_lt h

set_option maxRecDepth 100000 in
set_option maxHeartbeats 1000000 in
theorem helps_long (n : Int) (ao : Option Addr) (len c : Nat) (A B D a b : Int) (w : World) (h : 60 < len) (hm : len ≤ 9223372036854775807) :
    Calls Try.prog 8 #[.int .i64 n, .slice ao len c, .agg #[.int .i64 A, .int .i64 B, .int .i64 D], .int .i64 a, .int .i64 b] w fun e w' => e = .returned (.bool true) ∧ Below w.heap.size w w' := by
  have CA := Lib.hid awake_any
  go_enter Try.func8, Try.ntmps8
  go_wp2_with fail
  refine (CA.out _).mono ?_
  rintro e w1 ⟨rfl, hb1⟩
  go_wp2
  go_ret
  exact ⟨rfl, by (repeat' (first | (with_reducible exact Below.refl _ _) | (with_reducible assumption) | (with_reducible refine Below.alloc ?_ ?_ _) | (with_reducible refine Below.drew ?_) | (with_reducible refine below_drewN ?_ _) | (with_reducible refine Below.setCell ?_ ?_ _) | (with_reducible refine below_step ?_ (by with_reducible assumption) ?_) | go_size))⟩

set_option maxRecDepth 100000 in
set_option maxHeartbeats 1000000 in
theorem helps_bad (n : Int) (v : Value) (xs : List Mt) (A B D a b : Int) (w : World) (hv : ReadsM w v xs) (h : xs.length ≤ 60) (hn : n < 2 ∨ 12 < n) :
    Calls Try.prog 8 #[.int .i64 n, v, .agg #[.int .i64 A, .int .i64 B, .int .i64 D], .int .i64 a, .int .i64 b] w fun e w' => e = .returned (.bool true) ∧ Below w.heap.size w w' := by
  have CA := Lib.hid awake_any
  have CP := Lib.hid (fun v w => play_bad n v w hn)
  obtain ⟨ao, c, rfl, hcap, _⟩ := hv
  clear hn
  go_enter Try.func8, Try.ntmps8
  go_wp2_with fail
  refine (CP.out _ _).mono ?_
  rintro e w1 ⟨rfl, rfl⟩
  go_wp2_with fail
  refine (CP.out _ _).mono ?_
  rintro e w2 ⟨rfl, rfl⟩
  go_wp2_with fail
  refine (CA.out _).mono ?_
  rintro e w3 ⟨rfl, hb3⟩
  go_wp2
  go_ret
  exact ⟨rfl, by (repeat' (first | (with_reducible exact Below.refl _ _) | (with_reducible assumption) | (with_reducible refine Below.alloc ?_ ?_ _) | (with_reducible refine Below.drew ?_) | (with_reducible refine below_drewN ?_ _) | (with_reducible refine Below.setCell ?_ ?_ _) | (with_reducible refine below_step ?_ (by with_reducible assumption) ?_) | go_size))⟩

theorem IsBook.alloc1 {w : World} {F : Nat → Prop} {k : Nat} {n N : Int} {M : Days} (h : IsBook w F k n N M) (o : Obj) : IsBook (w.alloc o) F k n N M := h.below ((Below.refl _ w).alloc (Nat.le_refl _) o)

/-- The tracks of one list are alike. -/
theorem track_same {n : Int} {done : List Mt} {N1 N2 : Int} {M1 M2 : Days} (h1 : Track n done N1 M1) (h2 : Track n done N2 M2) : N1 = N2 := by
  rcases h1.new with ⟨e1, r1⟩ | ⟨r1, e1, _⟩ <;> rcases h2.new with ⟨e2, r2⟩ | ⟨r2, e2, _⟩
  · rw [e1, e2]
  · exact absurd r1 r2
  · exact absurd r2 r1
  · rw [e1, e2]

set_option maxRecDepth 100000 in
set_option maxHeartbeats 8000000 in
theorem helps_fit (n : Int) (v : Value) (xs : List Mt) (A B D a b : Int) (w : World) (hv : ReadsM w v xs) (h : xs.length ≤ 60) (hn1 : 2 ≤ n) (hn2 : n ≤ 12) :
    Calls Try.prog 8 #[.int .i64 n, v, .agg #[.int .i64 A, .int .i64 B, .int .i64 D], .int .i64 a, .int .i64 b] w fun e w' => e = .returned (.bool true) ∧ Below w.heap.size w w' := by
  have CA := Lib.hid awake_any
  have cP := fun w hv => play_ok n v xs w hn1 hn2 hv h
  have HV := Lib.hid hv
  obtain ⟨ao, c, rfl, hcap, _⟩ := hv
  have CP := Lib.hid cP
  clear cP
  go_enter Try.func8, Try.ntmps8
  go_wp2_with fail
  have tr0 : Trip (w.alloc (.cells #[.int .i64 A, .int .i64 B, .int .i64 D] 52)) w.heap.size A B D := blk_new w _
  have b0 : Below w.heap.size w (w.alloc (.cells #[.int .i64 A, .int .i64 B, .int .i64 D] 52)) := by (repeat' (first | (with_reducible exact Below.refl _ _) | (with_reducible assumption) | (with_reducible refine Below.alloc ?_ ?_ _) | (with_reducible refine Below.drew ?_) | (with_reducible refine below_drewN ?_ _) | (with_reducible refine Below.setCell ?_ ?_ _) | (with_reducible refine below_step ?_ (by with_reducible assumption) ?_) | go_size))
  generalize w.alloc (.cells #[.int .i64 A, .int .i64 B, .int .i64 D] 52) = w0 at tr0 b0 ⊢
  have z0 := b0.size
  have zlt := tr0.lt
  refine (CP.out _ (HV.out.below b0)).mono ?_
  rintro e w1 ⟨k1, dv1, F1, N1, M1, rfl, hb1, hB1, hT1, hF1, hO1⟩
  have z1 := hb1.size
  go_wp2_with fail
  refine (CP.out _ ((HV.out.below b0).below hb1)).mono ?_
  rintro e w2 ⟨k2, dv2, F2, N2, M2, rfl, hb2, hB2, hT2, hF2, hO2⟩
  have z2 := hb2.size
  have tr2 := (tr0.below hb1).below hb2
  have hN := track_same hT1 hT2
  subst hN
  have b2 : Below w.heap.size w w2 := (b0.trans (hb1.mono z0)).trans (hb2.mono (by omega))
  have TR2 := Lib.hid tr2
  have t1 := tr2.c0
  have t2 := tr2.c1
  have t3 := tr2.c2
  have hB1' := hB1.below hb2
  clear hO1 hO2 CP HV hb1 hb2 tr0 tr2 b0 hB1
  have HB1 := Lib.hid hB1'
  have HB2 := Lib.hid hB2
  have HT1 := Lib.hid hT1
  have HT2 := Lib.hid hT2
  have HF1 := Lib.hid hF1
  have HF2 := Lib.hid hF2
  clear hB1' hB2 hT1 hT2 hF1 hF2
  go_wp2_with fail
  refine (pair_any _ _ _ _).mono ?_
  rintro e w5 ⟨rfl, rfl⟩
  cases hp : decide (0 ≤ a ∧ a < n ∧ 0 ≤ b ∧ b < n ∧ a ≠ b)
  · go_wp2_with fail
    refine (CA.out _).mono ?_
    rintro e w6 ⟨rfl, hb6⟩
    go_wp2
    go_ret
    exact ⟨rfl, b2.trans (hb6.mono (by omega))⟩
  have hpp : 0 ≤ a ∧ a < n ∧ 0 ≤ b ∧ b < n ∧ a ≠ b := by simpa using hp
  have HPP := Lib.hid hpp
  clear hpp
  go_wp2_with fail
  by_cases hf : Fit n A B D
  · by_cases hd : D < N1
    · refine (meet_early F2 k2 n N1 M2 _ HB2.out A B D hf hd).mono ?_
      rintro e w6 ⟨rfl, hb6⟩
      clear hf hd
      go_wp2_with fail
      refine (CA.out _).mono ?_
      rintro e w7 ⟨rfl, hb7⟩
      go_wp2
      go_ret
      exact ⟨rfl, (b2.trans (hb6.mono (by omega))).trans (hb7.mono (by have := hb6.size; omega))⟩
    · refine (meet_ok F2 k2 n N1 M2 _ HB2.out HT2.out.rise A B D hf (by omega)).mono ?_
      rintro e w3 ⟨rfl, F3, hB3, hU⟩
      obtain ⟨g1, g2, g3, g4, g5, g6, g7⟩ := hf
      have hfa : Fit n a b D := by obtain ⟨q1, q2, q3, q4, q5⟩ := HPP.out; exact ⟨q1, q2, q3, q4, q5, g6, g7⟩
      have hab : a ≠ b := hfa.2.2.2.2.1
      have hR3 : Rise D (meet M2 (min A B) (max A B) D) := rise_meet HT2.out.rise _ _ _ (by omega) g6 g7
      have b3 : Below w.heap.size w w3 := b2.trans (hU.below (by omega) (fun g hg => by have := (HF2.out g hg).1; omega))
      have z3 := hU.size
      have hB1' : IsBook w3 F1 k1 n N1 M1 := HB1.out.same (fun g hg => hU.keep g (by have := (HF1.out g hg).2; omega) (fun e => by have := (HF1.out g hg).2; have := (HF2.out g e).1; omega))
      have tr3 : Trip w3 w.heap.size A B D := by
        have := TR2.out.lt
        unfold Trip
        rw [hU.keep w.heap.size this (fun e => by have := (HF2.out _ e).1; omega)]
        exact TR2.out
      -- the days of the pair
      have e1 := track_at HT1.out a b
      have e2 := track_at HT2.out a b
      have hsort := rise_le HT1.out.rise (min a b) (max a b)
      have hhigh := HT1.out.rise.high (min a b) (max a b)
      rw [e1] at hsort hhigh
      have cW1 := fun w hB => Within_ok F1 k1 n N1 M1 w hB HT1.out.rise a b D hfa 5 (by omega)
      have cH1 := fun w hB => Weight_ok F1 k1 n N1 M1 w hB HT1.out.rise a b D hfa
      have cN1 := fun w hB => count_any F1 k1 n N1 M1 w hB a b
      have cW2 := fun w hB => Within_ok F3 k2 n D _ w hB hR3 a b D hfa 5 (by omega)
      have cH2 := fun w hB => Weight_ok F3 k2 n D _ w hB hR3 a b D hfa
      have cN2 := fun w hB => count_any F3 k2 n D (meet M2 (min A B) (max A B) D) w hB a b
      have hs1 := win_short HT1.out.rise (min a b) (max a b) (D - 32 + 1) D (by omega)
      have hs2 := win_short hR3 (min a b) (max a b) (D - 32 + 1) D (by omega)
      have e3 : meet M2 (min A B) (max A B) D (min a b) (max a b) = if (A = a ∧ B = b) ∨ (A = b ∧ B = a) then more (refDays (played n xs) a b) D else refDays (played n xs) a b := by
        unfold meet
        by_cases hs : (A = a ∧ B = b) ∨ (A = b ∧ B = a)
        · rw [if_pos (by omega), if_pos hs]
          have : M2 (min A B) (max A B) = refDays (played n xs) a b := by
            rw [← e2]; congr 1 <;> omega
          rw [this]
          rfl
        · rw [if_neg (by omega), if_neg hs, e2]
      rw [e1] at cW1 cH1 cN1 hs1
      rw [e3] at cW2 cH2 cN2 hs2
      have ezs : ∀ x ∈ refDays (played n xs) a b, x ≤ D := fun x hx => Int.le_trans (hhigh x hx) (by omega)
      generalize refDays (played n xs) a b = zs at cW1 cH1 cN1 cW2 cH2 cN2 hs1 hs2 hsort ezs
      clear e1 e2 e3 hhigh hU
      have HB1 := Lib.hid hB1'
      have HB3 := Lib.hid hB3
      have TR3 := Lib.hid tr3
      clear hB1' hB3 tr3 HB2 TR2 HT1 HT2 HF1 HF2 HPP hR3 hfa t1 t2 t3
      have t1 := TR3.out.c0
      have t2 := TR3.out.c1
      have t3 := TR3.out.c2
      have hm1 : ((win zs (D - 32 + 1) D).length : Int) ≤ 32 := by omega
      by_cases hs : (A = a ∧ B = b) ∨ (A = b ∧ B = a)
      · rw [if_pos hs] at cW2 cH2 cN2 hs2
        have l1 := win_more zs (D - 32 + 1) D hsort ezs (by omega)
        have l2 := heft_more zs (D - 168 + 1) D hsort ezs (by omega)
        rw [chance_c] at cW1 cW2
        generalize (win zs (D - 32 + 1) D).length = m1 at cW1 hs1 l1 hm1
        generalize (win (more zs D) (D - 32 + 1) D).length = m2 at cW2 hs2 l1
        generalize heft (win zs (D - 168 + 1) D) D = v1 at cH1 l2
        generalize heft (win (more zs D) (D - 168 + 1) D) D = v2 at cH2 l2
        have hmm := c_more (32 - (m1 : Int)) (32 - (m2 : Int)) (by omega) (by omega) (by omega) 5
        have bd1 := c_bounds (32 - (m1 : Int)) (by omega) (by omega) 5 (by omega)
        have bd2 := c_bounds (32 - (m2 : Int)) (by omega) (by omega) 5 (by omega)
        generalize cNum (32 - (m1 : Int)) 5 = x1 at cW1 hmm bd1
        generalize cDen (32 - (m1 : Int)) 5 = y1 at cW1 hmm bd1
        generalize cNum (32 - (m2 : Int)) 5 = x2 at cW2 hmm bd2
        generalize cDen (32 - (m2 : Int)) 5 = y2 at cW2 hmm bd2
        have cO := fun w => compare_ok x1 y1 x2 y2 w (by omega) (by omega) (by omega) (by omega) (by omega) (by omega) (by omega) (by omega)
        have ho : ord (x1 * y2) (x2 * y1) ≤ 0 := by
          rcases ord_cases (x1 * y2) (x2 * y1) with ⟨e, _⟩ | ⟨e, _⟩ | ⟨e, g⟩ <;> rw [e] <;> omega
        generalize ord (x1 * y2) (x2 * y1) = o at cO ho
        have t4 : decide (o ≤ 0) = true := by simp [ho]
        have t5 : decide (v1 ≤ v2) = true := by simp [l2]
        have CO := Lib.hid cO
        have CW1 := Lib.hid cW1
        have CW2 := Lib.hid cW2
        have CH1 := Lib.hid cH1
        have CH2 := Lib.hid cH2
        have HS := Lib.hid hs
        clear cO cW1 cW2 cH1 cH2 cN1 cN2 hs1 hs2 l1 l2 hm1 hmm bd1 bd2 ho hsort ezs hs g1 g2 g3 g4 g5 g6 g7 hd hp
        go_wp2_with fail
        refine (CW1.out _ HB1.out).mono ?_
        rintro e w4 ⟨rfl, hb4⟩
        have z4 := hb4.size
        have HB1a := Lib.hid ((HB1.out.below hb4).alloc1 (.cells #[.int .i64 x1, .int .i64 y1] 23))
        have HB3a := Lib.hid ((HB3.out.below hb4).alloc1 (.cells #[.int .i64 x1, .int .i64 y1] 23))
        have TR4 := Lib.hid ((TR3.out.below hb4).alloc (.cells #[.int .i64 x1, .int .i64 y1] 23))
        have FX4 := Lib.hid (Frac.new w4 x1 y1)
        clear t1 t2 t3
        have t3 := TR4.out.c2
        go_wp2_with fail
        refine (CW2.out _ HB3a.out).mono ?_
        rintro e w5 ⟨rfl, hb5⟩
        have z5 := hb5.size
        try simp only [World.size_alloc] at z5
        have HB1b := Lib.hid ((HB1a.out.below hb5).alloc1 (.cells #[.int .i64 x2, .int .i64 y2] 23))
        have HB3b := Lib.hid ((HB3a.out.below hb5).alloc1 (.cells #[.int .i64 x2, .int .i64 y2] 23))
        have TR5 := Lib.hid ((TR4.out.below hb5).alloc (.cells #[.int .i64 x2, .int .i64 y2] 23))
        have FX5 := Lib.hid ((FX4.out.below hb5).alloc (.cells #[.int .i64 x2, .int .i64 y2] 23))
        have FY5 := Lib.hid (Frac.new w5 x2 y2)
        clear t3
        have t3 := TR5.out.c2
        go_wp2_with fail
        refine (CH1.out _ HB1b.out).mono ?_
        rintro e w6 ⟨rfl, hb6⟩
        have z6 := hb6.size
        try simp only [World.size_alloc] at z6
        have TR6 := Lib.hid (TR5.out.below hb6)
        clear t3
        have t3 := TR6.out.c2
        go_wp2_with fail
        refine (CH2.out _ (HB3b.out.below hb6)).mono ?_
        rintro e w7 ⟨rfl, hb7⟩
        have z7 := hb7.size
        have HB1d := Lib.hid ((HB1b.out.below hb6).below hb7)
        have HB3d := Lib.hid ((HB3b.out.below hb6).below hb7)
        have TR7 := TR6.out.below hb7
        have FX7 := Lib.hid ((FX5.out.below hb6).below hb7)
        have FY7 := Lib.hid ((FY5.out.below hb6).below hb7)
        have b7 : Below w.heap.size w w7 := by (repeat' (first | (with_reducible exact Below.refl _ _) | (with_reducible assumption) | (with_reducible refine Below.alloc ?_ ?_ _) | (with_reducible refine Below.drew ?_) | (with_reducible refine below_drewN ?_ _) | (with_reducible refine Below.setCell ?_ ?_ _) | (with_reducible refine below_step ?_ (by with_reducible assumption) ?_) | go_size))
        clear t3
        have t1 := TR7.c0
        have t2 := TR7.c1
        have u1 := FX7.out.c0
        have u2 := FX7.out.c1
        have u3 := FY7.out.c0
        have u4 := FY7.out.c1
        generalize w4.heap.size = i4 at FX7 u1 u2 ⊢
        generalize w5.heap.size = i5 at FY7 u3 u4 ⊢
        clear HB1 HB3 HB1a HB3a HB1b HB3b TR3 TR4 TR5 TR6 TR7 FX4 FX5 FY5 hb4 hb5 hb6 hb7 z4 z5 z6 z7
        have z7 := b7.size
        rcases HS.out with ⟨hc1, hc2⟩ | ⟨hc1, hc2⟩
        · have s1 : (A == a) = true := by simp [hc1]
          have s2 : (B == b) = true := by simp [hc2]
          clear hc1 hc2 HS
          go_wp2_with fail
          refine (CO.out _).mono ?_
          rintro e w8 ⟨rfl, hb8⟩
          have z8 := hb8.size
          go_wp2_with fail
          refine (CA.out _).mono ?_
          rintro e w9 ⟨rfl, hb9⟩
          go_wp2_with fail
          go_ret
          exact ⟨rfl, (b7.trans (hb8.mono z7)).trans (hb9.mono (by omega))⟩
        · have s1 : (A == a) = false := by rw [beq_eq_false_iff_ne]; omega
          have s2 : (A == b) = true := by simp [hc1]
          have s3 : (B == a) = true := by simp [hc2]
          clear hc1 hc2 HS
          go_wp2_with fail
          refine (CO.out _).mono ?_
          rintro e w8 ⟨rfl, hb8⟩
          have z8 := hb8.size
          go_wp2_with fail
          refine (CA.out _).mono ?_
          rintro e w9 ⟨rfl, hb9⟩
          go_wp2_with fail
          go_ret
          exact ⟨rfl, (b7.trans (hb8.mono z7)).trans (hb9.mono (by omega))⟩
      · rw [if_neg hs] at cW2 cH2 cN2 hs2
        rw [chance_c] at cW1 cW2
        generalize cNum (32 - ((win zs (D - 32 + 1) D).length : Int)) 5 = x1 at cW1 cW2
        generalize cDen (32 - ((win zs (D - 32 + 1) D).length : Int)) 5 = y1 at cW1 cW2
        generalize heft (win zs (D - 168 + 1) D) D = v1 at cH1 cH2
        generalize zs.length = q at cN1 cN2
        have CW1 := Lib.hid cW1
        have CW2 := Lib.hid cW2
        have CH1 := Lib.hid cH1
        have CH2 := Lib.hid cH2
        have CN1 := Lib.hid cN1
        have CN2 := Lib.hid cN2
        have HS := Lib.hid hs
        clear cW1 cW2 cH1 cH2 cN1 cN2 hs1 hs2 hm1 hsort ezs hs g1 g2 g3 g4 g5 g6 g7 hd hp
        go_wp2_with fail
        refine (CW1.out _ HB1.out).mono ?_
        rintro e w4 ⟨rfl, hb4⟩
        have z4 := hb4.size
        have HB1a := Lib.hid ((HB1.out.below hb4).alloc1 (.cells #[.int .i64 x1, .int .i64 y1] 23))
        have HB3a := Lib.hid ((HB3.out.below hb4).alloc1 (.cells #[.int .i64 x1, .int .i64 y1] 23))
        have TR4 := Lib.hid ((TR3.out.below hb4).alloc (.cells #[.int .i64 x1, .int .i64 y1] 23))
        have FX4 := Lib.hid (Frac.new w4 x1 y1)
        clear t1 t2 t3
        have t3 := TR4.out.c2
        go_wp2_with fail
        refine (CW2.out _ HB3a.out).mono ?_
        rintro e w5 ⟨rfl, hb5⟩
        have z5 := hb5.size
        try simp only [World.size_alloc] at z5
        have HB1b := Lib.hid ((HB1a.out.below hb5).alloc1 (.cells #[.int .i64 x1, .int .i64 y1] 23))
        have HB3b := Lib.hid ((HB3a.out.below hb5).alloc1 (.cells #[.int .i64 x1, .int .i64 y1] 23))
        have TR5 := Lib.hid ((TR4.out.below hb5).alloc (.cells #[.int .i64 x1, .int .i64 y1] 23))
        have FX5 := Lib.hid ((FX4.out.below hb5).alloc (.cells #[.int .i64 x1, .int .i64 y1] 23))
        have FY5 := Lib.hid (Frac.new w5 x1 y1)
        clear t3
        have t3 := TR5.out.c2
        go_wp2_with fail
        refine (CH1.out _ HB1b.out).mono ?_
        rintro e w6 ⟨rfl, hb6⟩
        have z6 := hb6.size
        try simp only [World.size_alloc] at z6
        have TR6 := Lib.hid (TR5.out.below hb6)
        clear t3
        have t3 := TR6.out.c2
        go_wp2_with fail
        refine (CH2.out _ (HB3b.out.below hb6)).mono ?_
        rintro e w7 ⟨rfl, hb7⟩
        have z7 := hb7.size
        have HB1d := Lib.hid ((HB1b.out.below hb6).below hb7)
        have HB3d := Lib.hid ((HB3b.out.below hb6).below hb7)
        have TR7 := TR6.out.below hb7
        have FX7 := Lib.hid ((FX5.out.below hb6).below hb7)
        have FY7 := Lib.hid ((FY5.out.below hb6).below hb7)
        have b7 : Below w.heap.size w w7 := by (repeat' (first | (with_reducible exact Below.refl _ _) | (with_reducible assumption) | (with_reducible refine Below.alloc ?_ ?_ _) | (with_reducible refine Below.drew ?_) | (with_reducible refine below_drewN ?_ _) | (with_reducible refine Below.setCell ?_ ?_ _) | (with_reducible refine below_step ?_ (by with_reducible assumption) ?_) | go_size))
        clear t3
        have t1 := TR7.c0
        have t2 := TR7.c1
        have u1 := FX7.out.c0
        have u2 := FX7.out.c1
        have u3 := FY7.out.c0
        have u4 := FY7.out.c1
        generalize w4.heap.size = i4 at FX7 u1 u2 ⊢
        generalize w5.heap.size = i5 at FY7 u3 u4 ⊢
        clear HB1 HB3 HB1a HB3a HB1b HB3b TR3 TR4 TR5 TR6 TR7 FX4 FX5 FY5 hb4 hb5 hb6 hb7 z4 z5 z6 z7
        have z7 := b7.size
        rcases (show (A ≠ a ∧ A ≠ b) ∨ (A = a ∧ B ≠ b) ∨ (A = b ∧ B ≠ a) by have := HS.out; omega) with ⟨hc1, hc2⟩ | ⟨hc1, hc2⟩ | ⟨hc1, hc2⟩
        · have s1 : (A == a) = false := by rw [beq_eq_false_iff_ne]; omega
          have s2 : (A == b) = false := by rw [beq_eq_false_iff_ne]; omega
          clear hc1 hc2 HS
          go_wp2_with fail
          refine (CA.out _).mono ?_
          rintro e w8 ⟨rfl, hb8⟩
          have z8 := hb8.size
          clear u1 u2 u3 u4
          have u1 := (FX7.out.below hb8).c0
          have u2 := (FX7.out.below hb8).c1
          have u3 := (FY7.out.below hb8).c0
          have u4 := (FY7.out.below hb8).c1
          go_wp2_with fail
          refine (CN1.out _ (HB1d.out.below hb8)).mono ?_
          rintro e w9 ⟨rfl, hb9⟩
          have z9 := hb9.size
          go_wp2_with fail
          refine (CN2.out _ ((HB3d.out.below hb8).below hb9)).mono ?_
          rintro e w10 ⟨rfl, hb10⟩
          go_wp2_with fail
          go_ret
          exact ⟨rfl, ((b7.trans (hb8.mono z7)).trans (hb9.mono (by omega))).trans (hb10.mono (by omega))⟩
        · have s1 : (A == a) = true := by rw [beq_iff_eq]; omega
          have s2 : (B == b) = false := by rw [beq_eq_false_iff_ne]; omega
          have s3 : (A == b) = false := by rw [beq_eq_false_iff_ne]; omega
          clear hc1 hc2 HS
          go_wp2_with fail
          refine (CA.out _).mono ?_
          rintro e w8 ⟨rfl, hb8⟩
          have z8 := hb8.size
          clear u1 u2 u3 u4
          have u1 := (FX7.out.below hb8).c0
          have u2 := (FX7.out.below hb8).c1
          have u3 := (FY7.out.below hb8).c0
          have u4 := (FY7.out.below hb8).c1
          go_wp2_with fail
          refine (CN1.out _ (HB1d.out.below hb8)).mono ?_
          rintro e w9 ⟨rfl, hb9⟩
          have z9 := hb9.size
          go_wp2_with fail
          refine (CN2.out _ ((HB3d.out.below hb8).below hb9)).mono ?_
          rintro e w10 ⟨rfl, hb10⟩
          go_wp2_with fail
          go_ret
          exact ⟨rfl, ((b7.trans (hb8.mono z7)).trans (hb9.mono (by omega))).trans (hb10.mono (by omega))⟩
        · have s1 : (A == a) = false := by rw [beq_eq_false_iff_ne]; omega
          have s2 : (A == b) = true := by rw [beq_iff_eq]; omega
          have s3 : (B == a) = false := by rw [beq_eq_false_iff_ne]; omega
          clear hc1 hc2 HS
          go_wp2_with fail
          refine (CA.out _).mono ?_
          rintro e w8 ⟨rfl, hb8⟩
          have z8 := hb8.size
          clear u1 u2 u3 u4
          have u1 := (FX7.out.below hb8).c0
          have u2 := (FX7.out.below hb8).c1
          have u3 := (FY7.out.below hb8).c0
          have u4 := (FY7.out.below hb8).c1
          go_wp2_with fail
          refine (CN1.out _ (HB1d.out.below hb8)).mono ?_
          rintro e w9 ⟨rfl, hb9⟩
          have z9 := hb9.size
          go_wp2_with fail
          refine (CN2.out _ ((HB3d.out.below hb8).below hb9)).mono ?_
          rintro e w10 ⟨rfl, hb10⟩
          go_wp2_with fail
          go_ret
          exact ⟨rfl, ((b7.trans (hb8.mono z7)).trans (hb9.mono (by omega))).trans (hb10.mono (by omega))⟩
  · refine (meet_bad k2 n _ HB2.out.cell0 A B D hf).mono ?_
    rintro e w6 ⟨rfl, hb6⟩
    clear hf
    go_wp2_with fail
    refine (CA.out _).mono ?_
    rintro e w7 ⟨rfl, hb7⟩
    go_wp2
    go_ret
    exact ⟨rfl, (b2.trans (hb6.mono (by omega))).trans (hb7.mono (by have := hb6.size; omega))⟩

theorem helps_any (n : Int) (ao : Option Addr) (len c : Nat) (A B D a b : Int) (w : World) (hm : len ≤ 9223372036854775807) (xs : List Mt) (hx : xs.length = len) (hv : ReadsM w (.slice ao len c) xs) :
    Calls Try.prog 8 #[.int .i64 n, .slice ao len c, .agg #[.int .i64 A, .int .i64 B, .int .i64 D], .int .i64 a, .int .i64 b] w fun e w' => e = .returned (.bool true) ∧ Below w.heap.size w w' := by
  by_cases h : 60 < len
  · exact helps_long n ao len c A B D a b w h hm
  · by_cases hn : n < 2 ∨ 12 < n
    · exact helps_bad n _ xs A B D a b w hv (by omega) hn
    · exact helps_fit n _ xs A B D a b w hv (by omega) (by omega) (by omega)

end Go.Proofs.Ytednejckcdiebaa
