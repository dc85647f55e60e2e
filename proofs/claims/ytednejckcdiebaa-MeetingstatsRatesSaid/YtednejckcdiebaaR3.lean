/- The law MeetingstatsRates, walked. -/
import Derived.Test.YtednejckcdiebaaI
namespace Go.Proofs.Ytednejckcdiebaa
open Go.RowKit Go.Lib Go.ChangeMaps
set_option linter.unusedSimpArgs false

/-- What Rate, Expected and Within return for a pair. -/
theorem frac_form (x y : Int) : ∃ r s : Int, fracV x y = .agg #[.int .i64 r, .int .i64 s] := ⟨_, _, rfl⟩

theorem held_start {wc : World} {k : Nat} {x y : Int} (h : Frac wc k x y) :
    Below wc.heap.size wc wc.drew ∧ wc.drew.cell? ⟨k, 0, none⟩ = some (.int .i64 x) ∧ wc.drew.cell? ⟨k, 1, none⟩ = some (.int .i64 y) :=
  ⟨(Below.refl _ wc).drew, h.c0, h.c1⟩
theorem held_fst {wc w : World} {k : Nat} {x y : Int} (h : Below wc.heap.size wc w ∧ w.cell? ⟨k, 0, none⟩ = some (.int .i64 x) ∧ w.cell? ⟨k, 1, none⟩ = some (.int .i64 y)) : Below wc.heap.size wc w := h.1
theorem held_step {wc w w' : World} {k : Nat} {x y : Int} (h : Below wc.heap.size wc w ∧ w.cell? ⟨k, 0, none⟩ = some (.int .i64 x) ∧ w.cell? ⟨k, 1, none⟩ = some (.int .i64 y)) (hb : Below w.heap.size w w') :
    Below wc.heap.size wc w' ∧ w'.cell? ⟨k, 0, none⟩ = some (.int .i64 x) ∧ w'.cell? ⟨k, 1, none⟩ = some (.int .i64 y) := by
  obtain ⟨h1, h2, h3⟩ := h
  refine ⟨h1.trans (hb.mono h1.size), ?_, ?_⟩
  · rw [(bcell hb).1 k 0 (cell_lt h2)]; exact h2
  · rw [(bcell hb).1 k 1 (cell_lt h2)]; exact h3

set_option maxRecDepth 100000 in
set_option maxHeartbeats 8000000 in
theorem rates_fit (n : Int) (v : Value) (xs : List Mt) (a b d q : Int) (w : World) (hv : ReadsM w v xs) (h : xs.length ≤ 60) (hn1 : 2 ≤ n) (hn2 : n ≤ 12) (hf : Fit n a b d) :
    Calls Try.prog 5 #[.int .i64 n, v, .int .i64 a, .int .i64 b, .int .i64 d, .int .i64 q] w fun e w' => e = .returned (.bool true) ∧ Below w.heap.size w w' := by
  have CA := Lib.hid awake_any
  have cP := play_ok n v xs w hn1 hn2 hv h
  obtain ⟨ao, c, rfl, hcap, hv'⟩ := hv
  have CP := Lib.hid cP
  have HF := Lib.hid hf
  obtain ⟨p1, p2, p3, p4, p5, p6, p7⟩ := hf
  clear cP hv'
  go_enter Try.func5, Try.ntmps5
  go_wp2_with fail
  refine CP.out.mono ?_
  rintro e w1 ⟨k, dv, F, N, M, rfl, hb1, hB, hT, hF, hO⟩
  have z1 := hb1.size
  try simp only [World.size_alloc] at z1
  have hpl := played_length n xs
  generalize played n xs = done at hT hO hpl
  have hrd : ReadsM w1 dv done := readsM_of_row hO
  have cR := fun w h => Rate_ok F k n N M w h hT.rise a b d HF.out
  have cE0 := fun w h => Expected_none F k n N M w h hT.rise a b d HF.out
  have cE1 := fun w h => Expected_some F k n N M w h hT.rise a b d HF.out
  have cW0 := fun w h => Within_days F k n N M w h hT.rise a b d q HF.out
  have cW1 := fun w h => Within_ok F k n N M w h hT.rise a b d HF.out
  have hsort := rise_le hT.rise (min a b) (max a b)
  have eM := track_at hT a b
  have hsh := win_short hT.rise (min a b) (max a b) (d - 32 + 1) d (by omega)
  rw [eM] at cR cE0 cE1 cW1 hsort hsh
  have ewc := win_count (refDays done a b) d hsort
  rw [ewc] at cR cE0 cE1 cW1 hsh
  have cD := fun w h => refDays_any dv done a b w h (by omega)
  have hdl := refDays_length done a b
  have cT := fun v w h => refRecent_any v (refDays done a b) d w h (by omega) p6 p7
  generalize (refDays done a b).countP (fresh d) = m at cR cE0 cE1 cW1 hsh cT
  generalize refDays done a b = days at cD cT hdl
  have hm : (m : Int) ≤ 32 := by omega
  have hp : decide (0 ≤ a ∧ a < n ∧ 0 ≤ b ∧ b < n ∧ a ≠ b) = true := by simp [*]
  have cLR := fun w => lowest_any (m : Int) 32 w (by omega) (by omega) (by omega) (by omega)
  have hd1 : ¬ d < 0 := by omega
  have hd2 : ¬ 999999 < d := by omega
  -- the three answers, case by case
  obtain ⟨r0, r1, er⟩ := frac_form (m : Int) 32
  have cLR' : ∀ w, Calls Try.prog 15 #[.int .i64 m, .int .i64 32] w fun e w' => e = .returned (.agg #[.int .i64 r0, .int .i64 r1]) ∧ Below w.heap.size w w' := fun w => by rw [← er]; exact cLR w
  rw [er] at cR
  have hE : ∃ x0 x1 eE : Int, (∀ w, IsBook w F k n N M → Calls Try.prog 22 #[.pointer (some ⟨k, 0, none⟩), .int .i64 a, .int .i64 b, .int .i64 d] w fun e w' => e = .returned (.tuple #[.agg #[.int .i64 x0, .int .i64 x1], .int .i64 eE]) ∧ Below w.heap.size w w') ∧
      ((m = 0 ∧ eE = 4 ∧ x0 = 0 ∧ x1 = 0) ∨ (0 < m ∧ eE = 0 ∧ ∀ w, Calls Try.prog 15 #[.int .i64 32, .int .i64 m] w fun e w' => e = .returned (.agg #[.int .i64 x0, .int .i64 x1]) ∧ Below w.heap.size w w')) := by
    by_cases hm0 : m = 0
    · exact ⟨0, 0, 4, fun w h => cE0 w h hm0, Or.inl ⟨hm0, rfl, rfl, rfl⟩⟩
    · obtain ⟨x0, x1, ex⟩ := frac_form 32 (m : Int)
      refine ⟨x0, x1, 0, fun w h => by rw [← ex]; exact cE1 w h (by omega), Or.inr ⟨by omega, rfl, fun w => by rw [← ex]; exact lowest_any 32 m w (by omega) (by omega) (by omega) (by omega)⟩⟩
  have hWi : ∃ y0 y1 eW : Int, (∀ w, IsBook w F k n N M → Calls Try.prog 23 #[.pointer (some ⟨k, 0, none⟩), .int .i64 a, .int .i64 b, .int .i64 d, .int .i64 q] w fun e w' => e = .returned (.tuple #[.agg #[.int .i64 y0, .int .i64 y1], .int .i64 eW]) ∧ Below w.heap.size w w') ∧
      (((q < 0 ∨ 12 < q) ∧ eW = 1 ∧ y0 = 0 ∧ y1 = 0) ∨ (0 ≤ q ∧ q ≤ 12 ∧ eW = 0 ∧ ∀ w, Calls Try.prog 25 #[.int .i64 m, .int .i64 q] w fun e w' => e = .returned (.agg #[.int .i64 y0, .int .i64 y1]) ∧ Below w.heap.size w w')) := by
    by_cases hq : q < 0 ∨ 12 < q
    · exact ⟨0, 0, 1, fun w h => cW0 w h hq, Or.inl ⟨hq, rfl, rfl, rfl⟩⟩
    · obtain ⟨u, rfl⟩ := Int.eq_ofNat_of_zero_le (show 0 ≤ q by omega)
      obtain ⟨y0, y1, ey⟩ : ∃ y0 y1 : Int, chance m u = .agg #[.int .i64 y0, .int .i64 y1] := ⟨_, _, rfl⟩
      exact ⟨y0, y1, 0, fun w h => by rw [← ey]; exact cW1 w h u (by omega), Or.inr ⟨by omega, by omega, rfl, fun w => by rw [← ey]; exact refWithin_any m u w hm (by omega)⟩⟩
  obtain ⟨x0, x1, eE, cE, hcE⟩ := hE
  obtain ⟨y0, y1, eW, cW, hcW⟩ := hWi
  have CR := Lib.hid cR
  have CE := Lib.hid cE
  have CW := Lib.hid cW
  have HCE := Lib.hid hcE
  have HCW := Lib.hid hcW
  have CLR := Lib.hid cLR'
  have CD := Lib.hid cD
  have CT := Lib.hid cT
  have HB := Lib.hid hB
  have HRD := Lib.hid hrd
  clear cR cLR cLR' cD cT hB hrd hT hF hO eM ewc hsort hsh er hpl cE0 cE1 cW0 cW1 cE cW hcE hcW HF CP
  go_wp2_with fail
  refine (CR.out _ HB.out).mono ?_
  rintro e w2 ⟨rfl, hb2⟩
  have z2 := hb2.size
  go_wp2_with fail
  refine (CE.out _ ((HB.out.below hb2).below (by (repeat' (first | (with_reducible exact Below.refl _ _) | (with_reducible assumption) | (with_reducible refine Below.alloc ?_ ?_ _) | (with_reducible refine Below.drew ?_) | (with_reducible refine below_drewN ?_ _) | (with_reducible refine Below.setCell ?_ ?_ _) | (with_reducible refine below_step ?_ (by with_reducible assumption) ?_) | go_size))))).mono ?_
  rintro e w3 ⟨rfl, hb3⟩
  have z3 := hb3.size
  try simp only [World.size_alloc] at z3
  go_wp2_with fail
  refine (CW.out _ ((((HB.out.below hb2).below (by (repeat' (first | (with_reducible exact Below.refl _ _) | (with_reducible assumption) | (with_reducible refine Below.alloc ?_ ?_ _) | (with_reducible refine Below.drew ?_) | (with_reducible refine below_drewN ?_ _) | (with_reducible refine Below.setCell ?_ ?_ _) | (with_reducible refine below_step ?_ (by with_reducible assumption) ?_) | go_size)))).below hb3).below (by (repeat' (first | (with_reducible exact Below.refl _ _) | (with_reducible assumption) | (with_reducible refine Below.alloc ?_ ?_ _) | (with_reducible refine Below.drew ?_) | (with_reducible refine below_drewN ?_ _) | (with_reducible refine Below.setCell ?_ ?_ _) | (with_reducible refine below_step ?_ (by with_reducible assumption) ?_) | go_size))))).mono ?_
  rintro e w4 ⟨rfl, hb4⟩
  have z4 := hb4.size
  try simp only [World.size_alloc] at z4
  go_wp2_with fail
  refine (pair_any _ _ _ _).mono ?_
  rintro e w5 ⟨rfl, rfl⟩
  rw [hp]
  have g1 := (((Frac.new w2 r0 r1).below hb3).alloc (.cells #[.int .i64 x0, .int .i64 x1] 23)).below hb4
  have g2 := (Frac.new w3 x0 x1).below hb4
  have f1 := (g1.alloc (.cells #[.int .i64 y0, .int .i64 y1] 23)).alloc (.cells #[.int .i64 0, .int .i64 0] 23)
  have f2 := (g2.alloc (.cells #[.int .i64 y0, .int .i64 y1] 23)).alloc (.cells #[.int .i64 0, .int .i64 0] 23)
  have f3 := (Frac.new w4 y0 y1).alloc (.cells #[.int .i64 0, .int .i64 0] 23)
  have f4 := Frac.new (w4.alloc (.cells #[.int .i64 y0, .int .i64 y1] 23)) 0 0
  have b4 : Below w1.heap.size w1 ((w4.alloc (Obj.cells #[.int .i64 y0, .int .i64 y1] 23)).alloc (Obj.cells #[.int .i64 0, .int .i64 0] 23)) := by (repeat' (first | (with_reducible exact Below.refl _ _) | (with_reducible assumption) | (with_reducible refine Below.alloc ?_ ?_ _) | (with_reducible refine Below.drew ?_) | (with_reducible refine below_drewN ?_ _) | (with_reducible refine Below.setCell ?_ ?_ _) | (with_reducible refine below_step ?_ (by with_reducible assumption) ?_) | go_size))
  rw [World.size_alloc] at f4
  generalize ((w4.alloc (Obj.cells #[.int .i64 y0, .int .i64 y1] 23)).alloc (Obj.cells #[.int .i64 0, .int .i64 0] 23)) = W0 at f1 f2 f3 f4 b4 ⊢
  have F1 := Lib.hid f1
  have F2 := Lib.hid f2
  have F3 := Lib.hid f3
  have F4 := Lib.hid f4
  clear f1 f2 f3 f4 g1 g2 hb2 hb3 hb4 z2 z3 z4 CR CE CW
  generalize w2.heap.size = k1 at F1 ⊢
  generalize w3.heap.size = k2 at F2 ⊢
  generalize w4.heap.size = k3 at F3 F4 ⊢
  have zW := b4.size
  go_wp2_with fail
  refine (CD.out W0 (HRD.out.below b4)).mono ?_
  rintro e w5 ⟨v5, rfl, hv5, hb5⟩
  have z5 := hb5.size
  have hrd5 := reads_of_row (ownsRow_zero hv5)
  clear hv5
  go_wp2_with fail
  refine (CT.out _ _ hrd5).mono ?_
  rintro e w6 ⟨rfl, rfl⟩
  have F1' := Lib.hid (F1.out.below hb5)
  have F2' := Lib.hid (F2.out.below hb5)
  have F3' := Lib.hid (F3.out.below hb5)
  have F4' := Lib.hid (F4.out.below hb5)
  have b5 : Below w.heap.size w w5 := (hb1.trans (b4.mono z1)).trans (hb5.mono (by omega))
  clear F1 F2 F3 F4 hb5 hrd5 hb1 b4 CD CT HRD HB z1 zW z5
  have z5 := b5.size
  go_upto_region 13 with fail
  go_cut [125] (fun s wx => s = .bool false ∧ Below w5.heap.size w5 wx)
  case first =>
    have a1 := F1'.out.c0
    have a2 := F1'.out.c1
    go_region_with (go_at_call 15; refine (CLR.out _).mono ?_; rintro e w6 ⟨rfl, hb6⟩; have a3 := (F1'.out.below ((Below.refl _ w5).drew.trans hb6)).c0; have a4 := (F1'.out.below ((Below.refl _ w5).drew.trans hb6)).c1)
    all_goals
      go_wp2_with fail
      go_meet
      exact ⟨rfl, (Below.refl _ w5).drew.trans hb6⟩
  case rest =>
    obtain ⟨rfl, hb6⟩ := hcut
    have z6 := hb6.size
    have F1 := Lib.hid (F1'.out.below hb6)
    have F2 := Lib.hid (F2'.out.below hb6)
    have F3 := Lib.hid (F3'.out.below hb6)
    have F4 := Lib.hid (F4'.out.below hb6)
    have b6 : Below w.heap.size w wc := b5.trans (hb6.mono z5)
    clear F1' F2' F3' F4' hb6 b5 z5 z6
    have z6 := b6.size
    go_upto_region 15 with fail
    go_cut [150] (fun s wx => s = .bool false ∧ Below wc.heap.size wc wx)
    case first =>
      have a1 := F2.out.c0
      have a2 := F2.out.c1
      have a3 := F4.out.c0
      have a4 := F4.out.c1
      rcases HCE.out with ⟨rfl, rfl, rfl, rfl⟩ | ⟨hm0, rfl, cX⟩
      · go_quiet (fail)
        go_wp2_with fail
        go_meet
        exact ⟨rfl, by (repeat' (first | (with_reducible exact Below.refl _ _) | (with_reducible assumption) | (with_reducible refine Below.alloc ?_ ?_ _) | (with_reducible refine Below.drew ?_) | (with_reducible refine below_drewN ?_ _) | (with_reducible refine Below.setCell ?_ ?_ _) | (with_reducible refine below_step ?_ (by with_reducible assumption) ?_) | go_size))⟩
      · have hz : ((m : Int) == 0) = false := by rw [beq_eq_false_iff_ne]; omega
        have hz2 : decide ((0 : Int) < (m : Int)) = true := by simp; omega
        have CX := Lib.hid cX
        clear cX
        have HS := held_start F2.out
        refine wp_region_held_drew (S := fun w' => Below wc.heap.size wc w' ∧ w'.cell? ⟨k2, 0, none⟩ = some (.int .i64 x0) ∧ w'.cell? ⟨k2, 1, none⟩ = some (.int .i64 x1)) (by kernel_rfl) HS (fun hHeld => ?_)
        refine wpAnyH_take (i := 0) (v := ?_) rfl (by kernel_rfl) (by kernel_rfl) (by kernel_rfl) (fun _ _ _ h => h) (Or.inl ⟨by rfl, ?_⟩) (by assumption) ?_
        rotate_left; · (intro w hSw; (try dsimp only at hSw); go_simp; try with_reducible rfl)
        try simp only [Act.put, List.getElem_toArray, List.getElem_cons_zero, List.getElem_cons_succ, List.setIfInBounds_toArray, List.set_cons_zero, List.set_cons_succ]
        refine wpAnyH_take (i := 1) (v := ?_) rfl (by kernel_rfl) (by kernel_rfl) (by kernel_rfl) (fun _ _ _ h => h) (Or.inl ⟨by rfl, ?_⟩) (by assumption) ?_
        rotate_left; · (intro w hSw; (try dsimp only at hSw); go_simp; try with_reducible rfl)
        try simp only [Act.put, List.getElem_toArray, List.getElem_cons_zero, List.getElem_cons_succ, List.setIfInBounds_toArray, List.set_cons_zero, List.set_cons_succ]
        refine wpAnyH_take (i := 2) (v := ?_) rfl (by kernel_rfl) (by kernel_rfl) (by kernel_rfl) (fun _ _ _ h => h) (Or.inl ⟨by rfl, ?_⟩) (by assumption) ?_
        rotate_left; · (intro w hSw; (try dsimp only at hSw); go_simp; try with_reducible rfl)
        try simp only [Act.put, List.getElem_toArray, List.getElem_cons_zero, List.getElem_cons_succ, List.setIfInBounds_toArray, List.set_cons_zero, List.set_cons_succ]
        refine wpAnyH_take (i := 3) (v := undef) rfl (by kernel_rfl) (by kernel_rfl) (by kernel_rfl) (fun _ _ _ h => h) (Or.inr ⟨by rfl, rfl⟩) (by assumption) ?_
        try simp only [Act.put, List.getElem_toArray, List.getElem_cons_zero, List.getElem_cons_succ, List.setIfInBounds_toArray, List.set_cons_zero, List.set_cons_succ]
        refine wpAnyH_take (i := 4) (v := undef) rfl (by kernel_rfl) (by kernel_rfl) (by kernel_rfl) (fun _ _ _ h => h) (Or.inr ⟨by rfl, rfl⟩) (by assumption) ?_
        try simp only [Act.put, List.getElem_toArray, List.getElem_cons_zero, List.getElem_cons_succ, List.setIfInBounds_toArray, List.set_cons_zero, List.set_cons_succ]
        refine wpAnyH_take (i := 5) (v := undef) rfl (by kernel_rfl) (by kernel_rfl) (by kernel_rfl) (fun _ _ _ h => h) (Or.inr ⟨by rfl, rfl⟩) (by assumption) ?_
        try simp only [Act.put, List.getElem_toArray, List.getElem_cons_zero, List.getElem_cons_succ, List.setIfInBounds_toArray, List.set_cons_zero, List.set_cons_succ]
        refine wpAnyH_take (i := 6) (v := undef) rfl (by kernel_rfl) (by kernel_rfl) (by kernel_rfl) (fun _ _ _ h => h) (Or.inr ⟨by rfl, rfl⟩) (by assumption) ?_
        try simp only [Act.put, List.getElem_toArray, List.getElem_cons_zero, List.getElem_cons_succ, List.setIfInBounds_toArray, List.set_cons_zero, List.set_cons_succ]
        refine wpAnyH_take (i := 7) (v := undef) rfl (by kernel_rfl) (by kernel_rfl) (by kernel_rfl) (fun _ _ _ h => h) (Or.inr ⟨by rfl, rfl⟩) (by assumption) ?_
        try simp only [Act.put, List.getElem_toArray, List.getElem_cons_zero, List.getElem_cons_succ, List.setIfInBounds_toArray, List.set_cons_zero, List.set_cons_succ]
        refine wpAnyH_take (i := 8) (v := undef) rfl (by kernel_rfl) (by kernel_rfl) (by kernel_rfl) (fun _ _ _ h => h) (Or.inr ⟨by rfl, rfl⟩) (by assumption) ?_
        try simp only [Act.put, List.getElem_toArray, List.getElem_cons_zero, List.getElem_cons_succ, List.setIfInBounds_toArray, List.set_cons_zero, List.set_cons_succ]
        refine wpAnyH_take (i := 9) (v := undef) rfl (by kernel_rfl) (by kernel_rfl) (by kernel_rfl) (fun _ _ _ h => h) (Or.inr ⟨by rfl, rfl⟩) (by assumption) ?_
        try simp only [Act.put, List.getElem_toArray, List.getElem_cons_zero, List.getElem_cons_succ, List.setIfInBounds_toArray, List.set_cons_zero, List.set_cons_succ]
        refine wpAnyH_take (i := 10) (v := ?_) rfl (by kernel_rfl) (by kernel_rfl) (by kernel_rfl) (fun _ _ _ h => h) (Or.inl ⟨by rfl, ?_⟩) (by assumption) ?_
        rotate_left; · (intro w hSw; (try dsimp only at hSw); go_simp; try with_reducible rfl)
        try simp only [Act.put, List.getElem_toArray, List.getElem_cons_zero, List.getElem_cons_succ, List.setIfInBounds_toArray, List.set_cons_zero, List.set_cons_succ]
        refine wpAnyH_take (i := 11) (v := ?_) rfl (by kernel_rfl) (by kernel_rfl) (by kernel_rfl) (fun _ _ _ h => h) (Or.inl ⟨by rfl, ?_⟩) (by assumption) ?_
        rotate_left; · (intro w hSw; (try dsimp only at hSw); go_simp; try with_reducible rfl)
        try simp only [Act.put, List.getElem_toArray, List.getElem_cons_zero, List.getElem_cons_succ, List.setIfInBounds_toArray, List.set_cons_zero, List.set_cons_succ]
        refine wpAnyH_take (i := 12) (v := ?_) rfl (by kernel_rfl) (by kernel_rfl) (by kernel_rfl) (fun _ _ _ h => h) (Or.inl ⟨by rfl, ?_⟩) (by assumption) ?_
        rotate_left; · (intro w hSw; (try dsimp only at hSw); go_simp; try with_reducible rfl)
        try simp only [Act.put, List.getElem_toArray, List.getElem_cons_zero, List.getElem_cons_succ, List.setIfInBounds_toArray, List.set_cons_zero, List.set_cons_succ]
        refine wpAnyH_take (i := 13) (v := ?_) rfl (by kernel_rfl) (by kernel_rfl) (by kernel_rfl) (fun _ _ _ h => h) (Or.inl ⟨by rfl, ?_⟩) (by assumption) ?_
        rotate_left; · (intro w hSw; (try dsimp only at hSw); go_simp; try with_reducible rfl)
        try simp only [Act.put, List.getElem_toArray, List.getElem_cons_zero, List.getElem_cons_succ, List.setIfInBounds_toArray, List.set_cons_zero, List.set_cons_succ]
        refine wpAnyH_take (i := 14) (v := ?_) rfl (by kernel_rfl) (by kernel_rfl) (by kernel_rfl) (fun _ _ _ h => h) (Or.inl ⟨by rfl, ?_⟩) (by assumption) ?_
        rotate_left; · (intro w hSw; (try dsimp only at hSw); go_simp; try with_reducible rfl)
        try simp only [Act.put, List.getElem_toArray, List.getElem_cons_zero, List.getElem_cons_succ, List.setIfInBounds_toArray, List.set_cons_zero, List.set_cons_succ]
        refine wpAnyH_take (i := 15) (v := ?_) rfl (by kernel_rfl) (by kernel_rfl) (by kernel_rfl) (fun _ _ _ h => h) (Or.inl ⟨by rfl, ?_⟩) (by assumption) ?_
        rotate_left; · (intro w hSw; (try dsimp only at hSw); go_simp; try with_reducible rfl)
        try simp only [Act.put, List.getElem_toArray, List.getElem_cons_zero, List.getElem_cons_succ, List.setIfInBounds_toArray, List.set_cons_zero, List.set_cons_succ]
        refine wpAnyH_take (i := 16) (v := ?_) rfl (by kernel_rfl) (by kernel_rfl) (by kernel_rfl) (fun _ _ _ h => h) (Or.inl ⟨by rfl, ?_⟩) (by assumption) ?_
        rotate_left; · (intro w hSw; (try dsimp only at hSw); go_simp; try with_reducible rfl)
        try simp only [Act.put, List.getElem_toArray, List.getElem_cons_zero, List.getElem_cons_succ, List.setIfInBounds_toArray, List.set_cons_zero, List.set_cons_succ]
        refine wpAnyH_take (i := 17) (v := ?_) rfl (by kernel_rfl) (by kernel_rfl) (by kernel_rfl) (fun _ _ _ h => h) (Or.inl ⟨by rfl, ?_⟩) (by assumption) ?_
        rotate_left; · (intro w hSw; (try dsimp only at hSw); go_simp; try with_reducible rfl)
        try simp only [Act.put, List.getElem_toArray, List.getElem_cons_zero, List.getElem_cons_succ, List.setIfInBounds_toArray, List.set_cons_zero, List.set_cons_succ]
        refine wpAnyH_take (i := 18) (v := ?_) rfl (by kernel_rfl) (by kernel_rfl) (by kernel_rfl) (fun _ _ _ h => h) (Or.inl ⟨by rfl, ?_⟩) (by assumption) ?_
        rotate_left; · (intro w hSw; (try dsimp only at hSw); go_simp; try with_reducible rfl)
        try simp only [Act.put, List.getElem_toArray, List.getElem_cons_zero, List.getElem_cons_succ, List.setIfInBounds_toArray, List.set_cons_zero, List.set_cons_succ]
        refine wpAnyH_take (i := 19) (v := ?_) rfl (by kernel_rfl) (by kernel_rfl) (by kernel_rfl) (fun _ _ _ h => h) (Or.inl ⟨by rfl, ?_⟩) (by assumption) ?_
        rotate_left; · (intro w hSw; (try dsimp only at hSw); go_simp; try with_reducible rfl)
        try simp only [Act.put, List.getElem_toArray, List.getElem_cons_zero, List.getElem_cons_succ, List.setIfInBounds_toArray, List.set_cons_zero, List.set_cons_succ]
        refine wpAnyH_ready (rs := [20]) (by kernel_rfl) (by simp) ?_
        refine AllReadyH.cons rfl (fun K hK => ?_) AllReadyH.nil
        go_simp
        go_at_call 15; refine (CX.out _).mono ?_; rintro e w6 ⟨rfl, hb6⟩
        go_wp2_with fail
        refine hK.out _ _ (held_step (by assumption) (by assumption)) (fun hNew => ?_)
        clear hK K hHeld
        have hHeld := hNew
        clear hNew
        try simp only [Act.put, List.getElem_toArray, List.getElem_cons_zero, List.getElem_cons_succ, List.setIfInBounds_toArray, List.set_cons_zero, List.set_cons_succ]
        refine wpAnyH_take (i := 21) (v := ?_) rfl (by kernel_rfl) (by kernel_rfl) (by kernel_rfl) (fun _ _ _ h => h) (Or.inl ⟨by rfl, ?_⟩) (by assumption) ?_
        rotate_left; · (intro w hSw; (try dsimp only at hSw); go_simp; try with_reducible rfl)
        try simp only [Act.put, List.getElem_toArray, List.getElem_cons_zero, List.getElem_cons_succ, List.setIfInBounds_toArray, List.set_cons_zero, List.set_cons_succ]
        refine wpAnyH_take (i := 22) (v := ?_) rfl (by kernel_rfl) (by kernel_rfl) (by kernel_rfl) (fun _ _ _ h => h) (Or.inl ⟨by rfl, ?_⟩) (by assumption) ?_
        rotate_left; · (intro w hSw; (try dsimp only at hSw); go_simp; try with_reducible rfl)
        try simp only [Act.put, List.getElem_toArray, List.getElem_cons_zero, List.getElem_cons_succ, List.setIfInBounds_toArray, List.set_cons_zero, List.set_cons_succ]
        refine wpAnyH_take (i := 23) (v := ?_) rfl (by kernel_rfl) (by kernel_rfl) (by kernel_rfl) (fun _ _ _ h => h) (Or.inl ⟨by rfl, ?_⟩) (by assumption) ?_
        rotate_left; · (intro w hSw; (try dsimp only at hSw); go_simp; try with_reducible rfl)
        try simp only [Act.put, List.getElem_toArray, List.getElem_cons_zero, List.getElem_cons_succ, List.setIfInBounds_toArray, List.set_cons_zero, List.set_cons_succ]
        refine wpAnyH_take (i := 24) (v := ?_) rfl (by kernel_rfl) (by kernel_rfl) (by kernel_rfl) (fun _ _ _ h => h) (Or.inl ⟨by rfl, ?_⟩) (by assumption) ?_
        rotate_left; · (intro w hSw; (try dsimp only at hSw); go_simp; try with_reducible rfl)
        try simp only [Act.put, List.getElem_toArray, List.getElem_cons_zero, List.getElem_cons_succ, List.setIfInBounds_toArray, List.set_cons_zero, List.set_cons_succ]
        refine wpAnyH_done (by kernel_rfl) ?_ _
        go_wp2_with fail
        go_meet
        exact ⟨rfl, hHeld.1⟩
    case rest =>
      obtain ⟨rfl, hb7⟩ := hcut
      have z7 := hb7.size
      have F3' := Lib.hid (F3.out.below hb7)
      have F4' := Lib.hid (F4.out.below hb7)
      have b7 : Below w.heap.size w wc := b6.trans (hb7.mono z6)
      clear F1 F2 F3 F4 hb7 b6 z6 z7 HCE CLR
      have z7 := b7.size
      rcases HCW.out with ⟨hq, rfl, rfl, rfl⟩ | ⟨hq1, hq2, rfl, cX⟩
      · clear HCW
        by_cases hq0 : q < 0
        · have hz1 : decide (q < 0) = true := by simp; omega
          clear hq hq0
          go_wp2_with fail
          refine (CA.out _).mono ?_
          rintro e w6 ⟨rfl, hb6⟩
          have a1 := (F3'.out.below hb6).c0
          have a2 := (F3'.out.below hb6).c1
          have a3 := (F4'.out.below hb6).c0
          have a4 := (F4'.out.below hb6).c1
          go_wp2
          go_ret
          exact ⟨rfl, b7.trans (hb6.mono z7)⟩
        · have hz1 : decide (q < 0) = false := by simp; omega
          have hz2 : decide ((12 : Int) < q) = true := by simp; omega
          clear hq hq0
          go_wp2_with fail
          refine (CA.out _).mono ?_
          rintro e w6 ⟨rfl, hb6⟩
          have a1 := (F3'.out.below hb6).c0
          have a2 := (F3'.out.below hb6).c1
          have a3 := (F4'.out.below hb6).c0
          have a4 := (F4'.out.below hb6).c1
          go_wp2
          go_ret
          exact ⟨rfl, b7.trans (hb6.mono z7)⟩
      · have hz1 : decide (q < 0) = false := by simp; omega
        have hz2 : decide ((12 : Int) < q) = false := by simp; omega
        have CX := Lib.hid cX
        clear cX HCW
        go_upto_region 19 with fail
        have HS := held_start F3'.out
        refine wp_region_held_drew (S := fun w' => Below wc.heap.size wc w' ∧ w'.cell? ⟨k3, 0, none⟩ = some (.int .i64 y0) ∧ w'.cell? ⟨k3, 1, none⟩ = some (.int .i64 y1)) (by kernel_rfl) HS (fun hHeld => ?_)
        refine wpAnyH_ready (rs := [0]) (by kernel_rfl) (by simp) ?_
        refine AllReadyH.cons rfl (fun K hK => ?_) AllReadyH.nil
        go_simp
        go_at_call 14; refine (CA.out _).mono ?_; rintro e w6 ⟨rfl, hb6⟩
        go_wp2_with fail
        refine hK.out _ _ (held_step (by assumption) (by assumption)) (fun hNew => ?_)
        clear hK K hHeld
        have hHeld := hNew
        clear hNew
        try simp only [Act.put, List.getElem_toArray, List.getElem_cons_zero, List.getElem_cons_succ, List.setIfInBounds_toArray, List.set_cons_zero, List.set_cons_succ]
        refine wpAnyH_take (i := 1) (v := ?_) rfl (by kernel_rfl) (by kernel_rfl) (by kernel_rfl) (fun _ _ _ h => h) (Or.inl ⟨by rfl, ?_⟩) (by assumption) ?_
        rotate_left; · (intro w hSw; (try dsimp only at hSw); go_simp; try with_reducible rfl)
        try simp only [Act.put, List.getElem_toArray, List.getElem_cons_zero, List.getElem_cons_succ, List.setIfInBounds_toArray, List.set_cons_zero, List.set_cons_succ]
        refine wpAnyH_take (i := 2) (v := ?_) rfl (by kernel_rfl) (by kernel_rfl) (by kernel_rfl) (fun _ _ _ h => h) (Or.inl ⟨by rfl, ?_⟩) (by assumption) ?_
        rotate_left; · (intro w hSw; (try dsimp only at hSw); go_simp; try with_reducible rfl)
        try simp only [Act.put, List.getElem_toArray, List.getElem_cons_zero, List.getElem_cons_succ, List.setIfInBounds_toArray, List.set_cons_zero, List.set_cons_succ]
        refine wpAnyH_take (i := 3) (v := ?_) rfl (by kernel_rfl) (by kernel_rfl) (by kernel_rfl) (fun _ _ _ h => h) (Or.inl ⟨by rfl, ?_⟩) (by assumption) ?_
        rotate_left; · (intro w hSw; (try dsimp only at hSw); go_simp; try with_reducible rfl)
        try simp only [Act.put, List.getElem_toArray, List.getElem_cons_zero, List.getElem_cons_succ, List.setIfInBounds_toArray, List.set_cons_zero, List.set_cons_succ]
        refine wpAnyH_take (i := 4) (v := ?_) rfl (by kernel_rfl) (by kernel_rfl) (by kernel_rfl) (fun _ _ _ h => h) (Or.inl ⟨by rfl, ?_⟩) (by assumption) ?_
        rotate_left; · (intro w hSw; (try dsimp only at hSw); go_simp; try with_reducible rfl)
        try simp only [Act.put, List.getElem_toArray, List.getElem_cons_zero, List.getElem_cons_succ, List.setIfInBounds_toArray, List.set_cons_zero, List.set_cons_succ]
        refine wpAnyH_take (i := 5) (v := ?_) rfl (by kernel_rfl) (by kernel_rfl) (by kernel_rfl) (fun _ _ _ h => h) (Or.inl ⟨by rfl, ?_⟩) (by assumption) ?_
        rotate_left; · (intro w hSw; (try dsimp only at hSw); go_simp; try with_reducible rfl)
        try simp only [Act.put, List.getElem_toArray, List.getElem_cons_zero, List.getElem_cons_succ, List.setIfInBounds_toArray, List.set_cons_zero, List.set_cons_succ]
        refine wpAnyH_take (i := 6) (v := ?_) rfl (by kernel_rfl) (by kernel_rfl) (by kernel_rfl) (fun _ _ _ h => h) (Or.inl ⟨by rfl, ?_⟩) (by assumption) ?_
        rotate_left; · (intro w hSw; (try dsimp only at hSw); go_simp; try with_reducible rfl)
        try simp only [Act.put, List.getElem_toArray, List.getElem_cons_zero, List.getElem_cons_succ, List.setIfInBounds_toArray, List.set_cons_zero, List.set_cons_succ]
        refine wpAnyH_take (i := 7) (v := ?_) rfl (by kernel_rfl) (by kernel_rfl) (by kernel_rfl) (fun _ _ _ h => h) (Or.inl ⟨by rfl, ?_⟩) (by assumption) ?_
        rotate_left; · (intro w hSw; (try dsimp only at hSw); go_simp; try with_reducible rfl)
        try simp only [Act.put, List.getElem_toArray, List.getElem_cons_zero, List.getElem_cons_succ, List.setIfInBounds_toArray, List.set_cons_zero, List.set_cons_succ]
        refine wpAnyH_take (i := 8) (v := ?_) rfl (by kernel_rfl) (by kernel_rfl) (by kernel_rfl) (fun _ _ _ h => h) (Or.inl ⟨by rfl, ?_⟩) (by assumption) ?_
        rotate_left; · (intro w hSw; (try dsimp only at hSw); go_simp; try with_reducible rfl)
        try simp only [Act.put, List.getElem_toArray, List.getElem_cons_zero, List.getElem_cons_succ, List.setIfInBounds_toArray, List.set_cons_zero, List.set_cons_succ]
        refine wpAnyH_ready (rs := [9]) (by kernel_rfl) (by simp) ?_
        refine AllReadyH.cons rfl (fun K hK => ?_) AllReadyH.nil
        go_simp
        go_at_call 25; refine (CX.out _).mono ?_; rintro e w7 ⟨rfl, hb7⟩
        go_wp2_with fail
        refine hK.out _ _ (held_step (by assumption) (by assumption)) (fun hNew => ?_)
        clear hK K hHeld
        have hHeld := hNew
        clear hNew
        try simp only [Act.put, List.getElem_toArray, List.getElem_cons_zero, List.getElem_cons_succ, List.setIfInBounds_toArray, List.set_cons_zero, List.set_cons_succ]
        refine wpAnyH_take (i := 10) (v := ?_) rfl (by kernel_rfl) (by kernel_rfl) (by kernel_rfl) (fun _ _ _ h => h) (Or.inl ⟨by rfl, ?_⟩) (by assumption) ?_
        rotate_left; · (intro w hSw; (try dsimp only at hSw); go_simp; try with_reducible rfl)
        try simp only [Act.put, List.getElem_toArray, List.getElem_cons_zero, List.getElem_cons_succ, List.setIfInBounds_toArray, List.set_cons_zero, List.set_cons_succ]
        refine wpAnyH_take (i := 11) (v := ?_) rfl (by kernel_rfl) (by kernel_rfl) (by kernel_rfl) (fun _ _ _ h => h) (Or.inl ⟨by rfl, ?_⟩) (by assumption) ?_
        rotate_left; · (intro w hSw; (try dsimp only at hSw); go_simp; try with_reducible rfl)
        try simp only [Act.put, List.getElem_toArray, List.getElem_cons_zero, List.getElem_cons_succ, List.setIfInBounds_toArray, List.set_cons_zero, List.set_cons_succ]
        refine wpAnyH_take (i := 12) (v := ?_) rfl (by kernel_rfl) (by kernel_rfl) (by kernel_rfl) (fun _ _ _ h => h) (Or.inl ⟨by rfl, ?_⟩) (by assumption) ?_
        rotate_left; · (intro w hSw; (try dsimp only at hSw); go_simp; try with_reducible rfl)
        try simp only [Act.put, List.getElem_toArray, List.getElem_cons_zero, List.getElem_cons_succ, List.setIfInBounds_toArray, List.set_cons_zero, List.set_cons_succ]
        refine wpAnyH_done (by kernel_rfl) ?_ _
        go_wp2_with fail
        go_ret
        exact ⟨rfl, b7.trans (hHeld.1.mono z7)⟩

theorem rates_any (n : Int) (v : Value) (xs : List Mt) (a b d q : Int) (w : World) (hv : ReadsM w v xs) (hm : xs.length ≤ 9223372036854775807) :
    Calls Try.prog 5 #[.int .i64 n, v, .int .i64 a, .int .i64 b, .int .i64 d, .int .i64 q] w fun e w' => e = .returned (.bool true) ∧ Below w.heap.size w w' := by
  by_cases h : 60 < xs.length
  · obtain ⟨ao, c, rfl, _, _⟩ := hv
    exact rates_long n ao xs.length c a b d q w h hm
  · by_cases hn : n < 2 ∨ 12 < n
    · exact rates_bad n v xs a b d q w hv (by omega) hn
    · by_cases hf : Fit n a b d
      · exact rates_fit n v xs a b d q w hv (by omega) (by omega) (by omega) hf
      · exact rates_unfit n v xs a b d q w hv (by omega) (by omega) (by omega) hf

end Go.Proofs.Ytednejckcdiebaa
