/- The laws Match and Alone, walked. -/
import Derived.Test.YtcgilfnhbliadaaM2
namespace Go.Proofs.Ytcgilfnhbliadaa
open Go.RowKit Go.Lib Go.ChangeMaps
set_option linter.unusedSimpArgs false

theorem ReadsI.nil (w : World) : ReadsI w (.slice none 0 0) [] := ⟨none, 0, rfl, Nat.le_refl _, by simp, fun h => by simp at h⟩
theorem allOk_nil : AllOk [] := fun _ h => absurd h List.not_mem_nil
theorem matP_left (ts : List Tk) (b : Int) : matP ts [] b = (cutP (orderP ts) b).map fun t => (0, t) := by
  unfold matP
  rw [show orderP [] = [] from rfl, mrgP_left, takP_map]
theorem matP_right (ts : List Tk) (b : Int) : matP [] ts b = (cutP (orderP ts) b).map fun t => (1, t) := by
  unfold matP
  rw [show orderP [] = [] from rfl, mrgP_right, takP_map]

set_option maxRecDepth 100000 in
set_option maxHeartbeats 8000000 in
theorem law_match (va vb : Value) (al bl : List Tk) (b : Int) (w : World) (ha : ReadsT w va al) (hb : ReadsT w vb bl) (hbud : b ≤ 9223372036854775807) : Calls Try.prog 8 #[va, vb, .int .i64 b] w fun e w' => e = .returned (.bool true) ∧ Below w.heap.size w w' := by
  have HA := Lib.hid ha
  have HB := Lib.hid hb
  obtain ⟨ja, jc, _, _, rfl, -⟩ := ha.at
  obtain ⟨ka, kc, _, _, rfl, -⟩ := hb.at
  clear ha hb
  have HBB := Lib.hid hbud
  have CA := Lib.hid (fun W => awake_any W)
  have CF := Lib.hid (fun W (h : Below w.heap.size w W) => few_any _ _ _ (reads_two (HA.out.below h) (HB.out.below h)))
  clear hbud
  go_enter Try.func8, Try.ntmps8
  go_wp2_with fail
  refine (CA.out _).mono ?_
  rintro e w1 ⟨rfl, hb1⟩
  have CF1 := Lib.hid (CF.out w1 hb1)
  clear CF
  go_wp2_with fail
  refine CF1.out.mono ?_
  rintro e w2 ⟨rfl, hb2⟩
  have hbw := hb1.trans (((sb0 _).trans (hb2.mono (sb0 _).size)).mono hb1.size)
  clear CF1
  by_cases hf : FewL [(Value.slice ja al.length jc, al), (Value.slice ka bl.length kc, bl)]
  rotate_left
  · rw [decide_eq_false hf]
    clear hf hb1 hb2
    go_wp2_with fail
    refine (CA.out _).mono ?_
    rintro e w3 ⟨rfl, hb3⟩
    go_wp2
    go_ret
    exact ⟨rfl, hbw.trans (hb3.mono hbw.size)⟩
  rw [decide_eq_true hf]
  have hna : al.length ≤ 20 := ((fewL_two _ _ _ _).1 hf).1.1
  have hnb : bl.length ≤ 20 := ((fewL_two _ _ _ _).1 hf).2.1
  clear hf hb1 hb2
  have CO := Lib.hid (Match_any _ _ al bl b w2 (HA.out.below hbw) (HB.out.below hbw) (by omega) (by omega) HBB.out)
  go_wp2_with fail
  refine CO.out.mono ?_
  rintro e w3 ⟨hb3, hcase⟩
  have hbw3 := hbw.trans (hb3.mono hbw.size)
  have CL := Lib.hid (all_any _ al w3 (HA.out.below hbw3) (by omega))
  clear CO hb3 hbw
  have hcase : ∃ (u v : Value) (ds : List Int) (us : List Tk) (er : Int), e = .returned (.tuple #[u, v, .int .i64 er]) ∧ ReadsI w3 u ds ∧ ReadsT w3 v us ∧ ((¬ (AllOk al ∧ AllOk bl ∧ 0 ≤ b) ∧ ds = [] ∧ us = [] ∧ er = 1) ∨ ((AllOk al ∧ AllOk bl ∧ 0 ≤ b) ∧ ds = (matP al bl b).map (·.1) ∧ us = (matP al bl b).map (·.2) ∧ er = 0)) := by
    rcases hcase with ⟨h, rfl⟩ | ⟨h, u, v, rfl, hr, hs⟩
    · exact ⟨_, _, [], [], 1, rfl, ReadsI.nil _, ReadsT.nil _, .inl ⟨h, rfl, rfl, rfl⟩⟩
    · exact ⟨_, _, _, _, 0, rfl, hr, hs, .inr ⟨h, rfl, rfl, rfl⟩⟩
  obtain ⟨u, v, ds, us, er, rfl, hri, hr, hcase⟩ := hcase
  have HRI := Lib.hid hri
  have HR := Lib.hid hr
  have HC := Lib.hid hcase
  obtain ⟨ia, ic, _, _, rfl, -⟩ := hri.at
  obtain ⟨ua, uc, _, _, rfl, -⟩ := hr.at
  clear hr hri hcase
  go_wp2_with fail
  refine CL.out.mono ?_
  rintro e w4 ⟨v4, rfl, ho4, hb4⟩
  have hbw4 := hbw3.trans (hb4.mono hbw3.size)
  have CL2 := Lib.hid (all_any _ bl w4 (HB.out.below hbw4) (by omega))
  have HO4 := Lib.hid ho4
  have HR4 := Lib.hid (HR.out.below hb4)
  have HRI4 := Lib.hid (HRI.out.below hb4)
  obtain ⟨a4, c4, rfl⟩ := ho4.slice
  clear CL HR HRI hb4 ho4 hbw3
  go_wp2_with fail
  refine CL2.out.mono ?_
  rintro e w5 ⟨v5, rfl, ho5, hb5⟩
  have hbw5 := hbw4.trans (hb5.mono hbw4.size)
  have CR := Lib.hid (Match_ref _ _ al bl b w5 ((OwnT.below HO4.out hb5).reads (by omega)) (ho5.reads (by omega)) (by omega) (by omega) HBB.out)
  have HR5 := Lib.hid (HR4.out.below hb5)
  have HRI5 := Lib.hid (HRI4.out.below hb5)
  obtain ⟨a5, c5, rfl⟩ := ho5.slice
  clear CL2 HR4 HRI4 HO4 hb5 ho5 hbw4
  go_wp2_with fail
  refine CR.out.mono ?_
  rintro e w6 ⟨hb6, hcase⟩
  have hbw6 := hbw5.trans (hb6.mono hbw5.size)
  have hcase : ∃ (u v : Value), e = .returned (.tuple #[u, v, .int .i64 er]) ∧ ReadsI w6 u ds ∧ ReadsT w6 v us := by
    rcases hcase with ⟨h, rfl⟩ | ⟨h, u, v, rfl, hr, hs⟩
    · rcases HC.out with ⟨_, rfl, rfl, rfl⟩ | ⟨h2, _⟩
      · exact ⟨_, _, rfl, ReadsI.nil _, ReadsT.nil _⟩
      · exact absurd h2 h
    · rcases HC.out with ⟨h2, _⟩ | ⟨_, rfl, rfl, rfl⟩
      · exact absurd h h2
      · exact ⟨_, _, rfl, hr, hs⟩
  obtain ⟨v6, v7, rfl, hr6, hr7⟩ := hcase
  have CS := Lib.hid (same_same _ _ us w6 (HR5.out.below hb6) hr7)
  have HX := Lib.hid (HRI5.out.below hb6)
  have HY := Lib.hid hr6
  obtain ⟨a6, c6, _, _, rfl, -⟩ := hr6.at
  obtain ⟨a7, c7, _, _, rfl, -⟩ := hr7.at
  clear CR HC HR5 HRI5 hb6 hr6 hr7 hbw5
  go_wp2_with fail
  refine CS.out.mono ?_
  rintro e w7 ⟨rfl, hb7⟩
  have HBW := Lib.hid (hbw6.trans (hb7.mono hbw6.size))
  obtain ⟨_, _, xb, xo, hxe, -, -, xcell⟩ := (HX.out.below hb7).at
  cases hxe
  obtain ⟨_, _, yb, yo, hye, -, ym, ycell⟩ := (HY.out.below hb7).at
  cases hye
  have XC := Lib.hid xcell
  have YC := Lib.hid ycell
  clear CS HX HY hb7 xcell ycell hbw6
  go_wp2
  go_loopw [60, 13] (fun v60 _ wr => ∃ i : Nat, i ≤ ds.length ∧ v60 = .int .i64 i ∧ Below w7.heap.size w7 wr) (fun v60 _ _ => ds.length - (intOf v60).toNat)
  case atStart => exact ⟨0, Nat.zero_le _, rfl, Below.refl _ _⟩
  case round =>
    obtain ⟨i, hi, rfl, hbel⟩ := hrel
    have HBR := Lib.hid hbel
    by_cases hlt : i < ds.length
    · obtain ⟨rfl, x0⟩ := XC.out i hlt
      obtain ⟨rfl, y0⟩ := YC.out i hlt
      have x0 := bc hbel x0
      have y0 := bc hbel y0
      generalize ds.getD i 0 = d at *
      clear hbel
      go_upto_region 10 with fail
      go_quiet (fail)
      have HB2 := Lib.hid (below_drewN HBR.out nq)
      clear x0 y0
      go_wp2
      go_roundw
      case rel => exact ⟨i + 1, by omega, by go_num, HB2.out⟩
      case measure => simp [intOf]; omega
    · clear hbel
      go_wp2
      go_ret
      exact ⟨rfl, HBW.out.trans (HBR.out.mono HBW.out.size)⟩

set_option maxRecDepth 100000 in
set_option maxHeartbeats 16000000 in
theorem law_alone (va : Value) (ts : List Tk) (b : Int) (w : World) (ha : ReadsT w va ts) (hbud : b ≤ 9223372036854775807) : Calls Try.prog 9 #[va, .int .i64 b] w fun e w' => e = .returned (.bool true) ∧ Below w.heap.size w w' := by
  have HA := Lib.hid ha
  obtain ⟨ja, jc, _, _, rfl, -⟩ := ha.at
  clear ha
  have HBB := Lib.hid hbud
  have CA := Lib.hid (fun W => awake_any W)
  have CF := Lib.hid (fun W (h : Below w.heap.size w W) => few_any _ _ _ (reads_one (HA.out.below h)))
  clear hbud
  go_enter Try.func9, Try.ntmps9
  go_wp2_with fail
  refine (CA.out _).mono ?_
  rintro e w1 ⟨rfl, hb1⟩
  have CF1 := Lib.hid (CF.out w1 hb1)
  clear CF
  go_wp2_with fail
  refine CF1.out.mono ?_
  rintro e w2 ⟨rfl, hb2⟩
  have hbw := hb1.trans (((sb0 _).trans (hb2.mono (sb0 _).size)).mono hb1.size)
  clear CF1
  by_cases hf : FewL [(Value.slice ja ts.length jc, ts)]
  rotate_left
  · rw [decide_eq_false hf]
    clear hf hb1 hb2
    go_wp2_with fail
    refine (CA.out _).mono ?_
    rintro e w3 ⟨rfl, hb3⟩
    go_wp2
    go_ret
    exact ⟨rfl, hbw.trans (hb3.mono hbw.size)⟩
  rw [decide_eq_true hf]
  have hn : ts.length ≤ 20 := ((fewL_one _ _).1 hf).1
  clear hf hb1 hb2
  have CO := Lib.hid (Cut_any _ ts b w2 (HA.out.below hbw) (by omega) HBB.out)
  go_wp2_with fail
  refine CO.out.mono ?_
  rintro e w3 ⟨hb3, hcase⟩
  have hbw3 := hbw.trans (hb3.mono hbw.size)
  have CM1 := Lib.hid (Match_any _ (.slice none 0 0) ts [] b w3 (HA.out.below hbw3) (ReadsT.nil _) (by omega) (by simp) HBB.out)
  rw [matP_left] at CM1
  clear CO hb3 hbw
  have hcase : ∃ (u : Value) (us : List Tk) (n er : Int), e = .returned (.tuple #[u, .int .i64 n, .int .i64 er]) ∧ ReadsT w3 u us ∧ ((¬ (AllOk ts ∧ 0 ≤ b) ∧ us = [] ∧ er = 1) ∨ ((AllOk ts ∧ 0 ≤ b) ∧ us = cutP (orderP ts) b ∧ er = 0)) := by
    rcases hcase with ⟨h, rfl⟩ | ⟨h, u, rfl, hr⟩
    · exact ⟨_, [], 0, 1, rfl, ReadsT.nil _, .inl ⟨h, rfl, rfl⟩⟩
    · exact ⟨_, _, _, 0, rfl, hr, .inr ⟨h, rfl, rfl⟩⟩
  obtain ⟨u, us, n, er, rfl, hr, hcase⟩ := hcase
  have HR := Lib.hid hr
  have HC := Lib.hid hcase
  obtain ⟨ua, uc, _, _, rfl, -⟩ := hr.at
  clear hr hcase
  go_wp2_with fail
  refine CM1.out.mono ?_
  rintro e w4 ⟨hb4, hcase⟩
  have hbw4 := hbw3.trans (hb4.mono hbw3.size)
  have CM2 := Lib.hid (Match_any (.slice none 0 0) _ [] ts b w4 (ReadsT.nil _) (HA.out.below hbw4) (by simp) (by omega) HBB.out)
  rw [matP_right] at CM2
  have hcase : ∃ (s m : Value), e = .returned (.tuple #[s, m, .int .i64 er]) ∧ ReadsI w4 s (us.map fun _ => 0) ∧ ReadsT w4 m us := by
    rcases hcase with ⟨h, rfl⟩ | ⟨h, s, m, rfl, hs, hm⟩
    · rcases HC.out with ⟨_, rfl, rfl⟩ | ⟨h2, _⟩
      · exact ⟨_, _, rfl, ReadsI.nil _, ReadsT.nil _⟩
      · exact absurd ⟨h2.1, allOk_nil, h2.2⟩ h
    · rcases HC.out with ⟨h2, _⟩ | ⟨_, rfl, rfl⟩
      · exact absurd ⟨h.1, h.2.2⟩ h2
      · refine ⟨s, m, rfl, ?_, ?_⟩
        · rw [List.map_map] at hs; exact hs
        · rw [List.map_map] at hm
          have e2 : ((fun x : Int × Tk => x.2) ∘ fun t => ((0 : Int), t)) = id := rfl
          rw [e2, List.map_id] at hm
          exact hm
  obtain ⟨s4, m4, rfl, hs4, hm4⟩ := hcase
  have HS4 := Lib.hid hs4
  have HM4 := Lib.hid hm4
  have HR4 := Lib.hid (HR.out.below hb4)
  obtain ⟨sa, sc, _, _, rfl, -⟩ := hs4.at
  obtain ⟨ma, mc, _, _, rfl, -⟩ := hm4.at
  clear CM1 HR hb4 hs4 hm4 hbw3
  go_wp2_with fail
  refine CM2.out.mono ?_
  rintro e w5 ⟨hb5, hcase⟩
  have hbw5 := hbw4.trans (hb5.mono hbw4.size)
  have hcase : ∃ (s m : Value), e = .returned (.tuple #[s, m, .int .i64 er]) ∧ ReadsI w5 s (us.map fun _ => 1) ∧ ReadsT w5 m us := by
    rcases hcase with ⟨h, rfl⟩ | ⟨h, s, m, rfl, hs, hm⟩
    · rcases HC.out with ⟨_, rfl, rfl⟩ | ⟨h2, _⟩
      · exact ⟨_, _, rfl, ReadsI.nil _, ReadsT.nil _⟩
      · exact absurd ⟨allOk_nil, h2.1, h2.2⟩ h
    · rcases HC.out with ⟨h2, _⟩ | ⟨_, rfl, rfl⟩
      · exact absurd ⟨h.2.1, h.2.2⟩ h2
      · refine ⟨s, m, rfl, ?_, ?_⟩
        · rw [List.map_map] at hs; exact hs
        · rw [List.map_map] at hm
          have e2 : ((fun x : Int × Tk => x.2) ∘ fun t => ((1 : Int), t)) = id := rfl
          rw [e2, List.map_id] at hm
          exact hm
  obtain ⟨s5, m5, rfl, hs5, hm5⟩ := hcase
  have HBW := Lib.hid hbw5
  obtain ⟨ta, tc, tb, tq, rfl, -, tm, tcell⟩ := hs5.at
  obtain ⟨na, nc, nb, no, rfl, -, nm, ncell⟩ := hm5.at
  obtain ⟨_, _, sb, so, hse, -, sm, scell⟩ := (HS4.out.below hb5).at
  cases hse
  obtain ⟨_, _, mb, mo, hme, -, mm, mcell⟩ := (HM4.out.below hb5).at
  cases hme
  obtain ⟨_, _, lb, lo, hle, -, lm, lcell⟩ := (HR4.out.below hb5).at
  cases hle
  rw [List.length_map] at scell tcell ⊢
  have TC := Lib.hid tcell
  have NC := Lib.hid ncell
  have SC := Lib.hid scell
  have MC := Lib.hid mcell
  have LC := Lib.hid lcell
  clear tcell ncell scell mcell lcell hs5 hm5 HS4 HM4 HR4 CM2 hb5 hbw5 hbw4 HC tm nm sm mm
  have HG := Lib.hid (show ∀ (k : Int) i, i < us.length → (us.map fun _ => k).getD i 0 = k from fun k i hi => by
    rw [getD_at _ _ _ (by rw [List.length_map]; exact hi), List.getElem_map])
  go_wp2
  go_loopw [83, 14] (fun v83 _ wr => ∃ i : Nat, i ≤ us.length ∧ v83 = .int .i64 i ∧ Below w5.heap.size w5 wr) (fun v83 _ _ => us.length - (intOf v83).toNat)
  case atStart => exact ⟨0, Nat.zero_le _, rfl, Below.refl _ _⟩
  case round =>
    obtain ⟨i, hi, rfl, hbel⟩ := hrel
    have HBR := Lib.hid hbel
    by_cases hlt : i < us.length
    · obtain ⟨rfl, s0⟩ := SC.out i hlt
      obtain ⟨rfl, t0⟩ := TC.out i hlt
      rw [HG.out 0 i hlt] at s0
      rw [HG.out 1 i hlt] at t0
      obtain ⟨rfl, x0, x1, x2, x3, x4, x5, x6⟩ := LC.out i hlt
      obtain ⟨rfl, y0, y1, y2, y3, y4, y5, y6⟩ := MC.out i hlt
      obtain ⟨rfl, z0, z1, z2, z3, z4, z5, z6⟩ := NC.out i hlt
      have s0 := bc hbel s0
      have t0 := bc hbel t0
      have x0 := bc hbel x0
      have x1 := bc hbel x1
      have x2 := bc hbel x2
      have x3 := bc hbel x3
      have x4 := bc hbel x4
      have x5 := bc hbel x5
      have x6 := bc hbel x6
      have y0 := bc hbel y0
      have y1 := bc hbel y1
      have y2 := bc hbel y2
      have y3 := bc hbel y3
      have y4 := bc hbel y4
      have y5 := bc hbel y5
      have y6 := bc hbel y6
      have z0 := bc hbel z0
      have z1 := bc hbel z1
      have z2 := bc hbel z2
      have z3 := bc hbel z3
      have z4 := bc hbel z4
      have z5 := bc hbel z5
      have z6 := bc hbel z6
      have HEQ := fun W => eqIn27 (us.getD i default) (us.getD i default) W
      rw [decide_eq_true rfl] at HEQ
      generalize us.getD i default = y at *
      obtain ⟨yst, yix, ysz, ysp, ynum, yden, yday⟩ := y
      unfold Tk.v at HEQ
      simp only at x0 x1 x2 x3 x4 x5 x6 y0 y1 y2 y3 y4 y5 y6 z0 z1 z2 z3 z4 z5 z6 HEQ
      clear hbel
      go_upto_region 11 with fail
      go_quiet (fail)
      have HB2 := Lib.hid (below_drewN HBR.out nq)
      clear s0 t0 x0 x1 x2 x3 x4 x5 x6 y0 y1 y2 y3 y4 y5 y6 z0 z1 z2 z3 z4 z5 z6
      go_wp2
      go_roundw
      case rel => exact ⟨i + 1, by omega, by go_num, HB2.out⟩
      case measure => simp [intOf]; omega
    · clear hbel
      go_wp2
      go_ret
      exact ⟨rfl, HBW.out.trans (HBR.out.mono HBW.out.size)⟩

end Go.Proofs.Ytcgilfnhbliadaa
