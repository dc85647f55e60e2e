/- The law Takes. -/
import Derived.Test.YtcgilfnhbliadaaL5
namespace Go.Proofs.Ytcgilfnhbliadaa
open Go.RowKit Go.Lib Go.ChangeMaps
set_option linter.unusedSimpArgs false

set_option maxRecDepth 100000 in
set_option maxHeartbeats 32000000 in
theorem law_takes (v : Value) (ts : List Tk) (w : World) (hv : ReadsT w v ts) : Calls Try.prog 10 #[v] w fun e w' => e = .returned (.bool true) ∧ Below w.heap.size w w' := by
  have HV := Lib.hid hv
  obtain ⟨ja, jc, _, _, rfl, -⟩ := hv.at
  clear hv
  have CA := Lib.hid (fun W => awake_any W)
  have CF := Lib.hid (fun W (h : Below w.heap.size w W) => few_any _ _ _ (reads_one (HV.out.below h)))
  go_enter Try.func10, Try.ntmps10
  go_wp2_with fail
  refine (CA.out _).mono ?_
  rintro e w1 ⟨rfl, hb1⟩
  have CF1 := Lib.hid (CF.out w1 hb1)
  clear CF
  go_wp2_with fail
  refine CF1.out.mono ?_
  rintro e w2 ⟨rfl, hb2⟩
  have hbw := hb1.trans (((sb0 _).trans (hb2.mono (sb0 _).size)).mono hb1.size)
  clear CF1
  by_cases hf : FewL [(Value.slice ja ts.length jc, ts)]
  rotate_left
  · rw [decide_eq_false hf]
    clear hf hb1 hb2
    go_wp2_with fail
    refine (CA.out _).mono ?_
    rintro e w3 ⟨rfl, hb3⟩
    go_wp2
    go_ret
    exact ⟨rfl, hbw.trans (hb3.mono hbw.size)⟩
  rw [decide_eq_true hf]
  have hn : ts.length ≤ 20 := ((fewL_one _ _).1 hf).1
  clear hf hb1 hb2
  have CN := Lib.hid (New_any w2)
  go_wp2_with fail
  refine CN.out.mono ?_
  rintro e w3 ⟨rfl, hw3⟩
  have HQ3 := Lib.hid (QAt_new w2)
  have hb3 : Below w2.heap.size w2 ((w2.alloc (.map #[] 0)).alloc (.cells #[.map (some w2.heap.size)] 84)) := (sb0 _).trans ((sb0 _).mono (by rw [World.size_alloc]; omega))
  rw [← hw3] at hb3 HQ3
  have hbw3 := hbw.trans (hb3.mono hbw.size)
  obtain ⟨b, hb⟩ : ∃ b, b = w2.heap.size + 1 := ⟨_, rfl⟩
  obtain ⟨m, hm⟩ : ∃ m, m = w2.heap.size := ⟨_, rfl⟩
  rw [← hb] at HQ3 ⊢
  rw [← hm] at HQ3
  have HBM := Lib.hid (show w.heap.size ≤ m by rw [hm]; exact hbw.size)
  have HBW3 := Lib.hid hbw3
  clear CN hw3 hb3 hbw hb hm hbw3
  obtain ⟨_, _, jb, jo, hje, -, jm, jcell⟩ := HV.out.at
  cases hje
  have JC := Lib.hid jcell
  clear jcell
  go_wp2
  go_loopw [24, 5] (fun v24 _ wr => ∃ i : Nat, i ≤ ts.length ∧ v24 = .int .i64 i ∧ Below w.heap.size w wr ∧ QAt wr b m (putP (ts.take i))) (fun v24 _ _ => ts.length - (intOf v24).toNat)
  case atStart => exact ⟨0, Nat.zero_le _, rfl, HBW3.out, HQ3.out⟩
  case round =>
    obtain ⟨i, hi, rfl, hbel, hq⟩ := hrel
    have HQ := Lib.hid hq
    clear hq
    have zr := hbel.size
    by_cases hlt : i < ts.length
    · obtain ⟨rfl, d0, d1, d2, d3, d4, d5, d6⟩ := JC.out i hlt
      have d0 := bc hbel d0
      have d1 := bc hbel d1
      have d2 := bc hbel d2
      have d3 := bc hbel d3
      have d4 := bc hbel d4
      have d5 := bc hbel d5
      have d6 := bc hbel d6
      have HPT := Lib.hid (putP_take hlt)
      generalize ts.getD i default = y at *
      have hA : Below wr.heap.size wr (wr.alloc (.cells #[.string y.st, .int .i64 y.ix, .int .i64 y.size, .int .i64 y.spare, .int .i64 y.num, .int .i64 y.den, .int .i64 y.day] 27)) := sb0 _
      have CP := Lib.hid (Put_any b m _ y _ (HQ.out.below hA))
      have HB4 := Lib.hid (hbel.trans (hA.mono zr))
      obtain ⟨yy, hyy⟩ : ∃ yy, yy = y := ⟨_, rfl⟩
      have HYY := Lib.hid hyy
      rw [← hyy] at HPT
      obtain ⟨yst, yix, ysz, ysp, ynum, yden, yday⟩ := y
      simp only at d0 d1 d2 d3 d4 d5 d6
      unfold Tk.v at CP
      simp only at CP HB4
      clear hA hyy hbel
      go_wp2_with fail
      refine CP.out.mono ?_
      rintro e w5 hcase
      clear CP
      rcases hcase with ⟨hok, rfl, hq5, hg5⟩ | ⟨hno, rfl, hb5⟩
      · have HQ5 := Lib.hid (show QAt w5 b m (putP (ts.take (i + 1))) by rw [HPT.out]; unfold putF; rw [if_pos (by rw [HYY.out]; exact hok), HYY.out]; exact hq5)
        have HB5 := Lib.hid (HB4.out.trans (gb_to_below hg5 HBM.out HB4.out.size))
        clear hok hq5 hg5
        go_wp2
        go_roundw
        case rel => exact ⟨i + 1, by omega, by go_num, HB5.out, HQ5.out⟩
        case measure => simp [intOf]; omega
      · have HQ5 := Lib.hid (show QAt w5 b m (putP (ts.take (i + 1))) by rw [HPT.out]; unfold putF; rw [if_neg (by rw [HYY.out]; exact hno)]; exact (HQ.out.below (sb0 _)).below hb5)
        have HB5 := Lib.hid (HB4.out.trans (hb5.mono HB4.out.size))
        clear hno hb5
        go_wp2
        go_roundw
        case rel => exact ⟨i + 1, by omega, by go_num, HB5.out, HQ5.out⟩
        case measure => simp [intOf]; omega
    · have HT := Lib.hid (show ts.take i = ts from List.take_of_length_le (by omega))
      rw [HT.out] at HQ
      have HSO := Lib.hid (putP_ok ts)
      have HSN := Lib.hid (putP_len ts)
      have CL := Lib.hid (List_any b m _ wr HQ.out HSO.out (by have := HSN.out; omega))
      have HBEL := Lib.hid hbel
      clear hbel
      go_wp2_with fail
      refine CL.out.mono ?_
      rintro e w4 ⟨u, rfl, hr, hb4⟩
      have HBW4 := Lib.hid (HBEL.out.trans (hb4.mono zr))
      have HQ4 := Lib.hid (HQ.out.below hb4)
      obtain ⟨l, hl⟩ : ∃ l, l = orderP (putP ts) := ⟨_, rfl⟩
      have HLO := Lib.hid (show AllOk l by rw [hl]; exact orderP_ok HSO.out)
      have HLS := Lib.hid (show Srt l by rw [hl]; exact orderP_srt HSO.out)
      have HLP := Lib.hid (show l.Perm (putP ts) by rw [hl]; exact order_perm HQ.out.nodup HSO.out)
      have HLL := Lib.hid (show l.length ≤ 20 by have := HLP.out.length_eq; have := HSN.out; omega)
      have HQL := Lib.hid (HQ4.out.perm HLP.out.symm)
      rw [← hl] at hr
      have HRL := Lib.hid hr
      obtain ⟨la, lc, lb, lo, rfl, -, lm, lcell⟩ := hr.at
      have LC := Lib.hid lcell
      clear hl hr lcell CL hb4 zr
      go_wp2
      go_loopw [36, 7, 8, 9] (fun v36 _ _ _ wx => ∃ i : Nat, i ≤ l.length ∧ v36 = .int .i64 i ∧ w4.grownBy wx (some m) ∧ Below w.heap.size w wx ∧ QAt wx b m (l.drop i)) (fun v36 _ _ _ _ => l.length - (intOf v36).toNat)
      case atStart => exact ⟨0, Nat.zero_le _, rfl, gb_of (Below.refl _ _) _, HBW4.out, HQL.out⟩
      case round =>
        obtain ⟨i, hi, rfl, hg, hbel, hq⟩ := hrel
        have HQX := Lib.hid hq
        have HG := Lib.hid hg
        have HBX := Lib.hid hbel
        have HDO := Lib.hid (show AllOk (l.drop i) from fun t ht => HLO.out t (List.mem_of_mem_drop ht))
        have CX := Lib.hid (Next_any b m _ 1048576 wr HQX.out HDO.out)
        clear hq hg hbel
        by_cases hlt : i < l.length
        · have HDC := Lib.hid (show l.drop i = l.getD i default :: l.drop (i + 1) by rw [getD_at _ _ _ hlt]; exact List.drop_eq_getElem_cons hlt)
          go_wp2_with fail
          refine CX.out.mono ?_
          rintro e w6 hcase
          clear CX
          rcases hcase with ⟨hbn, -⟩ | ⟨f, hbf, rfl, hq6, hg6⟩
          · rw [HDC.out] at hbn
            exact absurd (hbn _ List.mem_cons_self) (fun h => h ((HDO.out _ (by rw [HDC.out]; exact List.mem_cons_self)).2.2.1.2))
          obtain rfl : f = l.getD i default := best_cons (List.Perm.of_eq HDC.out) (HDC.out ▸ HLS.out.sublist (List.drop_sublist i l)) (HDC.out ▸ HDO.out) hbf
          have HQ6 := Lib.hid (show QAt w6 b m (l.drop (i + 1)) by
            have h1 := HQX.out.nodup
            rw [HDC.out] at h1 hq6
            rw [del_cons h1] at hq6
            exact hq6)
          have HG6 := Lib.hid (gb_trans HG.out hg6)
          have HB6 := Lib.hid (HBX.out.trans (gb_to_below hg6 HBM.out HBX.out.size))
          have HRY := Lib.hid (HRL.out.gq HQL.out HG6.out)
          obtain ⟨_, _, lb, lo, hle, -, _, lcell⟩ := HRY.out.at
          cases hle
          have LC := Lib.hid lcell
          obtain ⟨rfl, e0, e1, e2, e3, e4, e5, e6⟩ := lcell i hlt
          have HYO := Lib.hid (show TOk (l.getD i default) from HLO.out _ (by rw [getD_at _ _ _ hlt]; exact List.getElem_mem hlt))
          have HNX := Lib.hid (fun (m' : Nat) (h : i = m' + 1) => cmpT_lt_neg (srt_next HLS.out (i := m') (by omega)))
          have CC := Lib.hid (fun m' (h : i = m' + 1) W => compare_any (l.getD m' default) (l.getD (m' + 1) default) W (HLO.out _ (by rw [getD_at _ _ _ (by omega)]; exact List.getElem_mem _)) (HLO.out _ (by rw [getD_at _ _ _ (by omega)]; exact List.getElem_mem _)))
          clear hbf hq6 hg6 lcell
          have HEQ := fun W => eqIn27 (l.getD i default) (l.getD i default) W
          obtain ⟨y, hy⟩ : ∃ y, y = l.getD i default := ⟨_, rfl⟩
          rw [← hy] at e0 e1 e2 e3 e4 e5 e6 HEQ ⊢
          have HY := Lib.hid hy
          clear hy
          obtain ⟨yst, yix, ysz, ysp, ynum, yden, yday⟩ := y
          simp only [decide_true] at e0 e1 e2 e3 e4 e5 e6 HEQ ⊢
          unfold Tk.v at HEQ CC ⊢
          simp only at HEQ CC ⊢
          have hA : Below w6.heap.size w6 (w6.alloc (.cells #[.string yst, .int .i64 yix, .int .i64 ysz, .int .i64 ysp, .int .i64 ynum, .int .i64 yden, .int .i64 yday] 27)) := sb0 _
          have HRW := Lib.hid (heap_alloc_new w6 (.cells #[.string yst, .int .i64 yix, .int .i64 ysz, .int .i64 ysp, .int .i64 ynum, .int .i64 yden, .int .i64 yday] 27))
          obtain ⟨N, hN⟩ : ∃ N, N = w6.heap.size := ⟨_, rfl⟩
          obtain ⟨wa, hwa⟩ : ∃ wa, wa = w6.alloc (.cells #[.string yst, .int .i64 yix, .int .i64 ysz, .int .i64 ysp, .int .i64 ynum, .int .i64 yden, .int .i64 yday] 27) := ⟨_, rfl⟩
          rw [← hwa] at hA HRW
          rw [← hN] at HRW
          have HWA := Lib.hid hwa
          have HN := Lib.hid hN
          have HQA := Lib.hid (HQ6.out.below hA)
          have HGA := Lib.hid (gb_trans HG6.out (gb_of hA (some m)))
          have HBA := Lib.hid (HB6.out.trans (hA.mono HB6.out.size))
          have y0 := bc hA e0
          have y1 := bc hA e1
          have y2 := bc hA e2
          have y3 := bc hA e3
          have y4 := bc hA e4
          have y5 := bc hA e5
          have y6 := bc hA e6
          have HA := Lib.hid hA
          clear hwa hN e0 e1 e2 e3 e4 e5 e6 hA
          go_upto_region 14 with fail
          rw [← HWA.out]
          try rw [← HN.out]
          have d0 := cell_of_row wa _ 0 _ _ _ HRW.out
          have d1 := cell_of_row wa _ 1 _ _ _ HRW.out
          have d2 := cell_of_row wa _ 2 _ _ _ HRW.out
          have d3 := cell_of_row wa _ 3 _ _ _ HRW.out
          have d4 := cell_of_row wa _ 4 _ _ _ HRW.out
          have d5 := cell_of_row wa _ 5 _ _ _ HRW.out
          have d6 := cell_of_row wa _ 6 _ _ _ HRW.out
          have HQD := Lib.hid (HQA.out.below (Below.refl _ wa).drew)
          have HGD := Lib.hid (gb_trans HGA.out (gb_of (Below.refl _ wa).drew (some m)))
          have HBD := Lib.hid HBA.out.drew
          rcases Nat.eq_zero_or_pos i with hi0 | hi0
          · subst hi0
            simp only [Nat.zero_mul, Nat.add_zero] at y0 y1 y2 y3 y4 y5 y6
            have HSB0 : ∀ w' : World, Below (wa).drew.heap.size (wa).drew w' → (w'.cell? ⟨N, 0, none⟩ = some (.string yst) ∧ w'.cell? ⟨N, 1, none⟩ = some (.int .i64 yix) ∧ w'.cell? ⟨N, 2, none⟩ = some (.int .i64 ysz) ∧ w'.cell? ⟨N, 3, none⟩ = some (.int .i64 ysp) ∧ w'.cell? ⟨N, 4, none⟩ = some (.int .i64 ynum) ∧ w'.cell? ⟨N, 5, none⟩ = some (.int .i64 yden) ∧ w'.cell? ⟨N, 6, none⟩ = some (.int .i64 yday) ∧ w'.cell? ⟨lb, lo, none⟩ = some (.string yst) ∧ w'.cell? ⟨lb, lo + 1, none⟩ = some (.int .i64 yix) ∧ w'.cell? ⟨lb, lo + 2, none⟩ = some (.int .i64 ysz) ∧ w'.cell? ⟨lb, lo + 3, none⟩ = some (.int .i64 ysp) ∧ w'.cell? ⟨lb, lo + 4, none⟩ = some (.int .i64 ynum) ∧ w'.cell? ⟨lb, lo + 5, none⟩ = some (.int .i64 yden) ∧ w'.cell? ⟨lb, lo + 6, none⟩ = some (.int .i64 yday)) := fun w' hb => ⟨bc hb d0, bc hb d1, bc hb d2, bc hb d3, bc hb d4, bc hb d5, bc hb d6, bc hb y0, bc hb y1, bc hb y2, bc hb y3, bc hb y4, bc hb y5, bc hb y6⟩
            refine wp_region_held_drew (S := fun w' => w'.cell? ⟨N, 0, none⟩ = some (.string yst) ∧ w'.cell? ⟨N, 1, none⟩ = some (.int .i64 yix) ∧ w'.cell? ⟨N, 2, none⟩ = some (.int .i64 ysz) ∧ w'.cell? ⟨N, 3, none⟩ = some (.int .i64 ysp) ∧ w'.cell? ⟨N, 4, none⟩ = some (.int .i64 ynum) ∧ w'.cell? ⟨N, 5, none⟩ = some (.int .i64 yden) ∧ w'.cell? ⟨N, 6, none⟩ = some (.int .i64 yday) ∧ w'.cell? ⟨lb, lo, none⟩ = some (.string yst) ∧ w'.cell? ⟨lb, lo + 1, none⟩ = some (.int .i64 yix) ∧ w'.cell? ⟨lb, lo + 2, none⟩ = some (.int .i64 ysz) ∧ w'.cell? ⟨lb, lo + 3, none⟩ = some (.int .i64 ysp) ∧ w'.cell? ⟨lb, lo + 4, none⟩ = some (.int .i64 ynum) ∧ w'.cell? ⟨lb, lo + 5, none⟩ = some (.int .i64 yden) ∧ w'.cell? ⟨lb, lo + 6, none⟩ = some (.int .i64 yday)) (by kernel_rfl) (HSB0 _ (Below.refl _ _)) (fun hHeld => ?_)
            have HSB := Lib.hid HSB0
            clear HSB0
            generalize (wa).drew = Wd at *
            clear d0 d1 d2 d3 d4 d5 d6 y0 y1 y2 y3 y4 y5 y6
            refine wpAnyH_take (i := 0) (v := ?_) rfl (by kernel_rfl) (by kernel_rfl) (by kernel_rfl) (fun _ _ _ h => h) (Or.inl ⟨by rfl, ?_⟩) (by assumption) ?_
            rotate_left; · (intro w hSw; (try dsimp only at hSw); go_simp; try with_reducible rfl)
            try simp only [Act.put, List.getElem_toArray, List.getElem_cons_zero, List.getElem_cons_succ, List.setIfInBounds_toArray, List.set_cons_zero, List.set_cons_succ]
            refine wpAnyH_take (i := 1) (v := ?_) rfl (by kernel_rfl) (by kernel_rfl) (by kernel_rfl) (fun _ _ _ h => h) (Or.inl ⟨by rfl, ?_⟩) (by assumption) ?_
            rotate_left; · (intro w hSw; (try dsimp only at hSw); go_simp; try with_reducible rfl)
            try simp only [Act.put, List.getElem_toArray, List.getElem_cons_zero, List.getElem_cons_succ, List.setIfInBounds_toArray, List.set_cons_zero, List.set_cons_succ]
            refine wpAnyH_take (i := 2) (v := ?_) rfl (by kernel_rfl) (by kernel_rfl) (by kernel_rfl) (fun _ _ _ h => h) (Or.inl ⟨by rfl, ?_⟩) (by assumption) ?_
            rotate_left; · (intro w hSw; (try dsimp only at hSw); go_simp; try with_reducible rfl)
            try simp only [Act.put, List.getElem_toArray, List.getElem_cons_zero, List.getElem_cons_succ, List.setIfInBounds_toArray, List.set_cons_zero, List.set_cons_succ]
            refine wpAnyH_take (i := 3) (v := ?_) rfl (by kernel_rfl) (by kernel_rfl) (by kernel_rfl) (fun _ _ _ h => h) (Or.inl ⟨by rfl, ?_⟩) (by assumption) ?_
            rotate_left; · (intro w hSw; (try dsimp only at hSw); go_simp; try with_reducible rfl)
            try simp only [Act.put, List.getElem_toArray, List.getElem_cons_zero, List.getElem_cons_succ, List.setIfInBounds_toArray, List.set_cons_zero, List.set_cons_succ]
            refine wpAnyH_take (i := 4) (v := ?_) rfl (by kernel_rfl) (by kernel_rfl) (by kernel_rfl) (fun _ _ _ h => h) (Or.inl ⟨by rfl, ?_⟩) (by assumption) ?_
            rotate_left; · (intro w hSw; (try dsimp only at hSw); go_simp; try with_reducible rfl)
            try simp only [Act.put, List.getElem_toArray, List.getElem_cons_zero, List.getElem_cons_succ, List.setIfInBounds_toArray, List.set_cons_zero, List.set_cons_succ]
            refine wpAnyH_take (i := 5) (v := ?_) rfl (by kernel_rfl) (by kernel_rfl) (by kernel_rfl) (fun _ _ _ h => h) (Or.inl ⟨by rfl, ?_⟩) (by assumption) ?_
            rotate_left; · (intro w hSw; (try dsimp only at hSw); go_simp; try with_reducible rfl)
            try simp only [Act.put, List.getElem_toArray, List.getElem_cons_zero, List.getElem_cons_succ, List.setIfInBounds_toArray, List.set_cons_zero, List.set_cons_succ]
            refine wpAnyH_take (i := 6) (v := ?_) rfl (by kernel_rfl) (by kernel_rfl) (by kernel_rfl) (fun _ _ _ h => h) (Or.inl ⟨by rfl, ?_⟩) (by assumption) ?_
            rotate_left; · (intro w hSw; (try dsimp only at hSw); go_simp; try with_reducible rfl)
            try simp only [Act.put, List.getElem_toArray, List.getElem_cons_zero, List.getElem_cons_succ, List.setIfInBounds_toArray, List.set_cons_zero, List.set_cons_succ]
            refine wpAnyH_take (i := 7) (v := ?_) rfl (by kernel_rfl) (by kernel_rfl) (by kernel_rfl) (fun _ _ _ h => h) (Or.inl ⟨by rfl, ?_⟩) (by assumption) ?_
            rotate_left; · (intro w hSw; (try dsimp only at hSw); go_simp; try with_reducible rfl)
            try simp only [Act.put, List.getElem_toArray, List.getElem_cons_zero, List.getElem_cons_succ, List.setIfInBounds_toArray, List.set_cons_zero, List.set_cons_succ]
            refine wpAnyH_take (i := 8) (v := ?_) rfl (by kernel_rfl) (by kernel_rfl) (by kernel_rfl) (fun _ _ _ h => h) (Or.inl ⟨by rfl, ?_⟩) (by assumption) ?_
            rotate_left; · (intro w hSw; (try dsimp only at hSw); go_simp; try with_reducible rfl)
            try simp only [Act.put, List.getElem_toArray, List.getElem_cons_zero, List.getElem_cons_succ, List.setIfInBounds_toArray, List.set_cons_zero, List.set_cons_succ]
            refine wpAnyH_take (i := 9) (v := ?_) rfl (by kernel_rfl) (by kernel_rfl) (by kernel_rfl) (fun _ _ _ h => h) (Or.inl ⟨by rfl, ?_⟩) (by assumption) ?_
            rotate_left; · (intro w hSw; (try dsimp only at hSw); go_simp; try with_reducible rfl)
            try simp only [Act.put, List.getElem_toArray, List.getElem_cons_zero, List.getElem_cons_succ, List.setIfInBounds_toArray, List.set_cons_zero, List.set_cons_succ]
            refine wpAnyH_take (i := 10) (v := ?_) rfl (by kernel_rfl) (by kernel_rfl) (by kernel_rfl) (fun _ _ _ h => h) (Or.inl ⟨by rfl, ?_⟩) (by assumption) ?_
            rotate_left; · (intro w hSw; (try dsimp only at hSw); go_simp; try with_reducible rfl)
            try simp only [Act.put, List.getElem_toArray, List.getElem_cons_zero, List.getElem_cons_succ, List.setIfInBounds_toArray, List.set_cons_zero, List.set_cons_succ]
            refine wpAnyH_take (i := 11) (v := ?_) rfl (by kernel_rfl) (by kernel_rfl) (by kernel_rfl) (fun _ _ _ h => h) (Or.inl ⟨by rfl, ?_⟩) (by assumption) ?_
            rotate_left; · (intro w hSw; (try dsimp only at hSw); go_simp; try with_reducible rfl)
            try simp only [Act.put, List.getElem_toArray, List.getElem_cons_zero, List.getElem_cons_succ, List.setIfInBounds_toArray, List.set_cons_zero, List.set_cons_succ]
            refine wpAnyH_take (i := 12) (v := ?_) rfl (by kernel_rfl) (by kernel_rfl) (by kernel_rfl) (fun _ _ _ h => h) (Or.inl ⟨by rfl, ?_⟩) (by assumption) ?_
            rotate_left; · (intro w hSw; (try dsimp only at hSw); go_simp; try with_reducible rfl)
            try simp only [Act.put, List.getElem_toArray, List.getElem_cons_zero, List.getElem_cons_succ, List.setIfInBounds_toArray, List.set_cons_zero, List.set_cons_succ]
            refine wpAnyH_take (i := 13) (v := ?_) rfl (by kernel_rfl) (by kernel_rfl) (by kernel_rfl) (fun _ _ _ h => h) (Or.inl ⟨by rfl, ?_⟩) (by assumption) ?_
            rotate_left; · (intro w hSw; (try dsimp only at hSw); go_simp; try with_reducible rfl)
            try simp only [Act.put, List.getElem_toArray, List.getElem_cons_zero, List.getElem_cons_succ, List.setIfInBounds_toArray, List.set_cons_zero, List.set_cons_succ]
            refine wpAnyH_take (i := 14) (v := undef) rfl (by kernel_rfl) (by kernel_rfl) (by kernel_rfl) (fun _ _ _ h => h) (Or.inr ⟨by rfl, rfl⟩) (by assumption) ?_
            try simp only [Act.put, List.getElem_toArray, List.getElem_cons_zero, List.getElem_cons_succ, List.setIfInBounds_toArray, List.set_cons_zero, List.set_cons_succ]
            refine wpAnyH_take (i := 15) (v := undef) rfl (by kernel_rfl) (by kernel_rfl) (by kernel_rfl) (fun _ _ _ h => h) (Or.inr ⟨by rfl, rfl⟩) (by assumption) ?_
            try simp only [Act.put, List.getElem_toArray, List.getElem_cons_zero, List.getElem_cons_succ, List.setIfInBounds_toArray, List.set_cons_zero, List.set_cons_succ]
            refine wpAnyH_take (i := 16) (v := undef) rfl (by kernel_rfl) (by kernel_rfl) (by kernel_rfl) (fun _ _ _ h => h) (Or.inr ⟨by rfl, rfl⟩) (by assumption) ?_
            try simp only [Act.put, List.getElem_toArray, List.getElem_cons_zero, List.getElem_cons_succ, List.setIfInBounds_toArray, List.set_cons_zero, List.set_cons_succ]
            refine wpAnyH_take (i := 17) (v := undef) rfl (by kernel_rfl) (by kernel_rfl) (by kernel_rfl) (fun _ _ _ h => h) (Or.inr ⟨by rfl, rfl⟩) (by assumption) ?_
            try simp only [Act.put, List.getElem_toArray, List.getElem_cons_zero, List.getElem_cons_succ, List.setIfInBounds_toArray, List.set_cons_zero, List.set_cons_succ]
            refine wpAnyH_take (i := 18) (v := undef) rfl (by kernel_rfl) (by kernel_rfl) (by kernel_rfl) (fun _ _ _ h => h) (Or.inr ⟨by rfl, rfl⟩) (by assumption) ?_
            try simp only [Act.put, List.getElem_toArray, List.getElem_cons_zero, List.getElem_cons_succ, List.setIfInBounds_toArray, List.set_cons_zero, List.set_cons_succ]
            refine wpAnyH_take (i := 19) (v := undef) rfl (by kernel_rfl) (by kernel_rfl) (by kernel_rfl) (fun _ _ _ h => h) (Or.inr ⟨by rfl, rfl⟩) (by assumption) ?_
            try simp only [Act.put, List.getElem_toArray, List.getElem_cons_zero, List.getElem_cons_succ, List.setIfInBounds_toArray, List.set_cons_zero, List.set_cons_succ]
            refine wpAnyH_take (i := 20) (v := undef) rfl (by kernel_rfl) (by kernel_rfl) (by kernel_rfl) (fun _ _ _ h => h) (Or.inr ⟨by rfl, rfl⟩) (by assumption) ?_
            try simp only [Act.put, List.getElem_toArray, List.getElem_cons_zero, List.getElem_cons_succ, List.setIfInBounds_toArray, List.set_cons_zero, List.set_cons_succ]
            refine wpAnyH_take (i := 21) (v := undef) rfl (by kernel_rfl) (by kernel_rfl) (by kernel_rfl) (fun _ _ _ h => h) (Or.inr ⟨by rfl, rfl⟩) (by assumption) ?_
            try simp only [Act.put, List.getElem_toArray, List.getElem_cons_zero, List.getElem_cons_succ, List.setIfInBounds_toArray, List.set_cons_zero, List.set_cons_succ]
            refine wpAnyH_take (i := 22) (v := ?_) rfl (by kernel_rfl) (by kernel_rfl) (by kernel_rfl) (fun _ _ _ h => h) (Or.inl ⟨by rfl, ?_⟩) (by assumption) ?_
            rotate_left; · (intro w hSw; (try dsimp only at hSw); go_simp; try with_reducible rfl)
            try simp only [Act.put, List.getElem_toArray, List.getElem_cons_zero, List.getElem_cons_succ, List.setIfInBounds_toArray, List.set_cons_zero, List.set_cons_succ]
            refine wpAnyH_take (i := 23) (v := ?_) rfl (by kernel_rfl) (by kernel_rfl) (by kernel_rfl) (fun _ _ _ h => h) (Or.inl ⟨by rfl, ?_⟩) (by assumption) ?_
            rotate_left; · (intro w hSw; (try dsimp only at hSw); go_simp; try with_reducible rfl)
            try simp only [Act.put, List.getElem_toArray, List.getElem_cons_zero, List.getElem_cons_succ, List.setIfInBounds_toArray, List.set_cons_zero, List.set_cons_succ]
            refine wpAnyH_done (by kernel_rfl) ?_ _
            clear hHeld HSB CC HNX HEQ
            go_wp2
            go_roundw
            case rel => exact ⟨0 + 1, by omega, by go_num, HGD.out, HBD.out, HQD.out⟩
            case measure => simp [intOf]; omega
          · obtain ⟨m', rfl⟩ : ∃ m', i = m' + 1 := ⟨i - 1, by omega⟩
            obtain ⟨_, e0, e1, e2, e3, e4, e5, e6⟩ := LC.out m' (by omega)
            have x0 := bc HA.out e0
            have x1 := bc HA.out e1
            have x2 := bc HA.out e2
            have x3 := bc HA.out e3
            have x4 := bc HA.out e4
            have x5 := bc HA.out e5
            have x6 := bc HA.out e6
            have CC := Lib.hid (fun W => CC.out m' rfl W)
            rw [HNX.out m' rfl] at CC
            have HY' := HY.out
            rw [← HY'] at CC
            generalize l.getD m' default = x at *
            obtain ⟨xst, xix, xsz, xsp, xnum, xden, xday⟩ := x
            simp only at x0 x1 x2 x3 x4 x5 x6 CC
            clear HY' HNX e0 e1 e2 e3 e4 e5 e6
            have hwm : IntKind.i64.wrap (m' : Int) = m' := by rw [IntKind.wrap_i64]; omega
            have hml : m' < l.length := by omega
            have hm0 : (0 : Int) ≤ (m' : Int) + 1 := by omega
            have hm1 : (m' : Int) + 1 < (l.length : Int) := by omega
            have HSB0 : ∀ w' : World, Below (wa).drew.heap.size (wa).drew w' → (w'.cell? ⟨N, 0, none⟩ = some (.string yst) ∧ w'.cell? ⟨N, 1, none⟩ = some (.int .i64 yix) ∧ w'.cell? ⟨N, 2, none⟩ = some (.int .i64 ysz) ∧ w'.cell? ⟨N, 3, none⟩ = some (.int .i64 ysp) ∧ w'.cell? ⟨N, 4, none⟩ = some (.int .i64 ynum) ∧ w'.cell? ⟨N, 5, none⟩ = some (.int .i64 yden) ∧ w'.cell? ⟨N, 6, none⟩ = some (.int .i64 yday) ∧ w'.cell? ⟨lb, lo + (m' + 1) * 7, none⟩ = some (.string yst) ∧ w'.cell? ⟨lb, lo + (m' + 1) * 7 + 1, none⟩ = some (.int .i64 yix) ∧ w'.cell? ⟨lb, lo + (m' + 1) * 7 + 2, none⟩ = some (.int .i64 ysz) ∧ w'.cell? ⟨lb, lo + (m' + 1) * 7 + 3, none⟩ = some (.int .i64 ysp) ∧ w'.cell? ⟨lb, lo + (m' + 1) * 7 + 4, none⟩ = some (.int .i64 ynum) ∧ w'.cell? ⟨lb, lo + (m' + 1) * 7 + 5, none⟩ = some (.int .i64 yden) ∧ w'.cell? ⟨lb, lo + (m' + 1) * 7 + 6, none⟩ = some (.int .i64 yday) ∧ w'.cell? ⟨lb, lo + m' * 7, none⟩ = some (.string xst) ∧ w'.cell? ⟨lb, lo + m' * 7 + 1, none⟩ = some (.int .i64 xix) ∧ w'.cell? ⟨lb, lo + m' * 7 + 2, none⟩ = some (.int .i64 xsz) ∧ w'.cell? ⟨lb, lo + m' * 7 + 3, none⟩ = some (.int .i64 xsp) ∧ w'.cell? ⟨lb, lo + m' * 7 + 4, none⟩ = some (.int .i64 xnum) ∧ w'.cell? ⟨lb, lo + m' * 7 + 5, none⟩ = some (.int .i64 xden) ∧ w'.cell? ⟨lb, lo + m' * 7 + 6, none⟩ = some (.int .i64 xday)) := fun w' hb => ⟨bc hb d0, bc hb d1, bc hb d2, bc hb d3, bc hb d4, bc hb d5, bc hb d6, bc hb y0, bc hb y1, bc hb y2, bc hb y3, bc hb y4, bc hb y5, bc hb y6, bc hb x0, bc hb x1, bc hb x2, bc hb x3, bc hb x4, bc hb x5, bc hb x6⟩
            refine wp_region_held_drew (S := fun w' => w'.cell? ⟨N, 0, none⟩ = some (.string yst) ∧ w'.cell? ⟨N, 1, none⟩ = some (.int .i64 yix) ∧ w'.cell? ⟨N, 2, none⟩ = some (.int .i64 ysz) ∧ w'.cell? ⟨N, 3, none⟩ = some (.int .i64 ysp) ∧ w'.cell? ⟨N, 4, none⟩ = some (.int .i64 ynum) ∧ w'.cell? ⟨N, 5, none⟩ = some (.int .i64 yden) ∧ w'.cell? ⟨N, 6, none⟩ = some (.int .i64 yday) ∧ w'.cell? ⟨lb, lo + (m' + 1) * 7, none⟩ = some (.string yst) ∧ w'.cell? ⟨lb, lo + (m' + 1) * 7 + 1, none⟩ = some (.int .i64 yix) ∧ w'.cell? ⟨lb, lo + (m' + 1) * 7 + 2, none⟩ = some (.int .i64 ysz) ∧ w'.cell? ⟨lb, lo + (m' + 1) * 7 + 3, none⟩ = some (.int .i64 ysp) ∧ w'.cell? ⟨lb, lo + (m' + 1) * 7 + 4, none⟩ = some (.int .i64 ynum) ∧ w'.cell? ⟨lb, lo + (m' + 1) * 7 + 5, none⟩ = some (.int .i64 yden) ∧ w'.cell? ⟨lb, lo + (m' + 1) * 7 + 6, none⟩ = some (.int .i64 yday) ∧ w'.cell? ⟨lb, lo + m' * 7, none⟩ = some (.string xst) ∧ w'.cell? ⟨lb, lo + m' * 7 + 1, none⟩ = some (.int .i64 xix) ∧ w'.cell? ⟨lb, lo + m' * 7 + 2, none⟩ = some (.int .i64 xsz) ∧ w'.cell? ⟨lb, lo + m' * 7 + 3, none⟩ = some (.int .i64 xsp) ∧ w'.cell? ⟨lb, lo + m' * 7 + 4, none⟩ = some (.int .i64 xnum) ∧ w'.cell? ⟨lb, lo + m' * 7 + 5, none⟩ = some (.int .i64 xden) ∧ w'.cell? ⟨lb, lo + m' * 7 + 6, none⟩ = some (.int .i64 xday)) (by kernel_rfl) (HSB0 _ (Below.refl _ _)) (fun hHeld => ?_)
            have HSB := Lib.hid HSB0
            clear HSB0
            generalize (wa).drew = Wd at *
            clear d0 d1 d2 d3 d4 d5 d6 y0 y1 y2 y3 y4 y5 y6 x0 x1 x2 x3 x4 x5 x6
            refine wpAnyH_take (i := 0) (v := ?_) rfl (by kernel_rfl) (by kernel_rfl) (by kernel_rfl) (fun _ _ _ h => h) (Or.inl ⟨by rfl, ?_⟩) (by assumption) ?_
            rotate_left; · (intro w hSw; (try dsimp only at hSw); go_simp; try with_reducible rfl)
            try simp only [Act.put, List.getElem_toArray, List.getElem_cons_zero, List.getElem_cons_succ, List.setIfInBounds_toArray, List.set_cons_zero, List.set_cons_succ]
            refine wpAnyH_take (i := 1) (v := ?_) rfl (by kernel_rfl) (by kernel_rfl) (by kernel_rfl) (fun _ _ _ h => h) (Or.inl ⟨by rfl, ?_⟩) (by assumption) ?_
            rotate_left; · (intro w hSw; (try dsimp only at hSw); go_simp; try with_reducible rfl)
            try simp only [Act.put, List.getElem_toArray, List.getElem_cons_zero, List.getElem_cons_succ, List.setIfInBounds_toArray, List.set_cons_zero, List.set_cons_succ]
            refine wpAnyH_take (i := 2) (v := ?_) rfl (by kernel_rfl) (by kernel_rfl) (by kernel_rfl) (fun _ _ _ h => h) (Or.inl ⟨by rfl, ?_⟩) (by assumption) ?_
            rotate_left; · (intro w hSw; (try dsimp only at hSw); go_simp; try with_reducible rfl)
            try simp only [Act.put, List.getElem_toArray, List.getElem_cons_zero, List.getElem_cons_succ, List.setIfInBounds_toArray, List.set_cons_zero, List.set_cons_succ]
            refine wpAnyH_take (i := 3) (v := ?_) rfl (by kernel_rfl) (by kernel_rfl) (by kernel_rfl) (fun _ _ _ h => h) (Or.inl ⟨by rfl, ?_⟩) (by assumption) ?_
            rotate_left; · (intro w hSw; (try dsimp only at hSw); go_simp; try with_reducible rfl)
            try simp only [Act.put, List.getElem_toArray, List.getElem_cons_zero, List.getElem_cons_succ, List.setIfInBounds_toArray, List.set_cons_zero, List.set_cons_succ]
            refine wpAnyH_take (i := 4) (v := ?_) rfl (by kernel_rfl) (by kernel_rfl) (by kernel_rfl) (fun _ _ _ h => h) (Or.inl ⟨by rfl, ?_⟩) (by assumption) ?_
            rotate_left; · (intro w hSw; (try dsimp only at hSw); go_simp; try with_reducible rfl)
            try simp only [Act.put, List.getElem_toArray, List.getElem_cons_zero, List.getElem_cons_succ, List.setIfInBounds_toArray, List.set_cons_zero, List.set_cons_succ]
            refine wpAnyH_take (i := 5) (v := ?_) rfl (by kernel_rfl) (by kernel_rfl) (by kernel_rfl) (fun _ _ _ h => h) (Or.inl ⟨by rfl, ?_⟩) (by assumption) ?_
            rotate_left; · (intro w hSw; (try dsimp only at hSw); go_simp; try with_reducible rfl)
            try simp only [Act.put, List.getElem_toArray, List.getElem_cons_zero, List.getElem_cons_succ, List.setIfInBounds_toArray, List.set_cons_zero, List.set_cons_succ]
            refine wpAnyH_take (i := 6) (v := ?_) rfl (by kernel_rfl) (by kernel_rfl) (by kernel_rfl) (fun _ _ _ h => h) (Or.inl ⟨by rfl, ?_⟩) (by assumption) ?_
            rotate_left; · (intro w hSw; (try dsimp only at hSw); go_simp; try with_reducible rfl)
            try simp only [Act.put, List.getElem_toArray, List.getElem_cons_zero, List.getElem_cons_succ, List.setIfInBounds_toArray, List.set_cons_zero, List.set_cons_succ]
            refine wpAnyH_take (i := 7) (v := ?_) rfl (by kernel_rfl) (by kernel_rfl) (by kernel_rfl) (fun _ _ _ h => h) (Or.inl ⟨by rfl, ?_⟩) (by assumption) ?_
            rotate_left; · (intro w hSw; (try dsimp only at hSw); go_simp; try with_reducible rfl)
            try simp only [Act.put, List.getElem_toArray, List.getElem_cons_zero, List.getElem_cons_succ, List.setIfInBounds_toArray, List.set_cons_zero, List.set_cons_succ]
            refine wpAnyH_take (i := 8) (v := ?_) rfl (by kernel_rfl) (by kernel_rfl) (by kernel_rfl) (fun _ _ _ h => h) (Or.inl ⟨by rfl, ?_⟩) (by assumption) ?_
            rotate_left; · (intro w hSw; (try dsimp only at hSw); go_simp; try with_reducible rfl)
            try simp only [Act.put, List.getElem_toArray, List.getElem_cons_zero, List.getElem_cons_succ, List.setIfInBounds_toArray, List.set_cons_zero, List.set_cons_succ]
            refine wpAnyH_take (i := 9) (v := ?_) rfl (by kernel_rfl) (by kernel_rfl) (by kernel_rfl) (fun _ _ _ h => h) (Or.inl ⟨by rfl, ?_⟩) (by assumption) ?_
            rotate_left; · (intro w hSw; (try dsimp only at hSw); go_simp; try with_reducible rfl)
            try simp only [Act.put, List.getElem_toArray, List.getElem_cons_zero, List.getElem_cons_succ, List.setIfInBounds_toArray, List.set_cons_zero, List.set_cons_succ]
            refine wpAnyH_take (i := 10) (v := ?_) rfl (by kernel_rfl) (by kernel_rfl) (by kernel_rfl) (fun _ _ _ h => h) (Or.inl ⟨by rfl, ?_⟩) (by assumption) ?_
            rotate_left; · (intro w hSw; (try dsimp only at hSw); go_simp; try with_reducible rfl)
            try simp only [Act.put, List.getElem_toArray, List.getElem_cons_zero, List.getElem_cons_succ, List.setIfInBounds_toArray, List.set_cons_zero, List.set_cons_succ]
            refine wpAnyH_take (i := 11) (v := ?_) rfl (by kernel_rfl) (by kernel_rfl) (by kernel_rfl) (fun _ _ _ h => h) (Or.inl ⟨by rfl, ?_⟩) (by assumption) ?_
            rotate_left; · (intro w hSw; (try dsimp only at hSw); go_simp; try with_reducible rfl)
            try simp only [Act.put, List.getElem_toArray, List.getElem_cons_zero, List.getElem_cons_succ, List.setIfInBounds_toArray, List.set_cons_zero, List.set_cons_succ]
            refine wpAnyH_take (i := 12) (v := ?_) rfl (by kernel_rfl) (by kernel_rfl) (by kernel_rfl) (fun _ _ _ h => h) (Or.inl ⟨by rfl, ?_⟩) (by assumption) ?_
            rotate_left; · (intro w hSw; (try dsimp only at hSw); go_simp; try with_reducible rfl)
            try simp only [Act.put, List.getElem_toArray, List.getElem_cons_zero, List.getElem_cons_succ, List.setIfInBounds_toArray, List.set_cons_zero, List.set_cons_succ]
            refine wpAnyH_take (i := 13) (v := ?_) rfl (by kernel_rfl) (by kernel_rfl) (by kernel_rfl) (fun _ _ _ h => h) (Or.inl ⟨by rfl, ?_⟩) (by assumption) ?_
            rotate_left; · (intro w hSw; (try dsimp only at hSw); go_simp; try with_reducible rfl)
            try simp only [Act.put, List.getElem_toArray, List.getElem_cons_zero, List.getElem_cons_succ, List.setIfInBounds_toArray, List.set_cons_zero, List.set_cons_succ]
            refine wpAnyH_take (i := 14) (v := ?_) rfl (by kernel_rfl) (by kernel_rfl) (by kernel_rfl) (fun _ _ _ h => h) (Or.inl ⟨by rfl, ?_⟩) (by assumption) ?_
            rotate_left; · (intro w hSw; (try dsimp only at hSw); go_simp; try with_reducible rfl)
            try simp only [Act.put, List.getElem_toArray, List.getElem_cons_zero, List.getElem_cons_succ, List.setIfInBounds_toArray, List.set_cons_zero, List.set_cons_succ]
            refine wpAnyH_take (i := 15) (v := ?_) rfl (by kernel_rfl) (by kernel_rfl) (by kernel_rfl) (fun _ _ _ h => h) (Or.inl ⟨by rfl, ?_⟩) (by assumption) ?_
            rotate_left; · (intro w hSw; (try dsimp only at hSw); go_simp; try with_reducible rfl)
            try simp only [Act.put, List.getElem_toArray, List.getElem_cons_zero, List.getElem_cons_succ, List.setIfInBounds_toArray, List.set_cons_zero, List.set_cons_succ]
            refine wpAnyH_take (i := 16) (v := ?_) rfl (by kernel_rfl) (by kernel_rfl) (by kernel_rfl) (fun _ _ _ h => h) (Or.inl ⟨by rfl, ?_⟩) (by assumption) ?_
            rotate_left; · (intro w hSw; (try dsimp only at hSw); go_simp; try with_reducible rfl)
            try simp only [Act.put, List.getElem_toArray, List.getElem_cons_zero, List.getElem_cons_succ, List.setIfInBounds_toArray, List.set_cons_zero, List.set_cons_succ]
            refine wpAnyH_take (i := 17) (v := ?_) rfl (by kernel_rfl) (by kernel_rfl) (by kernel_rfl) (fun _ _ _ h => h) (Or.inl ⟨by rfl, ?_⟩) (by assumption) ?_
            rotate_left; · (intro w hSw; (try dsimp only at hSw); go_simp; try with_reducible rfl)
            try simp only [Act.put, List.getElem_toArray, List.getElem_cons_zero, List.getElem_cons_succ, List.setIfInBounds_toArray, List.set_cons_zero, List.set_cons_succ]
            refine wpAnyH_take (i := 18) (v := ?_) rfl (by kernel_rfl) (by kernel_rfl) (by kernel_rfl) (fun _ _ _ h => h) (Or.inl ⟨by rfl, ?_⟩) (by assumption) ?_
            rotate_left; · (intro w hSw; (try dsimp only at hSw); go_simp; try with_reducible rfl)
            try simp only [Act.put, List.getElem_toArray, List.getElem_cons_zero, List.getElem_cons_succ, List.setIfInBounds_toArray, List.set_cons_zero, List.set_cons_succ]
            refine wpAnyH_take (i := 19) (v := ?_) rfl (by kernel_rfl) (by kernel_rfl) (by kernel_rfl) (fun _ _ _ h => h) (Or.inl ⟨by rfl, ?_⟩) (by assumption) ?_
            rotate_left; · (intro w hSw; (try dsimp only at hSw); go_simp; try with_reducible rfl)
            try simp only [Act.put, List.getElem_toArray, List.getElem_cons_zero, List.getElem_cons_succ, List.setIfInBounds_toArray, List.set_cons_zero, List.set_cons_succ]
            refine wpAnyH_ready (rs := [20]) (by kernel_rfl) (by simp) ?_
            refine AllReadyH.cons rfl (fun K hK => ?_) AllReadyH.nil
            go_simp
            refine (CC.out _).mono ?_; rintro e w7 ⟨rfl, hb7⟩
            go_wp2_with fail
            refine hK.out _ _ (HSB.out _ hb7) (fun hNew => ?_)
            clear hK K hHeld
            have hHeld := hNew
            clear hNew
            try simp only [Act.put, List.getElem_toArray, List.getElem_cons_zero, List.getElem_cons_succ, List.setIfInBounds_toArray, List.set_cons_zero, List.set_cons_succ]
            refine wpAnyH_take (i := 21) (v := ?_) rfl (by kernel_rfl) (by kernel_rfl) (by kernel_rfl) (fun _ _ _ h => h) (Or.inl ⟨by rfl, ?_⟩) (by assumption) ?_
            rotate_left; · (intro w hSw; (try dsimp only at hSw); go_simp; try with_reducible rfl)
            try simp only [Act.put, List.getElem_toArray, List.getElem_cons_zero, List.getElem_cons_succ, List.setIfInBounds_toArray, List.set_cons_zero, List.set_cons_succ]
            refine wpAnyH_take (i := 22) (v := ?_) rfl (by kernel_rfl) (by kernel_rfl) (by kernel_rfl) (fun _ _ _ h => h) (Or.inl ⟨by rfl, ?_⟩) (by assumption) ?_
            rotate_left; · (intro w hSw; (try dsimp only at hSw); go_simp; try with_reducible rfl)
            try simp only [Act.put, List.getElem_toArray, List.getElem_cons_zero, List.getElem_cons_succ, List.setIfInBounds_toArray, List.set_cons_zero, List.set_cons_succ]
            refine wpAnyH_take (i := 23) (v := ?_) rfl (by kernel_rfl) (by kernel_rfl) (by kernel_rfl) (fun _ _ _ h => h) (Or.inl ⟨by rfl, ?_⟩) (by assumption) ?_
            rotate_left; · (intro w hSw; (try dsimp only at hSw); go_simp; try with_reducible rfl)
            try simp only [Act.put, List.getElem_toArray, List.getElem_cons_zero, List.getElem_cons_succ, List.setIfInBounds_toArray, List.set_cons_zero, List.set_cons_succ]
            refine wpAnyH_done (by kernel_rfl) ?_ _
            have HQ7 := Lib.hid (HQD.out.below hb7)
            have HG7 := Lib.hid (gb_trans HGD.out (gb_of hb7 (some m)))
            have HB7 := Lib.hid (HBD.out.trans (hb7.mono HBD.out.size))
            clear hHeld HSB CC HEQ hb7
            go_wp2
            go_roundw
            case rel => exact ⟨m' + 1 + 1, by omega, by go_num, HG7.out, HB7.out, HQ7.out⟩
            case measure => simp [intOf]; omega
        · have hd0 : l.drop i = [] := List.drop_eq_nil_of_le (by omega)
          rw [hd0] at CX
          clear hd0 HDO
          go_upto_region 17 with fail
          go_wp2_with fail
          refine CX.out.mono ?_
          rintro e w6 hcase
          clear CX
          rcases hcase with ⟨-, rfl, hq6, hb6⟩ | ⟨f, hbf, -⟩
          rotate_left
          · exact absurd hbf.1 List.not_mem_nil
          have hbf6 : Below w.heap.size w w6 := HBX.out.trans (hb6.mono HBX.out.size)
          have HBF := Lib.hid (hbf6.trans ((sb0 (.cells #[.string ⟨#[]⟩, .int .i64 0, .int .i64 0, .int .i64 0, .int .i64 0, .int .i64 0, .int .i64 0] 27)).mono hbf6.size))
          have CN := Lib.hid (fun W (h : Below w6.heap.size w6 W) => Len_any b m _ W (hq6.below h))
          clear hq6 hb6 hbf6
          unfold zT Tk.v
          simp only
          go_wp2_with fail
          refine (CN.out _ (sb0 _)).mono ?_
          rintro e w7 ⟨rfl, rfl⟩
          clear CN
          go_wp2
          go_ret
          exact ⟨by simp, HBF.out⟩

end Go.Proofs.Ytcgilfnhbliadaa
