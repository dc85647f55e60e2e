/- Decode. -/
import Derived.Test.YtednejckcdiebaaN11
namespace Go.Proofs.Ytednejckcdiebaa
open Go.RowKit Go.Lib Go.ChangeMaps
set_option linter.unusedSimpArgs false

theorem gb_to_below {w W : World} {m B : Nat} (h : w.grownBy W (some m)) (hB : B ≤ m) (hw : B ≤ w.heap.size) : Below B w W :=
  ⟨h.os, h.tape, h.output, h.size, fun k hk => h.block k (by omega) (by intro e; injection e; omega)⟩
def finG (n : Nat) : Option (Days × List Int) → Option (Nat × Days)
  | some (M, []) => some (n, M)
  | _ => none
theorem decG_fin {D r : List Int} {n : Nat} (h : numG 0 0 D = some (n, r)) (h2 : 2 ≤ n) (h12 : n ≤ 12) : decG D = finG n (pairsG (pairL n) (fun _ _ => []) r) := by
  unfold decG
  rw [h]
  simp only
  rw [if_neg (by omega)]
  unfold finG
  rfl
def DecP (w w' : World) (D : List Int) (e : Ending) : Prop :=
  (decG D = none ∧ e = .returned (.tuple #[.pointer none, .int .i64 3]) ∧ Below w.heap.size w w') ∨
  (∃ n M k F N, decG D = some (n, M) ∧ e = .returned (.tuple #[.pointer (some ⟨k, 0, none⟩), .int .i64 0]) ∧ IsBook w' F k (n : Nat) N M ∧ (∀ b, F b → w.heap.size ≤ b ∧ b < w'.heap.size) ∧ NMax N M ∧ Below w.heap.size w w')

set_option maxRecDepth 100000 in
set_option maxHeartbeats 16000000 in
theorem Decode_any (v : Value) (D : List Int) (w : World) (hv : ReadsB w v D) (hD : Byt D) (hl : D.length ≤ 1000000) :
    Calls Try.prog 31 #[v] w fun e w' => DecP w w' D e := by
  have CR := Lib.hid (NewReader_any v D w hv hl)
  obtain ⟨a0, c0, rfl⟩ : ∃ a c, v = .slice a D.length c := by obtain ⟨ao, c, _, _, e, _⟩ := hv.at; exact ⟨ao, c, e⟩
  have HDB := Lib.hid hD
  clear hv hD
  go_enter Try.func31, Try.ntmps31
  go_wp2_with fail
  refine CR.out.mono ?_
  rintro e w1 ⟨R, a, c, db, doff, rfl, rd1, b1, l1, l2⟩
  have CU := Lib.hid (Uint_ok R a c db doff D 0 w1 rd1 HDB.out hl)
  have HB1 := Lib.hid b1
  have HL1 := Lib.hid l1
  have HL2 := Lib.hid l2
  clear CR b1 l1 l2 rd1
  go_wp2_with fail
  refine CU.out.mono ?_
  rintro e w2 ⟨g2, nv, rfl, hcase⟩
  have HB2 := Lib.hid (HB1.out.trans (gb_to_below g2 HL1.out HB1.out.size))
  have HRL2 := Lib.hid (Nat.lt_of_lt_of_le HL2.out g2.size)
  have HDN := Lib.hid (show nv < 2 ∨ 12 < nv → decG D = none from fun hn => by
    unfold decG
    rcases hcase with ⟨o, h1, _⟩ | ⟨h1, _⟩
    · rw [List.drop_zero] at h1; rw [h1]; simp only; rw [if_pos hn]
    · rw [List.drop_zero] at h1; rw [h1])
  have HCA := Lib.hid hcase
  clear hcase g2 CU
  by_cases h12 : 12 < nv
  · have q1 : (12 : Int) < (nv : Int) := by omega
    have HF := Lib.hid (HDN.out (.inr h12))
    clear h12
    go_wp2
    go_ret2
    exact .inl ⟨HF.out, rfl, HB2.out⟩
  have q1 : ¬ (12 : Int) < (nv : Int) := by omega
  have hwn : IntKind.i64.wrap (nv : Int) = (nv : Int) := by rw [IntKind.wrap_i64]; omega
  by_cases h2 : nv < 2
  · have CN := Lib.hid (new_bad nv w2 (.inl (by omega)))
    have HF := Lib.hid (HDN.out (.inl h2))
    clear h2 h12
    go_wp2_with fail
    refine CN.out.mono ?_
    rintro e w3 ⟨rfl, rfl⟩
    go_wp2
    go_ret2
    exact .inl ⟨HF.out, rfl, HB2.out⟩
  have CN := Lib.hid (new_ok nv w2 (by omega) (by omega))
  obtain ⟨o, hn0, hrd⟩ : ∃ o, numG 0 0 D = some (nv, D.drop o) ∧ RdAt w2 R a c db doff D o 0 := by
    rcases HCA.out with ⟨o, h1, h3⟩ | ⟨_, h1, _⟩
    · exact ⟨o, by simpa using h1, h3⟩
    · omega
  obtain ⟨G, hG⟩ : ∃ G, G = pairsG (pairL nv) (fun _ _ => []) (D.drop o) := ⟨_, rfl⟩
  have HDG := Lib.hid (show decG D = finG nv G by rw [hG]; exact decG_fin hn0 (by omega) (by omega))
  have HG := Lib.hid hG
  have HRD := Lib.hid hrd
  clear HCA HDN hn0 hG hrd
  go_wp2_with fail
  refine CN.out.mono ?_
  rintro e w3 ⟨rfl, b3, hk⟩
  have CP := Lib.hid (pairs_any _ nv w3 hk.cell0 (by omega))
  have HK := Lib.hid hk.tight
  have HB3 := Lib.hid b3
  obtain ⟨k, hkk⟩ : ∃ k, k = w2.heap.size + 1 := ⟨_, rfl⟩
  rw [← hkk] at CP HK ⊢
  clear CN hk b3 hkk
  go_wp2_with fail
  refine CP.out.mono ?_
  rintro e w4 ⟨u4, rfl, o4, b4⟩
  obtain ⟨ps, hps⟩ : ∃ ps, ps = pairL nv := ⟨_, rfl⟩
  have HPS := Lib.hid hps
  rw [← hps] at o4 HG
  have hpl : ps.length ≤ 144 := by
    rw [hps, ← pairTo_all]
    have hnv : nv ≤ 12 := by omega
    exact Nat.le_trans (pairTo_len nv nv) (Nat.mul_le_mul hnv hnv)
  have hp0 : 0 < ps.length := List.length_pos_of_mem (show ((0 : Int), (1 : Int)) ∈ ps by rw [hps]; exact mem_pairL.2 ⟨by omega, by omega, by omega⟩)
  obtain ⟨pa, pc, pb, po, hu4, _, _, hpcell⟩ := (o4.reads (by omega)).at
  have hpb : pa = some ⟨pb, po, none⟩ := (hpcell 0 hp0).1
  subst hpb
  subst hu4
  have hpb2 := o4.lt pb rfl
  have HST := Lib.hid (show DSt w w4 R a c db doff D w2.heap.size pb po ps k nv o 0 (-1) (fun _ _ => []) (fun b => w2.heap.size ≤ b ∧ b < w3.heap.size) from
    ⟨(HRD.out.below HB3.out).below b4, HK.out.below b4, fun b hb => ⟨hb.1, Nat.lt_of_lt_of_le hb.2 b4.size, by omega⟩, fun i hi => (hpcell i hi).2,
      ⟨HRL2.out, fun hd => cell_lt (HRD.out.2.2.2 0 hd).2, by have := HRL2.out; have := HB3.out.size; omega, HL1.out, HB2.out.size⟩,
      HB2.out.trans ((HB3.out.trans (b4.mono HB3.out.size)).mono HB2.out.size)⟩)
  have HND := Lib.hid (show ps.Nodup by rw [hps]; exact pairL_nodup nv)
  have HMEM := Lib.hid (show ∀ p ∈ ps, 0 ≤ p.1 ∧ p.1 < p.2 ∧ p.2 < nv by rw [hps]; exact fun p hp => mem_pairL.1 hp)
  clear CP HK HB3 o4 b4 hps hpcell hpb2 HRD
  have HG0 := Lib.hid (show ∀ W, G = none → Below w.heap.size w W → DecP w W D (.returned (.tuple #[.pointer none, .int .i64 3])) from fun W hg hb => .inl ⟨by rw [HDG.out, hg]; rfl, rfl, hb⟩)
  go_wp2
  go_loopw [32] (fun v32 wr => ∃ (i off : Nat) (err N : Int) (M : Days) (F : Nat → Prop), i ≤ ps.length ∧ v32 = .int .i64 i ∧ DSt w wr R a c db doff D w2.heap.size pb po ps k nv off err N M F ∧ (∀ p ∈ ps.drop i, M p.1 p.2 = []) ∧ ((err = 0 ∧ G = pairsG (ps.drop i) M (D.drop off) ∧ NMax N M) ∨ (err ≠ 0 ∧ G = none))) (fun v32 _ => ps.length - (intOf v32).toNat)
  case atStart => exact ⟨0, o, 0, -1, _, _, Nat.zero_le _, rfl, HST.out, fun _ _ => rfl, .inl ⟨rfl, HG.out, nmax_none⟩⟩
  case round =>
    obtain ⟨i, off, err, N, M, F, hi, rfl, hst, hunp, hcase⟩ := hrel
    have HUN := Lib.hid hunp
    have HSI := Lib.hid hst
    have HCI := Lib.hid hcase
    clear hcase hunp
    by_cases hlt : i < ps.length
    · obtain ⟨p0, p1⟩ := hst.prs i hlt
      have HDR := Lib.hid (drop_at hlt ((0 : Int), (0 : Int)))
      have HNDI := Lib.hid (show ps.getD i (0, 0) ∉ ps.drop (i + 1) from by
        have := List.Nodup.sublist (List.drop_sublist i ps) HND.out
        rw [drop_at hlt ((0 : Int), (0 : Int))] at this
        exact (List.nodup_cons.1 this).1)
      generalize ps.getD i (0, 0) = pr at *
      obtain ⟨p, q⟩ := pr
      simp only at p0 p1
      have hA : Below wr.heap.size wr (wr.alloc (.cells #[.int .i64 p, .int .i64 q] 72)) := sb0 _
      have hx := heap_alloc_new wr (.cells #[.int .i64 p, .int .i64 q] 72)
      have HSA := Lib.hid (HSI.out.below hA)
      have HFX := Lib.hid (show ¬ F wr.heap.size from fun e => by have := (HSI.out.own _ e).2.1; omega)
      have HPX := Lib.hid (show pb ≠ wr.heap.size from fun e => by have := cell_lt p0; omega)
      obtain ⟨X, hX⟩ : ∃ X, X = wr.heap.size := ⟨_, rfl⟩
      have HX := Lib.hid hX
      rw [← hX] at hx HFX HPX
      obtain ⟨wa, hwa⟩ : ∃ wa, wa = wr.alloc (.cells #[.int .i64 p, .int .i64 q] 72) := ⟨_, rfl⟩
      rw [← hwa] at hx HSA
      have HWA := Lib.hid hwa
      have HXX := Lib.hid hx
      have CL := Lib.hid (Left_any R a c db doff D off err wa HSA.out.rd hl)
      have hof := HSA.out.rd.2.1
      clear hA hX hwa hx hst
      go_upto_region 11 with fail
      rw [← HWA.out]
      try rw [← HX.out]
      clear p0 p1
      go_wp2_with fail
      refine CL.out.mono ?_
      rintro e w5 ⟨rfl, hb5⟩
      have HS5 := Lib.hid (HSA.out.below hb5)
      have HX5 := Lib.hid (bb hb5 HXX.out)
      clear CL hb5
      obtain ⟨most, hmost⟩ : ∃ most : Int, most = min ((D.length : Int) - off) 1000000 := ⟨_, rfl⟩
      have HMO := Lib.hid hmost
      obtain ⟨cC⟩ : Nonempty (Calls Try.prog 52 #[.pointer (some ⟨R, 0, none⟩), .int .i64 most] w5 fun e w' => ∃ (cn off' : Nat) (err' : Int), e = .returned (.int .i64 cn) ∧ cn ≤ D.length ∧ w5.grownBy w' (some R) ∧ RdAt w' R a c db doff D off' err' ∧ ((err' = 0 ∧ G = contG (ps.drop (i + 1)) M (p, q) [] (daysG cn true 0 (D.drop off')) ∧ NMax N M) ∨ (err' ≠ 0 ∧ cn = 0 ∧ G = none))) := by
        refine ⟨?_⟩
        rcases HCI.out with ⟨he, hg, hn⟩ | ⟨he, hg⟩
        · subst he
          rw [HDR.out] at hg
          rw [pairsG_cont] at hg
          have hdl : (D.drop off).length = D.length - off := List.length_drop
          refine (Count_ok R a c db doff D off most w5 (by omega) HS5.out.rd HDB.out hl).mono ?_
          rintro e w' ⟨hgr, v, rfl, ⟨o', h1, h2, h3⟩ | ⟨h1, h2, ec, h3, h4⟩⟩
          · refine ⟨v, o', 0, rfl, by omega, hgr, h3, .inl ⟨rfl, ?_, hn⟩⟩
            rw [hg, pairG_count h1, if_neg (by rw [hdl]; omega)]
          · refine ⟨v, off, ec, rfl, by omega, hgr, h4, .inr ⟨h3, h2, ?_⟩⟩
            rw [hg]
            rcases h1 with h1 | ⟨n, r, h1, h5⟩
            · rw [pairG_fail h1]; rfl
            · rw [pairG_count h1, if_pos (by rw [hdl]; omega)]; rfl
        · refine (Count_bad R a c db doff D off err most w5 HS5.out.rd he).mono ?_
          rintro e w' ⟨rfl, hb⟩
          exact ⟨0, off, err, rfl, Nat.zero_le _, gb_of hb _, HS5.out.rd.below hb, .inr ⟨he, rfl, hg⟩⟩
      have CC := Lib.hid cC
      clear cC
      rw [hmost] at CC
      clear hmost
      go_wp2_with fail
      refine CC.out.mono ?_
      rintro e w6 ⟨cn, off6, err6, rfl, hcn, hg6, hr6, hcase6⟩
      have HS6 := Lib.hid (HS5.out.read hg6 hr6)
      have HX6 := Lib.hid ((hg6.block X (Array.getElem?_eq_some_iff.1 HX5.out).1 (by intro e; injection e with e; have := HSI.out.low.1; have := (Array.getElem?_eq_some_iff.1 HX5.out).1; have := HX.out; have h9 := HSI.out.rd; obtain ⟨⟨_, h9⟩, _⟩ := h9; have := (Array.getElem?_eq_some_iff.1 h9).1; omega)).trans HX5.out)
      have HC6 := Lib.hid hcase6
      have HCN := Lib.hid hcn
      clear CC hg6 hr6 hcase6 hcn
      go_wp2
      go_loopw [10, 41] (fun v10 v41 wx => ∃ (j off : Nat) (err' N : Int) (M' : Days) (F : Nat → Prop) (done : List Int) (day : Int), j ≤ cn ∧ v41 = .int .i64 j ∧ v10 = .int .i64 day ∧ (0 ≤ day ∧ day ≤ 999999) ∧ DSt w wx R a c db doff D w2.heap.size pb po ps k nv off err' N M' F ∧
        wx.heap[X]? = some (.cells #[.int .i64 p, .int .i64 q] 72) ∧ ¬ F X ∧ done.length = j ∧ M' = setM M (p, q) done ∧ ((err' = 0 ∧ G = contG (ps.drop (i + 1)) M (p, q) done (daysG (cn - j) (decide (j = 0)) day (D.drop off)) ∧ NMax N M') ∨ (err' ≠ 0 ∧ G = none))) (fun _ v41 _ => cn - (intOf v41).toNat)
      case atStart =>
        refine ⟨0, off6, err6, N, M, F, [], 0, Nat.zero_le _, rfl, rfl, by omega, HS6.out, HX6.out, HFX.out, rfl, (setM_nil M (p, q) (HUN.out (p, q) (by rw [HDR.out]; simp))).symm, ?_⟩
        rcases HC6.out with ⟨h1, h2, h3⟩ | ⟨h1, _, h3⟩
        · exact .inl ⟨h1, h2, h3⟩
        · exact .inr ⟨h1, h3⟩
      case round =>
        obtain ⟨j, off7, err7, N7, M7, F7, done, day, hj, rfl, rfl, hday, hst7, hx7, hfx7, hdl7, hmd7, hcase7⟩ := hrel
        have HS7 := Lib.hid hst7
        have HX7 := Lib.hid hx7
        have HFX7 := Lib.hid hfx7
        have HDL7 := Lib.hid hdl7
        have HMD7 := Lib.hid hmd7
        have HC7 := Lib.hid hcase7
        clear hst7 hx7 hfx7 hdl7 hmd7 hcase7
        by_cases hjc : j < cn
        · have cU : Calls Try.prog 51 #[.pointer (some ⟨R, 0, none⟩)] wr fun e w' => ∃ (s off' : Nat) (err' : Int), e = .returned (.int .u64 s) ∧ wr.grownBy w' (some R) ∧ RdAt w' R a c db doff D off' err' ∧
              ((err' = 0 ∧ err7 = 0 ∧ numG 0 0 (D.drop off7) = some (s, D.drop off')) ∨ (err' ≠ 0 ∧ s = 0 ∧ G = none)) := by
            rcases HC7.out with ⟨he, hg, _⟩ | ⟨he, hg⟩
            · subst he
              refine (Uint_ok R a c db doff D off7 wr HS7.out.rd HDB.out hl).mono ?_
              rintro e w' ⟨hgr, v, rfl, ⟨o', h1, h2⟩ | ⟨h1, h2, h3⟩⟩
              · exact ⟨v, o', 0, rfl, hgr, h2, .inl ⟨rfl, rfl, h1⟩⟩
              · refine ⟨v, off7, 3, rfl, hgr, h3, .inr ⟨by omega, h2, ?_⟩⟩
                rw [hg, show cn - j = (cn - j - 1) + 1 by omega, contG_fail _ _ _ _ _ _ _ _ h1]
            · refine (Uint_bad R a c db doff D off7 err7 wr HS7.out.rd he).mono ?_
              rintro e w' ⟨rfl, hb⟩
              exact ⟨0, off7, err7, rfl, gb_of hb _, HS7.out.rd.below hb, .inr ⟨he, rfl, hg⟩⟩
          have CU := Lib.hid cU
          clear cU
          go_wp2_with fail
          refine CU.out.mono ?_
          rintro e w8 ⟨s, off8, err8, rfl, hg8, hr8, hcase8⟩
          have HS8 := Lib.hid (HS7.out.read hg8 hr8)
          have HX8 := Lib.hid ((hg8.block X (Array.getElem?_eq_some_iff.1 HX7.out).1 (by intro e; injection e with e; have := HX.out; have h9 := HSI.out.rd; obtain ⟨⟨_, h9⟩, _⟩ := h9; have := (Array.getElem?_eq_some_iff.1 h9).1; omega)).trans HX7.out)
          have HC8 := Lib.hid hcase8
          -- what a refusal rests on
          have HBADG := Lib.hid (show (999999 < s ∨ (decide (j = 0) = false ∧ s = 0) ∨ 999999 < day + (s : Int)) → G = none from fun hbad => by
            rcases hcase8 with ⟨_, he7, hn⟩ | ⟨_, _, hg⟩
            · rcases HC7.out with ⟨_, hg, _⟩ | ⟨he, _⟩
              · rw [hg, show cn - j = (cn - j - 1) + 1 by omega, contG_bad _ _ _ _ _ _ _ _ hn hbad]
              · exact absurd he7 he
            · exact hg)
          clear CU hg8 hr8 hcase8
          by_cases c1 : 999999 < s
          · have q2 : (999999 : Int) < (s : Int) := by omega
            have HF := Lib.hid (HBADG.out (.inl c1))
            clear c1
            go_wp2
            go_ret2
            exact HG0.out _ HF.out HS8.out.bel
          have q2 : ¬ (999999 : Int) < (s : Int) := by omega
          by_cases c2 : 0 < j ∧ s = 0
          · obtain ⟨c2, c3⟩ := c2
            have q3 : (0 : Int) < (j : Int) := by omega
            have q4 : ((s : Int) == 0) = true := by simp; omega
            have HF := Lib.hid (HBADG.out (.inr (.inl ⟨by simp; omega, c3⟩)))
            clear c1 c2 c3
            go_wp2
            go_ret2
            exact HG0.out _ HF.out HS8.out.bel
          have hws : IntKind.i64.wrap (s : Int) = (s : Int) := by rw [IntKind.wrap_i64]; omega
          have hwd : IntKind.i64.wrap (day + (s : Int)) = day + (s : Int) := by rw [IntKind.wrap_i64]; omega
          by_cases hj0 : 0 < j
          · have q3 : (0 : Int) < (j : Int) := by omega
            have q4 : ((s : Int) == 0) = false := by simp; omega
            have HNB := Lib.hid (show ¬ (decide (j = 0) = false ∧ s = 0) from fun h => c2 ⟨hj0, h.2⟩)
            clear c1 c2 hj0
            by_cases c3 : 999999 < day + (s : Int)
            · have HF := Lib.hid (HBADG.out (.inr (.inr c3)))
              go_wp2
              go_ret2
              exact HG0.out _ HF.out HS8.out.bel
            obtain ⟨d, hds⟩ : ∃ d : Int, day + (s : Int) = d := ⟨_, rfl⟩
            have HDS := Lib.hid hds
            have HD0 := Lib.hid (show 0 ≤ d ∧ d ≤ 999999 by omega)
            have hc3 : ¬ 999999 < d := by omega
            obtain ⟨mb', v0, st, Wa, v', Wb, Wc, mlt, gm, r1, r2, ea, r3, r4, r5, r6⟩ := book_append HS8.out.book p q d (by rw [HMD7.out, setM_at M (p, q), HDL7.out]; have := HCN.out; omega)
            have gm' : ∀ o, (w8.alloc o).cell? ⟨k, 1, none⟩ = some (.map (some mb')) := fun o => bc (sb0 o) gm
            have x0 : w8.cell? ⟨X, 0, none⟩ = some (.int .i64 p) := by rw [cell_of_block HX8.out]; rfl
            have x1 : w8.cell? ⟨X, 1, none⟩ = some (.int .i64 q) := by rw [cell_of_block HX8.out]; rfl
            have x0' : ∀ o, (w8.alloc o).cell? ⟨X, 0, none⟩ = some (.int .i64 p) := fun o => bc (sb0 o) x0
            have x1' : ∀ o, (w8.alloc o).cell? ⟨X, 1, none⟩ = some (.int .i64 q) := fun o => bc (sb0 o) x1
            have HK2 := Lib.hid r5.cell2
            have HKF := Lib.hid (show Wc.frozen? ⟨k, 2, none⟩ = false by
              obtain ⟨mb, L, cc, fk, fm, g1, _⟩ := r5
              exact free_of_block g1 2)
            have fk : F7 k ∨ w8.heap.size ≤ k := by obtain ⟨mb, L, cc, fk, _⟩ := r5; exact fk
            have hu := r6.trans (upd_newest (k := k) fk (.int .i64 (max N7 d)))
            have HS9 := Lib.hid (HS8.out.upd hu (book_newest r5 (max N7 d)) (by have := (HS8.out.prs i hlt).1; exact cell_lt this))
            have HX9 := Lib.hid ((hu.keep X (Array.getElem?_eq_some_iff.1 HX8.out).1 HFX7.out).trans HX8.out)
            have HFX9 := Lib.hid (show ¬ (F7 X ∨ w8.heap.size ≤ X) from fun h => h.elim HFX7.out (fun h => by have := (Array.getElem?_eq_some_iff.1 HX8.out).1; omega))
            have HC9 := Lib.hid (show (err8 = 0 ∧ G = contG (ps.drop (i + 1)) M (p, q) (done ++ [d]) (daysG (cn - (j + 1)) (decide (j + 1 = 0)) d (D.drop off8)) ∧ NMax (max N7 d) (addM M7 p q d)) ∨ (err8 ≠ 0 ∧ G = none) by
              rcases HC8.out with ⟨e8, e7, hn⟩ | ⟨e8, _, hg⟩
              · refine .inl ⟨e8, ?_⟩
                rcases HC7.out with ⟨_, hg, hnm⟩ | ⟨he, _⟩
                · refine ⟨?_, nmax_add hnm p q d HD0.out.1⟩
                  rw [hg, show cn - j = (cn - (j + 1)) + 1 by omega, contG_step _ _ _ _ _ _ _ _ hn (fun h => h.elim (fun h => by omega) (fun h => h.elim HNB.out (fun h => by omega))), HDS.out]
                  rfl
                · exact absurd e7 he
              · exact .inr ⟨e8, hg⟩)
            have HMD9 := Lib.hid (show addM M7 p q d = setM M (p, q) (done ++ [d]) by rw [HMD7.out]; exact addM_set M (p, q) done d)
            clear r5 r6 hu c3 fk
            have hcnv : cn ≤ 1000000 := by have := HCN.out; omega
            go_upto_region 21 with fail
            go_region_law (refine step_append_run (by rfl) (.tmp 67) (.tmp 69) 39 (by rfl) v0 (.slice (some ⟨w8.heap.size, 0, none⟩) 1 1) v' Wb (by rfl) (by rfl) r3 ?_)
            all_goals
              clear r1 r2 r3 r4 gm gm' x0 x1 x0' x1' ea
              have k2 := HK2.out
              have f2 := HKF.out
              go_wp2
              go_roundw
              case rel => exact ⟨j + 1, off8, err8, max N7 d, addM M7 p q d, _, done ++ [d], d, by omega, by go_num, rfl, HD0.out, HS9.out, HX9.out, fun h => HFX9.out h.1, by rw [List.length_append, HDL7.out]; rfl, HMD9.out, HC9.out⟩
              case measure => simp [intOf]; omega
          · have q3 : ¬ (0 : Int) < (j : Int) := by omega
            have HNB := Lib.hid (show ¬ (decide (j = 0) = false ∧ s = 0) from fun h => by have := h.1; simp at this; omega)
            clear c1 c2 hj0
            by_cases c3 : 999999 < day + (s : Int)
            · have HF := Lib.hid (HBADG.out (.inr (.inr c3)))
              go_wp2
              go_ret2
              exact HG0.out _ HF.out HS8.out.bel
            obtain ⟨d, hds⟩ : ∃ d : Int, day + (s : Int) = d := ⟨_, rfl⟩
            have HDS := Lib.hid hds
            have HD0 := Lib.hid (show 0 ≤ d ∧ d ≤ 999999 by omega)
            have hc3 : ¬ 999999 < d := by omega
            obtain ⟨mb', v0, st, Wa, v', Wb, Wc, mlt, gm, r1, r2, ea, r3, r4, r5, r6⟩ := book_append HS8.out.book p q d (by rw [HMD7.out, setM_at M (p, q), HDL7.out]; have := HCN.out; omega)
            have gm' : ∀ o, (w8.alloc o).cell? ⟨k, 1, none⟩ = some (.map (some mb')) := fun o => bc (sb0 o) gm
            have x0 : w8.cell? ⟨X, 0, none⟩ = some (.int .i64 p) := by rw [cell_of_block HX8.out]; rfl
            have x1 : w8.cell? ⟨X, 1, none⟩ = some (.int .i64 q) := by rw [cell_of_block HX8.out]; rfl
            have x0' : ∀ o, (w8.alloc o).cell? ⟨X, 0, none⟩ = some (.int .i64 p) := fun o => bc (sb0 o) x0
            have x1' : ∀ o, (w8.alloc o).cell? ⟨X, 1, none⟩ = some (.int .i64 q) := fun o => bc (sb0 o) x1
            have HK2 := Lib.hid r5.cell2
            have HKF := Lib.hid (show Wc.frozen? ⟨k, 2, none⟩ = false by
              obtain ⟨mb, L, cc, fk, fm, g1, _⟩ := r5
              exact free_of_block g1 2)
            have fk : F7 k ∨ w8.heap.size ≤ k := by obtain ⟨mb, L, cc, fk, _⟩ := r5; exact fk
            have hu := r6.trans (upd_newest (k := k) fk (.int .i64 (max N7 d)))
            have HS9 := Lib.hid (HS8.out.upd hu (book_newest r5 (max N7 d)) (by have := (HS8.out.prs i hlt).1; exact cell_lt this))
            have HX9 := Lib.hid ((hu.keep X (Array.getElem?_eq_some_iff.1 HX8.out).1 HFX7.out).trans HX8.out)
            have HFX9 := Lib.hid (show ¬ (F7 X ∨ w8.heap.size ≤ X) from fun h => h.elim HFX7.out (fun h => by have := (Array.getElem?_eq_some_iff.1 HX8.out).1; omega))
            have HC9 := Lib.hid (show (err8 = 0 ∧ G = contG (ps.drop (i + 1)) M (p, q) (done ++ [d]) (daysG (cn - (j + 1)) (decide (j + 1 = 0)) d (D.drop off8)) ∧ NMax (max N7 d) (addM M7 p q d)) ∨ (err8 ≠ 0 ∧ G = none) by
              rcases HC8.out with ⟨e8, e7, hn⟩ | ⟨e8, _, hg⟩
              · refine .inl ⟨e8, ?_⟩
                rcases HC7.out with ⟨_, hg, hnm⟩ | ⟨he, _⟩
                · refine ⟨?_, nmax_add hnm p q d HD0.out.1⟩
                  rw [hg, show cn - j = (cn - (j + 1)) + 1 by omega, contG_step _ _ _ _ _ _ _ _ hn (fun h => h.elim (fun h => by omega) (fun h => h.elim HNB.out (fun h => by omega))), HDS.out]
                  rfl
                · exact absurd e7 he
              · exact .inr ⟨e8, hg⟩)
            have HMD9 := Lib.hid (show addM M7 p q d = setM M (p, q) (done ++ [d]) by rw [HMD7.out]; exact addM_set M (p, q) done d)
            clear r5 r6 hu c3 fk
            have hcnv : cn ≤ 1000000 := by have := HCN.out; omega
            go_upto_region 21 with fail
            go_region_law (refine step_append_run (by rfl) (.tmp 67) (.tmp 69) 39 (by rfl) v0 (.slice (some ⟨w8.heap.size, 0, none⟩) 1 1) v' Wb (by rfl) (by rfl) r3 ?_)
            all_goals
              clear r1 r2 r3 r4 gm gm' x0 x1 x0' x1' ea
              have k2 := HK2.out
              have f2 := HKF.out
              go_wp2
              go_roundw
              case rel => exact ⟨j + 1, off8, err8, max N7 d, addM M7 p q d, _, done ++ [d], d, by omega, by go_num, rfl, HD0.out, HS9.out, HX9.out, fun h => HFX9.out h.1, by rw [List.length_append, HDL7.out]; rfl, HMD9.out, HC9.out⟩
              case measure => simp [intOf]; omega
        · have HUN9 := Lib.hid (show ∀ x ∈ ps.drop (i + 1), M7 x.1 x.2 = [] from fun x hx => by
            rw [HMD7.out]
            unfold setM
            rw [if_neg (fun h => HNDI.out (by have : x = (p, q) := Prod.ext h.1 h.2; rw [← this]; exact hx))]
            exact HUN.out x (by rw [HDR.out]; exact List.mem_cons_of_mem _ hx))
          have HC9 := Lib.hid (show (err7 = 0 ∧ G = pairsG (ps.drop (i + 1)) M7 (D.drop off7) ∧ NMax N7 M7) ∨ (err7 ≠ 0 ∧ G = none) by
            rcases HC7.out with ⟨h1, h2, h3⟩ | h
            · refine .inl ⟨h1, ?_, h3⟩
              rw [h2, show cn - j = 0 by omega, contG_done, HMD7.out]
            · exact .inr h)
          go_wp2
          go_roundw
          case rel => exact ⟨i + 1, off7, err7, N7, M7, F7, by omega, by go_num, HS7.out, HUN9.out, HC9.out⟩
          case measure => simp [intOf]; omega
    · have hie : ps.drop i = [] := List.drop_eq_nil_of_le (by omega)
      have CE := Lib.hid (End_any R a c db doff D off err wr HSI.out.rd)
      rw [hie] at HCI
      clear hst hie
      go_wp2_with fail
      refine CE.out.mono ?_
      rintro e w5 ⟨hb5, x, ec, rfl, hiff⟩
      have HS5 := Lib.hid (HSI.out.below hb5)
      have HIF := Lib.hid hiff
      clear CE hb5 hiff
      by_cases hec : ec = 0
      · have q5 : (ec != 0) = false := by simp [hec]
        obtain ⟨h1, h2⟩ := HIF.out.1 hec
        have hg : G = some (M, []) ∧ NMax N M := by
          rcases HCI.out with ⟨_, hg, hn⟩ | ⟨he, _⟩
          · refine ⟨?_, hn⟩
            rw [hg, pairsG, List.drop_eq_nil_of_le (by omega)]
          · exact absurd h1 he
        have HGG := Lib.hid hg
        clear hec h1 h2 hg
        go_wp2
        go_ret2
        exact .inr ⟨nv, M, k, F, N, by rw [HDG.out, HGG.out.1]; rfl, rfl, HS5.out.book, fun b hb => ⟨Nat.le_trans HS5.out.low.2.2.2.2 (HS5.out.own b hb).1, (HS5.out.own b hb).2.1⟩, HGG.out.2, HS5.out.bel⟩
      · have q5 : (ec != 0) = true := by simp [hec]
        have HGG := Lib.hid (show decG D = none by
          rw [HDG.out]
          rcases HCI.out with ⟨he, hg, _⟩ | ⟨_, hg⟩
          · have hof := HS5.out.rd.2.1
            have hlt2 : off < D.length := by
              rcases Nat.lt_or_ge off D.length with h | h
              · exact h
              · exact absurd (HIF.out.2 ⟨he, by omega⟩) hec
            rw [hg, pairsG, drop_cons hlt2]
            rfl
          · rw [hg]; rfl)
        clear hec
        go_wp2
        go_ret2
        exact .inl ⟨HGG.out, rfl, HS5.out.bel⟩

end Go.Proofs.Ytednejckcdiebaa
