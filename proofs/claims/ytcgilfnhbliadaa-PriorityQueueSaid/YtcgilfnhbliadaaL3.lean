/- The law Bounds, walked. -/
import Derived.Test.YtcgilfnhbliadaaE1
import Derived.Deep.RegionHeld3
namespace Go.Proofs.Ytcgilfnhbliadaa
open Go.RowKit Go.Lib Go.ChangeMaps
set_option linter.unusedSimpArgs false

theorem cutP_first {ts : List Tk} {b : Int} {t : Tk} (h : AllOk ts) (ht : t ∈ ts) (hs : t.size ≤ b) (hm : ∀ u ∈ ts, cmpT t u ≤ 0) : t ∈ cutP (orderP ts) b := by
  have ho := orderP_ok h
  have hsr := orderP_srt h
  have hmem := orderP_mem h
  generalize orderP ts = l at *
  match l with
  | [] => exact absurd ((hmem t).2 ht) List.not_mem_nil
  | x :: r =>
    have hx : x ∈ ts := (hmem x).1 (List.mem_cons_self ..)
    have kx := ho x (List.mem_cons_self ..)
    have e : t = x := by
      rcases List.mem_cons.1 ((hmem t).2 ht) with e | hr
      · exact e
      · have h1 := (List.pairwise_cons.1 hsr).1 t hr
        have h2 := hm x hx
        have h3 := cmpT_cm.neg x t kx (h t ht)
        omega
    subst e
    rw [cutP, if_pos hs]
    exact List.mem_cons_self ..
theorem srt_next {l : List Tk} (h : Srt l) {i : Nat} (hi : i + 1 < l.length) : cmpT (l.getD i default) (l.getD (i + 1) default) < 0 := by
  rw [getD_at _ _ _ (by omega), getD_at _ _ _ hi]
  exact List.pairwise_iff_getElem.1 h i (i + 1) (by omega) hi (by omega)
theorem cmpT_lt_neg {a b : Tk} (h : cmpT a b < 0) : cmpT a b = -1 := by rcases cmpT_cm.rng a b with e | e | e <;> omega
theorem sumP_take (l : List Tk) (i : Nat) (h : i < l.length) : sumP (l.take (i + 1)) = sumP (l.take i) + (l.getD i default).size := by
  rw [List.take_succ_eq_append_getElem h, ← getD_at _ _ default h]
  exact sumP_snoc _ _
theorem sumP_le {l : List Tk} (h : AllOk l) : sumP l ≤ l.length * 1048576 := by
  induction l with
  | nil => simp [sumP]
  | cons x r ih =>
    have h1 := (h x (List.mem_cons_self ..)).2.2.1
    have h2 := ih fun t ht => h t (List.mem_cons_of_mem _ ht)
    simp only [sumP, List.map_cons, List.sum_cons, List.length_cons] at *
    omega

set_option maxRecDepth 100000 in
set_option maxHeartbeats 4000000 in
theorem has_any (v : Value) (ts : List Tk) (t : Tk) (w : World) (hj : ReadsT w v ts) :
    Calls Try.prog 22 #[v, t.v] w fun e w' => e = .returned (.bool (decide (t ∈ ts))) ∧ Below w.heap.size w w' := by
  obtain ⟨ja, jc, jb, jo, rfl, -, jm, jcell⟩ := hj.at
  have JC := Lib.hid jcell
  clear jcell hj
  obtain ⟨r, hr⟩ : ∃ r, r = decide (t ∈ ts) := ⟨_, rfl⟩
  rw [← hr]
  have HR := Lib.hid hr
  have HEQ := Lib.hid (fun x W => eqIn27 x t W)
  obtain ⟨tt, htt⟩ : ∃ tt, tt = t := ⟨_, rfl⟩
  rw [← htt] at HR
  obtain ⟨tst, tix, tsz, tsp, tnum, tden, tday⟩ := t
  have HTT := Lib.hid htt
  clear hr htt
  have hAl : Below w.heap.size w (w.alloc (.cells #[.string tst, .int .i64 tix, .int .i64 tsz, .int .i64 tsp, .int .i64 tnum, .int .i64 tden, .int .i64 tday] 27)) := (Below.refl _ _).alloc (Nat.le_refl _) _
  have HBX := Lib.hid (heap_alloc_new w (.cells #[.string tst, .int .i64 tix, .int .i64 tsz, .int .i64 tsp, .int .i64 tnum, .int .i64 tden, .int .i64 tday] 27))
  obtain ⟨w1, hw1⟩ : ∃ w1, w1 = w.alloc (.cells #[.string tst, .int .i64 tix, .int .i64 tsz, .int .i64 tsp, .int .i64 tnum, .int .i64 tden, .int .i64 tday] 27) := ⟨_, rfl⟩
  rw [← hw1] at hAl HBX
  have HW1 := Lib.hid hw1
  clear hw1
  unfold Tk.v
  simp only
  go_enter Try.func22, Try.ntmps22
  go_wp2
  rw [← HW1.out]
  clear HW1
  go_loopw [9, 6] (fun v9 _ wr => ∃ i : Nat, i ≤ ts.length ∧ v9 = .int .i64 i ∧ tt ∉ ts.take i ∧ Below w1.heap.size w1 wr) (fun v9 _ _ => ts.length - (intOf v9).toNat)
  case atStart => exact ⟨0, Nat.zero_le _, rfl, by simp, Below.refl _ _⟩
  case round =>
    obtain ⟨i, hi, rfl, hno, hbel⟩ := hrel
    have HN := Lib.hid hno
    have zr := hbel.size
    have hbw := hAl.trans (hbel.mono hAl.size)
    clear hno
    by_cases hlt : i < ts.length
    · obtain ⟨rfl, d0, d1, d2, d3, d4, d5, d6⟩ := JC.out i hlt
      have d0 := bc hbw d0
      have d1 := bc hbw d1
      have d2 := bc hbw d2
      have d3 := bc hbw d3
      have d4 := bc hbw d4
      have d5 := bc hbw d5
      have d6 := bc hbw d6
      have hms := mem_take_succ ts tt i hlt
      rw [← getD_at _ _ default hlt] at hms
      have HMS := Lib.hid hms
      have HG := Lib.hid (show ts.getD i default ∈ ts by rw [getD_at _ _ _ hlt]; exact List.getElem_mem hlt)
      have hq := HEQ.out (ts.getD i default)
      generalize ts.getD i default = y at *
      have hA : Below wr.heap.size wr (wr.alloc (.cells #[.string y.st, .int .i64 y.ix, .int .i64 y.size, .int .i64 y.spare, .int .i64 y.num, .int .i64 y.den, .int .i64 y.day] 27)) := sb0 _
      have hbx := bb hA (bb hbel HBX.out)
      have z0 := cell_of_row _ _ 0 _ _ _ hbx
      have z1 := cell_of_row _ _ 1 _ _ _ hbx
      have z2 := cell_of_row _ _ 2 _ _ _ hbx
      have z3 := cell_of_row _ _ 3 _ _ _ hbx
      have z4 := cell_of_row _ _ 4 _ _ _ hbx
      have z5 := cell_of_row _ _ 5 _ _ _ hbx
      have z6 := cell_of_row _ _ 6 _ _ _ hbx
      by_cases hy : y = tt
      · obtain rfl : r = true := by rw [HR.out]; exact decide_eq_true (hy ▸ HG.out)
        rw [HTT.out] at hy
        rw [decide_eq_true hy] at hq
        clear hms hbx HMS HG hy
        obtain ⟨yst, yix, ysz, ysp, ynum, yden, yday⟩ := y
        unfold Tk.v at hq
        simp only at d0 d1 d2 d3 d4 d5 d6 hq
        go_wp2
        go_ret
        exact ⟨rfl, hbw.alloc hbw.size _⟩
      · have HN2 := Lib.hid (show tt ∉ ts.take (i + 1) from fun h => by
          rcases HMS.out.1 h with h | h
          · exact HN.out h
          · exact hy h.symm)
        rw [HTT.out] at hy
        rw [decide_eq_false hy] at hq
        clear hms hbx HMS HG hy
        obtain ⟨yst, yix, ysz, ysp, ynum, yden, yday⟩ := y
        unfold Tk.v at hq
        simp only at d0 d1 d2 d3 d4 d5 d6 hq
        go_wp2
        go_roundw
        case rel => exact ⟨i + 1, by omega, by go_num, HN2.out, hbel.alloc zr _⟩
        case measure => simp [intOf]; omega
    · have HT := Lib.hid (show ts.take i = ts from List.take_of_length_le (by omega))
      rw [HT.out] at HN
      obtain rfl : r = false := by rw [HR.out]; exact decide_eq_false HN.out
      go_wp2
      go_ret
      exact ⟨rfl, hbw⟩

/-- THE LAW -/
theorem bounds_mem {ts : List Tk} {b : Int} (h : AllOk ts) {t : Tk} (ht : t ∈ cutP (orderP ts) b) : t ∈ ts := (orderP_mem h t).1 ((cutP_sub _ _).subset ht)
set_option maxRecDepth 100000 in
set_option maxHeartbeats 32000000 in
theorem law_bounds (v : Value) (ts : List Tk) (b : Int) (w : World) (hv : ReadsT w v ts) (hb : b ≤ 9223372036854775807) : Calls Try.prog 6 #[v, .int .i64 b] w fun e w' => e = .returned (.bool true) ∧ Below w.heap.size w w' := by
  have HV := Lib.hid hv
  obtain ⟨ja, jc, _, _, rfl, -⟩ := hv.at
  clear hv
  have HBB := Lib.hid hb
  have CA := Lib.hid (fun W => awake_any W)
  have CF := Lib.hid (fun W (h : Below w.heap.size w W) => few_any _ _ _ (reads_one (HV.out.below h)))
  clear hb
  go_enter Try.func6, Try.ntmps6
  go_wp2_with fail
  refine (CA.out _).mono ?_
  rintro e w1 ⟨rfl, hb1⟩
  have CF1 := Lib.hid (CF.out w1 hb1)
  clear CF
  go_wp2_with fail
  refine CF1.out.mono ?_
  rintro e w2 ⟨rfl, hb2⟩
  have hbw := hb1.trans (((sb0 _).trans (hb2.mono (sb0 _).size)).mono hb1.size)
  clear CF1
  by_cases hf : FewL [(Value.slice ja ts.length jc, ts)]
  rotate_left
  · rw [decide_eq_false hf]
    clear hf hb1 hb2
    go_wp2_with fail
    refine (CA.out _).mono ?_
    rintro e w3 ⟨rfl, hb3⟩
    go_wp2
    go_ret
    exact ⟨rfl, hbw.trans (hb3.mono hbw.size)⟩
  rw [decide_eq_true hf]
  have hn : ts.length ≤ 20 := ((fewL_one _ _).1 hf).1
  clear hf hb1 hb2
  have CO := Lib.hid (Cut_any _ ts b w2 (HV.out.below hbw) (by omega) HBB.out)
  go_wp2_with fail
  refine CO.out.mono ?_
  rintro e w3 ⟨hb3, hcase⟩
  have hbw3 := hbw.trans (hb3.mono hbw.size)
  clear CO hb3 hbw
  rcases hcase with ⟨_, rfl⟩ | ⟨⟨hok, h0b⟩, u, rfl, hr⟩
  · go_wp2
    go_ret
    exact ⟨by simp, hbw3⟩
  have HOK := Lib.hid hok
  have HCM := Lib.hid (fun t (h : t ∈ cutP (orderP ts) b) => bounds_mem hok h)
  have HCO := Lib.hid (show AllOk (cutP (orderP ts) b) from fun t h => hok t (bounds_mem hok h))
  have HCS := Lib.hid (show Srt (cutP (orderP ts) b) from (orderP_srt hok).sublist (cutP_sub _ _))
  have HCN := Lib.hid (show (cutP (orderP ts) b).length ≤ 20 from Nat.le_trans (cutP_len _ _) (Nat.le_trans (orderP_len hok) hn))
  have HCB := Lib.hid (show sumP (cutP (orderP ts) b) ≤ b from cutP_sum (orderP_ok hok) h0b)
  have HC0 := Lib.hid (show 0 ≤ sumP (cutP (orderP ts) b) from sumP_nonneg HCO.out)
  have HCP := Lib.hid (fun t (ht : t ∈ ts) (h : t ∉ cutP (orderP ts) b) => cutP_passed (orderP_ok hok) ((orderP_mem hok t).2 ht) h)
  have HCF := Lib.hid (fun t (ht : t ∈ ts) (hs : t.size ≤ b) (hm : ∀ u ∈ ts, cmpT t u ≤ 0) => cutP_first (b := b) hok ht hs hm)
  obtain ⟨l, hl⟩ : ∃ l, l = cutP (orderP ts) b := ⟨_, rfl⟩
  rw [← hl] at HCM HCO HCS HCN HCB HC0 HCP HCF hr ⊢
  have hlen := HCN.out
  obtain ⟨n, hnn⟩ : ∃ n, n = sumP l := ⟨_, rfl⟩
  rw [← hnn] at HCB HC0 HCP ⊢
  have HNN := Lib.hid hnn
  have hnb := HCB.out
  have hn0 := HC0.out
  have HRL := Lib.hid hr
  obtain ⟨la, lc, lb, lo, rfl, -, lm, lcell⟩ := hr.at
  have LC := Lib.hid lcell
  obtain ⟨_, _, jb, jo, hje, -, jm, jcell⟩ := HV.out.at
  cases hje
  have JC := Lib.hid jcell
  clear hok hl hnn hr lcell jcell
  go_wp2
  go_loopw [43, 8, 9, 10] (fun v43 v8 _ _ wr => ∃ (i : Nat) (sum : Int), i ≤ l.length ∧ v43 = .int .i64 i ∧ v8 = .int .i64 sum ∧ sum = sumP (l.take i) ∧ Below w3.heap.size w3 wr) (fun v43 _ _ _ _ => l.length - (intOf v43).toNat)
  case atStart => exact ⟨0, 0, Nat.zero_le _, rfl, rfl, by simp [sumP], Below.refl _ _⟩
  case round =>
    obtain ⟨i, sum, hi, rfl, rfl, hsum, hbel⟩ := hrel
    have HS := Lib.hid hsum
    have HBEL := Lib.hid hbel
    have zr := hbel.size
    have hbw := hbw3.trans (hbel.mono hbw3.size)
    have HBW := Lib.hid hbw
    clear hsum
    by_cases hlt : i < l.length
    · obtain ⟨rfl, e0, e1, e2, e3, e4, e5, e6⟩ := LC.out i hlt
      have d0 := bc hbel e0
      have d1 := bc hbel e1
      have d2 := bc hbel e2
      have d3 := bc hbel e3
      have d4 := bc hbel e4
      have d5 := bc hbel e5
      have d6 := bc hbel e6
      have HST := Lib.hid (sumP_take l i hlt)
      have hyl : l.getD i default ∈ l := by rw [getD_at _ _ _ hlt]; exact List.getElem_mem hlt
      have HYO := Lib.hid (HCO.out _ hyl)
      have HYM := Lib.hid (HCM.out _ hyl)
      have HNX := Lib.hid (fun (m : Nat) (h : i = m + 1) => cmpT_lt_neg (srt_next HCS.out (i := m) (by omega)))
      have hys := HYO.out.2.2.1
      have hsl := sumP_le (l := l.take i) (fun t ht => HCO.out t (List.mem_of_mem_take ht))
      have hs0 := sumP_nonneg (l := l.take i) (fun t ht => HCO.out t (List.mem_of_mem_take ht))
      have hsi : (l.take i).length ≤ 20 := by rw [List.length_take]; omega
      rw [← HS.out] at hsl hs0 HST
      have CH := Lib.hid (fun W (h : Below w.heap.size w W) => has_any _ ts (l.getD i default) W (HV.out.below h))
      rw [decide_eq_true HYM.out] at CH
      have CC := Lib.hid (fun m (h : i = m + 1) W => compare_any (l.getD m default) (l.getD (m + 1) default) W (HCO.out _ (by rw [getD_at _ _ _ (by omega)]; exact List.getElem_mem _)) (HCO.out _ (by rw [getD_at _ _ _ (by omega)]; exact List.getElem_mem _)))
      obtain ⟨y, hy⟩ : ∃ y, y = l.getD i default := ⟨_, rfl⟩
      rw [← hy] at CH d0 d1 d2 d3 d4 d5 d6 hys HST
      have HY := Lib.hid hy
      clear hy hyl HYM
      obtain ⟨yst, yix, ysz, ysp, ynum, yden, yday⟩ := y
      simp only at d0 d1 d2 d3 d4 d5 d6 hys HST CH
      unfold Tk.v at CH CC
      simp only at CH CC
      have hA : Below wr.heap.size wr (wr.alloc (.cells #[.string yst, .int .i64 yix, .int .i64 ysz, .int .i64 ysp, .int .i64 ynum, .int .i64 yden, .int .i64 yday] 27)) := sb0 _
      have HRW := Lib.hid (heap_alloc_new wr (.cells #[.string yst, .int .i64 yix, .int .i64 ysz, .int .i64 ysp, .int .i64 ynum, .int .i64 yden, .int .i64 yday] 27))
      obtain ⟨N, hN⟩ : ∃ N, N = wr.heap.size := ⟨_, rfl⟩
      obtain ⟨wa, hwa⟩ : ∃ wa, wa = wr.alloc (.cells #[.string yst, .int .i64 yix, .int .i64 ysz, .int .i64 ysp, .int .i64 ynum, .int .i64 yden, .int .i64 yday] 27) := ⟨_, rfl⟩
      rw [← hwa] at hA HRW
      rw [← hN] at HRW
      have HWA := Lib.hid hwa
      have HN := Lib.hid hN
      have hb3a := hbel.trans (hA.mono zr)
      have HB3A := Lib.hid hb3a
      have hza := hA.size
      have hNa : N < wa.heap.size := (Array.getElem?_eq_some_iff.1 HRW.out).1
      clear hwa hN e0 e1 e2 e3 e4 e5 e6 hbel hbw
      go_upto_region 10 with fail
      rw [← HWA.out]
      try rw [← HN.out]
      clear HWA d0 d1 d2 d3 d4 d5 d6 hA
      have HRD := Lib.hid (show wa.drew.heap[N]? = _ from HRW.out)
      have HBD := Lib.hid hb3a.drew
      have d0 := cell_of_row wa _ 0 _ _ _ HRW.out
      have d1 := cell_of_row wa _ 1 _ _ _ HRW.out
      have d2 := cell_of_row wa _ 2 _ _ _ HRW.out
      have d3 := cell_of_row wa _ 3 _ _ _ HRW.out
      have d4 := cell_of_row wa _ 4 _ _ _ HRW.out
      have d5 := cell_of_row wa _ 5 _ _ _ HRW.out
      have d6 := cell_of_row wa _ 6 _ _ _ HRW.out
      clear hb3a zr hza
      have hw : IntKind.i64.wrap (sum + ysz) = sum + ysz := by rw [IntKind.wrap_i64]; omega
      rcases Nat.eq_zero_or_pos i with hi0 | hi0
      · subst hi0
        have HSB0 : ∀ w' : World, Below (wa).drew.heap.size (wa).drew w' → (w'.cell? ⟨N, 0, none⟩ = some (.string yst) ∧ w'.cell? ⟨N, 1, none⟩ = some (.int .i64 yix) ∧ w'.cell? ⟨N, 2, none⟩ = some (.int .i64 ysz) ∧ w'.cell? ⟨N, 3, none⟩ = some (.int .i64 ysp) ∧ w'.cell? ⟨N, 4, none⟩ = some (.int .i64 ynum) ∧ w'.cell? ⟨N, 5, none⟩ = some (.int .i64 yden) ∧ w'.cell? ⟨N, 6, none⟩ = some (.int .i64 yday)) := fun w' hb => ⟨bc hb d0, bc hb d1, bc hb d2, bc hb d3, bc hb d4, bc hb d5, bc hb d6⟩
        refine wp_region_held_drew (S := fun w' => w'.cell? ⟨N, 0, none⟩ = some (.string yst) ∧ w'.cell? ⟨N, 1, none⟩ = some (.int .i64 yix) ∧ w'.cell? ⟨N, 2, none⟩ = some (.int .i64 ysz) ∧ w'.cell? ⟨N, 3, none⟩ = some (.int .i64 ysp) ∧ w'.cell? ⟨N, 4, none⟩ = some (.int .i64 ynum) ∧ w'.cell? ⟨N, 5, none⟩ = some (.int .i64 yden) ∧ w'.cell? ⟨N, 6, none⟩ = some (.int .i64 yday)) (by kernel_rfl) (HSB0 _ (Below.refl _ _)) (fun hHeld => ?_)
        have HSB := Lib.hid HSB0
        clear HSB0
        generalize (wa).drew = Wd at *
        clear d0 d1 d2 d3 d4 d5 d6
        refine wpAnyH_take (i := 0) (v := ?_) rfl (by kernel_rfl) (by kernel_rfl) (by kernel_rfl) (fun _ _ _ h => h) (Or.inl ⟨by rfl, ?_⟩) (by assumption) ?_
        rotate_left; · (intro w hSw; (try dsimp only at hSw); go_simp; try with_reducible rfl)
        try simp only [Act.put, List.getElem_toArray, List.getElem_cons_zero, List.getElem_cons_succ, List.setIfInBounds_toArray, List.set_cons_zero, List.set_cons_succ]
        refine wpAnyH_take (i := 1) (v := ?_) rfl (by kernel_rfl) (by kernel_rfl) (by kernel_rfl) (fun _ _ _ h => h) (Or.inl ⟨by rfl, ?_⟩) (by assumption) ?_
        rotate_left; · (intro w hSw; (try dsimp only at hSw); go_simp; try with_reducible rfl)
        try simp only [Act.put, List.getElem_toArray, List.getElem_cons_zero, List.getElem_cons_succ, List.setIfInBounds_toArray, List.set_cons_zero, List.set_cons_succ]
        refine wpAnyH_ready (rs := [2]) (by kernel_rfl) (by simp) ?_
        refine AllReadyH.cons rfl (fun K hK => ?_) AllReadyH.nil
        go_simp
        refine (CH.out _ (hbw3.trans (HBD.out.mono hbw3.size))).mono ?_; rintro e w5 ⟨rfl, hb5⟩
        go_wp2_with fail
        refine hK.out _ _ (HSB.out _ hb5) (fun hNew => ?_)
        clear hK K hHeld
        have hHeld := hNew
        clear hNew
        try simp only [Act.put, List.getElem_toArray, List.getElem_cons_zero, List.getElem_cons_succ, List.setIfInBounds_toArray, List.set_cons_zero, List.set_cons_succ]
        refine wpAnyH_take (i := 3) (v := ?_) rfl (by kernel_rfl) (by kernel_rfl) (by kernel_rfl) (fun _ _ _ h => h) (Or.inl ⟨by rfl, ?_⟩) (by assumption) ?_
        rotate_left; · (intro w hSw; (try dsimp only at hSw); go_simp; try with_reducible rfl)
        try simp only [Act.put, List.getElem_toArray, List.getElem_cons_zero, List.getElem_cons_succ, List.setIfInBounds_toArray, List.set_cons_zero, List.set_cons_succ]
        refine wpAnyH_take (i := 4) (v := ?_) rfl (by kernel_rfl) (by kernel_rfl) (by kernel_rfl) (fun _ _ _ h => h) (Or.inl ⟨by rfl, ?_⟩) (by assumption) ?_
        rotate_left; · (intro w hSw; (try dsimp only at hSw); go_simp; try with_reducible rfl)
        try simp only [Act.put, List.getElem_toArray, List.getElem_cons_zero, List.getElem_cons_succ, List.setIfInBounds_toArray, List.set_cons_zero, List.set_cons_succ]
        refine wpAnyH_take (i := 5) (v := ?_) rfl (by kernel_rfl) (by kernel_rfl) (by kernel_rfl) (fun _ _ _ h => h) (Or.inl ⟨by rfl, ?_⟩) (by assumption) ?_
        rotate_left; · (intro w hSw; (try dsimp only at hSw); go_simp; try with_reducible rfl)
        try simp only [Act.put, List.getElem_toArray, List.getElem_cons_zero, List.getElem_cons_succ, List.setIfInBounds_toArray, List.set_cons_zero, List.set_cons_succ]
        refine wpAnyH_take (i := 6) (v := ?_) rfl (by kernel_rfl) (by kernel_rfl) (by kernel_rfl) (fun _ _ _ h => h) (Or.inl ⟨by rfl, ?_⟩) (by assumption) ?_
        rotate_left; · (intro w hSw; (try dsimp only at hSw); go_simp; try with_reducible rfl)
        try simp only [Act.put, List.getElem_toArray, List.getElem_cons_zero, List.getElem_cons_succ, List.setIfInBounds_toArray, List.set_cons_zero, List.set_cons_succ]
        refine wpAnyH_take (i := 7) (v := ?_) rfl (by kernel_rfl) (by kernel_rfl) (by kernel_rfl) (fun _ _ _ h => h) (Or.inl ⟨by rfl, ?_⟩) (by assumption) ?_
        rotate_left; · (intro w hSw; (try dsimp only at hSw); go_simp; try with_reducible rfl)
        try simp only [Act.put, List.getElem_toArray, List.getElem_cons_zero, List.getElem_cons_succ, List.setIfInBounds_toArray, List.set_cons_zero, List.set_cons_succ]
        refine wpAnyH_take (i := 8) (v := undef) rfl (by kernel_rfl) (by kernel_rfl) (by kernel_rfl) (fun _ _ _ h => h) (Or.inr ⟨by rfl, rfl⟩) (by assumption) ?_
        try simp only [Act.put, List.getElem_toArray, List.getElem_cons_zero, List.getElem_cons_succ, List.setIfInBounds_toArray, List.set_cons_zero, List.set_cons_succ]
        refine wpAnyH_take (i := 9) (v := undef) rfl (by kernel_rfl) (by kernel_rfl) (by kernel_rfl) (fun _ _ _ h => h) (Or.inr ⟨by rfl, rfl⟩) (by assumption) ?_
        try simp only [Act.put, List.getElem_toArray, List.getElem_cons_zero, List.getElem_cons_succ, List.setIfInBounds_toArray, List.set_cons_zero, List.set_cons_succ]
        refine wpAnyH_take (i := 10) (v := undef) rfl (by kernel_rfl) (by kernel_rfl) (by kernel_rfl) (fun _ _ _ h => h) (Or.inr ⟨by rfl, rfl⟩) (by assumption) ?_
        try simp only [Act.put, List.getElem_toArray, List.getElem_cons_zero, List.getElem_cons_succ, List.setIfInBounds_toArray, List.set_cons_zero, List.set_cons_succ]
        refine wpAnyH_take (i := 11) (v := undef) rfl (by kernel_rfl) (by kernel_rfl) (by kernel_rfl) (fun _ _ _ h => h) (Or.inr ⟨by rfl, rfl⟩) (by assumption) ?_
        try simp only [Act.put, List.getElem_toArray, List.getElem_cons_zero, List.getElem_cons_succ, List.setIfInBounds_toArray, List.set_cons_zero, List.set_cons_succ]
        refine wpAnyH_take (i := 12) (v := undef) rfl (by kernel_rfl) (by kernel_rfl) (by kernel_rfl) (fun _ _ _ h => h) (Or.inr ⟨by rfl, rfl⟩) (by assumption) ?_
        try simp only [Act.put, List.getElem_toArray, List.getElem_cons_zero, List.getElem_cons_succ, List.setIfInBounds_toArray, List.set_cons_zero, List.set_cons_succ]
        refine wpAnyH_take (i := 13) (v := undef) rfl (by kernel_rfl) (by kernel_rfl) (by kernel_rfl) (fun _ _ _ h => h) (Or.inr ⟨by rfl, rfl⟩) (by assumption) ?_
        try simp only [Act.put, List.getElem_toArray, List.getElem_cons_zero, List.getElem_cons_succ, List.setIfInBounds_toArray, List.set_cons_zero, List.set_cons_succ]
        refine wpAnyH_take (i := 14) (v := undef) rfl (by kernel_rfl) (by kernel_rfl) (by kernel_rfl) (fun _ _ _ h => h) (Or.inr ⟨by rfl, rfl⟩) (by assumption) ?_
        try simp only [Act.put, List.getElem_toArray, List.getElem_cons_zero, List.getElem_cons_succ, List.setIfInBounds_toArray, List.set_cons_zero, List.set_cons_succ]
        refine wpAnyH_take (i := 15) (v := undef) rfl (by kernel_rfl) (by kernel_rfl) (by kernel_rfl) (fun _ _ _ h => h) (Or.inr ⟨by rfl, rfl⟩) (by assumption) ?_
        try simp only [Act.put, List.getElem_toArray, List.getElem_cons_zero, List.getElem_cons_succ, List.setIfInBounds_toArray, List.set_cons_zero, List.set_cons_succ]
        refine wpAnyH_take (i := 16) (v := ?_) rfl (by kernel_rfl) (by kernel_rfl) (by kernel_rfl) (fun _ _ _ h => h) (Or.inl ⟨by rfl, ?_⟩) (by assumption) ?_
        rotate_left; · (intro w hSw; (try dsimp only at hSw); go_simp; try with_reducible rfl)
        try simp only [Act.put, List.getElem_toArray, List.getElem_cons_zero, List.getElem_cons_succ, List.setIfInBounds_toArray, List.set_cons_zero, List.set_cons_succ]
        refine wpAnyH_take (i := 17) (v := ?_) rfl (by kernel_rfl) (by kernel_rfl) (by kernel_rfl) (fun _ _ _ h => h) (Or.inl ⟨by rfl, ?_⟩) (by assumption) ?_
        rotate_left; · (intro w hSw; (try dsimp only at hSw); go_simp; try with_reducible rfl)
        try simp only [Act.put, List.getElem_toArray, List.getElem_cons_zero, List.getElem_cons_succ, List.setIfInBounds_toArray, List.set_cons_zero, List.set_cons_succ]
        refine wpAnyH_done (by kernel_rfl) ?_ _
        have hr5 := bb hb5 HRD.out
        have hb35 := HBD.out.trans (hb5.mono HBD.out.size)
        have d2 := cell_of_row w5 _ 2 _ _ _ hr5
        clear hHeld HSB CC CH HNX hb5 hr5 HRD HBD
        go_wp2
        go_roundw
        case rel => exact ⟨0 + 1, sum + ysz, by omega, by go_num, rfl, HST.out.symm, hb35⟩
        case measure => simp [intOf]; omega
      · obtain ⟨m, rfl⟩ : ∃ m, i = m + 1 := ⟨i - 1, by omega⟩
        obtain ⟨_, e0, e1, e2, e3, e4, e5, e6⟩ := LC.out m (by omega)
        have x0 := bc HB3A.out e0
        have x1 := bc HB3A.out e1
        have x2 := bc HB3A.out e2
        have x3 := bc HB3A.out e3
        have x4 := bc HB3A.out e4
        have x5 := bc HB3A.out e5
        have x6 := bc HB3A.out e6
        have CC := Lib.hid (fun W => CC.out m rfl W)
        rw [HNX.out m rfl] at CC
        have HY' := HY.out
        rw [← HY'] at CC
        generalize l.getD m default = x at *
        obtain ⟨xst, xix, xsz, xsp, xnum, xden, xday⟩ := x
        simp only at x0 x1 x2 x3 x4 x5 x6 CC
        clear HY' HNX e0 e1 e2 e3 e4 e5 e6
        have hwm : IntKind.i64.wrap (m : Int) = m := by rw [IntKind.wrap_i64]; omega
        have hml : m < l.length := by omega
        have HSB0 : ∀ w' : World, Below (wa).drew.heap.size (wa).drew w' → (w'.cell? ⟨N, 0, none⟩ = some (.string yst) ∧ w'.cell? ⟨N, 1, none⟩ = some (.int .i64 yix) ∧ w'.cell? ⟨N, 2, none⟩ = some (.int .i64 ysz) ∧ w'.cell? ⟨N, 3, none⟩ = some (.int .i64 ysp) ∧ w'.cell? ⟨N, 4, none⟩ = some (.int .i64 ynum) ∧ w'.cell? ⟨N, 5, none⟩ = some (.int .i64 yden) ∧ w'.cell? ⟨N, 6, none⟩ = some (.int .i64 yday) ∧ w'.cell? ⟨lb, lo + m * 7, none⟩ = some (.string xst) ∧ w'.cell? ⟨lb, lo + m * 7 + 1, none⟩ = some (.int .i64 xix) ∧ w'.cell? ⟨lb, lo + m * 7 + 2, none⟩ = some (.int .i64 xsz) ∧ w'.cell? ⟨lb, lo + m * 7 + 3, none⟩ = some (.int .i64 xsp) ∧ w'.cell? ⟨lb, lo + m * 7 + 4, none⟩ = some (.int .i64 xnum) ∧ w'.cell? ⟨lb, lo + m * 7 + 5, none⟩ = some (.int .i64 xden) ∧ w'.cell? ⟨lb, lo + m * 7 + 6, none⟩ = some (.int .i64 xday)) := fun w' hb => ⟨bc hb d0, bc hb d1, bc hb d2, bc hb d3, bc hb d4, bc hb d5, bc hb d6, bc hb x0, bc hb x1, bc hb x2, bc hb x3, bc hb x4, bc hb x5, bc hb x6⟩
        refine wp_region_held_drew (S := fun w' => w'.cell? ⟨N, 0, none⟩ = some (.string yst) ∧ w'.cell? ⟨N, 1, none⟩ = some (.int .i64 yix) ∧ w'.cell? ⟨N, 2, none⟩ = some (.int .i64 ysz) ∧ w'.cell? ⟨N, 3, none⟩ = some (.int .i64 ysp) ∧ w'.cell? ⟨N, 4, none⟩ = some (.int .i64 ynum) ∧ w'.cell? ⟨N, 5, none⟩ = some (.int .i64 yden) ∧ w'.cell? ⟨N, 6, none⟩ = some (.int .i64 yday) ∧ w'.cell? ⟨lb, lo + m * 7, none⟩ = some (.string xst) ∧ w'.cell? ⟨lb, lo + m * 7 + 1, none⟩ = some (.int .i64 xix) ∧ w'.cell? ⟨lb, lo + m * 7 + 2, none⟩ = some (.int .i64 xsz) ∧ w'.cell? ⟨lb, lo + m * 7 + 3, none⟩ = some (.int .i64 xsp) ∧ w'.cell? ⟨lb, lo + m * 7 + 4, none⟩ = some (.int .i64 xnum) ∧ w'.cell? ⟨lb, lo + m * 7 + 5, none⟩ = some (.int .i64 xden) ∧ w'.cell? ⟨lb, lo + m * 7 + 6, none⟩ = some (.int .i64 xday)) (by kernel_rfl) (HSB0 _ (Below.refl _ _)) (fun hHeld => ?_)
        have HSB := Lib.hid HSB0
        clear HSB0
        generalize (wa).drew = Wd at *
        clear d0 d1 d2 d3 d4 d5 d6 x0 x1 x2 x3 x4 x5 x6
        refine wpAnyH_take (i := 0) (v := ?_) rfl (by kernel_rfl) (by kernel_rfl) (by kernel_rfl) (fun _ _ _ h => h) (Or.inl ⟨by rfl, ?_⟩) (by assumption) ?_
        rotate_left; · (intro w hSw; (try dsimp only at hSw); go_simp; try with_reducible rfl)
        try simp only [Act.put, List.getElem_toArray, List.getElem_cons_zero, List.getElem_cons_succ, List.setIfInBounds_toArray, List.set_cons_zero, List.set_cons_succ]
        refine wpAnyH_take (i := 1) (v := ?_) rfl (by kernel_rfl) (by kernel_rfl) (by kernel_rfl) (fun _ _ _ h => h) (Or.inl ⟨by rfl, ?_⟩) (by assumption) ?_
        rotate_left; · (intro w hSw; (try dsimp only at hSw); go_simp; try with_reducible rfl)
        try simp only [Act.put, List.getElem_toArray, List.getElem_cons_zero, List.getElem_cons_succ, List.setIfInBounds_toArray, List.set_cons_zero, List.set_cons_succ]
        refine wpAnyH_ready (rs := [2]) (by kernel_rfl) (by simp) ?_
        refine AllReadyH.cons rfl (fun K hK => ?_) AllReadyH.nil
        go_simp
        refine (CH.out _ (hbw3.trans (HBD.out.mono hbw3.size))).mono ?_; rintro e w5 ⟨rfl, hb5⟩
        go_wp2_with fail
        refine hK.out _ _ (HSB.out _ hb5) (fun hNew => ?_)
        clear hK K hHeld
        have hHeld := hNew
        clear hNew
        try simp only [Act.put, List.getElem_toArray, List.getElem_cons_zero, List.getElem_cons_succ, List.setIfInBounds_toArray, List.set_cons_zero, List.set_cons_succ]
        refine wpAnyH_take (i := 3) (v := ?_) rfl (by kernel_rfl) (by kernel_rfl) (by kernel_rfl) (fun _ _ _ h => h) (Or.inl ⟨by rfl, ?_⟩) (by assumption) ?_
        rotate_left; · (intro w hSw; (try dsimp only at hSw); go_simp; try with_reducible rfl)
        try simp only [Act.put, List.getElem_toArray, List.getElem_cons_zero, List.getElem_cons_succ, List.setIfInBounds_toArray, List.set_cons_zero, List.set_cons_succ]
        refine wpAnyH_take (i := 4) (v := ?_) rfl (by kernel_rfl) (by kernel_rfl) (by kernel_rfl) (fun _ _ _ h => h) (Or.inl ⟨by rfl, ?_⟩) (by assumption) ?_
        rotate_left; · (intro w hSw; (try dsimp only at hSw); go_simp; try with_reducible rfl)
        try simp only [Act.put, List.getElem_toArray, List.getElem_cons_zero, List.getElem_cons_succ, List.setIfInBounds_toArray, List.set_cons_zero, List.set_cons_succ]
        refine wpAnyH_take (i := 5) (v := ?_) rfl (by kernel_rfl) (by kernel_rfl) (by kernel_rfl) (fun _ _ _ h => h) (Or.inl ⟨by rfl, ?_⟩) (by assumption) ?_
        rotate_left; · (intro w hSw; (try dsimp only at hSw); go_simp; try with_reducible rfl)
        try simp only [Act.put, List.getElem_toArray, List.getElem_cons_zero, List.getElem_cons_succ, List.setIfInBounds_toArray, List.set_cons_zero, List.set_cons_succ]
        refine wpAnyH_take (i := 6) (v := ?_) rfl (by kernel_rfl) (by kernel_rfl) (by kernel_rfl) (fun _ _ _ h => h) (Or.inl ⟨by rfl, ?_⟩) (by assumption) ?_
        rotate_left; · (intro w hSw; (try dsimp only at hSw); go_simp; try with_reducible rfl)
        try simp only [Act.put, List.getElem_toArray, List.getElem_cons_zero, List.getElem_cons_succ, List.setIfInBounds_toArray, List.set_cons_zero, List.set_cons_succ]
        refine wpAnyH_take (i := 7) (v := ?_) rfl (by kernel_rfl) (by kernel_rfl) (by kernel_rfl) (fun _ _ _ h => h) (Or.inl ⟨by rfl, ?_⟩) (by assumption) ?_
        rotate_left; · (intro w hSw; (try dsimp only at hSw); go_simp; try with_reducible rfl)
        try simp only [Act.put, List.getElem_toArray, List.getElem_cons_zero, List.getElem_cons_succ, List.setIfInBounds_toArray, List.set_cons_zero, List.set_cons_succ]
        refine wpAnyH_take (i := 8) (v := ?_) rfl (by kernel_rfl) (by kernel_rfl) (by kernel_rfl) (fun _ _ _ h => h) (Or.inl ⟨by rfl, ?_⟩) (by assumption) ?_
        rotate_left; · (intro w hSw; (try dsimp only at hSw); go_simp; try with_reducible rfl)
        try simp only [Act.put, List.getElem_toArray, List.getElem_cons_zero, List.getElem_cons_succ, List.setIfInBounds_toArray, List.set_cons_zero, List.set_cons_succ]
        refine wpAnyH_take (i := 9) (v := ?_) rfl (by kernel_rfl) (by kernel_rfl) (by kernel_rfl) (fun _ _ _ h => h) (Or.inl ⟨by rfl, ?_⟩) (by assumption) ?_
        rotate_left; · (intro w hSw; (try dsimp only at hSw); go_simp; try with_reducible rfl)
        try simp only [Act.put, List.getElem_toArray, List.getElem_cons_zero, List.getElem_cons_succ, List.setIfInBounds_toArray, List.set_cons_zero, List.set_cons_succ]
        refine wpAnyH_take (i := 10) (v := ?_) rfl (by kernel_rfl) (by kernel_rfl) (by kernel_rfl) (fun _ _ _ h => h) (Or.inl ⟨by rfl, ?_⟩) (by assumption) ?_
        rotate_left; · (intro w hSw; (try dsimp only at hSw); go_simp; try with_reducible rfl)
        try simp only [Act.put, List.getElem_toArray, List.getElem_cons_zero, List.getElem_cons_succ, List.setIfInBounds_toArray, List.set_cons_zero, List.set_cons_succ]
        refine wpAnyH_take (i := 11) (v := ?_) rfl (by kernel_rfl) (by kernel_rfl) (by kernel_rfl) (fun _ _ _ h => h) (Or.inl ⟨by rfl, ?_⟩) (by assumption) ?_
        rotate_left; · (intro w hSw; (try dsimp only at hSw); go_simp; try with_reducible rfl)
        try simp only [Act.put, List.getElem_toArray, List.getElem_cons_zero, List.getElem_cons_succ, List.setIfInBounds_toArray, List.set_cons_zero, List.set_cons_succ]
        refine wpAnyH_take (i := 12) (v := ?_) rfl (by kernel_rfl) (by kernel_rfl) (by kernel_rfl) (fun _ _ _ h => h) (Or.inl ⟨by rfl, ?_⟩) (by assumption) ?_
        rotate_left; · (intro w hSw; (try dsimp only at hSw); go_simp; try with_reducible rfl)
        try simp only [Act.put, List.getElem_toArray, List.getElem_cons_zero, List.getElem_cons_succ, List.setIfInBounds_toArray, List.set_cons_zero, List.set_cons_succ]
        refine wpAnyH_take (i := 13) (v := ?_) rfl (by kernel_rfl) (by kernel_rfl) (by kernel_rfl) (fun _ _ _ h => h) (Or.inl ⟨by rfl, ?_⟩) (by assumption) ?_
        rotate_left; · (intro w hSw; (try dsimp only at hSw); go_simp; try with_reducible rfl)
        try simp only [Act.put, List.getElem_toArray, List.getElem_cons_zero, List.getElem_cons_succ, List.setIfInBounds_toArray, List.set_cons_zero, List.set_cons_succ]
        refine wpAnyH_ready (rs := [14]) (by kernel_rfl) (by simp) ?_
        refine AllReadyH.cons rfl (fun K hK => ?_) AllReadyH.nil
        go_simp
        refine (CC.out _).mono ?_; rintro e w6 ⟨rfl, hb6⟩
        go_wp2_with fail
        refine hK.out _ _ (HSB.out _ (hb5.trans (hb6.mono hb5.size))) (fun hNew => ?_)
        clear hK K hHeld
        have hHeld := hNew
        clear hNew
        try simp only [Act.put, List.getElem_toArray, List.getElem_cons_zero, List.getElem_cons_succ, List.setIfInBounds_toArray, List.set_cons_zero, List.set_cons_succ]
        refine wpAnyH_take (i := 15) (v := ?_) rfl (by kernel_rfl) (by kernel_rfl) (by kernel_rfl) (fun _ _ _ h => h) (Or.inl ⟨by rfl, ?_⟩) (by assumption) ?_
        rotate_left; · (intro w hSw; (try dsimp only at hSw); go_simp; try with_reducible rfl)
        try simp only [Act.put, List.getElem_toArray, List.getElem_cons_zero, List.getElem_cons_succ, List.setIfInBounds_toArray, List.set_cons_zero, List.set_cons_succ]
        refine wpAnyH_take (i := 16) (v := ?_) rfl (by kernel_rfl) (by kernel_rfl) (by kernel_rfl) (fun _ _ _ h => h) (Or.inl ⟨by rfl, ?_⟩) (by assumption) ?_
        rotate_left; · (intro w hSw; (try dsimp only at hSw); go_simp; try with_reducible rfl)
        try simp only [Act.put, List.getElem_toArray, List.getElem_cons_zero, List.getElem_cons_succ, List.setIfInBounds_toArray, List.set_cons_zero, List.set_cons_succ]
        refine wpAnyH_take (i := 17) (v := ?_) rfl (by kernel_rfl) (by kernel_rfl) (by kernel_rfl) (fun _ _ _ h => h) (Or.inl ⟨by rfl, ?_⟩) (by assumption) ?_
        rotate_left; · (intro w hSw; (try dsimp only at hSw); go_simp; try with_reducible rfl)
        try simp only [Act.put, List.getElem_toArray, List.getElem_cons_zero, List.getElem_cons_succ, List.setIfInBounds_toArray, List.set_cons_zero, List.set_cons_succ]
        refine wpAnyH_done (by kernel_rfl) ?_ _
        have hb56 := hb5.trans (hb6.mono hb5.size)
        have hr5 := bb hb56 HRD.out
        have hb35 := HBD.out.trans (hb56.mono HBD.out.size)
        have d2 := cell_of_row w6 _ 2 _ _ _ hr5
        clear hHeld HSB CC CH hb5 hb6 hb56 hr5 HRD HBD
        go_wp2
        go_roundw
        case rel => exact ⟨m + 1 + 1, sum + ysz, by omega, by go_num, rfl, HST.out.symm, hb35⟩
        case measure => simp [intOf]; omega
    · have HT := Lib.hid (show l.take i = l from List.take_of_length_le (by omega))
      rw [HT.out, ← HNN.out] at HS
      have hsn := HS.out.symm
      clear hbel hbw zr
      subst hsn
      have q0 : decide (b < n) = false := by simp; omega
      have hwb : IntKind.i64.wrap (b - n) = b - n := by have := HBB.out; rw [IntKind.wrap_i64]; omega
      clear LC HT
      go_wp2
      clear q0
      go_loopw [81, 12, 13, 15] (fun v81 _ _ _ wx => ∃ i : Nat, i ≤ ts.length ∧ v81 = .int .i64 i ∧ Below w3.heap.size w3 wx) (fun v81 _ _ _ _ => ts.length - (intOf v81).toNat)
      case atStart => exact ⟨0, Nat.zero_le _, rfl, HBEL.out⟩
      case round =>
        obtain ⟨i, hi, rfl, hbel⟩ := hrel
        have zr := hbel.size
        have hbw := hbw3.trans (hbel.mono hbw3.size)
        have HBW := Lib.hid hbw
        by_cases hlt : i < ts.length
        · obtain ⟨rfl, d0, d1, d2, d3, d4, d5, d6⟩ := JC.out i hlt
          have d0 := bc hbw d0
          have d1 := bc hbw d1
          have d2 := bc hbw d2
          have d3 := bc hbw d3
          have d4 := bc hbw d4
          have d5 := bc hbw d5
          have d6 := bc hbw d6
          have HYT := Lib.hid (show ts.getD i default ∈ ts by rw [getD_at _ _ _ hlt]; exact List.getElem_mem hlt)
          have CH := Lib.hid (fun W (h : Below w3.heap.size w3 W) => has_any _ l (ts.getD i default) W (HRL.out.below h))
          have HPS := Lib.hid (HCP.out _ HYT.out)
          have HFS := Lib.hid (HCF.out _ HYT.out)
          have HYK := Lib.hid (HOK.out _ HYT.out)
          have CC := Lib.hid (fun u W (hu : TOk u) => compare_any (ts.getD i default) u W HYK.out hu)
          obtain ⟨yy, hyy⟩ : ∃ yy, yy = ts.getD i default := ⟨_, rfl⟩
          rw [← hyy] at CH HPS HFS d0 d1 d2 d3 d4 d5 d6 CC
          clear hyy HYT HYK
          obtain ⟨yin, hyin⟩ : ∃ q, q = decide (yy ∈ l) := ⟨_, rfl⟩
          have HIN := Lib.hid (show yin = true ↔ yy ∈ l by rw [hyin]; exact decide_eq_true_iff)
          rw [← hyin] at CH
          clear hyin
          obtain ⟨y, hy⟩ : ∃ y, y = yy := ⟨_, rfl⟩
          rw [← hy] at CH d0 d1 d2 d3 d4 d5 d6
          have HY := Lib.hid hy
          obtain ⟨yst, yix, ysz, ysp, ynum, yden, yday⟩ := y
          have hsz : yy.size = ysz := by rw [← hy]
          rw [hsz] at HPS HFS
          have CC := Lib.hid (fun u W (hu : TOk u) => by have := CC.out u W hu; rw [← hy] at this; exact this)
          unfold Tk.v at CH CC
          simp only at d0 d1 d2 d3 d4 d5 d6 CH CC
          have hA : Below wr.heap.size wr (wr.alloc (.cells #[.string yst, .int .i64 yix, .int .i64 ysz, .int .i64 ysp, .int .i64 ynum, .int .i64 yden, .int .i64 yday] 27)) := sb0 _
          have HRW := Lib.hid (heap_alloc_new wr (.cells #[.string yst, .int .i64 yix, .int .i64 ysz, .int .i64 ysp, .int .i64 ynum, .int .i64 yden, .int .i64 yday] 27))
          obtain ⟨N, hN⟩ : ∃ N, N = wr.heap.size := ⟨_, rfl⟩
          obtain ⟨wa, hwa⟩ : ∃ wa, wa = wr.alloc (.cells #[.string yst, .int .i64 yix, .int .i64 ysz, .int .i64 ysp, .int .i64 ynum, .int .i64 yden, .int .i64 yday] 27) := ⟨_, rfl⟩
          rw [← hwa] at hA HRW
          rw [← hN] at HRW
          have HWA := Lib.hid hwa
          have HN := Lib.hid hN
          have hb3a := hbel.trans (hA.mono zr)
          have HB3A := Lib.hid hb3a
          clear hwa hN hbel hbw hy hsz
          go_upto_region 19 with fail
          rw [← HWA.out]
          try rw [← HN.out]
          clear HWA d0 d1 d2 d3 d4 d5 d6 hA hb3a HN
          have d0 := cell_of_row wa _ 0 _ _ _ HRW.out
          have d1 := cell_of_row wa _ 1 _ _ _ HRW.out
          have d2 := cell_of_row wa _ 2 _ _ _ HRW.out
          have d3 := cell_of_row wa _ 3 _ _ _ HRW.out
          have d4 := cell_of_row wa _ 4 _ _ _ HRW.out
          have d5 := cell_of_row wa _ 5 _ _ _ HRW.out
          have d6 := cell_of_row wa _ 6 _ _ _ HRW.out
          go_wp2_with fail
          refine (CH.out _ HB3A.out).mono ?_
          rintro e wb ⟨rfl, hbb⟩
          have HRB := Lib.hid (bb hbb HRW.out)
          have HB3B := Lib.hid (HB3A.out.trans (hbb.mono HB3A.out.size))
          have q1 : yin = false → decide (ysz ≤ b - n) = false := fun h => by
            have := HPS.out (fun h2 => by rw [HIN.out.2 h2] at h; cases h)
            simp; omega
          have HQ1 := Lib.hid q1
          clear q1 hbb HRW HB3A zr HPS d0 d1 d2 d3 d4 d5 d6
          have d2 := cell_of_row wb _ 2 _ _ _ HRB.out
          have zb := HB3B.out.size
          cases yin with
          | false =>
            have q1 := HQ1.out rfl
            clear HQ1
            go_wp2
            clear d2
            go_loopw [103, 13, 15] (fun v103 v13 _ wy => ∃ (j : Nat) (f : Bool), j ≤ ts.length ∧ v103 = .int .i64 j ∧ v13 = .bool f ∧ (f = true ↔ (ysz ≤ b ∧ ∀ u ∈ ts.take j, cmpT yy u ≤ 0)) ∧ Below wb.heap.size wb wy) (fun v103 _ _ _ => ts.length - (intOf v103).toNat)
            case atStart => exact ⟨0, decide (ysz ≤ b), Nat.zero_le _, rfl, rfl, by simp, Below.refl _ _⟩
            case round =>
              obtain ⟨j, f, hj, rfl, rfl, hf, hbj⟩ := hrel
              have HF := Lib.hid hf
              have HBJ := Lib.hid hbj
              have hb3 := HB3B.out.trans (hbj.mono zb)
              have zj := hb3.size
              have hbw := hbw3.trans (hb3.mono hbw3.size)
              have hrn := bb hbj HRB.out
              clear hf
              by_cases hlj : j < ts.length
              · obtain ⟨_, e0, e1, e2, e3, e4, e5, e6⟩ := JC.out j hlj
                have e0 := bc hbw e0
                have e1 := bc hbw e1
                have e2 := bc hbw e2
                have e3 := bc hbw e3
                have e4 := bc hbw e4
                have e5 := bc hbw e5
                have e6 := bc hbw e6
                have hms := fun u => mem_take_succ ts u j hlj
                rw [← getD_at _ _ default hlj] at hms
                have HMS := Lib.hid hms
                have HUT := Lib.hid (show ts.getD j default ∈ ts by rw [getD_at _ _ _ hlj]; exact List.getElem_mem hlj)
                have CU := Lib.hid (fun W => CC.out (ts.getD j default) W (HOK.out _ HUT.out))
                rw [HY.out] at CU
                obtain ⟨uu, huu⟩ : ∃ uu, uu = ts.getD j default := ⟨_, rfl⟩
                rw [← huu] at e0 e1 e2 e3 e4 e5 e6 CU HMS
                clear hms huu HUT
                obtain ⟨c, hc⟩ : ∃ c, c = cmpT yy uu := ⟨_, rfl⟩
                rw [← hc] at CU
                have HCC := Lib.hid hc
                have HF2 := Lib.hid (show (f && decide (c ≤ 0)) = true ↔ (ysz ≤ b ∧ ∀ u ∈ ts.take (j + 1), cmpT yy u ≤ 0) by
                  rw [Bool.and_eq_true, HF.out, decide_eq_true_eq]
                  constructor
                  · rintro ⟨⟨h1, h2⟩, h3⟩
                    exact ⟨h1, fun u hu => ((HMS.out u).1 hu).elim (h2 u) fun e => by rw [e, ← hc]; exact h3⟩
                  · rintro ⟨h1, h2⟩
                    exact ⟨⟨h1, fun u hu => h2 u ((HMS.out u).2 (.inl hu))⟩, by rw [hc]; exact h2 uu ((HMS.out uu).2 (.inr rfl))⟩)
                clear hc HMS
                obtain ⟨x, hx⟩ : ∃ x, x = uu := ⟨_, rfl⟩
                rw [← hx] at e0 e1 e2 e3 e4 e5 e6 CU
                clear hx
                obtain ⟨xst, xix, xsz, xsp, xnum, xden, xday⟩ := x
                simp only at e0 e1 e2 e3 e4 e5 e6 CU
                have hA : Below wr.heap.size wr (wr.alloc (.cells #[.string xst, .int .i64 xix, .int .i64 xsz, .int .i64 xsp, .int .i64 xnum, .int .i64 xden, .int .i64 xday] 27)) := sb0 _
                have hrm := heap_alloc_new wr (.cells #[.string xst, .int .i64 xix, .int .i64 xsz, .int .i64 xsp, .int .i64 xnum, .int .i64 xden, .int .i64 xday] 27)
                obtain ⟨M, hM⟩ : ∃ M, M = wr.heap.size := ⟨_, rfl⟩
                obtain ⟨wc, hwc⟩ : ∃ wc, wc = wr.alloc (.cells #[.string xst, .int .i64 xix, .int .i64 xsz, .int .i64 xsp, .int .i64 xnum, .int .i64 xden, .int .i64 xday] 27) := ⟨_, rfl⟩
                rw [← hwc] at hA hrm
                rw [← hM] at hrm
                have HWC := Lib.hid hwc
                have HM := Lib.hid hM
                have hrn := bb hA hrn
                have HBC := Lib.hid (hbj.trans (hA.mono hbj.size))
                have zc := HBC.out.size
                clear hwc hM hbj hb3 hbw zj
                go_upto_region 25 with fail
                rw [← HWC.out]
                try rw [← HM.out]
                clear HWC e0 e1 e2 e3 e4 e5 e6 hA HM
                cases f with
                | false =>
                  clear hrn hrm CU
                  go_wp2
                  go_roundw
                  case rel => exact ⟨j + 1, false, by omega, by go_num, rfl, by have := HF2.out; simpa using this, HBC.out⟩
                  case measure => simp [intOf]; omega
                | true =>
                  have d0 := cell_of_row wc _ 0 _ _ _ hrn
                  have d1 := cell_of_row wc _ 1 _ _ _ hrn
                  have d2 := cell_of_row wc _ 2 _ _ _ hrn
                  have d3 := cell_of_row wc _ 3 _ _ _ hrn
                  have d4 := cell_of_row wc _ 4 _ _ _ hrn
                  have d5 := cell_of_row wc _ 5 _ _ _ hrn
                  have d6 := cell_of_row wc _ 6 _ _ _ hrn
                  have x0 := cell_of_row wc _ 0 _ _ _ hrm
                  have x1 := cell_of_row wc _ 1 _ _ _ hrm
                  have x2 := cell_of_row wc _ 2 _ _ _ hrm
                  have x3 := cell_of_row wc _ 3 _ _ _ hrm
                  have x4 := cell_of_row wc _ 4 _ _ _ hrm
                  have x5 := cell_of_row wc _ 5 _ _ _ hrm
                  have x6 := cell_of_row wc _ 6 _ _ _ hrm
                  clear hrn hrm
                  go_wp2_with fail
                  refine (CU.out _).mono ?_
                  rintro e wd ⟨rfl, hbd⟩
                  clear d0 d1 d2 d3 d4 d5 d6 x0 x1 x2 x3 x4 x5 x6
                  go_wp2
                  go_roundw
                  case rel => exact ⟨j + 1, decide (c ≤ 0), by omega, by go_num, rfl, by have := HF2.out; simpa using this, HBC.out.trans (hbd.mono zc)⟩
                  case measure => simp [intOf]; omega
              · have HT := Lib.hid (show ts.take j = ts from List.take_of_length_le (by omega))
                rw [HT.out] at HF
                clear HT hbj
                cases f with
                | false =>
                  go_wp2
                  go_roundw
                  case rel => exact ⟨i + 1, by omega, by go_num, hb3⟩
                  case measure => simp [intOf]; omega
                | true =>
                  have hff : ysz ≤ b ∧ ∀ u ∈ ts, cmpT yy u ≤ 0 := by have := HF.out; simpa using this
                  have hin := HFS.out hff.1 hff.2
                  clear hff
                  exact absurd (HIN.out.2 hin) (by simp)
          | true =>
            clear HQ1
            go_wp2
            clear d2
            go_loopw [103, 13, 15] (fun v103 v13 _ wy => ∃ (j : Nat) (f : Bool), j ≤ ts.length ∧ v103 = .int .i64 j ∧ v13 = .bool f ∧ (f = true ↔ (ysz ≤ b ∧ ∀ u ∈ ts.take j, cmpT yy u ≤ 0)) ∧ Below wb.heap.size wb wy) (fun v103 _ _ _ => ts.length - (intOf v103).toNat)
            case atStart => exact ⟨0, decide (ysz ≤ b), Nat.zero_le _, rfl, rfl, by simp, Below.refl _ _⟩
            case round =>
              obtain ⟨j, f, hj, rfl, rfl, hf, hbj⟩ := hrel
              have HF := Lib.hid hf
              have HBJ := Lib.hid hbj
              have hb3 := HB3B.out.trans (hbj.mono zb)
              have zj := hb3.size
              have hbw := hbw3.trans (hb3.mono hbw3.size)
              have hrn := bb hbj HRB.out
              clear hf
              by_cases hlj : j < ts.length
              · obtain ⟨_, e0, e1, e2, e3, e4, e5, e6⟩ := JC.out j hlj
                have e0 := bc hbw e0
                have e1 := bc hbw e1
                have e2 := bc hbw e2
                have e3 := bc hbw e3
                have e4 := bc hbw e4
                have e5 := bc hbw e5
                have e6 := bc hbw e6
                have hms := fun u => mem_take_succ ts u j hlj
                rw [← getD_at _ _ default hlj] at hms
                have HMS := Lib.hid hms
                have HUT := Lib.hid (show ts.getD j default ∈ ts by rw [getD_at _ _ _ hlj]; exact List.getElem_mem hlj)
                have CU := Lib.hid (fun W => CC.out (ts.getD j default) W (HOK.out _ HUT.out))
                rw [HY.out] at CU
                obtain ⟨uu, huu⟩ : ∃ uu, uu = ts.getD j default := ⟨_, rfl⟩
                rw [← huu] at e0 e1 e2 e3 e4 e5 e6 CU HMS
                clear hms huu HUT
                obtain ⟨c, hc⟩ : ∃ c, c = cmpT yy uu := ⟨_, rfl⟩
                rw [← hc] at CU
                have HCC := Lib.hid hc
                have HF2 := Lib.hid (show (f && decide (c ≤ 0)) = true ↔ (ysz ≤ b ∧ ∀ u ∈ ts.take (j + 1), cmpT yy u ≤ 0) by
                  rw [Bool.and_eq_true, HF.out, decide_eq_true_eq]
                  constructor
                  · rintro ⟨⟨h1, h2⟩, h3⟩
                    exact ⟨h1, fun u hu => ((HMS.out u).1 hu).elim (h2 u) fun e => by rw [e, ← hc]; exact h3⟩
                  · rintro ⟨h1, h2⟩
                    exact ⟨⟨h1, fun u hu => h2 u ((HMS.out u).2 (.inl hu))⟩, by rw [hc]; exact h2 uu ((HMS.out uu).2 (.inr rfl))⟩)
                clear hc HMS
                obtain ⟨x, hx⟩ : ∃ x, x = uu := ⟨_, rfl⟩
                rw [← hx] at e0 e1 e2 e3 e4 e5 e6 CU
                clear hx
                obtain ⟨xst, xix, xsz, xsp, xnum, xden, xday⟩ := x
                simp only at e0 e1 e2 e3 e4 e5 e6 CU
                have hA : Below wr.heap.size wr (wr.alloc (.cells #[.string xst, .int .i64 xix, .int .i64 xsz, .int .i64 xsp, .int .i64 xnum, .int .i64 xden, .int .i64 xday] 27)) := sb0 _
                have hrm := heap_alloc_new wr (.cells #[.string xst, .int .i64 xix, .int .i64 xsz, .int .i64 xsp, .int .i64 xnum, .int .i64 xden, .int .i64 xday] 27)
                obtain ⟨M, hM⟩ : ∃ M, M = wr.heap.size := ⟨_, rfl⟩
                obtain ⟨wc, hwc⟩ : ∃ wc, wc = wr.alloc (.cells #[.string xst, .int .i64 xix, .int .i64 xsz, .int .i64 xsp, .int .i64 xnum, .int .i64 xden, .int .i64 xday] 27) := ⟨_, rfl⟩
                rw [← hwc] at hA hrm
                rw [← hM] at hrm
                have HWC := Lib.hid hwc
                have HM := Lib.hid hM
                have hrn := bb hA hrn
                have HBC := Lib.hid (hbj.trans (hA.mono hbj.size))
                have zc := HBC.out.size
                clear hwc hM hbj hb3 hbw zj
                go_upto_region 25 with fail
                rw [← HWC.out]
                try rw [← HM.out]
                clear HWC e0 e1 e2 e3 e4 e5 e6 hA HM
                cases f with
                | false =>
                  clear hrn hrm CU
                  go_wp2
                  go_roundw
                  case rel => exact ⟨j + 1, false, by omega, by go_num, rfl, by have := HF2.out; simpa using this, HBC.out⟩
                  case measure => simp [intOf]; omega
                | true =>
                  have d0 := cell_of_row wc _ 0 _ _ _ hrn
                  have d1 := cell_of_row wc _ 1 _ _ _ hrn
                  have d2 := cell_of_row wc _ 2 _ _ _ hrn
                  have d3 := cell_of_row wc _ 3 _ _ _ hrn
                  have d4 := cell_of_row wc _ 4 _ _ _ hrn
                  have d5 := cell_of_row wc _ 5 _ _ _ hrn
                  have d6 := cell_of_row wc _ 6 _ _ _ hrn
                  have x0 := cell_of_row wc _ 0 _ _ _ hrm
                  have x1 := cell_of_row wc _ 1 _ _ _ hrm
                  have x2 := cell_of_row wc _ 2 _ _ _ hrm
                  have x3 := cell_of_row wc _ 3 _ _ _ hrm
                  have x4 := cell_of_row wc _ 4 _ _ _ hrm
                  have x5 := cell_of_row wc _ 5 _ _ _ hrm
                  have x6 := cell_of_row wc _ 6 _ _ _ hrm
                  clear hrn hrm
                  go_wp2_with fail
                  refine (CU.out _).mono ?_
                  rintro e wd ⟨rfl, hbd⟩
                  clear d0 d1 d2 d3 d4 d5 d6 x0 x1 x2 x3 x4 x5 x6
                  go_wp2
                  go_roundw
                  case rel => exact ⟨j + 1, decide (c ≤ 0), by omega, by go_num, rfl, by have := HF2.out; simpa using this, HBC.out.trans (hbd.mono zc)⟩
                  case measure => simp [intOf]; omega
              · have HT := Lib.hid (show ts.take j = ts from List.take_of_length_le (by omega))
                rw [HT.out] at HF
                clear HT hbj
                cases f with
                | false =>
                  go_wp2
                  go_roundw
                  case rel => exact ⟨i + 1, by omega, by go_num, hb3⟩
                  case measure => simp [intOf]; omega
                | true =>
                  have hff : ysz ≤ b ∧ ∀ u ∈ ts, cmpT yy u ≤ 0 := by have := HF.out; simpa using this
                  have hin := HFS.out hff.1 hff.2
                  clear hff
                  have d0 := cell_of_row wr _ 0 _ _ _ hrn
                  have d1 := cell_of_row wr _ 1 _ _ _ hrn
                  have d2 := cell_of_row wr _ 2 _ _ _ hrn
                  have d3 := cell_of_row wr _ 3 _ _ _ hrn
                  have d4 := cell_of_row wr _ 4 _ _ _ hrn
                  have d5 := cell_of_row wr _ 5 _ _ _ hrn
                  have d6 := cell_of_row wr _ 6 _ _ _ hrn
                  clear hrn hin
                  go_wp2_with fail
                  refine (CH.out _ hb3).mono ?_
                  rintro e wd ⟨rfl, hbd⟩
                  have hb3d := hb3.trans (hbd.mono zj)
                  clear d0 d1 d2 d3 d4 d5 d6
                  go_wp2
                  go_roundw
                  case rel => exact ⟨i + 1, by omega, by go_num, hb3d⟩
                  case measure => simp [intOf]; omega
        · go_wp2
          go_ret
          exact ⟨rfl, hbw⟩

end Go.Proofs.Ytcgilfnhbliadaa
