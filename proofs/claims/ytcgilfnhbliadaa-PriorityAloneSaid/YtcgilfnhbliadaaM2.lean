/- The reference's Match. -/
import Derived.Test.YtcgilfnhbliadaaM1
namespace Go.Proofs.Ytcgilfnhbliadaa
open Go.RowKit Go.Lib Go.ChangeMaps
set_option linter.unusedSimpArgs false

theorem far7 {w : World} {N b o : Nat} (v0 v1 v2 v3 v4 v5 v6 : Value) {x : Value} (hb : N ≠ b) (h : w.cell? ⟨b, o, none⟩ = some x) : (((((((w.setCell ⟨N, 0, none⟩ v0).setCell ⟨N, 1, none⟩ v1).setCell ⟨N, 2, none⟩ v2).setCell ⟨N, 3, none⟩ v3).setCell ⟨N, 4, none⟩ v4).setCell ⟨N, 5, none⟩ v5).setCell ⟨N, 6, none⟩ v6).cell? ⟨b, o, none⟩ = some x := by
  rw [World.cell?_setCell_far _ _ _ _ hb, World.cell?_setCell_far _ _ _ _ hb, World.cell?_setCell_far _ _ _ _ hb, World.cell?_setCell_far _ _ _ _ hb, World.cell?_setCell_far _ _ _ _ hb, World.cell?_setCell_far _ _ _ _ hb, World.cell?_setCell_far _ _ _ _ hb]
  exact h
theorem seven_set {w : World} {N : Nat} {c0 c1 c2 c3 c4 c5 c6 : Value} {t : TypeId} (h : w.heap[N]? = some (.cells #[c0, c1, c2, c3, c4, c5, c6] t)) (v0 v1 v2 v3 v4 v5 v6 : Value) :
    (((((((w.setCell ⟨N, 0, none⟩ v0).setCell ⟨N, 1, none⟩ v1).setCell ⟨N, 2, none⟩ v2).setCell ⟨N, 3, none⟩ v3).setCell ⟨N, 4, none⟩ v4).setCell ⟨N, 5, none⟩ v5).setCell ⟨N, 6, none⟩ v6).heap[N]? = some (.cells #[v0, v1, v2, v3, v4, v5, v6] t) := by
  have s0 : (w.setCell ⟨N, 0, none⟩ v0).heap[N]? = some (.cells #[v0, c1, c2, c3, c4, c5, c6] t) := setCell_block h v0
  have s1 : ((w.setCell ⟨N, 0, none⟩ v0).setCell ⟨N, 1, none⟩ v1).heap[N]? = some (.cells #[v0, v1, c2, c3, c4, c5, c6] t) := setCell_block s0 v1
  have s2 : (((w.setCell ⟨N, 0, none⟩ v0).setCell ⟨N, 1, none⟩ v1).setCell ⟨N, 2, none⟩ v2).heap[N]? = some (.cells #[v0, v1, v2, c3, c4, c5, c6] t) := setCell_block s1 v2
  have s3 : ((((w.setCell ⟨N, 0, none⟩ v0).setCell ⟨N, 1, none⟩ v1).setCell ⟨N, 2, none⟩ v2).setCell ⟨N, 3, none⟩ v3).heap[N]? = some (.cells #[v0, v1, v2, v3, c4, c5, c6] t) := setCell_block s2 v3
  have s4 : (((((w.setCell ⟨N, 0, none⟩ v0).setCell ⟨N, 1, none⟩ v1).setCell ⟨N, 2, none⟩ v2).setCell ⟨N, 3, none⟩ v3).setCell ⟨N, 4, none⟩ v4).heap[N]? = some (.cells #[v0, v1, v2, v3, v4, c5, c6] t) := setCell_block s3 v4
  have s5 : ((((((w.setCell ⟨N, 0, none⟩ v0).setCell ⟨N, 1, none⟩ v1).setCell ⟨N, 2, none⟩ v2).setCell ⟨N, 3, none⟩ v3).setCell ⟨N, 4, none⟩ v4).setCell ⟨N, 5, none⟩ v5).heap[N]? = some (.cells #[v0, v1, v2, v3, v4, v5, c6] t) := setCell_block s4 v5
  have s6 : (((((((w.setCell ⟨N, 0, none⟩ v0).setCell ⟨N, 1, none⟩ v1).setCell ⟨N, 2, none⟩ v2).setCell ⟨N, 3, none⟩ v3).setCell ⟨N, 4, none⟩ v4).setCell ⟨N, 5, none⟩ v5).setCell ⟨N, 6, none⟩ v6).heap[N]? = some (.cells #[v0, v1, v2, v3, v4, v5, v6] t) := setCell_block s5 v6
  exact s6
theorem seven_other (w : World) {N g : Nat} (v0 v1 v2 v3 v4 v5 v6 : Value) (h : g ≠ N) : (((((((w.setCell ⟨N, 0, none⟩ v0).setCell ⟨N, 1, none⟩ v1).setCell ⟨N, 2, none⟩ v2).setCell ⟨N, 3, none⟩ v3).setCell ⟨N, 4, none⟩ v4).setCell ⟨N, 5, none⟩ v5).setCell ⟨N, 6, none⟩ v6).heap[g]? = w.heap[g]? := by
  simp only [setCell_other _ _ h]
theorem seven_size (w : World) {N : Nat} (v0 v1 v2 v3 v4 v5 v6 : Value) : (((((((w.setCell ⟨N, 0, none⟩ v0).setCell ⟨N, 1, none⟩ v1).setCell ⟨N, 2, none⟩ v2).setCell ⟨N, 3, none⟩ v3).setCell ⟨N, 4, none⟩ v4).setCell ⟨N, 5, none⟩ v5).setCell ⟨N, 6, none⟩ v6).heap.size = w.heap.size := by
  simp only [setCell_size]
theorem seven_below {B : Nat} {a w : World} (h : Below B a w) {N : Nat} (hN : B ≤ N) (v0 v1 v2 v3 v4 v5 v6 : Value) : Below B a (((((((w.setCell ⟨N, 0, none⟩ v0).setCell ⟨N, 1, none⟩ v1).setCell ⟨N, 2, none⟩ v2).setCell ⟨N, 3, none⟩ v3).setCell ⟨N, 4, none⟩ v4).setCell ⟨N, 5, none⟩ v5).setCell ⟨N, 6, none⟩ v6) :=
  below_setCell (below_setCell (below_setCell (below_setCell (below_setCell (below_setCell (below_setCell h hN _) hN _) hN _) hN _) hN _) hN _) hN _
theorem reads_int1 {W : World} {g : Nat} {y : Int} (h : W.heap[g]? = some (.cells #[.int .i64 y] 3)) : ReadsI W (.slice (some ⟨g, 0, none⟩) 1 1) [y] :=
  ⟨_, 1, rfl, Nat.le_refl _, by show 1 ≤ _; omega, fun _ => ⟨g, 0, rfl, fun i j hi hj => by
    have hi1 : i < 1 := hi
    obtain rfl : i = 0 := by omega
    obtain rfl : j = 0 := by omega
    exact cell_of_row _ _ 0 _ _ _ h⟩⟩
theorem reads_lt {w : World} {ts : List Tk} {b o n c : Nat} (h : ReadsT w (.slice (some ⟨b, o, none⟩) n c) ts) (hn : 0 < ts.length) : b < w.heap.size := by
  obtain ⟨ao, c', e, _, _, hc⟩ := h
  cases e
  obtain ⟨b', off, e, hh⟩ := hc hn
  cases e
  exact cell_lt (hh 0 0 hn (by omega))

set_option maxRecDepth 100000 in
set_option maxHeartbeats 32000000 in
theorem Match_ref (va vb : Value) (al bl : List Tk) (bud : Int) (w : World) (ha : ReadsT w va al) (hb : ReadsT w vb bl) (hna : al.length ≤ 1000) (hnb : bl.length ≤ 1000) (hbud : bud ≤ 9223372036854775807) :
    Calls Try.prog 26 #[va, vb, .int .i64 bud] w fun e w' => Below w.heap.size w w' ∧ ((¬ (AllOk al ∧ AllOk bl ∧ 0 ≤ bud) ∧ e = .returned (.tuple #[.slice none 0 0, .slice none 0 0, .int .i64 1])) ∨
      ((AllOk al ∧ AllOk bl ∧ 0 ≤ bud) ∧ ∃ u v, e = .returned (.tuple #[u, v, .int .i64 0]) ∧ ReadsI w' u ((matP al bl bud).map (·.1)) ∧ ReadsT w' v ((matP al bl bud).map (·.2)))) := by
  have CVA := Lib.hid (fun W (h : Below w.heap.size w W) => validL_ref va al W (ha.below h))
  have CVB := Lib.hid (fun W (h : Below w.heap.size w W) => validL_ref vb bl W (hb.below h))
  have HA := Lib.hid ha
  have HB := Lib.hid hb
  obtain ⟨ja, jc, _, _, rfl, -⟩ := ha.at
  obtain ⟨ka, kc, _, _, rfl, -⟩ := hb.at
  clear ha hb
  have HBUD := Lib.hid hbud
  clear hbud
  by_cases hoa : AllOk al
  rotate_left
  · rw [decide_eq_false hoa] at CVA
    have HO := Lib.hid hoa
    clear hoa
    go_enter Try.func26, Try.ntmps26
    go_wp2_with fail
    refine (CVA.out _ (Below.refl _ _)).mono ?_
    rintro e w1 ⟨rfl, hb1⟩
    go_wp2
    refine bodyPost_ret (results_tmp3 Try.results26 _ _ _) rfl ?_
    exact ⟨hb1, .inl ⟨fun h => HO.out h.1, rfl⟩⟩
  rw [decide_eq_true hoa] at CVA
  have HOA := Lib.hid hoa
  clear hoa
  by_cases hob : AllOk bl
  rotate_left
  · rw [decide_eq_false hob] at CVB
    have HO := Lib.hid hob
    clear hob
    go_enter Try.func26, Try.ntmps26
    go_wp2_with fail
    refine (CVA.out _ (Below.refl _ _)).mono ?_
    rintro e w1 ⟨rfl, hb1⟩
    go_wp2_with fail
    refine (CVB.out _ hb1).mono ?_
    rintro e w2 ⟨rfl, hb2⟩
    go_wp2
    refine bodyPost_ret (results_tmp3 Try.results26 _ _ _) rfl ?_
    exact ⟨hb1.trans (hb2.mono hb1.size), .inl ⟨fun h => HO.out h.2.1, rfl⟩⟩
  rw [decide_eq_true hob] at CVB
  have HOB := Lib.hid hob
  clear hob
  by_cases hb0 : bud < 0
  · have q0 : decide (bud < 0) = true := decide_eq_true hb0
    have H0 := Lib.hid hb0
    clear hb0
    go_enter Try.func26, Try.ntmps26
    go_wp2_with fail
    refine (CVA.out _ (Below.refl _ _)).mono ?_
    rintro e w1 ⟨rfl, hb1⟩
    go_wp2_with fail
    refine (CVB.out _ hb1).mono ?_
    rintro e w2 ⟨rfl, hb2⟩
    go_wp2
    refine bodyPost_ret (results_tmp3 Try.results26 _ _ _) rfl ?_
    exact ⟨hb1.trans (hb2.mono hb1.size), .inl ⟨fun h => by have := H0.out; have := h.2.2; omega, rfl⟩⟩
  have q0 : decide (bud < 0) = false := decide_eq_false hb0
  have h0b : 0 ≤ bud := by omega
  clear hb0
  go_enter Try.func26, Try.ntmps26
  go_wp2_with fail
  refine (CVA.out _ (Below.refl _ _)).mono ?_
  rintro e w1 ⟨rfl, hb1⟩
  go_wp2_with fail
  refine (CVB.out _ hb1).mono ?_
  rintro e w2 ⟨rfl, hb2⟩
  have hbw2 := hb1.trans (hb2.mono hb1.size)
  have CO1 := Lib.hid (Order_ref _ al w2 (HA.out.below hbw2) (by omega))
  clear CVA CVB hb1 hb2
  go_wp2_with fail
  refine CO1.out.mono ?_
  rintro e w3 ⟨hb3, hcase⟩
  rcases hcase with ⟨hno, _⟩ | ⟨_, u3, rfl, hr3⟩
  · exact absurd HOA.out hno
  have hbw3 := hbw2.trans (hb3.mono hbw2.size)
  have CO2 := Lib.hid (Order_ref _ bl w3 (HB.out.below hbw3) (by omega))
  have HR3 := Lib.hid hr3
  obtain ⟨a3, c3, _, _, rfl, -⟩ := hr3.at
  clear CO1 hb3 hr3
  go_wp2_with fail
  refine CO2.out.mono ?_
  rintro e wO ⟨hb4, hcase⟩
  rcases hcase with ⟨hno, _⟩ | ⟨_, u4, rfl, hr4⟩
  · exact absurd HOB.out hno
  have hbwO := hbw3.trans (hb4.mono hbw3.size)
  have HR3 := Lib.hid (HR3.out.below hb4)
  have HR4 := Lib.hid hr4
  obtain ⟨a4, c4, _, _, rfl, -⟩ := hr4.at
  have HLA := Lib.hid (orderP_len HOA.out)
  have HLB := Lib.hid (orderP_len HOB.out)
  have HKA := Lib.hid (orderP_ok HOA.out)
  have HKB := Lib.hid (orderP_ok HOB.out)
  obtain ⟨D, hD⟩ : ∃ D, D = matP al bl bud := ⟨_, rfl⟩
  have HD := Lib.hid (show takP (mrgP (orderP al) (orderP bl)) bud = D from hD.symm)
  have HDD := Lib.hid hD
  clear hD CO2 hr4 hb4 hbw3 hbw2
  generalize orderP al = xs0 at *
  generalize orderP bl = ys0 at *
  obtain ⟨R, hR⟩ : ∃ R, R = wO.heap.size := ⟨_, rfl⟩
  have HZO := Lib.hid hR.symm
  have HWO := Lib.hid hbwO
  have hbO : Below R wO ((wO.alloc (.cells #[] 3)).alloc (.cells #[] 32)) := ((Below.refl _ _).alloc (by omega) _).alloc (by rw [World.size_alloc]; omega) _
  have hoi := OwnI.below (show OwnI (wO.alloc (.cells #[] 3)) R (.slice (some ⟨wO.heap.size, 0, none⟩) 0 0) [] by rw [hR]; exact Own.lit0 _ _ _ _ _ (Nat.le_refl _)) (sb0 (w := wO.alloc (.cells #[] 3)) (.cells #[] 32))
  have hot : OwnT 32 ((wO.alloc (.cells #[] 3)).alloc (.cells #[] 32)) R (.slice (some ⟨wO.heap.size + 1, 0, none⟩) 0 0) [] := by
    have := OwnT.lit0 32 (wO.alloc (.cells #[] 3))
    rw [World.size_alloc] at this
    exact Own.base this (by omega)
  have HOI := Lib.hid hoi
  have HOT := Lib.hid hot
  have HBO := Lib.hid hbO
  clear hR hbO hbwO hoi hot
  go_wp2

  go_loopw [2, 9, 11, 13, 14, 15, 16] (fun v2 v9 v11 v13 v14 _ _ wr => ∃ (xs ys : List Tk) (left : Int) (done : List (Int × Tk)), v2 = .int .i64 left ∧ (0 ≤ left ∧ left ≤ bud) ∧ D = done ++ takP (mrgP xs ys) left ∧ done.length + (xs.length + ys.length) ≤ 2000 ∧ AllOk xs ∧ AllOk ys ∧ ReadsT wO v9 xs ∧ ReadsT wO v11 ys ∧ Below R wO wr ∧ OwnI wr R v13 (done.map (·.1)) ∧ OwnT 32 wr R v14 (done.map (·.2))) (fun _ v9 v11 _ _ _ _ _ => lenV v9 + lenV v11)
  case atStart => exact ⟨xs0, ys0, bud, [], rfl, ⟨h0b, Int.le_refl _⟩, by rw [HD.out]; rfl, by have := HLA.out; have := HLB.out; simp; omega, HKA.out, HKB.out, HR3.out, HR4.out, HBO.out, HOI.out, HOT.out⟩
  case round =>
    obtain ⟨xs, ys, left, done, rfl, ⟨h0l, hlb⟩, hDD, hlen, hkx, hky, hrx, hry, hbel, hoi, hot⟩ := hrel
    have HDR := Lib.hid hDD
    have HKX := Lib.hid hkx
    have HKY := Lib.hid hky
    have HRX := Lib.hid hrx
    have HRY := Lib.hid hry
    have HB := Lib.hid hbel
    have HOI := Lib.hid hoi
    have HOT := Lib.hid hot
    have HLEN := Lib.hid hlen
    have hRle : R ≤ wr.heap.size := by have := hbel.size; have := HZO.out; omega
    obtain ⟨xa, xc, rfl, -, hxm, -⟩ := hrx
    obtain ⟨ya, yc, rfl, -, hym, -⟩ := hry
    obtain ⟨a9, l9, c9, rfl⟩ := Own.slice HOI.out
    obtain ⟨a8, l8, c8, rfl⟩ := Own.slice HOT.out
    clear hDD hkx hky hbel hoi hot
    by_cases hpos : 0 < xs.length + ys.length
    rotate_left
    · have hx0 : xs = [] := List.length_eq_zero_iff.1 (by omega)
      have hy0 : ys = [] := List.length_eq_zero_iff.1 (by omega)
      subst hx0 hy0
      have HF := Lib.hid (show D = done by have := HDR.out; rw [mrgP, takP, List.append_nil] at this; exact this)
      clear hpos HDR
      go_wp2
      refine bodyPost_ret (results_tmp3 Try.results26 _ _ _) rfl ?_
      refine ⟨HWO.out.trans (HB.out.mono (by rw [← HZO.out]; exact HWO.out.size)), .inr ⟨⟨HOA.out, HOB.out, h0b⟩, .slice a9 l9 c9, .slice a8 l8 c8, rfl, ?_, ?_⟩⟩
      · rw [← HDD.out, HF.out]; exact HOI.out.reads (by rw [List.length_map]; omega)
      · rw [← HDD.out, HF.out]; exact HOT.out.reads (by rw [List.length_map]; omega)
    have HPOS := Lib.hid hpos
    go_upto_region 6 with fail
    go_cut [48] (fun v48 wx => v48 = .bool true ∧ wr = wx)
    case first =>
      by_cases hx1 : 0 < xs.length
      · have qx : decide ((0 : Int) < xs.length) = true := decide_eq_true (by omega)
        clear hpos
        go_wp2
        go_meet
        case rel => exact ⟨by have := HPOS.out; first | rfl | (simp; done) | (simp; omega), rfl⟩
      · have qx : decide ((0 : Int) < xs.length) = false := decide_eq_false (by omega)
        have qy : decide ((0 : Int) < ys.length) = true := decide_eq_true (by omega)
        clear hpos
        go_wp2
        go_meet
        case rel => exact ⟨by have := HPOS.out; first | rfl | (simp; done) | (simp; omega), rfl⟩
    case rest =>
    obtain ⟨rfl, rfl⟩ := hcut
    go_upto_region 8 with fail
    go_cut [66] (fun v66 wx => ∃ (sd : Int) (t : Tk) (xs1 ys1 : List Tk), v66 = .bool (decide (sd = 1)) ∧ MStep xs ys sd t xs1 ys1 ∧ Below wr.heap.size wr wx)
    case first =>
      have HBD := Lib.hid ((Below.refl wr.heap.size wr).drew)
      rcases xs with _ | ⟨x, xr⟩
      · rcases ys with _ | ⟨y, yr⟩
        · simp at hpos
        refine wp_region_held_drew (S := fun _ => True) (by kernel_rfl) trivial (fun hHeld => ?_)
        generalize wr.drew = Wd at *
        refine wpAnyH_take (i := 0) (v := ?_) rfl (by kernel_rfl) (by kernel_rfl) (by kernel_rfl) (fun _ _ _ h => h) (Or.inl ⟨by rfl, ?_⟩) (by assumption) ?_
        rotate_left; · (intro w hSw; (try dsimp only at hSw); go_simp; try with_reducible rfl)
        try simp only [Act.put, List.getElem_toArray, List.getElem_cons_zero, List.getElem_cons_succ, List.setIfInBounds_toArray, List.set_cons_zero, List.set_cons_succ]
        refine wpAnyH_take (i := 1) (v := ?_) rfl (by kernel_rfl) (by kernel_rfl) (by kernel_rfl) (fun _ _ _ h => h) (Or.inl ⟨by rfl, ?_⟩) (by assumption) ?_
        rotate_left; · (intro w hSw; (try dsimp only at hSw); go_simp; try with_reducible rfl)
        try simp only [Act.put, List.getElem_toArray, List.getElem_cons_zero, List.getElem_cons_succ, List.setIfInBounds_toArray, List.set_cons_zero, List.set_cons_succ]
        refine wpAnyH_take (i := 2) (v := ?_) rfl (by kernel_rfl) (by kernel_rfl) (by kernel_rfl) (fun _ _ _ h => h) (Or.inl ⟨by rfl, ?_⟩) (by assumption) ?_
        rotate_left; · (intro w hSw; (try dsimp only at hSw); go_simp; try with_reducible rfl)
        try simp only [Act.put, List.getElem_toArray, List.getElem_cons_zero, List.getElem_cons_succ, List.setIfInBounds_toArray, List.set_cons_zero, List.set_cons_succ]
        refine wpAnyH_take (i := 3) (v := ?_) rfl (by kernel_rfl) (by kernel_rfl) (by kernel_rfl) (fun _ _ _ h => h) (Or.inl ⟨by rfl, ?_⟩) (by assumption) ?_
        rotate_left; · (intro w hSw; (try dsimp only at hSw); go_simp; try with_reducible rfl)
        try simp only [Act.put, List.getElem_toArray, List.getElem_cons_zero, List.getElem_cons_succ, List.setIfInBounds_toArray, List.set_cons_zero, List.set_cons_succ]
        refine wpAnyH_take (i := 4) (v := undef) rfl (by kernel_rfl) (by kernel_rfl) (by kernel_rfl) (fun _ _ _ h => h) (Or.inr ⟨by rfl, rfl⟩) (by assumption) ?_
        try simp only [Act.put, List.getElem_toArray, List.getElem_cons_zero, List.getElem_cons_succ, List.setIfInBounds_toArray, List.set_cons_zero, List.set_cons_succ]
        refine wpAnyH_take (i := 5) (v := undef) rfl (by kernel_rfl) (by kernel_rfl) (by kernel_rfl) (fun _ _ _ h => h) (Or.inr ⟨by rfl, rfl⟩) (by assumption) ?_
        try simp only [Act.put, List.getElem_toArray, List.getElem_cons_zero, List.getElem_cons_succ, List.setIfInBounds_toArray, List.set_cons_zero, List.set_cons_succ]
        refine wpAnyH_take (i := 6) (v := undef) rfl (by kernel_rfl) (by kernel_rfl) (by kernel_rfl) (fun _ _ _ h => h) (Or.inr ⟨by rfl, rfl⟩) (by assumption) ?_
        try simp only [Act.put, List.getElem_toArray, List.getElem_cons_zero, List.getElem_cons_succ, List.setIfInBounds_toArray, List.set_cons_zero, List.set_cons_succ]
        refine wpAnyH_take (i := 7) (v := undef) rfl (by kernel_rfl) (by kernel_rfl) (by kernel_rfl) (fun _ _ _ h => h) (Or.inr ⟨by rfl, rfl⟩) (by assumption) ?_
        try simp only [Act.put, List.getElem_toArray, List.getElem_cons_zero, List.getElem_cons_succ, List.setIfInBounds_toArray, List.set_cons_zero, List.set_cons_succ]
        refine wpAnyH_take (i := 8) (v := undef) rfl (by kernel_rfl) (by kernel_rfl) (by kernel_rfl) (fun _ _ _ h => h) (Or.inr ⟨by rfl, rfl⟩) (by assumption) ?_
        try simp only [Act.put, List.getElem_toArray, List.getElem_cons_zero, List.getElem_cons_succ, List.setIfInBounds_toArray, List.set_cons_zero, List.set_cons_succ]
        refine wpAnyH_take (i := 9) (v := undef) rfl (by kernel_rfl) (by kernel_rfl) (by kernel_rfl) (fun _ _ _ h => h) (Or.inr ⟨by rfl, rfl⟩) (by assumption) ?_
        try simp only [Act.put, List.getElem_toArray, List.getElem_cons_zero, List.getElem_cons_succ, List.setIfInBounds_toArray, List.set_cons_zero, List.set_cons_succ]
        refine wpAnyH_take (i := 10) (v := undef) rfl (by kernel_rfl) (by kernel_rfl) (by kernel_rfl) (fun _ _ _ h => h) (Or.inr ⟨by rfl, rfl⟩) (by assumption) ?_
        try simp only [Act.put, List.getElem_toArray, List.getElem_cons_zero, List.getElem_cons_succ, List.setIfInBounds_toArray, List.set_cons_zero, List.set_cons_succ]
        refine wpAnyH_take (i := 11) (v := undef) rfl (by kernel_rfl) (by kernel_rfl) (by kernel_rfl) (fun _ _ _ h => h) (Or.inr ⟨by rfl, rfl⟩) (by assumption) ?_
        try simp only [Act.put, List.getElem_toArray, List.getElem_cons_zero, List.getElem_cons_succ, List.setIfInBounds_toArray, List.set_cons_zero, List.set_cons_succ]
        refine wpAnyH_take (i := 12) (v := undef) rfl (by kernel_rfl) (by kernel_rfl) (by kernel_rfl) (fun _ _ _ h => h) (Or.inr ⟨by rfl, rfl⟩) (by assumption) ?_
        try simp only [Act.put, List.getElem_toArray, List.getElem_cons_zero, List.getElem_cons_succ, List.setIfInBounds_toArray, List.set_cons_zero, List.set_cons_succ]
        refine wpAnyH_take (i := 13) (v := undef) rfl (by kernel_rfl) (by kernel_rfl) (by kernel_rfl) (fun _ _ _ h => h) (Or.inr ⟨by rfl, rfl⟩) (by assumption) ?_
        try simp only [Act.put, List.getElem_toArray, List.getElem_cons_zero, List.getElem_cons_succ, List.setIfInBounds_toArray, List.set_cons_zero, List.set_cons_succ]
        refine wpAnyH_take (i := 14) (v := undef) rfl (by kernel_rfl) (by kernel_rfl) (by kernel_rfl) (fun _ _ _ h => h) (Or.inr ⟨by rfl, rfl⟩) (by assumption) ?_
        try simp only [Act.put, List.getElem_toArray, List.getElem_cons_zero, List.getElem_cons_succ, List.setIfInBounds_toArray, List.set_cons_zero, List.set_cons_succ]
        refine wpAnyH_take (i := 15) (v := undef) rfl (by kernel_rfl) (by kernel_rfl) (by kernel_rfl) (fun _ _ _ h => h) (Or.inr ⟨by rfl, rfl⟩) (by assumption) ?_
        try simp only [Act.put, List.getElem_toArray, List.getElem_cons_zero, List.getElem_cons_succ, List.setIfInBounds_toArray, List.set_cons_zero, List.set_cons_succ]
        refine wpAnyH_take (i := 16) (v := undef) rfl (by kernel_rfl) (by kernel_rfl) (by kernel_rfl) (fun _ _ _ h => h) (Or.inr ⟨by rfl, rfl⟩) (by assumption) ?_
        try simp only [Act.put, List.getElem_toArray, List.getElem_cons_zero, List.getElem_cons_succ, List.setIfInBounds_toArray, List.set_cons_zero, List.set_cons_succ]
        refine wpAnyH_take (i := 17) (v := ?_) rfl (by kernel_rfl) (by kernel_rfl) (by kernel_rfl) (fun _ _ _ h => h) (Or.inl ⟨by rfl, ?_⟩) (by assumption) ?_
        rotate_left; · (intro w hSw; (try dsimp only at hSw); go_simp; try with_reducible rfl)
        try simp only [Act.put, List.getElem_toArray, List.getElem_cons_zero, List.getElem_cons_succ, List.setIfInBounds_toArray, List.set_cons_zero, List.set_cons_succ]
        refine wpAnyH_done (by kernel_rfl) ?_ _
        clear hHeld
        go_wp2
        go_meet
        case rel => exact ⟨1, y, [], yr, by first | (simp; done) | (simp; omega), mstep_a, HBD.out⟩
      obtain ⟨xb, xo, rfl, hxc, hxl, ⟨p0, p1, p2, p3, p4, p5, p6⟩, -, -⟩ := reads_tail HRX.out
      rcases ys with _ | ⟨y, yr⟩
      · clear p0 p1 p2 p3 p4 p5 p6
        refine wp_region_held_drew (S := fun _ => True) (by kernel_rfl) trivial (fun hHeld => ?_)
        generalize wr.drew = Wd at *
        refine wpAnyH_take (i := 0) (v := ?_) rfl (by kernel_rfl) (by kernel_rfl) (by kernel_rfl) (fun _ _ _ h => h) (Or.inl ⟨by rfl, ?_⟩) (by assumption) ?_
        rotate_left; · (intro w hSw; (try dsimp only at hSw); go_simp; try with_reducible rfl)
        try simp only [Act.put, List.getElem_toArray, List.getElem_cons_zero, List.getElem_cons_succ, List.setIfInBounds_toArray, List.set_cons_zero, List.set_cons_succ]
        refine wpAnyH_take (i := 1) (v := ?_) rfl (by kernel_rfl) (by kernel_rfl) (by kernel_rfl) (fun _ _ _ h => h) (Or.inl ⟨by rfl, ?_⟩) (by assumption) ?_
        rotate_left; · (intro w hSw; (try dsimp only at hSw); go_simp; try with_reducible rfl)
        try simp only [Act.put, List.getElem_toArray, List.getElem_cons_zero, List.getElem_cons_succ, List.setIfInBounds_toArray, List.set_cons_zero, List.set_cons_succ]
        refine wpAnyH_take (i := 2) (v := ?_) rfl (by kernel_rfl) (by kernel_rfl) (by kernel_rfl) (fun _ _ _ h => h) (Or.inl ⟨by rfl, ?_⟩) (by assumption) ?_
        rotate_left; · (intro w hSw; (try dsimp only at hSw); go_simp; try with_reducible rfl)
        try simp only [Act.put, List.getElem_toArray, List.getElem_cons_zero, List.getElem_cons_succ, List.setIfInBounds_toArray, List.set_cons_zero, List.set_cons_succ]
        refine wpAnyH_take (i := 3) (v := ?_) rfl (by kernel_rfl) (by kernel_rfl) (by kernel_rfl) (fun _ _ _ h => h) (Or.inl ⟨by rfl, ?_⟩) (by assumption) ?_
        rotate_left; · (intro w hSw; (try dsimp only at hSw); go_simp; try with_reducible rfl)
        try simp only [Act.put, List.getElem_toArray, List.getElem_cons_zero, List.getElem_cons_succ, List.setIfInBounds_toArray, List.set_cons_zero, List.set_cons_succ]
        refine wpAnyH_take (i := 4) (v := ?_) rfl (by kernel_rfl) (by kernel_rfl) (by kernel_rfl) (fun _ _ _ h => h) (Or.inl ⟨by rfl, ?_⟩) (by assumption) ?_
        rotate_left; · (intro w hSw; (try dsimp only at hSw); go_simp; try with_reducible rfl)
        try simp only [Act.put, List.getElem_toArray, List.getElem_cons_zero, List.getElem_cons_succ, List.setIfInBounds_toArray, List.set_cons_zero, List.set_cons_succ]
        refine wpAnyH_take (i := 5) (v := ?_) rfl (by kernel_rfl) (by kernel_rfl) (by kernel_rfl) (fun _ _ _ h => h) (Or.inl ⟨by rfl, ?_⟩) (by assumption) ?_
        rotate_left; · (intro w hSw; (try dsimp only at hSw); go_simp; try with_reducible rfl)
        try simp only [Act.put, List.getElem_toArray, List.getElem_cons_zero, List.getElem_cons_succ, List.setIfInBounds_toArray, List.set_cons_zero, List.set_cons_succ]
        refine wpAnyH_take (i := 6) (v := ?_) rfl (by kernel_rfl) (by kernel_rfl) (by kernel_rfl) (fun _ _ _ h => h) (Or.inl ⟨by rfl, ?_⟩) (by assumption) ?_
        rotate_left; · (intro w hSw; (try dsimp only at hSw); go_simp; try with_reducible rfl)
        try simp only [Act.put, List.getElem_toArray, List.getElem_cons_zero, List.getElem_cons_succ, List.setIfInBounds_toArray, List.set_cons_zero, List.set_cons_succ]
        refine wpAnyH_take (i := 7) (v := ?_) rfl (by kernel_rfl) (by kernel_rfl) (by kernel_rfl) (fun _ _ _ h => h) (Or.inl ⟨by rfl, ?_⟩) (by assumption) ?_
        rotate_left; · (intro w hSw; (try dsimp only at hSw); go_simp; try with_reducible rfl)
        try simp only [Act.put, List.getElem_toArray, List.getElem_cons_zero, List.getElem_cons_succ, List.setIfInBounds_toArray, List.set_cons_zero, List.set_cons_succ]
        refine wpAnyH_take (i := 8) (v := undef) rfl (by kernel_rfl) (by kernel_rfl) (by kernel_rfl) (fun _ _ _ h => h) (Or.inr ⟨by rfl, rfl⟩) (by assumption) ?_
        try simp only [Act.put, List.getElem_toArray, List.getElem_cons_zero, List.getElem_cons_succ, List.setIfInBounds_toArray, List.set_cons_zero, List.set_cons_succ]
        refine wpAnyH_take (i := 9) (v := undef) rfl (by kernel_rfl) (by kernel_rfl) (by kernel_rfl) (fun _ _ _ h => h) (Or.inr ⟨by rfl, rfl⟩) (by assumption) ?_
        try simp only [Act.put, List.getElem_toArray, List.getElem_cons_zero, List.getElem_cons_succ, List.setIfInBounds_toArray, List.set_cons_zero, List.set_cons_succ]
        refine wpAnyH_take (i := 10) (v := undef) rfl (by kernel_rfl) (by kernel_rfl) (by kernel_rfl) (fun _ _ _ h => h) (Or.inr ⟨by rfl, rfl⟩) (by assumption) ?_
        try simp only [Act.put, List.getElem_toArray, List.getElem_cons_zero, List.getElem_cons_succ, List.setIfInBounds_toArray, List.set_cons_zero, List.set_cons_succ]
        refine wpAnyH_take (i := 11) (v := undef) rfl (by kernel_rfl) (by kernel_rfl) (by kernel_rfl) (fun _ _ _ h => h) (Or.inr ⟨by rfl, rfl⟩) (by assumption) ?_
        try simp only [Act.put, List.getElem_toArray, List.getElem_cons_zero, List.getElem_cons_succ, List.setIfInBounds_toArray, List.set_cons_zero, List.set_cons_succ]
        refine wpAnyH_take (i := 12) (v := undef) rfl (by kernel_rfl) (by kernel_rfl) (by kernel_rfl) (fun _ _ _ h => h) (Or.inr ⟨by rfl, rfl⟩) (by assumption) ?_
        try simp only [Act.put, List.getElem_toArray, List.getElem_cons_zero, List.getElem_cons_succ, List.setIfInBounds_toArray, List.set_cons_zero, List.set_cons_succ]
        refine wpAnyH_take (i := 13) (v := undef) rfl (by kernel_rfl) (by kernel_rfl) (by kernel_rfl) (fun _ _ _ h => h) (Or.inr ⟨by rfl, rfl⟩) (by assumption) ?_
        try simp only [Act.put, List.getElem_toArray, List.getElem_cons_zero, List.getElem_cons_succ, List.setIfInBounds_toArray, List.set_cons_zero, List.set_cons_succ]
        refine wpAnyH_take (i := 14) (v := undef) rfl (by kernel_rfl) (by kernel_rfl) (by kernel_rfl) (fun _ _ _ h => h) (Or.inr ⟨by rfl, rfl⟩) (by assumption) ?_
        try simp only [Act.put, List.getElem_toArray, List.getElem_cons_zero, List.getElem_cons_succ, List.setIfInBounds_toArray, List.set_cons_zero, List.set_cons_succ]
        refine wpAnyH_take (i := 15) (v := undef) rfl (by kernel_rfl) (by kernel_rfl) (by kernel_rfl) (fun _ _ _ h => h) (Or.inr ⟨by rfl, rfl⟩) (by assumption) ?_
        try simp only [Act.put, List.getElem_toArray, List.getElem_cons_zero, List.getElem_cons_succ, List.setIfInBounds_toArray, List.set_cons_zero, List.set_cons_succ]
        refine wpAnyH_take (i := 16) (v := ?_) rfl (by kernel_rfl) (by kernel_rfl) (by kernel_rfl) (fun _ _ _ h => h) (Or.inl ⟨by rfl, ?_⟩) (by assumption) ?_
        rotate_left; · (intro w hSw; (try dsimp only at hSw); go_simp; try with_reducible rfl)
        try simp only [Act.put, List.getElem_toArray, List.getElem_cons_zero, List.getElem_cons_succ, List.setIfInBounds_toArray, List.set_cons_zero, List.set_cons_succ]
        refine wpAnyH_take (i := 17) (v := ?_) rfl (by kernel_rfl) (by kernel_rfl) (by kernel_rfl) (fun _ _ _ h => h) (Or.inl ⟨by rfl, ?_⟩) (by assumption) ?_
        rotate_left; · (intro w hSw; (try dsimp only at hSw); go_simp; try with_reducible rfl)
        try simp only [Act.put, List.getElem_toArray, List.getElem_cons_zero, List.getElem_cons_succ, List.setIfInBounds_toArray, List.set_cons_zero, List.set_cons_succ]
        refine wpAnyH_done (by kernel_rfl) ?_ _
        clear hHeld
        go_wp2
        go_meet
        case rel => exact ⟨0, x, xr, [], by first | (simp; done) | (simp; omega), mstep_b, HBD.out⟩
      obtain ⟨yb, yo, rfl, hyc, hyl, ⟨s0, s1, s2, s3, s4, s5, s6⟩, -, -⟩ := reads_tail HRY.out
      have CC := Lib.hid (fun W => compare_ref y x W (HKY.out y (List.mem_cons_self ..)) (HKX.out x (List.mem_cons_self ..)))
      obtain ⟨c, hc⟩ : ∃ c, c = cmpT y x := ⟨_, rfl⟩
      rw [← hc] at CC
      have HC := Lib.hid hc
      obtain ⟨xx, hxx⟩ : ∃ t, t = x := ⟨_, rfl⟩
      obtain ⟨yy, hyy⟩ : ∃ t, t = y := ⟨_, rfl⟩
      rw [← hxx] at p0 p1 p2 p3 p4 p5 p6 CC
      rw [← hyy] at s0 s1 s2 s3 s4 s5 s6 CC
      clear hxx hyy hc
      obtain ⟨xst, xix, xsz, xsp, xnum, xden, xday⟩ := xx
      obtain ⟨yst, yix, ysz, ysp, ynum, yden, yday⟩ := yy
      unfold Tk.v at CC
      simp only at p0 p1 p2 p3 p4 p5 p6 s0 s1 s2 s3 s4 s5 s6 CC
      have p0 := bc (HB.out.mono (Nat.le_of_eq HZO.out)) p0
      have p1 := bc (HB.out.mono (Nat.le_of_eq HZO.out)) p1
      have p2 := bc (HB.out.mono (Nat.le_of_eq HZO.out)) p2
      have p3 := bc (HB.out.mono (Nat.le_of_eq HZO.out)) p3
      have p4 := bc (HB.out.mono (Nat.le_of_eq HZO.out)) p4
      have p5 := bc (HB.out.mono (Nat.le_of_eq HZO.out)) p5
      have p6 := bc (HB.out.mono (Nat.le_of_eq HZO.out)) p6
      have s0 := bc (HB.out.mono (Nat.le_of_eq HZO.out)) s0
      have s1 := bc (HB.out.mono (Nat.le_of_eq HZO.out)) s1
      have s2 := bc (HB.out.mono (Nat.le_of_eq HZO.out)) s2
      have s3 := bc (HB.out.mono (Nat.le_of_eq HZO.out)) s3
      have s4 := bc (HB.out.mono (Nat.le_of_eq HZO.out)) s4
      have s5 := bc (HB.out.mono (Nat.le_of_eq HZO.out)) s5
      have s6 := bc (HB.out.mono (Nat.le_of_eq HZO.out)) s6
      have HSB0 : ∀ w' : World, Below (wr).drew.heap.size (wr).drew w' → (w'.cell? ⟨xb, xo, none⟩ = some (.string xst) ∧ w'.cell? ⟨xb, xo + 1, none⟩ = some (.int .i64 xix) ∧ w'.cell? ⟨xb, xo + 2, none⟩ = some (.int .i64 xsz) ∧ w'.cell? ⟨xb, xo + 3, none⟩ = some (.int .i64 xsp) ∧ w'.cell? ⟨xb, xo + 4, none⟩ = some (.int .i64 xnum) ∧ w'.cell? ⟨xb, xo + 5, none⟩ = some (.int .i64 xden) ∧ w'.cell? ⟨xb, xo + 6, none⟩ = some (.int .i64 xday) ∧ w'.cell? ⟨yb, yo, none⟩ = some (.string yst) ∧ w'.cell? ⟨yb, yo + 1, none⟩ = some (.int .i64 yix) ∧ w'.cell? ⟨yb, yo + 2, none⟩ = some (.int .i64 ysz) ∧ w'.cell? ⟨yb, yo + 3, none⟩ = some (.int .i64 ysp) ∧ w'.cell? ⟨yb, yo + 4, none⟩ = some (.int .i64 ynum) ∧ w'.cell? ⟨yb, yo + 5, none⟩ = some (.int .i64 yden) ∧ w'.cell? ⟨yb, yo + 6, none⟩ = some (.int .i64 yday)) := fun w' hb => ⟨bc hb p0, bc hb p1, bc hb p2, bc hb p3, bc hb p4, bc hb p5, bc hb p6, bc hb s0, bc hb s1, bc hb s2, bc hb s3, bc hb s4, bc hb s5, bc hb s6⟩
      refine wp_region_held_drew (S := fun w' => w'.cell? ⟨xb, xo, none⟩ = some (.string xst) ∧ w'.cell? ⟨xb, xo + 1, none⟩ = some (.int .i64 xix) ∧ w'.cell? ⟨xb, xo + 2, none⟩ = some (.int .i64 xsz) ∧ w'.cell? ⟨xb, xo + 3, none⟩ = some (.int .i64 xsp) ∧ w'.cell? ⟨xb, xo + 4, none⟩ = some (.int .i64 xnum) ∧ w'.cell? ⟨xb, xo + 5, none⟩ = some (.int .i64 xden) ∧ w'.cell? ⟨xb, xo + 6, none⟩ = some (.int .i64 xday) ∧ w'.cell? ⟨yb, yo, none⟩ = some (.string yst) ∧ w'.cell? ⟨yb, yo + 1, none⟩ = some (.int .i64 yix) ∧ w'.cell? ⟨yb, yo + 2, none⟩ = some (.int .i64 ysz) ∧ w'.cell? ⟨yb, yo + 3, none⟩ = some (.int .i64 ysp) ∧ w'.cell? ⟨yb, yo + 4, none⟩ = some (.int .i64 ynum) ∧ w'.cell? ⟨yb, yo + 5, none⟩ = some (.int .i64 yden) ∧ w'.cell? ⟨yb, yo + 6, none⟩ = some (.int .i64 yday)) (by kernel_rfl) (HSB0 _ (Below.refl _ _)) (fun hHeld => ?_)
      have HSB := Lib.hid HSB0
      clear HSB0
      generalize (wr).drew = Wd at *
      clear p0 p1 p2 p3 p4 p5 p6 s0 s1 s2 s3 s4 s5 s6
      refine wpAnyH_take (i := 0) (v := ?_) rfl (by kernel_rfl) (by kernel_rfl) (by kernel_rfl) (fun _ _ _ h => h) (Or.inl ⟨by rfl, ?_⟩) (by assumption) ?_
      rotate_left; · (intro w hSw; (try dsimp only at hSw); go_simp; try with_reducible rfl)
      try simp only [Act.put, List.getElem_toArray, List.getElem_cons_zero, List.getElem_cons_succ, List.setIfInBounds_toArray, List.set_cons_zero, List.set_cons_succ]
      refine wpAnyH_take (i := 1) (v := ?_) rfl (by kernel_rfl) (by kernel_rfl) (by kernel_rfl) (fun _ _ _ h => h) (Or.inl ⟨by rfl, ?_⟩) (by assumption) ?_
      rotate_left; · (intro w hSw; (try dsimp only at hSw); go_simp; try with_reducible rfl)
      try simp only [Act.put, List.getElem_toArray, List.getElem_cons_zero, List.getElem_cons_succ, List.setIfInBounds_toArray, List.set_cons_zero, List.set_cons_succ]
      refine wpAnyH_take (i := 2) (v := ?_) rfl (by kernel_rfl) (by kernel_rfl) (by kernel_rfl) (fun _ _ _ h => h) (Or.inl ⟨by rfl, ?_⟩) (by assumption) ?_
      rotate_left; · (intro w hSw; (try dsimp only at hSw); go_simp; try with_reducible rfl)
      try simp only [Act.put, List.getElem_toArray, List.getElem_cons_zero, List.getElem_cons_succ, List.setIfInBounds_toArray, List.set_cons_zero, List.set_cons_succ]
      refine wpAnyH_take (i := 3) (v := ?_) rfl (by kernel_rfl) (by kernel_rfl) (by kernel_rfl) (fun _ _ _ h => h) (Or.inl ⟨by rfl, ?_⟩) (by assumption) ?_
      rotate_left; · (intro w hSw; (try dsimp only at hSw); go_simp; try with_reducible rfl)
      try simp only [Act.put, List.getElem_toArray, List.getElem_cons_zero, List.getElem_cons_succ, List.setIfInBounds_toArray, List.set_cons_zero, List.set_cons_succ]
      refine wpAnyH_take (i := 4) (v := ?_) rfl (by kernel_rfl) (by kernel_rfl) (by kernel_rfl) (fun _ _ _ h => h) (Or.inl ⟨by rfl, ?_⟩) (by assumption) ?_
      rotate_left; · (intro w hSw; (try dsimp only at hSw); go_simp; try with_reducible rfl)
      try simp only [Act.put, List.getElem_toArray, List.getElem_cons_zero, List.getElem_cons_succ, List.setIfInBounds_toArray, List.set_cons_zero, List.set_cons_succ]
      refine wpAnyH_take (i := 5) (v := ?_) rfl (by kernel_rfl) (by kernel_rfl) (by kernel_rfl) (fun _ _ _ h => h) (Or.inl ⟨by rfl, ?_⟩) (by assumption) ?_
      rotate_left; · (intro w hSw; (try dsimp only at hSw); go_simp; try with_reducible rfl)
      try simp only [Act.put, List.getElem_toArray, List.getElem_cons_zero, List.getElem_cons_succ, List.setIfInBounds_toArray, List.set_cons_zero, List.set_cons_succ]
      refine wpAnyH_take (i := 6) (v := ?_) rfl (by kernel_rfl) (by kernel_rfl) (by kernel_rfl) (fun _ _ _ h => h) (Or.inl ⟨by rfl, ?_⟩) (by assumption) ?_
      rotate_left; · (intro w hSw; (try dsimp only at hSw); go_simp; try with_reducible rfl)
      try simp only [Act.put, List.getElem_toArray, List.getElem_cons_zero, List.getElem_cons_succ, List.setIfInBounds_toArray, List.set_cons_zero, List.set_cons_succ]
      refine wpAnyH_take (i := 7) (v := ?_) rfl (by kernel_rfl) (by kernel_rfl) (by kernel_rfl) (fun _ _ _ h => h) (Or.inl ⟨by rfl, ?_⟩) (by assumption) ?_
      rotate_left; · (intro w hSw; (try dsimp only at hSw); go_simp; try with_reducible rfl)
      try simp only [Act.put, List.getElem_toArray, List.getElem_cons_zero, List.getElem_cons_succ, List.setIfInBounds_toArray, List.set_cons_zero, List.set_cons_succ]
      refine wpAnyH_take (i := 8) (v := ?_) rfl (by kernel_rfl) (by kernel_rfl) (by kernel_rfl) (fun _ _ _ h => h) (Or.inl ⟨by rfl, ?_⟩) (by assumption) ?_
      rotate_left; · (intro w hSw; (try dsimp only at hSw); go_simp; try with_reducible rfl)
      try simp only [Act.put, List.getElem_toArray, List.getElem_cons_zero, List.getElem_cons_succ, List.setIfInBounds_toArray, List.set_cons_zero, List.set_cons_succ]
      refine wpAnyH_take (i := 9) (v := ?_) rfl (by kernel_rfl) (by kernel_rfl) (by kernel_rfl) (fun _ _ _ h => h) (Or.inl ⟨by rfl, ?_⟩) (by assumption) ?_
      rotate_left; · (intro w hSw; (try dsimp only at hSw); go_simp; try with_reducible rfl)
      try simp only [Act.put, List.getElem_toArray, List.getElem_cons_zero, List.getElem_cons_succ, List.setIfInBounds_toArray, List.set_cons_zero, List.set_cons_succ]
      refine wpAnyH_take (i := 10) (v := ?_) rfl (by kernel_rfl) (by kernel_rfl) (by kernel_rfl) (fun _ _ _ h => h) (Or.inl ⟨by rfl, ?_⟩) (by assumption) ?_
      rotate_left; · (intro w hSw; (try dsimp only at hSw); go_simp; try with_reducible rfl)
      try simp only [Act.put, List.getElem_toArray, List.getElem_cons_zero, List.getElem_cons_succ, List.setIfInBounds_toArray, List.set_cons_zero, List.set_cons_succ]
      refine wpAnyH_take (i := 11) (v := ?_) rfl (by kernel_rfl) (by kernel_rfl) (by kernel_rfl) (fun _ _ _ h => h) (Or.inl ⟨by rfl, ?_⟩) (by assumption) ?_
      rotate_left; · (intro w hSw; (try dsimp only at hSw); go_simp; try with_reducible rfl)
      try simp only [Act.put, List.getElem_toArray, List.getElem_cons_zero, List.getElem_cons_succ, List.setIfInBounds_toArray, List.set_cons_zero, List.set_cons_succ]
      refine wpAnyH_take (i := 12) (v := ?_) rfl (by kernel_rfl) (by kernel_rfl) (by kernel_rfl) (fun _ _ _ h => h) (Or.inl ⟨by rfl, ?_⟩) (by assumption) ?_
      rotate_left; · (intro w hSw; (try dsimp only at hSw); go_simp; try with_reducible rfl)
      try simp only [Act.put, List.getElem_toArray, List.getElem_cons_zero, List.getElem_cons_succ, List.setIfInBounds_toArray, List.set_cons_zero, List.set_cons_succ]
      refine wpAnyH_take (i := 13) (v := ?_) rfl (by kernel_rfl) (by kernel_rfl) (by kernel_rfl) (fun _ _ _ h => h) (Or.inl ⟨by rfl, ?_⟩) (by assumption) ?_
      rotate_left; · (intro w hSw; (try dsimp only at hSw); go_simp; try with_reducible rfl)
      try simp only [Act.put, List.getElem_toArray, List.getElem_cons_zero, List.getElem_cons_succ, List.setIfInBounds_toArray, List.set_cons_zero, List.set_cons_succ]
      refine wpAnyH_ready (rs := [14]) (by kernel_rfl) (by simp) ?_
      refine AllReadyH.cons rfl (fun K hK => ?_) AllReadyH.nil
      go_simp
      refine (CC.out _).mono ?_; rintro e w5 ⟨rfl, hb5⟩
      go_wp2_with fail
      refine hK.out _ _ (HSB.out _ hb5) (fun hNew => ?_)
      clear hK K hHeld
      have hHeld := hNew
      clear hNew
      try simp only [Act.put, List.getElem_toArray, List.getElem_cons_zero, List.getElem_cons_succ, List.setIfInBounds_toArray, List.set_cons_zero, List.set_cons_succ]
      refine wpAnyH_take (i := 15) (v := ?_) rfl (by kernel_rfl) (by kernel_rfl) (by kernel_rfl) (fun _ _ _ h => h) (Or.inl ⟨by rfl, ?_⟩) (by assumption) ?_
      rotate_left; · (intro w hSw; (try dsimp only at hSw); go_simp; try with_reducible rfl)
      try simp only [Act.put, List.getElem_toArray, List.getElem_cons_zero, List.getElem_cons_succ, List.setIfInBounds_toArray, List.set_cons_zero, List.set_cons_succ]
      refine wpAnyH_take (i := 16) (v := ?_) rfl (by kernel_rfl) (by kernel_rfl) (by kernel_rfl) (fun _ _ _ h => h) (Or.inl ⟨by rfl, ?_⟩) (by assumption) ?_
      rotate_left; · (intro w hSw; (try dsimp only at hSw); go_simp; try with_reducible rfl)
      try simp only [Act.put, List.getElem_toArray, List.getElem_cons_zero, List.getElem_cons_succ, List.setIfInBounds_toArray, List.set_cons_zero, List.set_cons_succ]
      refine wpAnyH_take (i := 17) (v := ?_) rfl (by kernel_rfl) (by kernel_rfl) (by kernel_rfl) (fun _ _ _ h => h) (Or.inl ⟨by rfl, ?_⟩) (by assumption) ?_
      rotate_left; · (intro w hSw; (try dsimp only at hSw); go_simp; try with_reducible rfl)
      try simp only [Act.put, List.getElem_toArray, List.getElem_cons_zero, List.getElem_cons_succ, List.setIfInBounds_toArray, List.set_cons_zero, List.set_cons_succ]
      refine wpAnyH_done (by kernel_rfl) ?_ _
      clear hHeld HSB
      have hbx := HBD.out.trans (hb5.mono HBD.out.size)
      by_cases hc0 : c < 0
      · have q1 : decide (c < 0) = true := decide_eq_true hc0
        have HC0 := Lib.hid (show cmpT _ _ < 0 by rw [← HC.out]; exact hc0)
        clear CC hb5
        rw [q1]
        go_wp2
        go_meet
        case rel => exact ⟨1, _, _, _, by first | (simp; done) | (simp; omega), mstep_c HC0.out, hbx⟩
      · have q1 : decide (c < 0) = false := decide_eq_false hc0
        have HC0 := Lib.hid (show ¬ cmpT _ _ < 0 by rw [← HC.out]; exact hc0)
        clear CC hb5
        rw [q1]
        go_wp2
        go_meet
        case rel => exact ⟨0, _, _, _, by first | (simp; done) | (simp; omega), mstep_d (by have := HC0.out; omega), hbx⟩
    case rest =>
    obtain ⟨sd, t, xs1, ys1, rfl, hst, hbc⟩ := hcut
    obtain ⟨hsd, hm⟩ := hst
    have HM := Lib.hid hm
    clear hm
    rcases hsd with ⟨rfl, rfl, rfl⟩ | ⟨rfl, rfl, rfl⟩
    · have e0 : decide ((0 : Int) = 1) = false := by decide
      rw [e0]
      clear e0
      obtain ⟨tb, tq, rfl, htc, htl, ⟨p0, p1, p2, p3, p4, p5, p6⟩, hc1, hc2⟩ := reads_tail HRX.out
      have HTB := Lib.hid (show tb < wc.heap.size from Nat.lt_of_lt_of_le (cell_lt p0) (Nat.le_trans (by have := HB.out.size; exact this) hbc.size))
      have p0 := bc hbc (bc (HB.out.mono (Nat.le_of_eq HZO.out)) p0)
      have p1 := bc hbc (bc (HB.out.mono (Nat.le_of_eq HZO.out)) p1)
      have p2 := bc hbc (bc (HB.out.mono (Nat.le_of_eq HZO.out)) p2)
      have p3 := bc hbc (bc (HB.out.mono (Nat.le_of_eq HZO.out)) p3)
      have p4 := bc hbc (bc (HB.out.mono (Nat.le_of_eq HZO.out)) p4)
      have p5 := bc hbc (bc (HB.out.mono (Nat.le_of_eq HZO.out)) p5)
      have p6 := bc hbc (bc (HB.out.mono (Nat.le_of_eq HZO.out)) p6)
      have HTO := Lib.hid (HKX.out t (List.mem_cons_self ..))
      have HTS := Lib.hid HTO.out.2.2.1
      have HKT := Lib.hid (show AllOk xs1 from fun u hu => HKX.out u (List.mem_cons_of_mem _ hu))
      have HOIC := Lib.hid (HOI.out.below hbc)
      have HOTC := Lib.hid (HOT.out.below hbc)
      have hRc : R ≤ wc.heap.size := Nat.le_trans hRle hbc.size
      have HBC := Lib.hid (HB.out.trans (hbc.mono hRle))
      have HRS := Lib.hid (fun (W : World) g (h : W.heap[g]? = _) => reads_single (W := W) (g := g) (t := t) h)
      clear hbc HTO HPOS hpos
      obtain ⟨tt, htt⟩ : ∃ tt, tt = t := ⟨_, rfl⟩
      have HTT := Lib.hid htt.symm
      clear htt
      obtain ⟨tst, tix, tsz, tsp, tnum, tden, tday⟩ := t
      simp only at p0 p1 p2 p3 p4 p5 p6 HTS HRS
      by_cases hc0 : xc = 1
      · have HRD := Lib.hid (hc1 hc0)
        have hT0 : xs1 = [] := List.length_eq_zero_iff.1 (by omega)
        clear hc1 hc2
        subst hc0
        have hwn := sb0 (w := wc) (.cells #[.string ⟨#[]⟩, .int .i64 0, .int .i64 0, .int .i64 0, .int .i64 0, .int .i64 0, .int .i64 0] 32)
        have hnn := heap_alloc_new wc (.cells #[.string ⟨#[]⟩, .int .i64 0, .int .i64 0, .int .i64 0, .int .i64 0, .int .i64 0, .int .i64 0] 32)
        obtain ⟨N, hN⟩ : ∃ N, N = wc.heap.size := ⟨_, rfl⟩
        obtain ⟨wn, hwn2⟩ : ∃ wn, wn = wc.alloc (.cells #[.string ⟨#[]⟩, .int .i64 0, .int .i64 0, .int .i64 0, .int .i64 0, .int .i64 0, .int .i64 0] 32) := ⟨_, rfl⟩
        rw [← hwn2] at hwn hnn
        rw [← hN] at hnn
        have HWN := Lib.hid hwn2
        have HN := Lib.hid hN
        have p0 := bc hwn p0
        have p1 := bc hwn p1
        have p2 := bc hwn p2
        have p3 := bc hwn p3
        have p4 := bc hwn p4
        have p5 := bc hwn p5
        have p6 := bc hwn p6
        have oin := HOIC.out.below hwn
        have otn := OwnT.below HOTC.out hwn
        have hbn := HBC.out.trans (hwn.mono hRc)
        have hne : N ≠ tb := by rw [hN]; have := HTB.out; omega
        have hNE0 : (Value.slice a8 l8 c8).ownBlock ≠ some N := fun e => by have := (Own.lt HOTC.out _ e).2; omega
        have hNE1 : (Value.slice a9 l9 c9).ownBlock ≠ some N := fun e => by have := (Own.lt HOIC.out _ e).2; omega
        have HNE := Lib.hid hNE0
        have hRN : R ≤ N := by rw [hN]; exact hRc
        have OID := Lib.hid (OwnI.below oin (Below.refl _ wn).drew)
        have OTD := Lib.hid (OwnT.below otn (Below.refl _ wn).drew)
        have HBD := Lib.hid hbn.drew
        have HND := Lib.hid (show wn.drew.heap[N]? = _ from hnn)
        clear hN hwn2 hwn hnn oin otn hbn hNE0
        go_upto_region 12 with fail
        rw [← HWN.out]
        try rw [← HN.out]
        clear HWN HN
        have HSB0 : ∀ w' : World, Below (wn).drew.heap.size (wn).drew w' → (w'.cell? ⟨tb, tq, none⟩ = some (.string tst) ∧ w'.cell? ⟨tb, tq + 1, none⟩ = some (.int .i64 tix) ∧ w'.cell? ⟨tb, tq + 2, none⟩ = some (.int .i64 tsz) ∧ w'.cell? ⟨tb, tq + 3, none⟩ = some (.int .i64 tsp) ∧ w'.cell? ⟨tb, tq + 4, none⟩ = some (.int .i64 tnum) ∧ w'.cell? ⟨tb, tq + 5, none⟩ = some (.int .i64 tden) ∧ w'.cell? ⟨tb, tq + 6, none⟩ = some (.int .i64 tday)) := fun w' hb => ⟨bc hb p0, bc hb p1, bc hb p2, bc hb p3, bc hb p4, bc hb p5, bc hb p6⟩
        refine wp_region_held_drew (S := fun w' => w'.cell? ⟨tb, tq, none⟩ = some (.string tst) ∧ w'.cell? ⟨tb, tq + 1, none⟩ = some (.int .i64 tix) ∧ w'.cell? ⟨tb, tq + 2, none⟩ = some (.int .i64 tsz) ∧ w'.cell? ⟨tb, tq + 3, none⟩ = some (.int .i64 tsp) ∧ w'.cell? ⟨tb, tq + 4, none⟩ = some (.int .i64 tnum) ∧ w'.cell? ⟨tb, tq + 5, none⟩ = some (.int .i64 tden) ∧ w'.cell? ⟨tb, tq + 6, none⟩ = some (.int .i64 tday)) (by kernel_rfl) (HSB0 _ (Below.refl _ _)) (fun hHeld => ?_)
        have HSB := Lib.hid HSB0
        clear HSB0
        generalize (wn).drew = Wd at *
        obtain ⟨y0, y1, y2, y3, y4, y5, y6⟩ := HSB.out _ (Below.refl _ _)
        have z0 := cell_of_row Wd _ 0 _ _ _ HND.out
        have z1 := cell_of_row Wd _ 1 _ _ _ HND.out
        have z2 := cell_of_row Wd _ 2 _ _ _ HND.out
        have z3 := cell_of_row Wd _ 3 _ _ _ HND.out
        have z4 := cell_of_row Wd _ 4 _ _ _ HND.out
        have z5 := cell_of_row Wd _ 5 _ _ _ HND.out
        have z6 := cell_of_row Wd _ 6 _ _ _ HND.out
        have f0 := frozen_of_row Wd _ 0 _ _ HND.out
        have f1 := frozen_of_row Wd _ 1 _ _ HND.out
        have f2 := frozen_of_row Wd _ 2 _ _ HND.out
        have f3 := frozen_of_row Wd _ 3 _ _ HND.out
        have f4 := frozen_of_row Wd _ 4 _ _ HND.out
        have f5 := frozen_of_row Wd _ 5 _ _ HND.out
        have f6 := frozen_of_row Wd _ 6 _ _ HND.out
        clear p0 p1 p2 p3 p4 p5 p6
        have hone : (1 : Int) ≤ (xs1.length : Int) + 1 := by omega
        refine wpAnyH_take (i := 0) (v := ?_) rfl (by kernel_rfl) (by kernel_rfl) (by kernel_rfl) (fun _ _ _ h => h) (Or.inl ⟨by rfl, ?_⟩) (by assumption) ?_
        rotate_left; · (intro w hSw; (try dsimp only at hSw); go_simp; try with_reducible rfl)
        try simp only [Act.put, List.getElem_toArray, List.getElem_cons_zero, List.getElem_cons_succ, List.setIfInBounds_toArray, List.set_cons_zero, List.set_cons_succ]
        refine wpAnyH_take (i := 1) (v := ?_) rfl (by kernel_rfl) (by kernel_rfl) (by kernel_rfl) (fun _ _ _ h => h) (Or.inl ⟨by rfl, ?_⟩) (by assumption) ?_
        rotate_left; · (intro w hSw; (try dsimp only at hSw); go_simp; try with_reducible rfl)
        try simp only [Act.put, List.getElem_toArray, List.getElem_cons_zero, List.getElem_cons_succ, List.setIfInBounds_toArray, List.set_cons_zero, List.set_cons_succ]
        refine wpAnyH_take (i := 2) (v := ?_) rfl (by kernel_rfl) (by kernel_rfl) (by kernel_rfl) (fun _ _ _ h => h) (Or.inl ⟨by rfl, ?_⟩) (by assumption) ?_
        rotate_left; · (intro w hSw; (try dsimp only at hSw); go_simp; try with_reducible rfl)
        try simp only [Act.put, List.getElem_toArray, List.getElem_cons_zero, List.getElem_cons_succ, List.setIfInBounds_toArray, List.set_cons_zero, List.set_cons_succ]
        refine wpAnyH_take (i := 3) (v := ?_) rfl (by kernel_rfl) (by kernel_rfl) (by kernel_rfl) (fun _ _ _ h => h) (Or.inl ⟨by rfl, ?_⟩) (by assumption) ?_
        rotate_left; · (intro w hSw; (try dsimp only at hSw); go_simp; try with_reducible rfl)
        try simp only [Act.put, List.getElem_toArray, List.getElem_cons_zero, List.getElem_cons_succ, List.setIfInBounds_toArray, List.set_cons_zero, List.set_cons_succ]
        refine wpAnyH_take (i := 4) (v := ?_) rfl (by kernel_rfl) (by kernel_rfl) (by kernel_rfl) (fun _ _ _ h => h) (Or.inl ⟨by rfl, ?_⟩) (by assumption) ?_
        rotate_left; · (intro w hSw; (try dsimp only at hSw); go_simp; try with_reducible rfl)
        try simp only [Act.put, List.getElem_toArray, List.getElem_cons_zero, List.getElem_cons_succ, List.setIfInBounds_toArray, List.set_cons_zero, List.set_cons_succ]
        clear hone
        refine wpAnyH_ready (rs := [5]) (by kernel_rfl) (by simp) ?_
        refine AllReadyH.cons rfl (fun K hK => ?_) AllReadyH.nil
        go_simp
        refine hK.out _ _ ⟨far7 _ _ _ _ _ _ _ hne y0, far7 _ _ _ _ _ _ _ hne y1, far7 _ _ _ _ _ _ _ hne y2, far7 _ _ _ _ _ _ _ hne y3, far7 _ _ _ _ _ _ _ hne y4, far7 _ _ _ _ _ _ _ hne y5, far7 _ _ _ _ _ _ _ hne y6⟩ (fun hNew => ?_)
        clear hK K hHeld
        have hHeld := hNew
        clear hNew
        try simp only [Act.put, List.getElem_toArray, List.getElem_cons_zero, List.getElem_cons_succ, List.setIfInBounds_toArray, List.set_cons_zero, List.set_cons_succ]
        refine wpAnyH_take (i := 6) (v := ?_) rfl (by kernel_rfl) (by kernel_rfl) (by kernel_rfl) (fun _ _ _ h => h) (Or.inl ⟨by rfl, ?_⟩) (by assumption) ?_
        rotate_left; · (intro w hSw; (try dsimp only at hSw); go_simp; try with_reducible rfl)
        try simp only [Act.put, List.getElem_toArray, List.getElem_cons_zero, List.getElem_cons_succ, List.setIfInBounds_toArray, List.set_cons_zero, List.set_cons_succ]
        refine wpAnyH_done (by kernel_rfl) ?_ _
        clear hHeld HSB y0 y1 y2 y3 y4 y5 y6 z0 z1 z2 z3 z4 z5 z6 f0 f1 f2 f3 f4 f5 f6
        have n6 := seven_set HND.out (.string tst) (.int .i64 tix) (.int .i64 tsz) (.int .i64 tsp) (.int .i64 tnum) (.int .i64 tden) (.int .i64 tday)
        have hb6 := seven_below HBD.out hRN (.string tst) (.int .i64 tix) (.int .i64 tsz) (.int .i64 tsp) (.int .i64 tnum) (.int .i64 tden) (.int .i64 tday)
        have oi6 := Own.same OID.out (w' := (((((((Wd.setCell ⟨N, 0, none⟩ (.string tst)).setCell ⟨N, 1, none⟩ (.int .i64 tix)).setCell ⟨N, 2, none⟩ (.int .i64 tsz)).setCell ⟨N, 3, none⟩ (.int .i64 tsp)).setCell ⟨N, 4, none⟩ (.int .i64 tnum)).setCell ⟨N, 5, none⟩ (.int .i64 tden)).setCell ⟨N, 6, none⟩ (.int .i64 tday))) (fun g hg => seven_other _ _ _ _ _ _ _ _ (fun e => hNE1 (by rw [hg, e])))
        have ot6 := Own.same OTD.out (w' := (((((((Wd.setCell ⟨N, 0, none⟩ (.string tst)).setCell ⟨N, 1, none⟩ (.int .i64 tix)).setCell ⟨N, 2, none⟩ (.int .i64 tsz)).setCell ⟨N, 3, none⟩ (.int .i64 tsp)).setCell ⟨N, 4, none⟩ (.int .i64 tnum)).setCell ⟨N, 5, none⟩ (.int .i64 tden)).setCell ⟨N, 6, none⟩ (.int .i64 tday))) (fun g hg => seven_other _ _ _ _ _ _ _ _ (fun e => HNE.out (by rw [hg, e])))
        obtain ⟨w6, hw6⟩ : ∃ w6, w6 = (((((((Wd.setCell ⟨N, 0, none⟩ (.string tst)).setCell ⟨N, 1, none⟩ (.int .i64 tix)).setCell ⟨N, 2, none⟩ (.int .i64 tsz)).setCell ⟨N, 3, none⟩ (.int .i64 tsp)).setCell ⟨N, 4, none⟩ (.int .i64 tnum)).setCell ⟨N, 5, none⟩ (.int .i64 tden)).setCell ⟨N, 6, none⟩ (.int .i64 tday)) := ⟨_, rfl⟩
        rw [← hw6] at n6 hb6 oi6 ot6 ⊢
        clear hw6 OID OTD HBD HND
        have hz6 : R ≤ w6.heap.size := by have := hb6.size; have := HZO.out; omega
        have oi6 : OwnI w6 R (.slice a9 l9 c9) (done.map (·.1)) := oi6
        have ot6 : OwnT 32 w6 R (.slice a8 l8 c8) (done.map (·.2)) := ot6
        have N6 := Lib.hid n6
        have HB6 := Lib.hid hb6
        have OI6 := Lib.hid oi6
        have OT6 := Lib.hid ot6
        clear n6 hb6 oi6 ot6
        have d2 := cell_of_row w6 _ 2 _ _ _ N6.out
        by_cases hle : tsz ≤ left
        · have q1 : decide (tsz ≤ left) = true := decide_eq_true hle
          have hw2 : IntKind.i64.wrap (left - tsz) = left - tsz := by have := HBUD.out; have := HTS.out; rw [IntKind.wrap_i64]; omega
          have hts0 := HTS.out
          have HDN := Lib.hid (show D = (done ++ [(0, ⟨tst, tix, tsz, tsp, tnum, tden, tday⟩)]) ++ takP (mrgP xs1 ys) (left - tsz) by have := HDR.out; rw [HM.out, takP, if_pos hle] at this; rw [this, List.append_assoc]; rfl)
          go_upto_region 15 with fail
          have hnW : w6.drew.heap[N]? = some (.cells #[.string tst, .int .i64 tix, .int .i64 tsz, .int .i64 tsp, .int .i64 tnum, .int .i64 tden, .int .i64 tday] 32) := N6.out
          have hbW : Below R wO w6.drew := HB6.out.drew
          have hoW : OwnI w6.drew R (.slice a9 l9 c9) (done.map (·.1)) := OI6.out.below (Below.refl _ w6).drew
          have htW : OwnT 32 w6.drew R (.slice a8 l8 c8) (done.map (·.2)) := OT6.out.below (Below.refl _ w6).drew
          have hzW : R ≤ w6.drew.heap.size := hz6
          refine wp_region_held_drew (S := fun w' => w'.cell? ⟨N, 0, none⟩ = some (.string tst) ∧ w'.cell? ⟨N, 1, none⟩ = some (.int .i64 tix) ∧ w'.cell? ⟨N, 2, none⟩ = some (.int .i64 tsz) ∧ w'.cell? ⟨N, 3, none⟩ = some (.int .i64 tsp) ∧ w'.cell? ⟨N, 4, none⟩ = some (.int .i64 tnum) ∧ w'.cell? ⟨N, 5, none⟩ = some (.int .i64 tden) ∧ w'.cell? ⟨N, 6, none⟩ = some (.int .i64 tday)) (by kernel_rfl) ⟨cell_of_row _ _ 0 _ _ _ hnW, cell_of_row _ _ 1 _ _ _ hnW, cell_of_row _ _ 2 _ _ _ hnW, cell_of_row _ _ 3 _ _ _ hnW, cell_of_row _ _ 4 _ _ _ hnW, cell_of_row _ _ 5 _ _ _ hnW, cell_of_row _ _ 6 _ _ _ hnW⟩ (fun hHeld => ?_)
          clear d2
          generalize w6.drew = Wd at *
          have nWd := hnW
          have hbWd := hbW
          have oiWd := hoW
          have otWd := htW
          have hzWd := hzW
          clear hnW hbW hoW htW hzW N6 HB6 OI6 OT6 HTS
          refine wpAnyH_take (i := 0) (v := ?_) rfl (by kernel_rfl) (by kernel_rfl) (by kernel_rfl) (fun _ _ _ h => h) (Or.inl ⟨by rfl, ?_⟩) (by assumption) ?_
          rotate_left; · (intro w hSw; (try dsimp only at hSw); go_simp; try with_reducible rfl)
          try simp only [Act.put, List.getElem_toArray, List.getElem_cons_zero, List.getElem_cons_succ, List.setIfInBounds_toArray, List.set_cons_zero, List.set_cons_succ]
          refine wpAnyH_take (i := 1) (v := ?_) rfl (by kernel_rfl) (by kernel_rfl) (by kernel_rfl) (fun _ _ _ h => h) (Or.inl ⟨by rfl, ?_⟩) (by assumption) ?_
          rotate_left; · (intro w hSw; (try dsimp only at hSw); go_simp; try with_reducible rfl)
          try simp only [Act.put, List.getElem_toArray, List.getElem_cons_zero, List.getElem_cons_succ, List.setIfInBounds_toArray, List.set_cons_zero, List.set_cons_succ]
          refine wpAnyH_take (i := 4) (v := ?_) rfl (by kernel_rfl) (by kernel_rfl) (by kernel_rfl) (fun _ _ _ h => h) (Or.inl ⟨by rfl, ?_⟩) (by assumption) ?_
          rotate_left; · (intro w hSw; (try dsimp only at hSw); go_simp; try with_reducible rfl)
          try simp only [Act.put, List.getElem_toArray, List.getElem_cons_zero, List.getElem_cons_succ, List.setIfInBounds_toArray, List.set_cons_zero, List.set_cons_succ]
          refine wpAnyH_take (i := 5) (v := ?_) rfl (by kernel_rfl) (by kernel_rfl) (by kernel_rfl) (fun _ _ _ h => h) (Or.inl ⟨by rfl, ?_⟩) (by assumption) ?_
          rotate_left; · (intro w hSw; (try dsimp only at hSw); go_simp; try with_reducible rfl)
          try simp only [Act.put, List.getElem_toArray, List.getElem_cons_zero, List.getElem_cons_succ, List.setIfInBounds_toArray, List.set_cons_zero, List.set_cons_succ]
          refine wpAnyH_ready (rs := [2, 6]) (by kernel_rfl) (by simp) ?_
          refine AllReadyH.cons rfl (fun K hK => ?_) (AllReadyH.cons rfl (fun K hK => ?_) AllReadyH.nil)
          · skip
            go_simp
            have hs := sb0 (w := Wd) (.cells #[.int .i64 0] 3)
            have kA := heap_alloc_new Wd (.cells #[.int .i64 0] 3)
            have hzW2 : R ≤ (Wd.alloc (.cells #[.int .i64 0] 3)).heap.size := by rw [World.size_alloc]; omega
            obtain ⟨gA, hgA⟩ : ∃ g, g = Wd.heap.size := ⟨_, rfl⟩
            rw [← hgA] at kA
            try rw [← hgA]
            have nW2 := bb hs nWd
            have oiW2 := OwnI.below oiWd hs
            have otW2 := OwnT.below otWd hs
            have hbW2 := hbWd.trans (hs.mono hzWd)
            clear hgA hs
            generalize Wd.alloc (.cells #[.int .i64 0] 3) = W2 at *
            refine hK.out _ _ ⟨cell_of_row W2 _ 0 _ _ _ nW2, cell_of_row W2 _ 1 _ _ _ nW2, cell_of_row W2 _ 2 _ _ _ nW2, cell_of_row W2 _ 3 _ _ _ nW2, cell_of_row W2 _ 4 _ _ _ nW2, cell_of_row W2 _ 5 _ _ _ nW2, cell_of_row W2 _ 6 _ _ _ nW2⟩ (fun hNew => ?_)
            clear hK K hNew
            (try clear hHeld)
            have hHeld : _ ∧ _ ∧ _ ∧ _ ∧ _ ∧ _ ∧ _ := ⟨cell_of_row W2 _ 0 _ _ _ nW2, cell_of_row W2 _ 1 _ _ _ nW2, cell_of_row W2 _ 2 _ _ _ nW2, cell_of_row W2 _ 3 _ _ _ nW2, cell_of_row W2 _ 4 _ _ _ nW2, cell_of_row W2 _ 5 _ _ _ nW2, cell_of_row W2 _ 6 _ _ _ nW2⟩
            try simp only [Act.put, List.getElem_toArray, List.getElem_cons_zero, List.getElem_cons_succ, List.setIfInBounds_toArray, List.set_cons_zero, List.set_cons_succ]
            refine wpAnyH_ready (rs := [3, 6]) (by kernel_rfl) (by simp) ?_
            refine AllReadyH.cons rfl (fun K hK => ?_) (AllReadyH.cons rfl (fun K hK => ?_) AllReadyH.nil)
            · skip
              obtain ⟨v3, W23, r3, oiW23, b3, k3⟩ := oiW2.appendR (reads_int1 kA) (by rw [List.length_map]; omega) (by simp) hzW2
              have otW23 := Own.same otW2 (w' := W23) (fun g hg => k3 g (Own.lt otW2 g hg).2 (own_apart' otW2 oiW2 (by decide) g hg))
              have otW23 : OwnT 32 W23 R (.slice a8 l8 c8) (done.map (·.2)) := otW23
              have nW23 := (k3 N (Array.getElem?_eq_some_iff.1 nW2).1 (own_ne oiW2 nW2 (by decide))).trans nW2
              have hbW23 := hbW2.trans b3
              have hzW23 : R ≤ W23.heap.size := Nat.le_trans hzW2 b3.size
              refine step_append_run (by rfl) (.tmp 84) (.tmp 86) 53 (by rfl) (.slice a9 l9 c9) (.slice (some ⟨gA, 0, none⟩) 1 1) v3 W23 (by rfl) (by rfl) r3 ?_
              clear r3 b3 k3 kA
              refine hK.out _ _ ⟨cell_of_row W23 _ 0 _ _ _ nW23, cell_of_row W23 _ 1 _ _ _ nW23, cell_of_row W23 _ 2 _ _ _ nW23, cell_of_row W23 _ 3 _ _ _ nW23, cell_of_row W23 _ 4 _ _ _ nW23, cell_of_row W23 _ 5 _ _ _ nW23, cell_of_row W23 _ 6 _ _ _ nW23⟩ (fun hNew => ?_)
              clear hK K hNew
              (try clear hHeld)
              have hHeld : _ ∧ _ ∧ _ ∧ _ ∧ _ ∧ _ ∧ _ := ⟨cell_of_row W23 _ 0 _ _ _ nW23, cell_of_row W23 _ 1 _ _ _ nW23, cell_of_row W23 _ 2 _ _ _ nW23, cell_of_row W23 _ 3 _ _ _ nW23, cell_of_row W23 _ 4 _ _ _ nW23, cell_of_row W23 _ 5 _ _ _ nW23, cell_of_row W23 _ 6 _ _ _ nW23⟩
              try simp only [Act.put, List.getElem_toArray, List.getElem_cons_zero, List.getElem_cons_succ, List.setIfInBounds_toArray, List.set_cons_zero, List.set_cons_succ]
              refine wpAnyH_ready (rs := [6]) (by kernel_rfl) (by simp) ?_
              refine AllReadyH.cons rfl (fun K hK => ?_) AllReadyH.nil
              go_simp
              have hs := sb0 (w := W23) (.cells #[.string tst, .int .i64 tix, .int .i64 tsz, .int .i64 tsp, .int .i64 tnum, .int .i64 tden, .int .i64 tday] 32)
              have kB := heap_alloc_new W23 (.cells #[.string tst, .int .i64 tix, .int .i64 tsz, .int .i64 tsp, .int .i64 tnum, .int .i64 tden, .int .i64 tday] 32)
              have hzW236 : R ≤ (W23.alloc (.cells #[.string tst, .int .i64 tix, .int .i64 tsz, .int .i64 tsp, .int .i64 tnum, .int .i64 tden, .int .i64 tday] 32)).heap.size := by rw [World.size_alloc]; omega
              obtain ⟨gB, hgB⟩ : ∃ g, g = W23.heap.size := ⟨_, rfl⟩
              rw [← hgB] at kB
              try rw [← hgB]
              have nW236 := bb hs nW23
              have oiW236 := OwnI.below oiW23 hs
              have otW236 := OwnT.below otW23 hs
              have hbW236 := hbW23.trans (hs.mono hzW23)
              clear hgB hs
              generalize W23.alloc (.cells #[.string tst, .int .i64 tix, .int .i64 tsz, .int .i64 tsp, .int .i64 tnum, .int .i64 tden, .int .i64 tday] 32) = W236 at *
              refine hK.out _ _ ⟨cell_of_row W236 _ 0 _ _ _ nW236, cell_of_row W236 _ 1 _ _ _ nW236, cell_of_row W236 _ 2 _ _ _ nW236, cell_of_row W236 _ 3 _ _ _ nW236, cell_of_row W236 _ 4 _ _ _ nW236, cell_of_row W236 _ 5 _ _ _ nW236, cell_of_row W236 _ 6 _ _ _ nW236⟩ (fun hNew => ?_)
              clear hK K hNew
              (try clear hHeld)
              have hHeld : _ ∧ _ ∧ _ ∧ _ ∧ _ ∧ _ ∧ _ := ⟨cell_of_row W236 _ 0 _ _ _ nW236, cell_of_row W236 _ 1 _ _ _ nW236, cell_of_row W236 _ 2 _ _ _ nW236, cell_of_row W236 _ 3 _ _ _ nW236, cell_of_row W236 _ 4 _ _ _ nW236, cell_of_row W236 _ 5 _ _ _ nW236, cell_of_row W236 _ 6 _ _ _ nW236⟩
              try simp only [Act.put, List.getElem_toArray, List.getElem_cons_zero, List.getElem_cons_succ, List.setIfInBounds_toArray, List.set_cons_zero, List.set_cons_succ]
              refine wpAnyH_ready (rs := [7]) (by kernel_rfl) (by simp) ?_
              refine AllReadyH.cons rfl (fun K hK => ?_) AllReadyH.nil
              obtain ⟨v7, W2367, r7, otW2367, b7, k7⟩ := otW236.appR32 (HRS.out W236 gB kB) (by rw [List.length_map]; omega) (by simp) hzW236
              have oiW2367 := Own.same oiW236 (w' := W2367) (fun g hg => k7 g (Own.lt oiW236 g hg).2 (own_apart' oiW236 otW236 (by decide) g hg))
              have nW2367 := (k7 N (Array.getElem?_eq_some_iff.1 nW236).1 HNE.out).trans nW236
              have hbW2367 := hbW236.trans b7
              have hzW2367 : R ≤ W2367.heap.size := Nat.le_trans hzW236 b7.size
              refine step_append_run (by rfl) (.tmp 88) (.tmp 90) 41 (by rfl) (.slice a8 l8 c8) (.slice (some ⟨gB, 0, none⟩) 1 1) v7 W2367 (by rfl) (by rfl) r7 ?_
              clear r7 b7 k7 kB
              refine hK.out _ _ ⟨cell_of_row W2367 _ 0 _ _ _ nW2367, cell_of_row W2367 _ 1 _ _ _ nW2367, cell_of_row W2367 _ 2 _ _ _ nW2367, cell_of_row W2367 _ 3 _ _ _ nW2367, cell_of_row W2367 _ 4 _ _ _ nW2367, cell_of_row W2367 _ 5 _ _ _ nW2367, cell_of_row W2367 _ 6 _ _ _ nW2367⟩ (fun hNew => ?_)
              clear hK K hNew
              (try clear hHeld)
              have hHeld : _ ∧ _ ∧ _ ∧ _ ∧ _ ∧ _ ∧ _ := ⟨cell_of_row W2367 _ 0 _ _ _ nW2367, cell_of_row W2367 _ 1 _ _ _ nW2367, cell_of_row W2367 _ 2 _ _ _ nW2367, cell_of_row W2367 _ 3 _ _ _ nW2367, cell_of_row W2367 _ 4 _ _ _ nW2367, cell_of_row W2367 _ 5 _ _ _ nW2367, cell_of_row W2367 _ 6 _ _ _ nW2367⟩
              try simp only [Act.put, List.getElem_toArray, List.getElem_cons_zero, List.getElem_cons_succ, List.setIfInBounds_toArray, List.set_cons_zero, List.set_cons_succ]
              have HN9 := Lib.hid nW2367
              have HB9 := Lib.hid hbW2367
              have OI9 := Lib.hid (show OwnI W2367 R v3 (done.map (·.1) ++ [0]) from oiW2367)
              have OT9 := Lib.hid otW2367
              have e2 := cell_of_row W2367 _ 2 _ _ _ nW2367
              obtain ⟨a5, l5, c5, rfl⟩ := Own.slice OI9.out
              obtain ⟨a6, l6, c6, rfl⟩ := Own.slice OT9.out
              clear hbW2367 oiW2367 otW2367 nW2367
              refine wpAnyH_take (i := 8) (v := ?_) rfl (by kernel_rfl) (by kernel_rfl) (by kernel_rfl) (fun _ _ _ h => h) (Or.inl ⟨by rfl, ?_⟩) (by assumption) ?_
              rotate_left; · (intro w hSw; (try dsimp only at hSw); go_simp; try with_reducible rfl)
              try simp only [Act.put, List.getElem_toArray, List.getElem_cons_zero, List.getElem_cons_succ, List.setIfInBounds_toArray, List.set_cons_zero, List.set_cons_succ]
              refine wpAnyH_take (i := 9) (v := ?_) rfl (by kernel_rfl) (by kernel_rfl) (by kernel_rfl) (fun _ _ _ h => h) (Or.inl ⟨by rfl, ?_⟩) (by assumption) ?_
              rotate_left; · (intro w hSw; (try dsimp only at hSw); go_simp; try with_reducible rfl)
              try simp only [Act.put, List.getElem_toArray, List.getElem_cons_zero, List.getElem_cons_succ, List.setIfInBounds_toArray, List.set_cons_zero, List.set_cons_succ]
              refine wpAnyH_done (by kernel_rfl) ?_ _
              clear hHeld
              go_wp2
              go_roundw
              case rel => exact ⟨xs1, ys, left - tsz, done ++ [(0, ⟨tst, tix, tsz, tsp, tnum, tden, tday⟩)], rfl, ⟨by omega, by omega⟩, HDN.out, by have := HLEN.out; simp at this ⊢; omega, HKT.out, HKY.out, HRD.out, HRY.out, HB9.out, by rw [List.map_append]; exact OI9.out, by rw [List.map_append]; exact OT9.out⟩
              case measure => simp [lenV]; try omega
            · skip
              go_simp
              have hs := sb0 (w := W2) (.cells #[.string tst, .int .i64 tix, .int .i64 tsz, .int .i64 tsp, .int .i64 tnum, .int .i64 tden, .int .i64 tday] 32)
              have kB := heap_alloc_new W2 (.cells #[.string tst, .int .i64 tix, .int .i64 tsz, .int .i64 tsp, .int .i64 tnum, .int .i64 tden, .int .i64 tday] 32)
              have hzW26 : R ≤ (W2.alloc (.cells #[.string tst, .int .i64 tix, .int .i64 tsz, .int .i64 tsp, .int .i64 tnum, .int .i64 tden, .int .i64 tday] 32)).heap.size := by rw [World.size_alloc]; omega
              obtain ⟨gB, hgB⟩ : ∃ g, g = W2.heap.size := ⟨_, rfl⟩
              rw [← hgB] at kB
              try rw [← hgB]
              have kA := bb hs kA
              have nW26 := bb hs nW2
              have oiW26 := OwnI.below oiW2 hs
              have otW26 := OwnT.below otW2 hs
              have hbW26 := hbW2.trans (hs.mono hzW2)
              clear hgB hs
              generalize W2.alloc (.cells #[.string tst, .int .i64 tix, .int .i64 tsz, .int .i64 tsp, .int .i64 tnum, .int .i64 tden, .int .i64 tday] 32) = W26 at *
              refine hK.out _ _ ⟨cell_of_row W26 _ 0 _ _ _ nW26, cell_of_row W26 _ 1 _ _ _ nW26, cell_of_row W26 _ 2 _ _ _ nW26, cell_of_row W26 _ 3 _ _ _ nW26, cell_of_row W26 _ 4 _ _ _ nW26, cell_of_row W26 _ 5 _ _ _ nW26, cell_of_row W26 _ 6 _ _ _ nW26⟩ (fun hNew => ?_)
              clear hK K hNew
              (try clear hHeld)
              have hHeld : _ ∧ _ ∧ _ ∧ _ ∧ _ ∧ _ ∧ _ := ⟨cell_of_row W26 _ 0 _ _ _ nW26, cell_of_row W26 _ 1 _ _ _ nW26, cell_of_row W26 _ 2 _ _ _ nW26, cell_of_row W26 _ 3 _ _ _ nW26, cell_of_row W26 _ 4 _ _ _ nW26, cell_of_row W26 _ 5 _ _ _ nW26, cell_of_row W26 _ 6 _ _ _ nW26⟩
              try simp only [Act.put, List.getElem_toArray, List.getElem_cons_zero, List.getElem_cons_succ, List.setIfInBounds_toArray, List.set_cons_zero, List.set_cons_succ]
              refine wpAnyH_ready (rs := [3]) (by kernel_rfl) (by simp) ?_
              refine AllReadyH.cons rfl (fun K hK => ?_) AllReadyH.nil
              obtain ⟨v3, W263, r3, oiW263, b3, k3⟩ := oiW26.appendR (reads_int1 kA) (by rw [List.length_map]; omega) (by simp) hzW26
              have otW263 := Own.same otW26 (w' := W263) (fun g hg => k3 g (Own.lt otW26 g hg).2 (own_apart' otW26 oiW26 (by decide) g hg))
              have otW263 : OwnT 32 W263 R (.slice a8 l8 c8) (done.map (·.2)) := otW263
              have nW263 := (k3 N (Array.getElem?_eq_some_iff.1 nW26).1 (own_ne oiW26 nW26 (by decide))).trans nW26
              have kB := (k3 gB (Array.getElem?_eq_some_iff.1 kB).1 (own_ne oiW26 kB (by decide))).trans kB
              have hbW263 := hbW26.trans b3
              have hzW263 : R ≤ W263.heap.size := Nat.le_trans hzW26 b3.size
              refine step_append_run (by rfl) (.tmp 84) (.tmp 86) 53 (by rfl) (.slice a9 l9 c9) (.slice (some ⟨gA, 0, none⟩) 1 1) v3 W263 (by rfl) (by rfl) r3 ?_
              clear r3 b3 k3 kA
              refine hK.out _ _ ⟨cell_of_row W263 _ 0 _ _ _ nW263, cell_of_row W263 _ 1 _ _ _ nW263, cell_of_row W263 _ 2 _ _ _ nW263, cell_of_row W263 _ 3 _ _ _ nW263, cell_of_row W263 _ 4 _ _ _ nW263, cell_of_row W263 _ 5 _ _ _ nW263, cell_of_row W263 _ 6 _ _ _ nW263⟩ (fun hNew => ?_)
              clear hK K hNew
              (try clear hHeld)
              have hHeld : _ ∧ _ ∧ _ ∧ _ ∧ _ ∧ _ ∧ _ := ⟨cell_of_row W263 _ 0 _ _ _ nW263, cell_of_row W263 _ 1 _ _ _ nW263, cell_of_row W263 _ 2 _ _ _ nW263, cell_of_row W263 _ 3 _ _ _ nW263, cell_of_row W263 _ 4 _ _ _ nW263, cell_of_row W263 _ 5 _ _ _ nW263, cell_of_row W263 _ 6 _ _ _ nW263⟩
              try simp only [Act.put, List.getElem_toArray, List.getElem_cons_zero, List.getElem_cons_succ, List.setIfInBounds_toArray, List.set_cons_zero, List.set_cons_succ]
              refine wpAnyH_ready (rs := [7]) (by kernel_rfl) (by simp) ?_
              refine AllReadyH.cons rfl (fun K hK => ?_) AllReadyH.nil
              obtain ⟨v7, W2637, r7, otW2637, b7, k7⟩ := otW263.appR32 (HRS.out W263 gB kB) (by rw [List.length_map]; omega) (by simp) hzW263
              have oiW2637 := Own.same oiW263 (w' := W2637) (fun g hg => k7 g (Own.lt oiW263 g hg).2 (own_apart' oiW263 otW263 (by decide) g hg))
              have nW2637 := (k7 N (Array.getElem?_eq_some_iff.1 nW263).1 HNE.out).trans nW263
              have hbW2637 := hbW263.trans b7
              have hzW2637 : R ≤ W2637.heap.size := Nat.le_trans hzW263 b7.size
              refine step_append_run (by rfl) (.tmp 88) (.tmp 90) 41 (by rfl) (.slice a8 l8 c8) (.slice (some ⟨gB, 0, none⟩) 1 1) v7 W2637 (by rfl) (by rfl) r7 ?_
              clear r7 b7 k7 kB
              refine hK.out _ _ ⟨cell_of_row W2637 _ 0 _ _ _ nW2637, cell_of_row W2637 _ 1 _ _ _ nW2637, cell_of_row W2637 _ 2 _ _ _ nW2637, cell_of_row W2637 _ 3 _ _ _ nW2637, cell_of_row W2637 _ 4 _ _ _ nW2637, cell_of_row W2637 _ 5 _ _ _ nW2637, cell_of_row W2637 _ 6 _ _ _ nW2637⟩ (fun hNew => ?_)
              clear hK K hNew
              (try clear hHeld)
              have hHeld : _ ∧ _ ∧ _ ∧ _ ∧ _ ∧ _ ∧ _ := ⟨cell_of_row W2637 _ 0 _ _ _ nW2637, cell_of_row W2637 _ 1 _ _ _ nW2637, cell_of_row W2637 _ 2 _ _ _ nW2637, cell_of_row W2637 _ 3 _ _ _ nW2637, cell_of_row W2637 _ 4 _ _ _ nW2637, cell_of_row W2637 _ 5 _ _ _ nW2637, cell_of_row W2637 _ 6 _ _ _ nW2637⟩
              try simp only [Act.put, List.getElem_toArray, List.getElem_cons_zero, List.getElem_cons_succ, List.setIfInBounds_toArray, List.set_cons_zero, List.set_cons_succ]
              have HN9 := Lib.hid nW2637
              have HB9 := Lib.hid hbW2637
              have OI9 := Lib.hid (show OwnI W2637 R v3 (done.map (·.1) ++ [0]) from oiW2637)
              have OT9 := Lib.hid otW2637
              have e2 := cell_of_row W2637 _ 2 _ _ _ nW2637
              obtain ⟨a5, l5, c5, rfl⟩ := Own.slice OI9.out
              obtain ⟨a6, l6, c6, rfl⟩ := Own.slice OT9.out
              clear hbW2637 oiW2637 otW2637 nW2637
              refine wpAnyH_take (i := 8) (v := ?_) rfl (by kernel_rfl) (by kernel_rfl) (by kernel_rfl) (fun _ _ _ h => h) (Or.inl ⟨by rfl, ?_⟩) (by assumption) ?_
              rotate_left; · (intro w hSw; (try dsimp only at hSw); go_simp; try with_reducible rfl)
              try simp only [Act.put, List.getElem_toArray, List.getElem_cons_zero, List.getElem_cons_succ, List.setIfInBounds_toArray, List.set_cons_zero, List.set_cons_succ]
              refine wpAnyH_take (i := 9) (v := ?_) rfl (by kernel_rfl) (by kernel_rfl) (by kernel_rfl) (fun _ _ _ h => h) (Or.inl ⟨by rfl, ?_⟩) (by assumption) ?_
              rotate_left; · (intro w hSw; (try dsimp only at hSw); go_simp; try with_reducible rfl)
              try simp only [Act.put, List.getElem_toArray, List.getElem_cons_zero, List.getElem_cons_succ, List.setIfInBounds_toArray, List.set_cons_zero, List.set_cons_succ]
              refine wpAnyH_done (by kernel_rfl) ?_ _
              clear hHeld
              go_wp2
              go_roundw
              case rel => exact ⟨xs1, ys, left - tsz, done ++ [(0, ⟨tst, tix, tsz, tsp, tnum, tden, tday⟩)], rfl, ⟨by omega, by omega⟩, HDN.out, by have := HLEN.out; simp at this ⊢; omega, HKT.out, HKY.out, HRD.out, HRY.out, HB9.out, by rw [List.map_append]; exact OI9.out, by rw [List.map_append]; exact OT9.out⟩
              case measure => simp [lenV]; try omega
          · skip
            go_simp
            have hs := sb0 (w := Wd) (.cells #[.string tst, .int .i64 tix, .int .i64 tsz, .int .i64 tsp, .int .i64 tnum, .int .i64 tden, .int .i64 tday] 32)
            have kB := heap_alloc_new Wd (.cells #[.string tst, .int .i64 tix, .int .i64 tsz, .int .i64 tsp, .int .i64 tnum, .int .i64 tden, .int .i64 tday] 32)
            have hzW6 : R ≤ (Wd.alloc (.cells #[.string tst, .int .i64 tix, .int .i64 tsz, .int .i64 tsp, .int .i64 tnum, .int .i64 tden, .int .i64 tday] 32)).heap.size := by rw [World.size_alloc]; omega
            obtain ⟨gB, hgB⟩ : ∃ g, g = Wd.heap.size := ⟨_, rfl⟩
            rw [← hgB] at kB
            try rw [← hgB]
            have nW6 := bb hs nWd
            have oiW6 := OwnI.below oiWd hs
            have otW6 := OwnT.below otWd hs
            have hbW6 := hbWd.trans (hs.mono hzWd)
            clear hgB hs
            generalize Wd.alloc (.cells #[.string tst, .int .i64 tix, .int .i64 tsz, .int .i64 tsp, .int .i64 tnum, .int .i64 tden, .int .i64 tday] 32) = W6 at *
            refine hK.out _ _ ⟨cell_of_row W6 _ 0 _ _ _ nW6, cell_of_row W6 _ 1 _ _ _ nW6, cell_of_row W6 _ 2 _ _ _ nW6, cell_of_row W6 _ 3 _ _ _ nW6, cell_of_row W6 _ 4 _ _ _ nW6, cell_of_row W6 _ 5 _ _ _ nW6, cell_of_row W6 _ 6 _ _ _ nW6⟩ (fun hNew => ?_)
            clear hK K hNew
            (try clear hHeld)
            have hHeld : _ ∧ _ ∧ _ ∧ _ ∧ _ ∧ _ ∧ _ := ⟨cell_of_row W6 _ 0 _ _ _ nW6, cell_of_row W6 _ 1 _ _ _ nW6, cell_of_row W6 _ 2 _ _ _ nW6, cell_of_row W6 _ 3 _ _ _ nW6, cell_of_row W6 _ 4 _ _ _ nW6, cell_of_row W6 _ 5 _ _ _ nW6, cell_of_row W6 _ 6 _ _ _ nW6⟩
            try simp only [Act.put, List.getElem_toArray, List.getElem_cons_zero, List.getElem_cons_succ, List.setIfInBounds_toArray, List.set_cons_zero, List.set_cons_succ]
            refine wpAnyH_ready (rs := [2]) (by kernel_rfl) (by simp) ?_
            refine AllReadyH.cons rfl (fun K hK => ?_) AllReadyH.nil
            go_simp
            have hs := sb0 (w := W6) (.cells #[.int .i64 0] 3)
            have kA := heap_alloc_new W6 (.cells #[.int .i64 0] 3)
            have hzW62 : R ≤ (W6.alloc (.cells #[.int .i64 0] 3)).heap.size := by rw [World.size_alloc]; omega
            obtain ⟨gA, hgA⟩ : ∃ g, g = W6.heap.size := ⟨_, rfl⟩
            rw [← hgA] at kA
            try rw [← hgA]
            have kB := bb hs kB
            have nW62 := bb hs nW6
            have oiW62 := OwnI.below oiW6 hs
            have otW62 := OwnT.below otW6 hs
            have hbW62 := hbW6.trans (hs.mono hzW6)
            clear hgA hs
            generalize W6.alloc (.cells #[.int .i64 0] 3) = W62 at *
            refine hK.out _ _ ⟨cell_of_row W62 _ 0 _ _ _ nW62, cell_of_row W62 _ 1 _ _ _ nW62, cell_of_row W62 _ 2 _ _ _ nW62, cell_of_row W62 _ 3 _ _ _ nW62, cell_of_row W62 _ 4 _ _ _ nW62, cell_of_row W62 _ 5 _ _ _ nW62, cell_of_row W62 _ 6 _ _ _ nW62⟩ (fun hNew => ?_)
            clear hK K hNew
            (try clear hHeld)
            have hHeld : _ ∧ _ ∧ _ ∧ _ ∧ _ ∧ _ ∧ _ := ⟨cell_of_row W62 _ 0 _ _ _ nW62, cell_of_row W62 _ 1 _ _ _ nW62, cell_of_row W62 _ 2 _ _ _ nW62, cell_of_row W62 _ 3 _ _ _ nW62, cell_of_row W62 _ 4 _ _ _ nW62, cell_of_row W62 _ 5 _ _ _ nW62, cell_of_row W62 _ 6 _ _ _ nW62⟩
            try simp only [Act.put, List.getElem_toArray, List.getElem_cons_zero, List.getElem_cons_succ, List.setIfInBounds_toArray, List.set_cons_zero, List.set_cons_succ]
            refine wpAnyH_ready (rs := [3]) (by kernel_rfl) (by simp) ?_
            refine AllReadyH.cons rfl (fun K hK => ?_) AllReadyH.nil
            obtain ⟨v3, W623, r3, oiW623, b3, k3⟩ := oiW62.appendR (reads_int1 kA) (by rw [List.length_map]; omega) (by simp) hzW62
            have otW623 := Own.same otW62 (w' := W623) (fun g hg => k3 g (Own.lt otW62 g hg).2 (own_apart' otW62 oiW62 (by decide) g hg))
            have otW623 : OwnT 32 W623 R (.slice a8 l8 c8) (done.map (·.2)) := otW623
            have nW623 := (k3 N (Array.getElem?_eq_some_iff.1 nW62).1 (own_ne oiW62 nW62 (by decide))).trans nW62
            have kB := (k3 gB (Array.getElem?_eq_some_iff.1 kB).1 (own_ne oiW62 kB (by decide))).trans kB
            have hbW623 := hbW62.trans b3
            have hzW623 : R ≤ W623.heap.size := Nat.le_trans hzW62 b3.size
            refine step_append_run (by rfl) (.tmp 84) (.tmp 86) 53 (by rfl) (.slice a9 l9 c9) (.slice (some ⟨gA, 0, none⟩) 1 1) v3 W623 (by rfl) (by rfl) r3 ?_
            clear r3 b3 k3 kA
            refine hK.out _ _ ⟨cell_of_row W623 _ 0 _ _ _ nW623, cell_of_row W623 _ 1 _ _ _ nW623, cell_of_row W623 _ 2 _ _ _ nW623, cell_of_row W623 _ 3 _ _ _ nW623, cell_of_row W623 _ 4 _ _ _ nW623, cell_of_row W623 _ 5 _ _ _ nW623, cell_of_row W623 _ 6 _ _ _ nW623⟩ (fun hNew => ?_)
            clear hK K hNew
            (try clear hHeld)
            have hHeld : _ ∧ _ ∧ _ ∧ _ ∧ _ ∧ _ ∧ _ := ⟨cell_of_row W623 _ 0 _ _ _ nW623, cell_of_row W623 _ 1 _ _ _ nW623, cell_of_row W623 _ 2 _ _ _ nW623, cell_of_row W623 _ 3 _ _ _ nW623, cell_of_row W623 _ 4 _ _ _ nW623, cell_of_row W623 _ 5 _ _ _ nW623, cell_of_row W623 _ 6 _ _ _ nW623⟩
            try simp only [Act.put, List.getElem_toArray, List.getElem_cons_zero, List.getElem_cons_succ, List.setIfInBounds_toArray, List.set_cons_zero, List.set_cons_succ]
            refine wpAnyH_ready (rs := [7]) (by kernel_rfl) (by simp) ?_
            refine AllReadyH.cons rfl (fun K hK => ?_) AllReadyH.nil
            obtain ⟨v7, W6237, r7, otW6237, b7, k7⟩ := otW623.appR32 (HRS.out W623 gB kB) (by rw [List.length_map]; omega) (by simp) hzW623
            have oiW6237 := Own.same oiW623 (w' := W6237) (fun g hg => k7 g (Own.lt oiW623 g hg).2 (own_apart' oiW623 otW623 (by decide) g hg))
            have nW6237 := (k7 N (Array.getElem?_eq_some_iff.1 nW623).1 HNE.out).trans nW623
            have hbW6237 := hbW623.trans b7
            have hzW6237 : R ≤ W6237.heap.size := Nat.le_trans hzW623 b7.size
            refine step_append_run (by rfl) (.tmp 88) (.tmp 90) 41 (by rfl) (.slice a8 l8 c8) (.slice (some ⟨gB, 0, none⟩) 1 1) v7 W6237 (by rfl) (by rfl) r7 ?_
            clear r7 b7 k7 kB
            refine hK.out _ _ ⟨cell_of_row W6237 _ 0 _ _ _ nW6237, cell_of_row W6237 _ 1 _ _ _ nW6237, cell_of_row W6237 _ 2 _ _ _ nW6237, cell_of_row W6237 _ 3 _ _ _ nW6237, cell_of_row W6237 _ 4 _ _ _ nW6237, cell_of_row W6237 _ 5 _ _ _ nW6237, cell_of_row W6237 _ 6 _ _ _ nW6237⟩ (fun hNew => ?_)
            clear hK K hNew
            (try clear hHeld)
            have hHeld : _ ∧ _ ∧ _ ∧ _ ∧ _ ∧ _ ∧ _ := ⟨cell_of_row W6237 _ 0 _ _ _ nW6237, cell_of_row W6237 _ 1 _ _ _ nW6237, cell_of_row W6237 _ 2 _ _ _ nW6237, cell_of_row W6237 _ 3 _ _ _ nW6237, cell_of_row W6237 _ 4 _ _ _ nW6237, cell_of_row W6237 _ 5 _ _ _ nW6237, cell_of_row W6237 _ 6 _ _ _ nW6237⟩
            try simp only [Act.put, List.getElem_toArray, List.getElem_cons_zero, List.getElem_cons_succ, List.setIfInBounds_toArray, List.set_cons_zero, List.set_cons_succ]
            have HN9 := Lib.hid nW6237
            have HB9 := Lib.hid hbW6237
            have OI9 := Lib.hid (show OwnI W6237 R v3 (done.map (·.1) ++ [0]) from oiW6237)
            have OT9 := Lib.hid otW6237
            have e2 := cell_of_row W6237 _ 2 _ _ _ nW6237
            obtain ⟨a5, l5, c5, rfl⟩ := Own.slice OI9.out
            obtain ⟨a6, l6, c6, rfl⟩ := Own.slice OT9.out
            clear hbW6237 oiW6237 otW6237 nW6237
            refine wpAnyH_take (i := 8) (v := ?_) rfl (by kernel_rfl) (by kernel_rfl) (by kernel_rfl) (fun _ _ _ h => h) (Or.inl ⟨by rfl, ?_⟩) (by assumption) ?_
            rotate_left; · (intro w hSw; (try dsimp only at hSw); go_simp; try with_reducible rfl)
            try simp only [Act.put, List.getElem_toArray, List.getElem_cons_zero, List.getElem_cons_succ, List.setIfInBounds_toArray, List.set_cons_zero, List.set_cons_succ]
            refine wpAnyH_take (i := 9) (v := ?_) rfl (by kernel_rfl) (by kernel_rfl) (by kernel_rfl) (fun _ _ _ h => h) (Or.inl ⟨by rfl, ?_⟩) (by assumption) ?_
            rotate_left; · (intro w hSw; (try dsimp only at hSw); go_simp; try with_reducible rfl)
            try simp only [Act.put, List.getElem_toArray, List.getElem_cons_zero, List.getElem_cons_succ, List.setIfInBounds_toArray, List.set_cons_zero, List.set_cons_succ]
            refine wpAnyH_done (by kernel_rfl) ?_ _
            clear hHeld
            go_wp2
            go_roundw
            case rel => exact ⟨xs1, ys, left - tsz, done ++ [(0, ⟨tst, tix, tsz, tsp, tnum, tden, tday⟩)], rfl, ⟨by omega, by omega⟩, HDN.out, by have := HLEN.out; simp at this ⊢; omega, HKT.out, HKY.out, HRD.out, HRY.out, HB9.out, by rw [List.map_append]; exact OI9.out, by rw [List.map_append]; exact OT9.out⟩
            case measure => simp [lenV]; try omega
        · have q1 : decide (tsz ≤ left) = false := decide_eq_false hle
          have HDN := Lib.hid (show D = done ++ takP (mrgP xs1 ys) left by have := HDR.out; rw [HM.out, takP, if_neg hle] at this; exact this)
          clear hle HDR
          go_wp2
          go_roundw
          case rel => exact ⟨xs1, ys, left, done, rfl, ⟨h0l, hlb⟩, HDN.out, by have := HLEN.out; simp at this ⊢; omega, HKT.out, HKY.out, HRD.out, HRY.out, HB6.out, OI6.out, OT6.out⟩
          case measure => simp [lenV]; try omega
      · have HRD := Lib.hid (hc2 hc0)
        clear hc1 hc2
        have hwn := sb0 (w := wc) (.cells #[.string ⟨#[]⟩, .int .i64 0, .int .i64 0, .int .i64 0, .int .i64 0, .int .i64 0, .int .i64 0] 32)
        have hnn := heap_alloc_new wc (.cells #[.string ⟨#[]⟩, .int .i64 0, .int .i64 0, .int .i64 0, .int .i64 0, .int .i64 0, .int .i64 0] 32)
        obtain ⟨N, hN⟩ : ∃ N, N = wc.heap.size := ⟨_, rfl⟩
        obtain ⟨wn, hwn2⟩ : ∃ wn, wn = wc.alloc (.cells #[.string ⟨#[]⟩, .int .i64 0, .int .i64 0, .int .i64 0, .int .i64 0, .int .i64 0, .int .i64 0] 32) := ⟨_, rfl⟩
        rw [← hwn2] at hwn hnn
        rw [← hN] at hnn
        have HWN := Lib.hid hwn2
        have HN := Lib.hid hN
        have p0 := bc hwn p0
        have p1 := bc hwn p1
        have p2 := bc hwn p2
        have p3 := bc hwn p3
        have p4 := bc hwn p4
        have p5 := bc hwn p5
        have p6 := bc hwn p6
        have oin := HOIC.out.below hwn
        have otn := OwnT.below HOTC.out hwn
        have hbn := HBC.out.trans (hwn.mono hRc)
        have hne : N ≠ tb := by rw [hN]; have := HTB.out; omega
        have hNE0 : (Value.slice a8 l8 c8).ownBlock ≠ some N := fun e => by have := (Own.lt HOTC.out _ e).2; omega
        have hNE1 : (Value.slice a9 l9 c9).ownBlock ≠ some N := fun e => by have := (Own.lt HOIC.out _ e).2; omega
        have HNE := Lib.hid hNE0
        have hRN : R ≤ N := by rw [hN]; exact hRc
        have OID := Lib.hid (OwnI.below oin (Below.refl _ wn).drew)
        have OTD := Lib.hid (OwnT.below otn (Below.refl _ wn).drew)
        have HBD := Lib.hid hbn.drew
        have HND := Lib.hid (show wn.drew.heap[N]? = _ from hnn)
        clear hN hwn2 hwn hnn oin otn hbn hNE0
        go_upto_region 12 with fail
        rw [← HWN.out]
        try rw [← HN.out]
        clear HWN HN
        have HSB0 : ∀ w' : World, Below (wn).drew.heap.size (wn).drew w' → (w'.cell? ⟨tb, tq, none⟩ = some (.string tst) ∧ w'.cell? ⟨tb, tq + 1, none⟩ = some (.int .i64 tix) ∧ w'.cell? ⟨tb, tq + 2, none⟩ = some (.int .i64 tsz) ∧ w'.cell? ⟨tb, tq + 3, none⟩ = some (.int .i64 tsp) ∧ w'.cell? ⟨tb, tq + 4, none⟩ = some (.int .i64 tnum) ∧ w'.cell? ⟨tb, tq + 5, none⟩ = some (.int .i64 tden) ∧ w'.cell? ⟨tb, tq + 6, none⟩ = some (.int .i64 tday)) := fun w' hb => ⟨bc hb p0, bc hb p1, bc hb p2, bc hb p3, bc hb p4, bc hb p5, bc hb p6⟩
        refine wp_region_held_drew (S := fun w' => w'.cell? ⟨tb, tq, none⟩ = some (.string tst) ∧ w'.cell? ⟨tb, tq + 1, none⟩ = some (.int .i64 tix) ∧ w'.cell? ⟨tb, tq + 2, none⟩ = some (.int .i64 tsz) ∧ w'.cell? ⟨tb, tq + 3, none⟩ = some (.int .i64 tsp) ∧ w'.cell? ⟨tb, tq + 4, none⟩ = some (.int .i64 tnum) ∧ w'.cell? ⟨tb, tq + 5, none⟩ = some (.int .i64 tden) ∧ w'.cell? ⟨tb, tq + 6, none⟩ = some (.int .i64 tday)) (by kernel_rfl) (HSB0 _ (Below.refl _ _)) (fun hHeld => ?_)
        have HSB := Lib.hid HSB0
        clear HSB0
        generalize (wn).drew = Wd at *
        obtain ⟨y0, y1, y2, y3, y4, y5, y6⟩ := HSB.out _ (Below.refl _ _)
        have z0 := cell_of_row Wd _ 0 _ _ _ HND.out
        have z1 := cell_of_row Wd _ 1 _ _ _ HND.out
        have z2 := cell_of_row Wd _ 2 _ _ _ HND.out
        have z3 := cell_of_row Wd _ 3 _ _ _ HND.out
        have z4 := cell_of_row Wd _ 4 _ _ _ HND.out
        have z5 := cell_of_row Wd _ 5 _ _ _ HND.out
        have z6 := cell_of_row Wd _ 6 _ _ _ HND.out
        have f0 := frozen_of_row Wd _ 0 _ _ HND.out
        have f1 := frozen_of_row Wd _ 1 _ _ HND.out
        have f2 := frozen_of_row Wd _ 2 _ _ HND.out
        have f3 := frozen_of_row Wd _ 3 _ _ HND.out
        have f4 := frozen_of_row Wd _ 4 _ _ HND.out
        have f5 := frozen_of_row Wd _ 5 _ _ HND.out
        have f6 := frozen_of_row Wd _ 6 _ _ HND.out
        clear p0 p1 p2 p3 p4 p5 p6
        have hone : (1 : Int) ≤ (xs1.length : Int) + 1 := by omega
        refine wpAnyH_take (i := 0) (v := ?_) rfl (by kernel_rfl) (by kernel_rfl) (by kernel_rfl) (fun _ _ _ h => h) (Or.inl ⟨by rfl, ?_⟩) (by assumption) ?_
        rotate_left; · (intro w hSw; (try dsimp only at hSw); go_simp; try with_reducible rfl)
        try simp only [Act.put, List.getElem_toArray, List.getElem_cons_zero, List.getElem_cons_succ, List.setIfInBounds_toArray, List.set_cons_zero, List.set_cons_succ]
        refine wpAnyH_take (i := 1) (v := ?_) rfl (by kernel_rfl) (by kernel_rfl) (by kernel_rfl) (fun _ _ _ h => h) (Or.inl ⟨by rfl, ?_⟩) (by assumption) ?_
        rotate_left; · (intro w hSw; (try dsimp only at hSw); go_simp; try with_reducible rfl)
        try simp only [Act.put, List.getElem_toArray, List.getElem_cons_zero, List.getElem_cons_succ, List.setIfInBounds_toArray, List.set_cons_zero, List.set_cons_succ]
        refine wpAnyH_take (i := 2) (v := ?_) rfl (by kernel_rfl) (by kernel_rfl) (by kernel_rfl) (fun _ _ _ h => h) (Or.inl ⟨by rfl, ?_⟩) (by assumption) ?_
        rotate_left; · (intro w hSw; (try dsimp only at hSw); go_simp; try with_reducible rfl)
        try simp only [Act.put, List.getElem_toArray, List.getElem_cons_zero, List.getElem_cons_succ, List.setIfInBounds_toArray, List.set_cons_zero, List.set_cons_succ]
        refine wpAnyH_take (i := 3) (v := ?_) rfl (by kernel_rfl) (by kernel_rfl) (by kernel_rfl) (fun _ _ _ h => h) (Or.inl ⟨by rfl, ?_⟩) (by assumption) ?_
        rotate_left; · (intro w hSw; (try dsimp only at hSw); go_simp; try with_reducible rfl)
        try simp only [Act.put, List.getElem_toArray, List.getElem_cons_zero, List.getElem_cons_succ, List.setIfInBounds_toArray, List.set_cons_zero, List.set_cons_succ]
        refine wpAnyH_take (i := 4) (v := ?_) rfl (by kernel_rfl) (by kernel_rfl) (by kernel_rfl) (fun _ _ _ h => h) (Or.inl ⟨by rfl, ?_⟩) (by assumption) ?_
        rotate_left; · (intro w hSw; (try dsimp only at hSw); go_simp; try with_reducible rfl)
        try simp only [Act.put, List.getElem_toArray, List.getElem_cons_zero, List.getElem_cons_succ, List.setIfInBounds_toArray, List.set_cons_zero, List.set_cons_succ]
        clear hone
        refine wpAnyH_ready (rs := [5]) (by kernel_rfl) (by simp) ?_
        refine AllReadyH.cons rfl (fun K hK => ?_) AllReadyH.nil
        go_simp
        refine hK.out _ _ ⟨far7 _ _ _ _ _ _ _ hne y0, far7 _ _ _ _ _ _ _ hne y1, far7 _ _ _ _ _ _ _ hne y2, far7 _ _ _ _ _ _ _ hne y3, far7 _ _ _ _ _ _ _ hne y4, far7 _ _ _ _ _ _ _ hne y5, far7 _ _ _ _ _ _ _ hne y6⟩ (fun hNew => ?_)
        clear hK K hHeld
        have hHeld := hNew
        clear hNew
        try simp only [Act.put, List.getElem_toArray, List.getElem_cons_zero, List.getElem_cons_succ, List.setIfInBounds_toArray, List.set_cons_zero, List.set_cons_succ]
        refine wpAnyH_take (i := 6) (v := ?_) rfl (by kernel_rfl) (by kernel_rfl) (by kernel_rfl) (fun _ _ _ h => h) (Or.inl ⟨by rfl, ?_⟩) (by assumption) ?_
        rotate_left; · (intro w hSw; (try dsimp only at hSw); go_simp; try with_reducible rfl)
        try simp only [Act.put, List.getElem_toArray, List.getElem_cons_zero, List.getElem_cons_succ, List.setIfInBounds_toArray, List.set_cons_zero, List.set_cons_succ]
        refine wpAnyH_done (by kernel_rfl) ?_ _
        clear hHeld HSB y0 y1 y2 y3 y4 y5 y6 z0 z1 z2 z3 z4 z5 z6 f0 f1 f2 f3 f4 f5 f6
        have n6 := seven_set HND.out (.string tst) (.int .i64 tix) (.int .i64 tsz) (.int .i64 tsp) (.int .i64 tnum) (.int .i64 tden) (.int .i64 tday)
        have hb6 := seven_below HBD.out hRN (.string tst) (.int .i64 tix) (.int .i64 tsz) (.int .i64 tsp) (.int .i64 tnum) (.int .i64 tden) (.int .i64 tday)
        have oi6 := Own.same OID.out (w' := (((((((Wd.setCell ⟨N, 0, none⟩ (.string tst)).setCell ⟨N, 1, none⟩ (.int .i64 tix)).setCell ⟨N, 2, none⟩ (.int .i64 tsz)).setCell ⟨N, 3, none⟩ (.int .i64 tsp)).setCell ⟨N, 4, none⟩ (.int .i64 tnum)).setCell ⟨N, 5, none⟩ (.int .i64 tden)).setCell ⟨N, 6, none⟩ (.int .i64 tday))) (fun g hg => seven_other _ _ _ _ _ _ _ _ (fun e => hNE1 (by rw [hg, e])))
        have ot6 := Own.same OTD.out (w' := (((((((Wd.setCell ⟨N, 0, none⟩ (.string tst)).setCell ⟨N, 1, none⟩ (.int .i64 tix)).setCell ⟨N, 2, none⟩ (.int .i64 tsz)).setCell ⟨N, 3, none⟩ (.int .i64 tsp)).setCell ⟨N, 4, none⟩ (.int .i64 tnum)).setCell ⟨N, 5, none⟩ (.int .i64 tden)).setCell ⟨N, 6, none⟩ (.int .i64 tday))) (fun g hg => seven_other _ _ _ _ _ _ _ _ (fun e => HNE.out (by rw [hg, e])))
        obtain ⟨w6, hw6⟩ : ∃ w6, w6 = (((((((Wd.setCell ⟨N, 0, none⟩ (.string tst)).setCell ⟨N, 1, none⟩ (.int .i64 tix)).setCell ⟨N, 2, none⟩ (.int .i64 tsz)).setCell ⟨N, 3, none⟩ (.int .i64 tsp)).setCell ⟨N, 4, none⟩ (.int .i64 tnum)).setCell ⟨N, 5, none⟩ (.int .i64 tden)).setCell ⟨N, 6, none⟩ (.int .i64 tday)) := ⟨_, rfl⟩
        rw [← hw6] at n6 hb6 oi6 ot6 ⊢
        clear hw6 OID OTD HBD HND
        have hz6 : R ≤ w6.heap.size := by have := hb6.size; have := HZO.out; omega
        have oi6 : OwnI w6 R (.slice a9 l9 c9) (done.map (·.1)) := oi6
        have ot6 : OwnT 32 w6 R (.slice a8 l8 c8) (done.map (·.2)) := ot6
        have N6 := Lib.hid n6
        have HB6 := Lib.hid hb6
        have OI6 := Lib.hid oi6
        have OT6 := Lib.hid ot6
        clear n6 hb6 oi6 ot6
        have d2 := cell_of_row w6 _ 2 _ _ _ N6.out
        by_cases hle : tsz ≤ left
        · have q1 : decide (tsz ≤ left) = true := decide_eq_true hle
          have hw2 : IntKind.i64.wrap (left - tsz) = left - tsz := by have := HBUD.out; have := HTS.out; rw [IntKind.wrap_i64]; omega
          have hts0 := HTS.out
          have HDN := Lib.hid (show D = (done ++ [(0, ⟨tst, tix, tsz, tsp, tnum, tden, tday⟩)]) ++ takP (mrgP xs1 ys) (left - tsz) by have := HDR.out; rw [HM.out, takP, if_pos hle] at this; rw [this, List.append_assoc]; rfl)
          go_upto_region 15 with fail
          have hnW : w6.drew.heap[N]? = some (.cells #[.string tst, .int .i64 tix, .int .i64 tsz, .int .i64 tsp, .int .i64 tnum, .int .i64 tden, .int .i64 tday] 32) := N6.out
          have hbW : Below R wO w6.drew := HB6.out.drew
          have hoW : OwnI w6.drew R (.slice a9 l9 c9) (done.map (·.1)) := OI6.out.below (Below.refl _ w6).drew
          have htW : OwnT 32 w6.drew R (.slice a8 l8 c8) (done.map (·.2)) := OT6.out.below (Below.refl _ w6).drew
          have hzW : R ≤ w6.drew.heap.size := hz6
          refine wp_region_held_drew (S := fun w' => w'.cell? ⟨N, 0, none⟩ = some (.string tst) ∧ w'.cell? ⟨N, 1, none⟩ = some (.int .i64 tix) ∧ w'.cell? ⟨N, 2, none⟩ = some (.int .i64 tsz) ∧ w'.cell? ⟨N, 3, none⟩ = some (.int .i64 tsp) ∧ w'.cell? ⟨N, 4, none⟩ = some (.int .i64 tnum) ∧ w'.cell? ⟨N, 5, none⟩ = some (.int .i64 tden) ∧ w'.cell? ⟨N, 6, none⟩ = some (.int .i64 tday)) (by kernel_rfl) ⟨cell_of_row _ _ 0 _ _ _ hnW, cell_of_row _ _ 1 _ _ _ hnW, cell_of_row _ _ 2 _ _ _ hnW, cell_of_row _ _ 3 _ _ _ hnW, cell_of_row _ _ 4 _ _ _ hnW, cell_of_row _ _ 5 _ _ _ hnW, cell_of_row _ _ 6 _ _ _ hnW⟩ (fun hHeld => ?_)
          clear d2
          generalize w6.drew = Wd at *
          have nWd := hnW
          have hbWd := hbW
          have oiWd := hoW
          have otWd := htW
          have hzWd := hzW
          clear hnW hbW hoW htW hzW N6 HB6 OI6 OT6 HTS
          refine wpAnyH_take (i := 0) (v := ?_) rfl (by kernel_rfl) (by kernel_rfl) (by kernel_rfl) (fun _ _ _ h => h) (Or.inl ⟨by rfl, ?_⟩) (by assumption) ?_
          rotate_left; · (intro w hSw; (try dsimp only at hSw); go_simp; try with_reducible rfl)
          try simp only [Act.put, List.getElem_toArray, List.getElem_cons_zero, List.getElem_cons_succ, List.setIfInBounds_toArray, List.set_cons_zero, List.set_cons_succ]
          refine wpAnyH_take (i := 1) (v := ?_) rfl (by kernel_rfl) (by kernel_rfl) (by kernel_rfl) (fun _ _ _ h => h) (Or.inl ⟨by rfl, ?_⟩) (by assumption) ?_
          rotate_left; · (intro w hSw; (try dsimp only at hSw); go_simp; try with_reducible rfl)
          try simp only [Act.put, List.getElem_toArray, List.getElem_cons_zero, List.getElem_cons_succ, List.setIfInBounds_toArray, List.set_cons_zero, List.set_cons_succ]
          refine wpAnyH_take (i := 4) (v := ?_) rfl (by kernel_rfl) (by kernel_rfl) (by kernel_rfl) (fun _ _ _ h => h) (Or.inl ⟨by rfl, ?_⟩) (by assumption) ?_
          rotate_left; · (intro w hSw; (try dsimp only at hSw); go_simp; try with_reducible rfl)
          try simp only [Act.put, List.getElem_toArray, List.getElem_cons_zero, List.getElem_cons_succ, List.setIfInBounds_toArray, List.set_cons_zero, List.set_cons_succ]
          refine wpAnyH_take (i := 5) (v := ?_) rfl (by kernel_rfl) (by kernel_rfl) (by kernel_rfl) (fun _ _ _ h => h) (Or.inl ⟨by rfl, ?_⟩) (by assumption) ?_
          rotate_left; · (intro w hSw; (try dsimp only at hSw); go_simp; try with_reducible rfl)
          try simp only [Act.put, List.getElem_toArray, List.getElem_cons_zero, List.getElem_cons_succ, List.setIfInBounds_toArray, List.set_cons_zero, List.set_cons_succ]
          refine wpAnyH_ready (rs := [2, 6]) (by kernel_rfl) (by simp) ?_
          refine AllReadyH.cons rfl (fun K hK => ?_) (AllReadyH.cons rfl (fun K hK => ?_) AllReadyH.nil)
          · skip
            go_simp
            have hs := sb0 (w := Wd) (.cells #[.int .i64 0] 3)
            have kA := heap_alloc_new Wd (.cells #[.int .i64 0] 3)
            have hzW2 : R ≤ (Wd.alloc (.cells #[.int .i64 0] 3)).heap.size := by rw [World.size_alloc]; omega
            obtain ⟨gA, hgA⟩ : ∃ g, g = Wd.heap.size := ⟨_, rfl⟩
            rw [← hgA] at kA
            try rw [← hgA]
            have nW2 := bb hs nWd
            have oiW2 := OwnI.below oiWd hs
            have otW2 := OwnT.below otWd hs
            have hbW2 := hbWd.trans (hs.mono hzWd)
            clear hgA hs
            generalize Wd.alloc (.cells #[.int .i64 0] 3) = W2 at *
            refine hK.out _ _ ⟨cell_of_row W2 _ 0 _ _ _ nW2, cell_of_row W2 _ 1 _ _ _ nW2, cell_of_row W2 _ 2 _ _ _ nW2, cell_of_row W2 _ 3 _ _ _ nW2, cell_of_row W2 _ 4 _ _ _ nW2, cell_of_row W2 _ 5 _ _ _ nW2, cell_of_row W2 _ 6 _ _ _ nW2⟩ (fun hNew => ?_)
            clear hK K hNew
            (try clear hHeld)
            have hHeld : _ ∧ _ ∧ _ ∧ _ ∧ _ ∧ _ ∧ _ := ⟨cell_of_row W2 _ 0 _ _ _ nW2, cell_of_row W2 _ 1 _ _ _ nW2, cell_of_row W2 _ 2 _ _ _ nW2, cell_of_row W2 _ 3 _ _ _ nW2, cell_of_row W2 _ 4 _ _ _ nW2, cell_of_row W2 _ 5 _ _ _ nW2, cell_of_row W2 _ 6 _ _ _ nW2⟩
            try simp only [Act.put, List.getElem_toArray, List.getElem_cons_zero, List.getElem_cons_succ, List.setIfInBounds_toArray, List.set_cons_zero, List.set_cons_succ]
            refine wpAnyH_ready (rs := [3, 6]) (by kernel_rfl) (by simp) ?_
            refine AllReadyH.cons rfl (fun K hK => ?_) (AllReadyH.cons rfl (fun K hK => ?_) AllReadyH.nil)
            · skip
              obtain ⟨v3, W23, r3, oiW23, b3, k3⟩ := oiW2.appendR (reads_int1 kA) (by rw [List.length_map]; omega) (by simp) hzW2
              have otW23 := Own.same otW2 (w' := W23) (fun g hg => k3 g (Own.lt otW2 g hg).2 (own_apart' otW2 oiW2 (by decide) g hg))
              have otW23 : OwnT 32 W23 R (.slice a8 l8 c8) (done.map (·.2)) := otW23
              have nW23 := (k3 N (Array.getElem?_eq_some_iff.1 nW2).1 (own_ne oiW2 nW2 (by decide))).trans nW2
              have hbW23 := hbW2.trans b3
              have hzW23 : R ≤ W23.heap.size := Nat.le_trans hzW2 b3.size
              refine step_append_run (by rfl) (.tmp 84) (.tmp 86) 53 (by rfl) (.slice a9 l9 c9) (.slice (some ⟨gA, 0, none⟩) 1 1) v3 W23 (by rfl) (by rfl) r3 ?_
              clear r3 b3 k3 kA
              refine hK.out _ _ ⟨cell_of_row W23 _ 0 _ _ _ nW23, cell_of_row W23 _ 1 _ _ _ nW23, cell_of_row W23 _ 2 _ _ _ nW23, cell_of_row W23 _ 3 _ _ _ nW23, cell_of_row W23 _ 4 _ _ _ nW23, cell_of_row W23 _ 5 _ _ _ nW23, cell_of_row W23 _ 6 _ _ _ nW23⟩ (fun hNew => ?_)
              clear hK K hNew
              (try clear hHeld)
              have hHeld : _ ∧ _ ∧ _ ∧ _ ∧ _ ∧ _ ∧ _ := ⟨cell_of_row W23 _ 0 _ _ _ nW23, cell_of_row W23 _ 1 _ _ _ nW23, cell_of_row W23 _ 2 _ _ _ nW23, cell_of_row W23 _ 3 _ _ _ nW23, cell_of_row W23 _ 4 _ _ _ nW23, cell_of_row W23 _ 5 _ _ _ nW23, cell_of_row W23 _ 6 _ _ _ nW23⟩
              try simp only [Act.put, List.getElem_toArray, List.getElem_cons_zero, List.getElem_cons_succ, List.setIfInBounds_toArray, List.set_cons_zero, List.set_cons_succ]
              refine wpAnyH_ready (rs := [6]) (by kernel_rfl) (by simp) ?_
              refine AllReadyH.cons rfl (fun K hK => ?_) AllReadyH.nil
              go_simp
              have hs := sb0 (w := W23) (.cells #[.string tst, .int .i64 tix, .int .i64 tsz, .int .i64 tsp, .int .i64 tnum, .int .i64 tden, .int .i64 tday] 32)
              have kB := heap_alloc_new W23 (.cells #[.string tst, .int .i64 tix, .int .i64 tsz, .int .i64 tsp, .int .i64 tnum, .int .i64 tden, .int .i64 tday] 32)
              have hzW236 : R ≤ (W23.alloc (.cells #[.string tst, .int .i64 tix, .int .i64 tsz, .int .i64 tsp, .int .i64 tnum, .int .i64 tden, .int .i64 tday] 32)).heap.size := by rw [World.size_alloc]; omega
              obtain ⟨gB, hgB⟩ : ∃ g, g = W23.heap.size := ⟨_, rfl⟩
              rw [← hgB] at kB
              try rw [← hgB]
              have nW236 := bb hs nW23
              have oiW236 := OwnI.below oiW23 hs
              have otW236 := OwnT.below otW23 hs
              have hbW236 := hbW23.trans (hs.mono hzW23)
              clear hgB hs
              generalize W23.alloc (.cells #[.string tst, .int .i64 tix, .int .i64 tsz, .int .i64 tsp, .int .i64 tnum, .int .i64 tden, .int .i64 tday] 32) = W236 at *
              refine hK.out _ _ ⟨cell_of_row W236 _ 0 _ _ _ nW236, cell_of_row W236 _ 1 _ _ _ nW236, cell_of_row W236 _ 2 _ _ _ nW236, cell_of_row W236 _ 3 _ _ _ nW236, cell_of_row W236 _ 4 _ _ _ nW236, cell_of_row W236 _ 5 _ _ _ nW236, cell_of_row W236 _ 6 _ _ _ nW236⟩ (fun hNew => ?_)
              clear hK K hNew
              (try clear hHeld)
              have hHeld : _ ∧ _ ∧ _ ∧ _ ∧ _ ∧ _ ∧ _ := ⟨cell_of_row W236 _ 0 _ _ _ nW236, cell_of_row W236 _ 1 _ _ _ nW236, cell_of_row W236 _ 2 _ _ _ nW236, cell_of_row W236 _ 3 _ _ _ nW236, cell_of_row W236 _ 4 _ _ _ nW236, cell_of_row W236 _ 5 _ _ _ nW236, cell_of_row W236 _ 6 _ _ _ nW236⟩
              try simp only [Act.put, List.getElem_toArray, List.getElem_cons_zero, List.getElem_cons_succ, List.setIfInBounds_toArray, List.set_cons_zero, List.set_cons_succ]
              refine wpAnyH_ready (rs := [7]) (by kernel_rfl) (by simp) ?_
              refine AllReadyH.cons rfl (fun K hK => ?_) AllReadyH.nil
              obtain ⟨v7, W2367, r7, otW2367, b7, k7⟩ := otW236.appR32 (HRS.out W236 gB kB) (by rw [List.length_map]; omega) (by simp) hzW236
              have oiW2367 := Own.same oiW236 (w' := W2367) (fun g hg => k7 g (Own.lt oiW236 g hg).2 (own_apart' oiW236 otW236 (by decide) g hg))
              have nW2367 := (k7 N (Array.getElem?_eq_some_iff.1 nW236).1 HNE.out).trans nW236
              have hbW2367 := hbW236.trans b7
              have hzW2367 : R ≤ W2367.heap.size := Nat.le_trans hzW236 b7.size
              refine step_append_run (by rfl) (.tmp 88) (.tmp 90) 41 (by rfl) (.slice a8 l8 c8) (.slice (some ⟨gB, 0, none⟩) 1 1) v7 W2367 (by rfl) (by rfl) r7 ?_
              clear r7 b7 k7 kB
              refine hK.out _ _ ⟨cell_of_row W2367 _ 0 _ _ _ nW2367, cell_of_row W2367 _ 1 _ _ _ nW2367, cell_of_row W2367 _ 2 _ _ _ nW2367, cell_of_row W2367 _ 3 _ _ _ nW2367, cell_of_row W2367 _ 4 _ _ _ nW2367, cell_of_row W2367 _ 5 _ _ _ nW2367, cell_of_row W2367 _ 6 _ _ _ nW2367⟩ (fun hNew => ?_)
              clear hK K hNew
              (try clear hHeld)
              have hHeld : _ ∧ _ ∧ _ ∧ _ ∧ _ ∧ _ ∧ _ := ⟨cell_of_row W2367 _ 0 _ _ _ nW2367, cell_of_row W2367 _ 1 _ _ _ nW2367, cell_of_row W2367 _ 2 _ _ _ nW2367, cell_of_row W2367 _ 3 _ _ _ nW2367, cell_of_row W2367 _ 4 _ _ _ nW2367, cell_of_row W2367 _ 5 _ _ _ nW2367, cell_of_row W2367 _ 6 _ _ _ nW2367⟩
              try simp only [Act.put, List.getElem_toArray, List.getElem_cons_zero, List.getElem_cons_succ, List.setIfInBounds_toArray, List.set_cons_zero, List.set_cons_succ]
              have HN9 := Lib.hid nW2367
              have HB9 := Lib.hid hbW2367
              have OI9 := Lib.hid (show OwnI W2367 R v3 (done.map (·.1) ++ [0]) from oiW2367)
              have OT9 := Lib.hid otW2367
              have e2 := cell_of_row W2367 _ 2 _ _ _ nW2367
              obtain ⟨a5, l5, c5, rfl⟩ := Own.slice OI9.out
              obtain ⟨a6, l6, c6, rfl⟩ := Own.slice OT9.out
              clear hbW2367 oiW2367 otW2367 nW2367
              refine wpAnyH_take (i := 8) (v := ?_) rfl (by kernel_rfl) (by kernel_rfl) (by kernel_rfl) (fun _ _ _ h => h) (Or.inl ⟨by rfl, ?_⟩) (by assumption) ?_
              rotate_left; · (intro w hSw; (try dsimp only at hSw); go_simp; try with_reducible rfl)
              try simp only [Act.put, List.getElem_toArray, List.getElem_cons_zero, List.getElem_cons_succ, List.setIfInBounds_toArray, List.set_cons_zero, List.set_cons_succ]
              refine wpAnyH_take (i := 9) (v := ?_) rfl (by kernel_rfl) (by kernel_rfl) (by kernel_rfl) (fun _ _ _ h => h) (Or.inl ⟨by rfl, ?_⟩) (by assumption) ?_
              rotate_left; · (intro w hSw; (try dsimp only at hSw); go_simp; try with_reducible rfl)
              try simp only [Act.put, List.getElem_toArray, List.getElem_cons_zero, List.getElem_cons_succ, List.setIfInBounds_toArray, List.set_cons_zero, List.set_cons_succ]
              refine wpAnyH_done (by kernel_rfl) ?_ _
              clear hHeld
              go_wp2
              go_roundw
              case rel => exact ⟨xs1, ys, left - tsz, done ++ [(0, ⟨tst, tix, tsz, tsp, tnum, tden, tday⟩)], rfl, ⟨by omega, by omega⟩, HDN.out, by have := HLEN.out; simp at this ⊢; omega, HKT.out, HKY.out, HRD.out, HRY.out, HB9.out, by rw [List.map_append]; exact OI9.out, by rw [List.map_append]; exact OT9.out⟩
              case measure => simp [lenV]; try omega
            · skip
              go_simp
              have hs := sb0 (w := W2) (.cells #[.string tst, .int .i64 tix, .int .i64 tsz, .int .i64 tsp, .int .i64 tnum, .int .i64 tden, .int .i64 tday] 32)
              have kB := heap_alloc_new W2 (.cells #[.string tst, .int .i64 tix, .int .i64 tsz, .int .i64 tsp, .int .i64 tnum, .int .i64 tden, .int .i64 tday] 32)
              have hzW26 : R ≤ (W2.alloc (.cells #[.string tst, .int .i64 tix, .int .i64 tsz, .int .i64 tsp, .int .i64 tnum, .int .i64 tden, .int .i64 tday] 32)).heap.size := by rw [World.size_alloc]; omega
              obtain ⟨gB, hgB⟩ : ∃ g, g = W2.heap.size := ⟨_, rfl⟩
              rw [← hgB] at kB
              try rw [← hgB]
              have kA := bb hs kA
              have nW26 := bb hs nW2
              have oiW26 := OwnI.below oiW2 hs
              have otW26 := OwnT.below otW2 hs
              have hbW26 := hbW2.trans (hs.mono hzW2)
              clear hgB hs
              generalize W2.alloc (.cells #[.string tst, .int .i64 tix, .int .i64 tsz, .int .i64 tsp, .int .i64 tnum, .int .i64 tden, .int .i64 tday] 32) = W26 at *
              refine hK.out _ _ ⟨cell_of_row W26 _ 0 _ _ _ nW26, cell_of_row W26 _ 1 _ _ _ nW26, cell_of_row W26 _ 2 _ _ _ nW26, cell_of_row W26 _ 3 _ _ _ nW26, cell_of_row W26 _ 4 _ _ _ nW26, cell_of_row W26 _ 5 _ _ _ nW26, cell_of_row W26 _ 6 _ _ _ nW26⟩ (fun hNew => ?_)
              clear hK K hNew
              (try clear hHeld)
              have hHeld : _ ∧ _ ∧ _ ∧ _ ∧ _ ∧ _ ∧ _ := ⟨cell_of_row W26 _ 0 _ _ _ nW26, cell_of_row W26 _ 1 _ _ _ nW26, cell_of_row W26 _ 2 _ _ _ nW26, cell_of_row W26 _ 3 _ _ _ nW26, cell_of_row W26 _ 4 _ _ _ nW26, cell_of_row W26 _ 5 _ _ _ nW26, cell_of_row W26 _ 6 _ _ _ nW26⟩
              try simp only [Act.put, List.getElem_toArray, List.getElem_cons_zero, List.getElem_cons_succ, List.setIfInBounds_toArray, List.set_cons_zero, List.set_cons_succ]
              refine wpAnyH_ready (rs := [3]) (by kernel_rfl) (by simp) ?_
              refine AllReadyH.cons rfl (fun K hK => ?_) AllReadyH.nil
              obtain ⟨v3, W263, r3, oiW263, b3, k3⟩ := oiW26.appendR (reads_int1 kA) (by rw [List.length_map]; omega) (by simp) hzW26
              have otW263 := Own.same otW26 (w' := W263) (fun g hg => k3 g (Own.lt otW26 g hg).2 (own_apart' otW26 oiW26 (by decide) g hg))
              have otW263 : OwnT 32 W263 R (.slice a8 l8 c8) (done.map (·.2)) := otW263
              have nW263 := (k3 N (Array.getElem?_eq_some_iff.1 nW26).1 (own_ne oiW26 nW26 (by decide))).trans nW26
              have kB := (k3 gB (Array.getElem?_eq_some_iff.1 kB).1 (own_ne oiW26 kB (by decide))).trans kB
              have hbW263 := hbW26.trans b3
              have hzW263 : R ≤ W263.heap.size := Nat.le_trans hzW26 b3.size
              refine step_append_run (by rfl) (.tmp 84) (.tmp 86) 53 (by rfl) (.slice a9 l9 c9) (.slice (some ⟨gA, 0, none⟩) 1 1) v3 W263 (by rfl) (by rfl) r3 ?_
              clear r3 b3 k3 kA
              refine hK.out _ _ ⟨cell_of_row W263 _ 0 _ _ _ nW263, cell_of_row W263 _ 1 _ _ _ nW263, cell_of_row W263 _ 2 _ _ _ nW263, cell_of_row W263 _ 3 _ _ _ nW263, cell_of_row W263 _ 4 _ _ _ nW263, cell_of_row W263 _ 5 _ _ _ nW263, cell_of_row W263 _ 6 _ _ _ nW263⟩ (fun hNew => ?_)
              clear hK K hNew
              (try clear hHeld)
              have hHeld : _ ∧ _ ∧ _ ∧ _ ∧ _ ∧ _ ∧ _ := ⟨cell_of_row W263 _ 0 _ _ _ nW263, cell_of_row W263 _ 1 _ _ _ nW263, cell_of_row W263 _ 2 _ _ _ nW263, cell_of_row W263 _ 3 _ _ _ nW263, cell_of_row W263 _ 4 _ _ _ nW263, cell_of_row W263 _ 5 _ _ _ nW263, cell_of_row W263 _ 6 _ _ _ nW263⟩
              try simp only [Act.put, List.getElem_toArray, List.getElem_cons_zero, List.getElem_cons_succ, List.setIfInBounds_toArray, List.set_cons_zero, List.set_cons_succ]
              refine wpAnyH_ready (rs := [7]) (by kernel_rfl) (by simp) ?_
              refine AllReadyH.cons rfl (fun K hK => ?_) AllReadyH.nil
              obtain ⟨v7, W2637, r7, otW2637, b7, k7⟩ := otW263.appR32 (HRS.out W263 gB kB) (by rw [List.length_map]; omega) (by simp) hzW263
              have oiW2637 := Own.same oiW263 (w' := W2637) (fun g hg => k7 g (Own.lt oiW263 g hg).2 (own_apart' oiW263 otW263 (by decide) g hg))
              have nW2637 := (k7 N (Array.getElem?_eq_some_iff.1 nW263).1 HNE.out).trans nW263
              have hbW2637 := hbW263.trans b7
              have hzW2637 : R ≤ W2637.heap.size := Nat.le_trans hzW263 b7.size
              refine step_append_run (by rfl) (.tmp 88) (.tmp 90) 41 (by rfl) (.slice a8 l8 c8) (.slice (some ⟨gB, 0, none⟩) 1 1) v7 W2637 (by rfl) (by rfl) r7 ?_
              clear r7 b7 k7 kB
              refine hK.out _ _ ⟨cell_of_row W2637 _ 0 _ _ _ nW2637, cell_of_row W2637 _ 1 _ _ _ nW2637, cell_of_row W2637 _ 2 _ _ _ nW2637, cell_of_row W2637 _ 3 _ _ _ nW2637, cell_of_row W2637 _ 4 _ _ _ nW2637, cell_of_row W2637 _ 5 _ _ _ nW2637, cell_of_row W2637 _ 6 _ _ _ nW2637⟩ (fun hNew => ?_)
              clear hK K hNew
              (try clear hHeld)
              have hHeld : _ ∧ _ ∧ _ ∧ _ ∧ _ ∧ _ ∧ _ := ⟨cell_of_row W2637 _ 0 _ _ _ nW2637, cell_of_row W2637 _ 1 _ _ _ nW2637, cell_of_row W2637 _ 2 _ _ _ nW2637, cell_of_row W2637 _ 3 _ _ _ nW2637, cell_of_row W2637 _ 4 _ _ _ nW2637, cell_of_row W2637 _ 5 _ _ _ nW2637, cell_of_row W2637 _ 6 _ _ _ nW2637⟩
              try simp only [Act.put, List.getElem_toArray, List.getElem_cons_zero, List.getElem_cons_succ, List.setIfInBounds_toArray, List.set_cons_zero, List.set_cons_succ]
              have HN9 := Lib.hid nW2637
              have HB9 := Lib.hid hbW2637
              have OI9 := Lib.hid (show OwnI W2637 R v3 (done.map (·.1) ++ [0]) from oiW2637)
              have OT9 := Lib.hid otW2637
              have e2 := cell_of_row W2637 _ 2 _ _ _ nW2637
              obtain ⟨a5, l5, c5, rfl⟩ := Own.slice OI9.out
              obtain ⟨a6, l6, c6, rfl⟩ := Own.slice OT9.out
              clear hbW2637 oiW2637 otW2637 nW2637
              refine wpAnyH_take (i := 8) (v := ?_) rfl (by kernel_rfl) (by kernel_rfl) (by kernel_rfl) (fun _ _ _ h => h) (Or.inl ⟨by rfl, ?_⟩) (by assumption) ?_
              rotate_left; · (intro w hSw; (try dsimp only at hSw); go_simp; try with_reducible rfl)
              try simp only [Act.put, List.getElem_toArray, List.getElem_cons_zero, List.getElem_cons_succ, List.setIfInBounds_toArray, List.set_cons_zero, List.set_cons_succ]
              refine wpAnyH_take (i := 9) (v := ?_) rfl (by kernel_rfl) (by kernel_rfl) (by kernel_rfl) (fun _ _ _ h => h) (Or.inl ⟨by rfl, ?_⟩) (by assumption) ?_
              rotate_left; · (intro w hSw; (try dsimp only at hSw); go_simp; try with_reducible rfl)
              try simp only [Act.put, List.getElem_toArray, List.getElem_cons_zero, List.getElem_cons_succ, List.setIfInBounds_toArray, List.set_cons_zero, List.set_cons_succ]
              refine wpAnyH_done (by kernel_rfl) ?_ _
              clear hHeld
              go_wp2
              go_roundw
              case rel => exact ⟨xs1, ys, left - tsz, done ++ [(0, ⟨tst, tix, tsz, tsp, tnum, tden, tday⟩)], rfl, ⟨by omega, by omega⟩, HDN.out, by have := HLEN.out; simp at this ⊢; omega, HKT.out, HKY.out, HRD.out, HRY.out, HB9.out, by rw [List.map_append]; exact OI9.out, by rw [List.map_append]; exact OT9.out⟩
              case measure => simp [lenV]; try omega
          · skip
            go_simp
            have hs := sb0 (w := Wd) (.cells #[.string tst, .int .i64 tix, .int .i64 tsz, .int .i64 tsp, .int .i64 tnum, .int .i64 tden, .int .i64 tday] 32)
            have kB := heap_alloc_new Wd (.cells #[.string tst, .int .i64 tix, .int .i64 tsz, .int .i64 tsp, .int .i64 tnum, .int .i64 tden, .int .i64 tday] 32)
            have hzW6 : R ≤ (Wd.alloc (.cells #[.string tst, .int .i64 tix, .int .i64 tsz, .int .i64 tsp, .int .i64 tnum, .int .i64 tden, .int .i64 tday] 32)).heap.size := by rw [World.size_alloc]; omega
            obtain ⟨gB, hgB⟩ : ∃ g, g = Wd.heap.size := ⟨_, rfl⟩
            rw [← hgB] at kB
            try rw [← hgB]
            have nW6 := bb hs nWd
            have oiW6 := OwnI.below oiWd hs
            have otW6 := OwnT.below otWd hs
            have hbW6 := hbWd.trans (hs.mono hzWd)
            clear hgB hs
            generalize Wd.alloc (.cells #[.string tst, .int .i64 tix, .int .i64 tsz, .int .i64 tsp, .int .i64 tnum, .int .i64 tden, .int .i64 tday] 32) = W6 at *
            refine hK.out _ _ ⟨cell_of_row W6 _ 0 _ _ _ nW6, cell_of_row W6 _ 1 _ _ _ nW6, cell_of_row W6 _ 2 _ _ _ nW6, cell_of_row W6 _ 3 _ _ _ nW6, cell_of_row W6 _ 4 _ _ _ nW6, cell_of_row W6 _ 5 _ _ _ nW6, cell_of_row W6 _ 6 _ _ _ nW6⟩ (fun hNew => ?_)
            clear hK K hNew
            (try clear hHeld)
            have hHeld : _ ∧ _ ∧ _ ∧ _ ∧ _ ∧ _ ∧ _ := ⟨cell_of_row W6 _ 0 _ _ _ nW6, cell_of_row W6 _ 1 _ _ _ nW6, cell_of_row W6 _ 2 _ _ _ nW6, cell_of_row W6 _ 3 _ _ _ nW6, cell_of_row W6 _ 4 _ _ _ nW6, cell_of_row W6 _ 5 _ _ _ nW6, cell_of_row W6 _ 6 _ _ _ nW6⟩
            try simp only [Act.put, List.getElem_toArray, List.getElem_cons_zero, List.getElem_cons_succ, List.setIfInBounds_toArray, List.set_cons_zero, List.set_cons_succ]
            refine wpAnyH_ready (rs := [2]) (by kernel_rfl) (by simp) ?_
            refine AllReadyH.cons rfl (fun K hK => ?_) AllReadyH.nil
            go_simp
            have hs := sb0 (w := W6) (.cells #[.int .i64 0] 3)
            have kA := heap_alloc_new W6 (.cells #[.int .i64 0] 3)
            have hzW62 : R ≤ (W6.alloc (.cells #[.int .i64 0] 3)).heap.size := by rw [World.size_alloc]; omega
            obtain ⟨gA, hgA⟩ : ∃ g, g = W6.heap.size := ⟨_, rfl⟩
            rw [← hgA] at kA
            try rw [← hgA]
            have kB := bb hs kB
            have nW62 := bb hs nW6
            have oiW62 := OwnI.below oiW6 hs
            have otW62 := OwnT.below otW6 hs
            have hbW62 := hbW6.trans (hs.mono hzW6)
            clear hgA hs
            generalize W6.alloc (.cells #[.int .i64 0] 3) = W62 at *
            refine hK.out _ _ ⟨cell_of_row W62 _ 0 _ _ _ nW62, cell_of_row W62 _ 1 _ _ _ nW62, cell_of_row W62 _ 2 _ _ _ nW62, cell_of_row W62 _ 3 _ _ _ nW62, cell_of_row W62 _ 4 _ _ _ nW62, cell_of_row W62 _ 5 _ _ _ nW62, cell_of_row W62 _ 6 _ _ _ nW62⟩ (fun hNew => ?_)
            clear hK K hNew
            (try clear hHeld)
            have hHeld : _ ∧ _ ∧ _ ∧ _ ∧ _ ∧ _ ∧ _ := ⟨cell_of_row W62 _ 0 _ _ _ nW62, cell_of_row W62 _ 1 _ _ _ nW62, cell_of_row W62 _ 2 _ _ _ nW62, cell_of_row W62 _ 3 _ _ _ nW62, cell_of_row W62 _ 4 _ _ _ nW62, cell_of_row W62 _ 5 _ _ _ nW62, cell_of_row W62 _ 6 _ _ _ nW62⟩
            try simp only [Act.put, List.getElem_toArray, List.getElem_cons_zero, List.getElem_cons_succ, List.setIfInBounds_toArray, List.set_cons_zero, List.set_cons_succ]
            refine wpAnyH_ready (rs := [3]) (by kernel_rfl) (by simp) ?_
            refine AllReadyH.cons rfl (fun K hK => ?_) AllReadyH.nil
            obtain ⟨v3, W623, r3, oiW623, b3, k3⟩ := oiW62.appendR (reads_int1 kA) (by rw [List.length_map]; omega) (by simp) hzW62
            have otW623 := Own.same otW62 (w' := W623) (fun g hg => k3 g (Own.lt otW62 g hg).2 (own_apart' otW62 oiW62 (by decide) g hg))
            have otW623 : OwnT 32 W623 R (.slice a8 l8 c8) (done.map (·.2)) := otW623
            have nW623 := (k3 N (Array.getElem?_eq_some_iff.1 nW62).1 (own_ne oiW62 nW62 (by decide))).trans nW62
            have kB := (k3 gB (Array.getElem?_eq_some_iff.1 kB).1 (own_ne oiW62 kB (by decide))).trans kB
            have hbW623 := hbW62.trans b3
            have hzW623 : R ≤ W623.heap.size := Nat.le_trans hzW62 b3.size
            refine step_append_run (by rfl) (.tmp 84) (.tmp 86) 53 (by rfl) (.slice a9 l9 c9) (.slice (some ⟨gA, 0, none⟩) 1 1) v3 W623 (by rfl) (by rfl) r3 ?_
            clear r3 b3 k3 kA
            refine hK.out _ _ ⟨cell_of_row W623 _ 0 _ _ _ nW623, cell_of_row W623 _ 1 _ _ _ nW623, cell_of_row W623 _ 2 _ _ _ nW623, cell_of_row W623 _ 3 _ _ _ nW623, cell_of_row W623 _ 4 _ _ _ nW623, cell_of_row W623 _ 5 _ _ _ nW623, cell_of_row W623 _ 6 _ _ _ nW623⟩ (fun hNew => ?_)
            clear hK K hNew
            (try clear hHeld)
            have hHeld : _ ∧ _ ∧ _ ∧ _ ∧ _ ∧ _ ∧ _ := ⟨cell_of_row W623 _ 0 _ _ _ nW623, cell_of_row W623 _ 1 _ _ _ nW623, cell_of_row W623 _ 2 _ _ _ nW623, cell_of_row W623 _ 3 _ _ _ nW623, cell_of_row W623 _ 4 _ _ _ nW623, cell_of_row W623 _ 5 _ _ _ nW623, cell_of_row W623 _ 6 _ _ _ nW623⟩
            try simp only [Act.put, List.getElem_toArray, List.getElem_cons_zero, List.getElem_cons_succ, List.setIfInBounds_toArray, List.set_cons_zero, List.set_cons_succ]
            refine wpAnyH_ready (rs := [7]) (by kernel_rfl) (by simp) ?_
            refine AllReadyH.cons rfl (fun K hK => ?_) AllReadyH.nil
            obtain ⟨v7, W6237, r7, otW6237, b7, k7⟩ := otW623.appR32 (HRS.out W623 gB kB) (by rw [List.length_map]; omega) (by simp) hzW623
            have oiW6237 := Own.same oiW623 (w' := W6237) (fun g hg => k7 g (Own.lt oiW623 g hg).2 (own_apart' oiW623 otW623 (by decide) g hg))
            have nW6237 := (k7 N (Array.getElem?_eq_some_iff.1 nW623).1 HNE.out).trans nW623
            have hbW6237 := hbW623.trans b7
            have hzW6237 : R ≤ W6237.heap.size := Nat.le_trans hzW623 b7.size
            refine step_append_run (by rfl) (.tmp 88) (.tmp 90) 41 (by rfl) (.slice a8 l8 c8) (.slice (some ⟨gB, 0, none⟩) 1 1) v7 W6237 (by rfl) (by rfl) r7 ?_
            clear r7 b7 k7 kB
            refine hK.out _ _ ⟨cell_of_row W6237 _ 0 _ _ _ nW6237, cell_of_row W6237 _ 1 _ _ _ nW6237, cell_of_row W6237 _ 2 _ _ _ nW6237, cell_of_row W6237 _ 3 _ _ _ nW6237, cell_of_row W6237 _ 4 _ _ _ nW6237, cell_of_row W6237 _ 5 _ _ _ nW6237, cell_of_row W6237 _ 6 _ _ _ nW6237⟩ (fun hNew => ?_)
            clear hK K hNew
            (try clear hHeld)
            have hHeld : _ ∧ _ ∧ _ ∧ _ ∧ _ ∧ _ ∧ _ := ⟨cell_of_row W6237 _ 0 _ _ _ nW6237, cell_of_row W6237 _ 1 _ _ _ nW6237, cell_of_row W6237 _ 2 _ _ _ nW6237, cell_of_row W6237 _ 3 _ _ _ nW6237, cell_of_row W6237 _ 4 _ _ _ nW6237, cell_of_row W6237 _ 5 _ _ _ nW6237, cell_of_row W6237 _ 6 _ _ _ nW6237⟩
            try simp only [Act.put, List.getElem_toArray, List.getElem_cons_zero, List.getElem_cons_succ, List.setIfInBounds_toArray, List.set_cons_zero, List.set_cons_succ]
            have HN9 := Lib.hid nW6237
            have HB9 := Lib.hid hbW6237
            have OI9 := Lib.hid (show OwnI W6237 R v3 (done.map (·.1) ++ [0]) from oiW6237)
            have OT9 := Lib.hid otW6237
            have e2 := cell_of_row W6237 _ 2 _ _ _ nW6237
            obtain ⟨a5, l5, c5, rfl⟩ := Own.slice OI9.out
            obtain ⟨a6, l6, c6, rfl⟩ := Own.slice OT9.out
            clear hbW6237 oiW6237 otW6237 nW6237
            refine wpAnyH_take (i := 8) (v := ?_) rfl (by kernel_rfl) (by kernel_rfl) (by kernel_rfl) (fun _ _ _ h => h) (Or.inl ⟨by rfl, ?_⟩) (by assumption) ?_
            rotate_left; · (intro w hSw; (try dsimp only at hSw); go_simp; try with_reducible rfl)
            try simp only [Act.put, List.getElem_toArray, List.getElem_cons_zero, List.getElem_cons_succ, List.setIfInBounds_toArray, List.set_cons_zero, List.set_cons_succ]
            refine wpAnyH_take (i := 9) (v := ?_) rfl (by kernel_rfl) (by kernel_rfl) (by kernel_rfl) (fun _ _ _ h => h) (Or.inl ⟨by rfl, ?_⟩) (by assumption) ?_
            rotate_left; · (intro w hSw; (try dsimp only at hSw); go_simp; try with_reducible rfl)
            try simp only [Act.put, List.getElem_toArray, List.getElem_cons_zero, List.getElem_cons_succ, List.setIfInBounds_toArray, List.set_cons_zero, List.set_cons_succ]
            refine wpAnyH_done (by kernel_rfl) ?_ _
            clear hHeld
            go_wp2
            go_roundw
            case rel => exact ⟨xs1, ys, left - tsz, done ++ [(0, ⟨tst, tix, tsz, tsp, tnum, tden, tday⟩)], rfl, ⟨by omega, by omega⟩, HDN.out, by have := HLEN.out; simp at this ⊢; omega, HKT.out, HKY.out, HRD.out, HRY.out, HB9.out, by rw [List.map_append]; exact OI9.out, by rw [List.map_append]; exact OT9.out⟩
            case measure => simp [lenV]; try omega
        · have q1 : decide (tsz ≤ left) = false := decide_eq_false hle
          have HDN := Lib.hid (show D = done ++ takP (mrgP xs1 ys) left by have := HDR.out; rw [HM.out, takP, if_neg hle] at this; exact this)
          clear hle HDR
          go_wp2
          go_roundw
          case rel => exact ⟨xs1, ys, left, done, rfl, ⟨h0l, hlb⟩, HDN.out, by have := HLEN.out; simp at this ⊢; omega, HKT.out, HKY.out, HRD.out, HRY.out, HB6.out, OI6.out, OT6.out⟩
          case measure => simp [lenV]; try omega
    · have e0 : decide ((1 : Int) = 1) = true := by decide
      rw [e0]
      clear e0
      obtain ⟨tb, tq, rfl, htc, htl, ⟨p0, p1, p2, p3, p4, p5, p6⟩, hc1, hc2⟩ := reads_tail HRY.out
      have HTB := Lib.hid (show tb < wc.heap.size from Nat.lt_of_lt_of_le (cell_lt p0) (Nat.le_trans (by have := HB.out.size; exact this) hbc.size))
      have p0 := bc hbc (bc (HB.out.mono (Nat.le_of_eq HZO.out)) p0)
      have p1 := bc hbc (bc (HB.out.mono (Nat.le_of_eq HZO.out)) p1)
      have p2 := bc hbc (bc (HB.out.mono (Nat.le_of_eq HZO.out)) p2)
      have p3 := bc hbc (bc (HB.out.mono (Nat.le_of_eq HZO.out)) p3)
      have p4 := bc hbc (bc (HB.out.mono (Nat.le_of_eq HZO.out)) p4)
      have p5 := bc hbc (bc (HB.out.mono (Nat.le_of_eq HZO.out)) p5)
      have p6 := bc hbc (bc (HB.out.mono (Nat.le_of_eq HZO.out)) p6)
      have HTO := Lib.hid (HKY.out t (List.mem_cons_self ..))
      have HTS := Lib.hid HTO.out.2.2.1
      have HKT := Lib.hid (show AllOk ys1 from fun u hu => HKY.out u (List.mem_cons_of_mem _ hu))
      have HOIC := Lib.hid (HOI.out.below hbc)
      have HOTC := Lib.hid (HOT.out.below hbc)
      have hRc : R ≤ wc.heap.size := Nat.le_trans hRle hbc.size
      have HBC := Lib.hid (HB.out.trans (hbc.mono hRle))
      have HRS := Lib.hid (fun (W : World) g (h : W.heap[g]? = _) => reads_single (W := W) (g := g) (t := t) h)
      clear hbc HTO HPOS hpos
      obtain ⟨tt, htt⟩ : ∃ tt, tt = t := ⟨_, rfl⟩
      have HTT := Lib.hid htt.symm
      clear htt
      obtain ⟨tst, tix, tsz, tsp, tnum, tden, tday⟩ := t
      simp only at p0 p1 p2 p3 p4 p5 p6 HTS HRS
      by_cases hc0 : yc = 1
      · have HRD := Lib.hid (hc1 hc0)
        have hT0 : ys1 = [] := List.length_eq_zero_iff.1 (by omega)
        clear hc1 hc2
        subst hc0
        have hwn := sb0 (w := wc) (.cells #[.string ⟨#[]⟩, .int .i64 0, .int .i64 0, .int .i64 0, .int .i64 0, .int .i64 0, .int .i64 0] 32)
        have hnn := heap_alloc_new wc (.cells #[.string ⟨#[]⟩, .int .i64 0, .int .i64 0, .int .i64 0, .int .i64 0, .int .i64 0, .int .i64 0] 32)
        obtain ⟨N, hN⟩ : ∃ N, N = wc.heap.size := ⟨_, rfl⟩
        obtain ⟨wn, hwn2⟩ : ∃ wn, wn = wc.alloc (.cells #[.string ⟨#[]⟩, .int .i64 0, .int .i64 0, .int .i64 0, .int .i64 0, .int .i64 0, .int .i64 0] 32) := ⟨_, rfl⟩
        rw [← hwn2] at hwn hnn
        rw [← hN] at hnn
        have HWN := Lib.hid hwn2
        have HN := Lib.hid hN
        have p0 := bc hwn p0
        have p1 := bc hwn p1
        have p2 := bc hwn p2
        have p3 := bc hwn p3
        have p4 := bc hwn p4
        have p5 := bc hwn p5
        have p6 := bc hwn p6
        have oin := HOIC.out.below hwn
        have otn := OwnT.below HOTC.out hwn
        have hbn := HBC.out.trans (hwn.mono hRc)
        have hne : N ≠ tb := by rw [hN]; have := HTB.out; omega
        have hNE0 : (Value.slice a8 l8 c8).ownBlock ≠ some N := fun e => by have := (Own.lt HOTC.out _ e).2; omega
        have hNE1 : (Value.slice a9 l9 c9).ownBlock ≠ some N := fun e => by have := (Own.lt HOIC.out _ e).2; omega
        have HNE := Lib.hid hNE0
        have hRN : R ≤ N := by rw [hN]; exact hRc
        have OID := Lib.hid (OwnI.below oin (Below.refl _ wn).drew)
        have OTD := Lib.hid (OwnT.below otn (Below.refl _ wn).drew)
        have HBD := Lib.hid hbn.drew
        have HND := Lib.hid (show wn.drew.heap[N]? = _ from hnn)
        clear hN hwn2 hwn hnn oin otn hbn hNE0
        go_upto_region 13 with fail
        rw [← HWN.out]
        try rw [← HN.out]
        clear HWN HN
        have HSB0 : ∀ w' : World, Below (wn).drew.heap.size (wn).drew w' → (w'.cell? ⟨tb, tq, none⟩ = some (.string tst) ∧ w'.cell? ⟨tb, tq + 1, none⟩ = some (.int .i64 tix) ∧ w'.cell? ⟨tb, tq + 2, none⟩ = some (.int .i64 tsz) ∧ w'.cell? ⟨tb, tq + 3, none⟩ = some (.int .i64 tsp) ∧ w'.cell? ⟨tb, tq + 4, none⟩ = some (.int .i64 tnum) ∧ w'.cell? ⟨tb, tq + 5, none⟩ = some (.int .i64 tden) ∧ w'.cell? ⟨tb, tq + 6, none⟩ = some (.int .i64 tday)) := fun w' hb => ⟨bc hb p0, bc hb p1, bc hb p2, bc hb p3, bc hb p4, bc hb p5, bc hb p6⟩
        refine wp_region_held_drew (S := fun w' => w'.cell? ⟨tb, tq, none⟩ = some (.string tst) ∧ w'.cell? ⟨tb, tq + 1, none⟩ = some (.int .i64 tix) ∧ w'.cell? ⟨tb, tq + 2, none⟩ = some (.int .i64 tsz) ∧ w'.cell? ⟨tb, tq + 3, none⟩ = some (.int .i64 tsp) ∧ w'.cell? ⟨tb, tq + 4, none⟩ = some (.int .i64 tnum) ∧ w'.cell? ⟨tb, tq + 5, none⟩ = some (.int .i64 tden) ∧ w'.cell? ⟨tb, tq + 6, none⟩ = some (.int .i64 tday)) (by kernel_rfl) (HSB0 _ (Below.refl _ _)) (fun hHeld => ?_)
        have HSB := Lib.hid HSB0
        clear HSB0
        generalize (wn).drew = Wd at *
        obtain ⟨y0, y1, y2, y3, y4, y5, y6⟩ := HSB.out _ (Below.refl _ _)
        have z0 := cell_of_row Wd _ 0 _ _ _ HND.out
        have z1 := cell_of_row Wd _ 1 _ _ _ HND.out
        have z2 := cell_of_row Wd _ 2 _ _ _ HND.out
        have z3 := cell_of_row Wd _ 3 _ _ _ HND.out
        have z4 := cell_of_row Wd _ 4 _ _ _ HND.out
        have z5 := cell_of_row Wd _ 5 _ _ _ HND.out
        have z6 := cell_of_row Wd _ 6 _ _ _ HND.out
        have f0 := frozen_of_row Wd _ 0 _ _ HND.out
        have f1 := frozen_of_row Wd _ 1 _ _ HND.out
        have f2 := frozen_of_row Wd _ 2 _ _ HND.out
        have f3 := frozen_of_row Wd _ 3 _ _ HND.out
        have f4 := frozen_of_row Wd _ 4 _ _ HND.out
        have f5 := frozen_of_row Wd _ 5 _ _ HND.out
        have f6 := frozen_of_row Wd _ 6 _ _ HND.out
        clear p0 p1 p2 p3 p4 p5 p6
        have hone : (1 : Int) ≤ (ys1.length : Int) + 1 := by omega
        refine wpAnyH_take (i := 0) (v := ?_) rfl (by kernel_rfl) (by kernel_rfl) (by kernel_rfl) (fun _ _ _ h => h) (Or.inl ⟨by rfl, ?_⟩) (by assumption) ?_
        rotate_left; · (intro w hSw; (try dsimp only at hSw); go_simp; try with_reducible rfl)
        try simp only [Act.put, List.getElem_toArray, List.getElem_cons_zero, List.getElem_cons_succ, List.setIfInBounds_toArray, List.set_cons_zero, List.set_cons_succ]
        refine wpAnyH_take (i := 1) (v := ?_) rfl (by kernel_rfl) (by kernel_rfl) (by kernel_rfl) (fun _ _ _ h => h) (Or.inl ⟨by rfl, ?_⟩) (by assumption) ?_
        rotate_left; · (intro w hSw; (try dsimp only at hSw); go_simp; try with_reducible rfl)
        try simp only [Act.put, List.getElem_toArray, List.getElem_cons_zero, List.getElem_cons_succ, List.setIfInBounds_toArray, List.set_cons_zero, List.set_cons_succ]
        refine wpAnyH_take (i := 2) (v := ?_) rfl (by kernel_rfl) (by kernel_rfl) (by kernel_rfl) (fun _ _ _ h => h) (Or.inl ⟨by rfl, ?_⟩) (by assumption) ?_
        rotate_left; · (intro w hSw; (try dsimp only at hSw); go_simp; try with_reducible rfl)
        try simp only [Act.put, List.getElem_toArray, List.getElem_cons_zero, List.getElem_cons_succ, List.setIfInBounds_toArray, List.set_cons_zero, List.set_cons_succ]
        refine wpAnyH_take (i := 3) (v := ?_) rfl (by kernel_rfl) (by kernel_rfl) (by kernel_rfl) (fun _ _ _ h => h) (Or.inl ⟨by rfl, ?_⟩) (by assumption) ?_
        rotate_left; · (intro w hSw; (try dsimp only at hSw); go_simp; try with_reducible rfl)
        try simp only [Act.put, List.getElem_toArray, List.getElem_cons_zero, List.getElem_cons_succ, List.setIfInBounds_toArray, List.set_cons_zero, List.set_cons_succ]
        refine wpAnyH_take (i := 4) (v := ?_) rfl (by kernel_rfl) (by kernel_rfl) (by kernel_rfl) (fun _ _ _ h => h) (Or.inl ⟨by rfl, ?_⟩) (by assumption) ?_
        rotate_left; · (intro w hSw; (try dsimp only at hSw); go_simp; try with_reducible rfl)
        try simp only [Act.put, List.getElem_toArray, List.getElem_cons_zero, List.getElem_cons_succ, List.setIfInBounds_toArray, List.set_cons_zero, List.set_cons_succ]
        clear hone
        refine wpAnyH_ready (rs := [5]) (by kernel_rfl) (by simp) ?_
        refine AllReadyH.cons rfl (fun K hK => ?_) AllReadyH.nil
        go_simp
        refine hK.out _ _ ⟨far7 _ _ _ _ _ _ _ hne y0, far7 _ _ _ _ _ _ _ hne y1, far7 _ _ _ _ _ _ _ hne y2, far7 _ _ _ _ _ _ _ hne y3, far7 _ _ _ _ _ _ _ hne y4, far7 _ _ _ _ _ _ _ hne y5, far7 _ _ _ _ _ _ _ hne y6⟩ (fun hNew => ?_)
        clear hK K hHeld
        have hHeld := hNew
        clear hNew
        try simp only [Act.put, List.getElem_toArray, List.getElem_cons_zero, List.getElem_cons_succ, List.setIfInBounds_toArray, List.set_cons_zero, List.set_cons_succ]
        refine wpAnyH_take (i := 6) (v := ?_) rfl (by kernel_rfl) (by kernel_rfl) (by kernel_rfl) (fun _ _ _ h => h) (Or.inl ⟨by rfl, ?_⟩) (by assumption) ?_
        rotate_left; · (intro w hSw; (try dsimp only at hSw); go_simp; try with_reducible rfl)
        try simp only [Act.put, List.getElem_toArray, List.getElem_cons_zero, List.getElem_cons_succ, List.setIfInBounds_toArray, List.set_cons_zero, List.set_cons_succ]
        refine wpAnyH_done (by kernel_rfl) ?_ _
        clear hHeld HSB y0 y1 y2 y3 y4 y5 y6 z0 z1 z2 z3 z4 z5 z6 f0 f1 f2 f3 f4 f5 f6
        have n6 := seven_set HND.out (.string tst) (.int .i64 tix) (.int .i64 tsz) (.int .i64 tsp) (.int .i64 tnum) (.int .i64 tden) (.int .i64 tday)
        have hb6 := seven_below HBD.out hRN (.string tst) (.int .i64 tix) (.int .i64 tsz) (.int .i64 tsp) (.int .i64 tnum) (.int .i64 tden) (.int .i64 tday)
        have oi6 := Own.same OID.out (w' := (((((((Wd.setCell ⟨N, 0, none⟩ (.string tst)).setCell ⟨N, 1, none⟩ (.int .i64 tix)).setCell ⟨N, 2, none⟩ (.int .i64 tsz)).setCell ⟨N, 3, none⟩ (.int .i64 tsp)).setCell ⟨N, 4, none⟩ (.int .i64 tnum)).setCell ⟨N, 5, none⟩ (.int .i64 tden)).setCell ⟨N, 6, none⟩ (.int .i64 tday))) (fun g hg => seven_other _ _ _ _ _ _ _ _ (fun e => hNE1 (by rw [hg, e])))
        have ot6 := Own.same OTD.out (w' := (((((((Wd.setCell ⟨N, 0, none⟩ (.string tst)).setCell ⟨N, 1, none⟩ (.int .i64 tix)).setCell ⟨N, 2, none⟩ (.int .i64 tsz)).setCell ⟨N, 3, none⟩ (.int .i64 tsp)).setCell ⟨N, 4, none⟩ (.int .i64 tnum)).setCell ⟨N, 5, none⟩ (.int .i64 tden)).setCell ⟨N, 6, none⟩ (.int .i64 tday))) (fun g hg => seven_other _ _ _ _ _ _ _ _ (fun e => HNE.out (by rw [hg, e])))
        obtain ⟨w6, hw6⟩ : ∃ w6, w6 = (((((((Wd.setCell ⟨N, 0, none⟩ (.string tst)).setCell ⟨N, 1, none⟩ (.int .i64 tix)).setCell ⟨N, 2, none⟩ (.int .i64 tsz)).setCell ⟨N, 3, none⟩ (.int .i64 tsp)).setCell ⟨N, 4, none⟩ (.int .i64 tnum)).setCell ⟨N, 5, none⟩ (.int .i64 tden)).setCell ⟨N, 6, none⟩ (.int .i64 tday)) := ⟨_, rfl⟩
        rw [← hw6] at n6 hb6 oi6 ot6 ⊢
        clear hw6 OID OTD HBD HND
        have hz6 : R ≤ w6.heap.size := by have := hb6.size; have := HZO.out; omega
        have oi6 : OwnI w6 R (.slice a9 l9 c9) (done.map (·.1)) := oi6
        have ot6 : OwnT 32 w6 R (.slice a8 l8 c8) (done.map (·.2)) := ot6
        have N6 := Lib.hid n6
        have HB6 := Lib.hid hb6
        have OI6 := Lib.hid oi6
        have OT6 := Lib.hid ot6
        clear n6 hb6 oi6 ot6
        have d2 := cell_of_row w6 _ 2 _ _ _ N6.out
        by_cases hle : tsz ≤ left
        · have q1 : decide (tsz ≤ left) = true := decide_eq_true hle
          have hw2 : IntKind.i64.wrap (left - tsz) = left - tsz := by have := HBUD.out; have := HTS.out; rw [IntKind.wrap_i64]; omega
          have hts0 := HTS.out
          have HDN := Lib.hid (show D = (done ++ [(1, ⟨tst, tix, tsz, tsp, tnum, tden, tday⟩)]) ++ takP (mrgP xs ys1) (left - tsz) by have := HDR.out; rw [HM.out, takP, if_pos hle] at this; rw [this, List.append_assoc]; rfl)
          go_upto_region 15 with fail
          have hnW : w6.drew.heap[N]? = some (.cells #[.string tst, .int .i64 tix, .int .i64 tsz, .int .i64 tsp, .int .i64 tnum, .int .i64 tden, .int .i64 tday] 32) := N6.out
          have hbW : Below R wO w6.drew := HB6.out.drew
          have hoW : OwnI w6.drew R (.slice a9 l9 c9) (done.map (·.1)) := OI6.out.below (Below.refl _ w6).drew
          have htW : OwnT 32 w6.drew R (.slice a8 l8 c8) (done.map (·.2)) := OT6.out.below (Below.refl _ w6).drew
          have hzW : R ≤ w6.drew.heap.size := hz6
          refine wp_region_held_drew (S := fun w' => w'.cell? ⟨N, 0, none⟩ = some (.string tst) ∧ w'.cell? ⟨N, 1, none⟩ = some (.int .i64 tix) ∧ w'.cell? ⟨N, 2, none⟩ = some (.int .i64 tsz) ∧ w'.cell? ⟨N, 3, none⟩ = some (.int .i64 tsp) ∧ w'.cell? ⟨N, 4, none⟩ = some (.int .i64 tnum) ∧ w'.cell? ⟨N, 5, none⟩ = some (.int .i64 tden) ∧ w'.cell? ⟨N, 6, none⟩ = some (.int .i64 tday)) (by kernel_rfl) ⟨cell_of_row _ _ 0 _ _ _ hnW, cell_of_row _ _ 1 _ _ _ hnW, cell_of_row _ _ 2 _ _ _ hnW, cell_of_row _ _ 3 _ _ _ hnW, cell_of_row _ _ 4 _ _ _ hnW, cell_of_row _ _ 5 _ _ _ hnW, cell_of_row _ _ 6 _ _ _ hnW⟩ (fun hHeld => ?_)
          clear d2
          generalize w6.drew = Wd at *
          have nWd := hnW
          have hbWd := hbW
          have oiWd := hoW
          have otWd := htW
          have hzWd := hzW
          clear hnW hbW hoW htW hzW N6 HB6 OI6 OT6 HTS
          refine wpAnyH_take (i := 0) (v := ?_) rfl (by kernel_rfl) (by kernel_rfl) (by kernel_rfl) (fun _ _ _ h => h) (Or.inl ⟨by rfl, ?_⟩) (by assumption) ?_
          rotate_left; · (intro w hSw; (try dsimp only at hSw); go_simp; try with_reducible rfl)
          try simp only [Act.put, List.getElem_toArray, List.getElem_cons_zero, List.getElem_cons_succ, List.setIfInBounds_toArray, List.set_cons_zero, List.set_cons_succ]
          refine wpAnyH_take (i := 1) (v := ?_) rfl (by kernel_rfl) (by kernel_rfl) (by kernel_rfl) (fun _ _ _ h => h) (Or.inl ⟨by rfl, ?_⟩) (by assumption) ?_
          rotate_left; · (intro w hSw; (try dsimp only at hSw); go_simp; try with_reducible rfl)
          try simp only [Act.put, List.getElem_toArray, List.getElem_cons_zero, List.getElem_cons_succ, List.setIfInBounds_toArray, List.set_cons_zero, List.set_cons_succ]
          refine wpAnyH_take (i := 4) (v := ?_) rfl (by kernel_rfl) (by kernel_rfl) (by kernel_rfl) (fun _ _ _ h => h) (Or.inl ⟨by rfl, ?_⟩) (by assumption) ?_
          rotate_left; · (intro w hSw; (try dsimp only at hSw); go_simp; try with_reducible rfl)
          try simp only [Act.put, List.getElem_toArray, List.getElem_cons_zero, List.getElem_cons_succ, List.setIfInBounds_toArray, List.set_cons_zero, List.set_cons_succ]
          refine wpAnyH_take (i := 5) (v := ?_) rfl (by kernel_rfl) (by kernel_rfl) (by kernel_rfl) (fun _ _ _ h => h) (Or.inl ⟨by rfl, ?_⟩) (by assumption) ?_
          rotate_left; · (intro w hSw; (try dsimp only at hSw); go_simp; try with_reducible rfl)
          try simp only [Act.put, List.getElem_toArray, List.getElem_cons_zero, List.getElem_cons_succ, List.setIfInBounds_toArray, List.set_cons_zero, List.set_cons_succ]
          refine wpAnyH_ready (rs := [2, 6]) (by kernel_rfl) (by simp) ?_
          refine AllReadyH.cons rfl (fun K hK => ?_) (AllReadyH.cons rfl (fun K hK => ?_) AllReadyH.nil)
          · skip
            go_simp
            have hs := sb0 (w := Wd) (.cells #[.int .i64 1] 3)
            have kA := heap_alloc_new Wd (.cells #[.int .i64 1] 3)
            have hzW2 : R ≤ (Wd.alloc (.cells #[.int .i64 1] 3)).heap.size := by rw [World.size_alloc]; omega
            obtain ⟨gA, hgA⟩ : ∃ g, g = Wd.heap.size := ⟨_, rfl⟩
            rw [← hgA] at kA
            try rw [← hgA]
            have nW2 := bb hs nWd
            have oiW2 := OwnI.below oiWd hs
            have otW2 := OwnT.below otWd hs
            have hbW2 := hbWd.trans (hs.mono hzWd)
            clear hgA hs
            generalize Wd.alloc (.cells #[.int .i64 1] 3) = W2 at *
            refine hK.out _ _ ⟨cell_of_row W2 _ 0 _ _ _ nW2, cell_of_row W2 _ 1 _ _ _ nW2, cell_of_row W2 _ 2 _ _ _ nW2, cell_of_row W2 _ 3 _ _ _ nW2, cell_of_row W2 _ 4 _ _ _ nW2, cell_of_row W2 _ 5 _ _ _ nW2, cell_of_row W2 _ 6 _ _ _ nW2⟩ (fun hNew => ?_)
            clear hK K hNew
            (try clear hHeld)
            have hHeld : _ ∧ _ ∧ _ ∧ _ ∧ _ ∧ _ ∧ _ := ⟨cell_of_row W2 _ 0 _ _ _ nW2, cell_of_row W2 _ 1 _ _ _ nW2, cell_of_row W2 _ 2 _ _ _ nW2, cell_of_row W2 _ 3 _ _ _ nW2, cell_of_row W2 _ 4 _ _ _ nW2, cell_of_row W2 _ 5 _ _ _ nW2, cell_of_row W2 _ 6 _ _ _ nW2⟩
            try simp only [Act.put, List.getElem_toArray, List.getElem_cons_zero, List.getElem_cons_succ, List.setIfInBounds_toArray, List.set_cons_zero, List.set_cons_succ]
            refine wpAnyH_ready (rs := [3, 6]) (by kernel_rfl) (by simp) ?_
            refine AllReadyH.cons rfl (fun K hK => ?_) (AllReadyH.cons rfl (fun K hK => ?_) AllReadyH.nil)
            · skip
              obtain ⟨v3, W23, r3, oiW23, b3, k3⟩ := oiW2.appendR (reads_int1 kA) (by rw [List.length_map]; omega) (by simp) hzW2
              have otW23 := Own.same otW2 (w' := W23) (fun g hg => k3 g (Own.lt otW2 g hg).2 (own_apart' otW2 oiW2 (by decide) g hg))
              have otW23 : OwnT 32 W23 R (.slice a8 l8 c8) (done.map (·.2)) := otW23
              have nW23 := (k3 N (Array.getElem?_eq_some_iff.1 nW2).1 (own_ne oiW2 nW2 (by decide))).trans nW2
              have hbW23 := hbW2.trans b3
              have hzW23 : R ≤ W23.heap.size := Nat.le_trans hzW2 b3.size
              refine step_append_run (by rfl) (.tmp 84) (.tmp 86) 53 (by rfl) (.slice a9 l9 c9) (.slice (some ⟨gA, 0, none⟩) 1 1) v3 W23 (by rfl) (by rfl) r3 ?_
              clear r3 b3 k3 kA
              refine hK.out _ _ ⟨cell_of_row W23 _ 0 _ _ _ nW23, cell_of_row W23 _ 1 _ _ _ nW23, cell_of_row W23 _ 2 _ _ _ nW23, cell_of_row W23 _ 3 _ _ _ nW23, cell_of_row W23 _ 4 _ _ _ nW23, cell_of_row W23 _ 5 _ _ _ nW23, cell_of_row W23 _ 6 _ _ _ nW23⟩ (fun hNew => ?_)
              clear hK K hNew
              (try clear hHeld)
              have hHeld : _ ∧ _ ∧ _ ∧ _ ∧ _ ∧ _ ∧ _ := ⟨cell_of_row W23 _ 0 _ _ _ nW23, cell_of_row W23 _ 1 _ _ _ nW23, cell_of_row W23 _ 2 _ _ _ nW23, cell_of_row W23 _ 3 _ _ _ nW23, cell_of_row W23 _ 4 _ _ _ nW23, cell_of_row W23 _ 5 _ _ _ nW23, cell_of_row W23 _ 6 _ _ _ nW23⟩
              try simp only [Act.put, List.getElem_toArray, List.getElem_cons_zero, List.getElem_cons_succ, List.setIfInBounds_toArray, List.set_cons_zero, List.set_cons_succ]
              refine wpAnyH_ready (rs := [6]) (by kernel_rfl) (by simp) ?_
              refine AllReadyH.cons rfl (fun K hK => ?_) AllReadyH.nil
              go_simp
              have hs := sb0 (w := W23) (.cells #[.string tst, .int .i64 tix, .int .i64 tsz, .int .i64 tsp, .int .i64 tnum, .int .i64 tden, .int .i64 tday] 32)
              have kB := heap_alloc_new W23 (.cells #[.string tst, .int .i64 tix, .int .i64 tsz, .int .i64 tsp, .int .i64 tnum, .int .i64 tden, .int .i64 tday] 32)
              have hzW236 : R ≤ (W23.alloc (.cells #[.string tst, .int .i64 tix, .int .i64 tsz, .int .i64 tsp, .int .i64 tnum, .int .i64 tden, .int .i64 tday] 32)).heap.size := by rw [World.size_alloc]; omega
              obtain ⟨gB, hgB⟩ : ∃ g, g = W23.heap.size := ⟨_, rfl⟩
              rw [← hgB] at kB
              try rw [← hgB]
              have nW236 := bb hs nW23
              have oiW236 := OwnI.below oiW23 hs
              have otW236 := OwnT.below otW23 hs
              have hbW236 := hbW23.trans (hs.mono hzW23)
              clear hgB hs
              generalize W23.alloc (.cells #[.string tst, .int .i64 tix, .int .i64 tsz, .int .i64 tsp, .int .i64 tnum, .int .i64 tden, .int .i64 tday] 32) = W236 at *
              refine hK.out _ _ ⟨cell_of_row W236 _ 0 _ _ _ nW236, cell_of_row W236 _ 1 _ _ _ nW236, cell_of_row W236 _ 2 _ _ _ nW236, cell_of_row W236 _ 3 _ _ _ nW236, cell_of_row W236 _ 4 _ _ _ nW236, cell_of_row W236 _ 5 _ _ _ nW236, cell_of_row W236 _ 6 _ _ _ nW236⟩ (fun hNew => ?_)
              clear hK K hNew
              (try clear hHeld)
              have hHeld : _ ∧ _ ∧ _ ∧ _ ∧ _ ∧ _ ∧ _ := ⟨cell_of_row W236 _ 0 _ _ _ nW236, cell_of_row W236 _ 1 _ _ _ nW236, cell_of_row W236 _ 2 _ _ _ nW236, cell_of_row W236 _ 3 _ _ _ nW236, cell_of_row W236 _ 4 _ _ _ nW236, cell_of_row W236 _ 5 _ _ _ nW236, cell_of_row W236 _ 6 _ _ _ nW236⟩
              try simp only [Act.put, List.getElem_toArray, List.getElem_cons_zero, List.getElem_cons_succ, List.setIfInBounds_toArray, List.set_cons_zero, List.set_cons_succ]
              refine wpAnyH_ready (rs := [7]) (by kernel_rfl) (by simp) ?_
              refine AllReadyH.cons rfl (fun K hK => ?_) AllReadyH.nil
              obtain ⟨v7, W2367, r7, otW2367, b7, k7⟩ := otW236.appR32 (HRS.out W236 gB kB) (by rw [List.length_map]; omega) (by simp) hzW236
              have oiW2367 := Own.same oiW236 (w' := W2367) (fun g hg => k7 g (Own.lt oiW236 g hg).2 (own_apart' oiW236 otW236 (by decide) g hg))
              have nW2367 := (k7 N (Array.getElem?_eq_some_iff.1 nW236).1 HNE.out).trans nW236
              have hbW2367 := hbW236.trans b7
              have hzW2367 : R ≤ W2367.heap.size := Nat.le_trans hzW236 b7.size
              refine step_append_run (by rfl) (.tmp 88) (.tmp 90) 41 (by rfl) (.slice a8 l8 c8) (.slice (some ⟨gB, 0, none⟩) 1 1) v7 W2367 (by rfl) (by rfl) r7 ?_
              clear r7 b7 k7 kB
              refine hK.out _ _ ⟨cell_of_row W2367 _ 0 _ _ _ nW2367, cell_of_row W2367 _ 1 _ _ _ nW2367, cell_of_row W2367 _ 2 _ _ _ nW2367, cell_of_row W2367 _ 3 _ _ _ nW2367, cell_of_row W2367 _ 4 _ _ _ nW2367, cell_of_row W2367 _ 5 _ _ _ nW2367, cell_of_row W2367 _ 6 _ _ _ nW2367⟩ (fun hNew => ?_)
              clear hK K hNew
              (try clear hHeld)
              have hHeld : _ ∧ _ ∧ _ ∧ _ ∧ _ ∧ _ ∧ _ := ⟨cell_of_row W2367 _ 0 _ _ _ nW2367, cell_of_row W2367 _ 1 _ _ _ nW2367, cell_of_row W2367 _ 2 _ _ _ nW2367, cell_of_row W2367 _ 3 _ _ _ nW2367, cell_of_row W2367 _ 4 _ _ _ nW2367, cell_of_row W2367 _ 5 _ _ _ nW2367, cell_of_row W2367 _ 6 _ _ _ nW2367⟩
              try simp only [Act.put, List.getElem_toArray, List.getElem_cons_zero, List.getElem_cons_succ, List.setIfInBounds_toArray, List.set_cons_zero, List.set_cons_succ]
              have HN9 := Lib.hid nW2367
              have HB9 := Lib.hid hbW2367
              have OI9 := Lib.hid (show OwnI W2367 R v3 (done.map (·.1) ++ [1]) from oiW2367)
              have OT9 := Lib.hid otW2367
              have e2 := cell_of_row W2367 _ 2 _ _ _ nW2367
              obtain ⟨a5, l5, c5, rfl⟩ := Own.slice OI9.out
              obtain ⟨a6, l6, c6, rfl⟩ := Own.slice OT9.out
              clear hbW2367 oiW2367 otW2367 nW2367
              refine wpAnyH_take (i := 8) (v := ?_) rfl (by kernel_rfl) (by kernel_rfl) (by kernel_rfl) (fun _ _ _ h => h) (Or.inl ⟨by rfl, ?_⟩) (by assumption) ?_
              rotate_left; · (intro w hSw; (try dsimp only at hSw); go_simp; try with_reducible rfl)
              try simp only [Act.put, List.getElem_toArray, List.getElem_cons_zero, List.getElem_cons_succ, List.setIfInBounds_toArray, List.set_cons_zero, List.set_cons_succ]
              refine wpAnyH_take (i := 9) (v := ?_) rfl (by kernel_rfl) (by kernel_rfl) (by kernel_rfl) (fun _ _ _ h => h) (Or.inl ⟨by rfl, ?_⟩) (by assumption) ?_
              rotate_left; · (intro w hSw; (try dsimp only at hSw); go_simp; try with_reducible rfl)
              try simp only [Act.put, List.getElem_toArray, List.getElem_cons_zero, List.getElem_cons_succ, List.setIfInBounds_toArray, List.set_cons_zero, List.set_cons_succ]
              refine wpAnyH_done (by kernel_rfl) ?_ _
              clear hHeld
              go_wp2
              go_roundw
              case rel => exact ⟨xs, ys1, left - tsz, done ++ [(1, ⟨tst, tix, tsz, tsp, tnum, tden, tday⟩)], rfl, ⟨by omega, by omega⟩, HDN.out, by have := HLEN.out; simp at this ⊢; omega, HKX.out, HKT.out, HRX.out, HRD.out, HB9.out, by rw [List.map_append]; exact OI9.out, by rw [List.map_append]; exact OT9.out⟩
              case measure => simp [lenV]; try omega
            · skip
              go_simp
              have hs := sb0 (w := W2) (.cells #[.string tst, .int .i64 tix, .int .i64 tsz, .int .i64 tsp, .int .i64 tnum, .int .i64 tden, .int .i64 tday] 32)
              have kB := heap_alloc_new W2 (.cells #[.string tst, .int .i64 tix, .int .i64 tsz, .int .i64 tsp, .int .i64 tnum, .int .i64 tden, .int .i64 tday] 32)
              have hzW26 : R ≤ (W2.alloc (.cells #[.string tst, .int .i64 tix, .int .i64 tsz, .int .i64 tsp, .int .i64 tnum, .int .i64 tden, .int .i64 tday] 32)).heap.size := by rw [World.size_alloc]; omega
              obtain ⟨gB, hgB⟩ : ∃ g, g = W2.heap.size := ⟨_, rfl⟩
              rw [← hgB] at kB
              try rw [← hgB]
              have kA := bb hs kA
              have nW26 := bb hs nW2
              have oiW26 := OwnI.below oiW2 hs
              have otW26 := OwnT.below otW2 hs
              have hbW26 := hbW2.trans (hs.mono hzW2)
              clear hgB hs
              generalize W2.alloc (.cells #[.string tst, .int .i64 tix, .int .i64 tsz, .int .i64 tsp, .int .i64 tnum, .int .i64 tden, .int .i64 tday] 32) = W26 at *
              refine hK.out _ _ ⟨cell_of_row W26 _ 0 _ _ _ nW26, cell_of_row W26 _ 1 _ _ _ nW26, cell_of_row W26 _ 2 _ _ _ nW26, cell_of_row W26 _ 3 _ _ _ nW26, cell_of_row W26 _ 4 _ _ _ nW26, cell_of_row W26 _ 5 _ _ _ nW26, cell_of_row W26 _ 6 _ _ _ nW26⟩ (fun hNew => ?_)
              clear hK K hNew
              (try clear hHeld)
              have hHeld : _ ∧ _ ∧ _ ∧ _ ∧ _ ∧ _ ∧ _ := ⟨cell_of_row W26 _ 0 _ _ _ nW26, cell_of_row W26 _ 1 _ _ _ nW26, cell_of_row W26 _ 2 _ _ _ nW26, cell_of_row W26 _ 3 _ _ _ nW26, cell_of_row W26 _ 4 _ _ _ nW26, cell_of_row W26 _ 5 _ _ _ nW26, cell_of_row W26 _ 6 _ _ _ nW26⟩
              try simp only [Act.put, List.getElem_toArray, List.getElem_cons_zero, List.getElem_cons_succ, List.setIfInBounds_toArray, List.set_cons_zero, List.set_cons_succ]
              refine wpAnyH_ready (rs := [3]) (by kernel_rfl) (by simp) ?_
              refine AllReadyH.cons rfl (fun K hK => ?_) AllReadyH.nil
              obtain ⟨v3, W263, r3, oiW263, b3, k3⟩ := oiW26.appendR (reads_int1 kA) (by rw [List.length_map]; omega) (by simp) hzW26
              have otW263 := Own.same otW26 (w' := W263) (fun g hg => k3 g (Own.lt otW26 g hg).2 (own_apart' otW26 oiW26 (by decide) g hg))
              have otW263 : OwnT 32 W263 R (.slice a8 l8 c8) (done.map (·.2)) := otW263
              have nW263 := (k3 N (Array.getElem?_eq_some_iff.1 nW26).1 (own_ne oiW26 nW26 (by decide))).trans nW26
              have kB := (k3 gB (Array.getElem?_eq_some_iff.1 kB).1 (own_ne oiW26 kB (by decide))).trans kB
              have hbW263 := hbW26.trans b3
              have hzW263 : R ≤ W263.heap.size := Nat.le_trans hzW26 b3.size
              refine step_append_run (by rfl) (.tmp 84) (.tmp 86) 53 (by rfl) (.slice a9 l9 c9) (.slice (some ⟨gA, 0, none⟩) 1 1) v3 W263 (by rfl) (by rfl) r3 ?_
              clear r3 b3 k3 kA
              refine hK.out _ _ ⟨cell_of_row W263 _ 0 _ _ _ nW263, cell_of_row W263 _ 1 _ _ _ nW263, cell_of_row W263 _ 2 _ _ _ nW263, cell_of_row W263 _ 3 _ _ _ nW263, cell_of_row W263 _ 4 _ _ _ nW263, cell_of_row W263 _ 5 _ _ _ nW263, cell_of_row W263 _ 6 _ _ _ nW263⟩ (fun hNew => ?_)
              clear hK K hNew
              (try clear hHeld)
              have hHeld : _ ∧ _ ∧ _ ∧ _ ∧ _ ∧ _ ∧ _ := ⟨cell_of_row W263 _ 0 _ _ _ nW263, cell_of_row W263 _ 1 _ _ _ nW263, cell_of_row W263 _ 2 _ _ _ nW263, cell_of_row W263 _ 3 _ _ _ nW263, cell_of_row W263 _ 4 _ _ _ nW263, cell_of_row W263 _ 5 _ _ _ nW263, cell_of_row W263 _ 6 _ _ _ nW263⟩
              try simp only [Act.put, List.getElem_toArray, List.getElem_cons_zero, List.getElem_cons_succ, List.setIfInBounds_toArray, List.set_cons_zero, List.set_cons_succ]
              refine wpAnyH_ready (rs := [7]) (by kernel_rfl) (by simp) ?_
              refine AllReadyH.cons rfl (fun K hK => ?_) AllReadyH.nil
              obtain ⟨v7, W2637, r7, otW2637, b7, k7⟩ := otW263.appR32 (HRS.out W263 gB kB) (by rw [List.length_map]; omega) (by simp) hzW263
              have oiW2637 := Own.same oiW263 (w' := W2637) (fun g hg => k7 g (Own.lt oiW263 g hg).2 (own_apart' oiW263 otW263 (by decide) g hg))
              have nW2637 := (k7 N (Array.getElem?_eq_some_iff.1 nW263).1 HNE.out).trans nW263
              have hbW2637 := hbW263.trans b7
              have hzW2637 : R ≤ W2637.heap.size := Nat.le_trans hzW263 b7.size
              refine step_append_run (by rfl) (.tmp 88) (.tmp 90) 41 (by rfl) (.slice a8 l8 c8) (.slice (some ⟨gB, 0, none⟩) 1 1) v7 W2637 (by rfl) (by rfl) r7 ?_
              clear r7 b7 k7 kB
              refine hK.out _ _ ⟨cell_of_row W2637 _ 0 _ _ _ nW2637, cell_of_row W2637 _ 1 _ _ _ nW2637, cell_of_row W2637 _ 2 _ _ _ nW2637, cell_of_row W2637 _ 3 _ _ _ nW2637, cell_of_row W2637 _ 4 _ _ _ nW2637, cell_of_row W2637 _ 5 _ _ _ nW2637, cell_of_row W2637 _ 6 _ _ _ nW2637⟩ (fun hNew => ?_)
              clear hK K hNew
              (try clear hHeld)
              have hHeld : _ ∧ _ ∧ _ ∧ _ ∧ _ ∧ _ ∧ _ := ⟨cell_of_row W2637 _ 0 _ _ _ nW2637, cell_of_row W2637 _ 1 _ _ _ nW2637, cell_of_row W2637 _ 2 _ _ _ nW2637, cell_of_row W2637 _ 3 _ _ _ nW2637, cell_of_row W2637 _ 4 _ _ _ nW2637, cell_of_row W2637 _ 5 _ _ _ nW2637, cell_of_row W2637 _ 6 _ _ _ nW2637⟩
              try simp only [Act.put, List.getElem_toArray, List.getElem_cons_zero, List.getElem_cons_succ, List.setIfInBounds_toArray, List.set_cons_zero, List.set_cons_succ]
              have HN9 := Lib.hid nW2637
              have HB9 := Lib.hid hbW2637
              have OI9 := Lib.hid (show OwnI W2637 R v3 (done.map (·.1) ++ [1]) from oiW2637)
              have OT9 := Lib.hid otW2637
              have e2 := cell_of_row W2637 _ 2 _ _ _ nW2637
              obtain ⟨a5, l5, c5, rfl⟩ := Own.slice OI9.out
              obtain ⟨a6, l6, c6, rfl⟩ := Own.slice OT9.out
              clear hbW2637 oiW2637 otW2637 nW2637
              refine wpAnyH_take (i := 8) (v := ?_) rfl (by kernel_rfl) (by kernel_rfl) (by kernel_rfl) (fun _ _ _ h => h) (Or.inl ⟨by rfl, ?_⟩) (by assumption) ?_
              rotate_left; · (intro w hSw; (try dsimp only at hSw); go_simp; try with_reducible rfl)
              try simp only [Act.put, List.getElem_toArray, List.getElem_cons_zero, List.getElem_cons_succ, List.setIfInBounds_toArray, List.set_cons_zero, List.set_cons_succ]
              refine wpAnyH_take (i := 9) (v := ?_) rfl (by kernel_rfl) (by kernel_rfl) (by kernel_rfl) (fun _ _ _ h => h) (Or.inl ⟨by rfl, ?_⟩) (by assumption) ?_
              rotate_left; · (intro w hSw; (try dsimp only at hSw); go_simp; try with_reducible rfl)
              try simp only [Act.put, List.getElem_toArray, List.getElem_cons_zero, List.getElem_cons_succ, List.setIfInBounds_toArray, List.set_cons_zero, List.set_cons_succ]
              refine wpAnyH_done (by kernel_rfl) ?_ _
              clear hHeld
              go_wp2
              go_roundw
              case rel => exact ⟨xs, ys1, left - tsz, done ++ [(1, ⟨tst, tix, tsz, tsp, tnum, tden, tday⟩)], rfl, ⟨by omega, by omega⟩, HDN.out, by have := HLEN.out; simp at this ⊢; omega, HKX.out, HKT.out, HRX.out, HRD.out, HB9.out, by rw [List.map_append]; exact OI9.out, by rw [List.map_append]; exact OT9.out⟩
              case measure => simp [lenV]; try omega
          · skip
            go_simp
            have hs := sb0 (w := Wd) (.cells #[.string tst, .int .i64 tix, .int .i64 tsz, .int .i64 tsp, .int .i64 tnum, .int .i64 tden, .int .i64 tday] 32)
            have kB := heap_alloc_new Wd (.cells #[.string tst, .int .i64 tix, .int .i64 tsz, .int .i64 tsp, .int .i64 tnum, .int .i64 tden, .int .i64 tday] 32)
            have hzW6 : R ≤ (Wd.alloc (.cells #[.string tst, .int .i64 tix, .int .i64 tsz, .int .i64 tsp, .int .i64 tnum, .int .i64 tden, .int .i64 tday] 32)).heap.size := by rw [World.size_alloc]; omega
            obtain ⟨gB, hgB⟩ : ∃ g, g = Wd.heap.size := ⟨_, rfl⟩
            rw [← hgB] at kB
            try rw [← hgB]
            have nW6 := bb hs nWd
            have oiW6 := OwnI.below oiWd hs
            have otW6 := OwnT.below otWd hs
            have hbW6 := hbWd.trans (hs.mono hzWd)
            clear hgB hs
            generalize Wd.alloc (.cells #[.string tst, .int .i64 tix, .int .i64 tsz, .int .i64 tsp, .int .i64 tnum, .int .i64 tden, .int .i64 tday] 32) = W6 at *
            refine hK.out _ _ ⟨cell_of_row W6 _ 0 _ _ _ nW6, cell_of_row W6 _ 1 _ _ _ nW6, cell_of_row W6 _ 2 _ _ _ nW6, cell_of_row W6 _ 3 _ _ _ nW6, cell_of_row W6 _ 4 _ _ _ nW6, cell_of_row W6 _ 5 _ _ _ nW6, cell_of_row W6 _ 6 _ _ _ nW6⟩ (fun hNew => ?_)
            clear hK K hNew
            (try clear hHeld)
            have hHeld : _ ∧ _ ∧ _ ∧ _ ∧ _ ∧ _ ∧ _ := ⟨cell_of_row W6 _ 0 _ _ _ nW6, cell_of_row W6 _ 1 _ _ _ nW6, cell_of_row W6 _ 2 _ _ _ nW6, cell_of_row W6 _ 3 _ _ _ nW6, cell_of_row W6 _ 4 _ _ _ nW6, cell_of_row W6 _ 5 _ _ _ nW6, cell_of_row W6 _ 6 _ _ _ nW6⟩
            try simp only [Act.put, List.getElem_toArray, List.getElem_cons_zero, List.getElem_cons_succ, List.setIfInBounds_toArray, List.set_cons_zero, List.set_cons_succ]
            refine wpAnyH_ready (rs := [2]) (by kernel_rfl) (by simp) ?_
            refine AllReadyH.cons rfl (fun K hK => ?_) AllReadyH.nil
            go_simp
            have hs := sb0 (w := W6) (.cells #[.int .i64 1] 3)
            have kA := heap_alloc_new W6 (.cells #[.int .i64 1] 3)
            have hzW62 : R ≤ (W6.alloc (.cells #[.int .i64 1] 3)).heap.size := by rw [World.size_alloc]; omega
            obtain ⟨gA, hgA⟩ : ∃ g, g = W6.heap.size := ⟨_, rfl⟩
            rw [← hgA] at kA
            try rw [← hgA]
            have kB := bb hs kB
            have nW62 := bb hs nW6
            have oiW62 := OwnI.below oiW6 hs
            have otW62 := OwnT.below otW6 hs
            have hbW62 := hbW6.trans (hs.mono hzW6)
            clear hgA hs
            generalize W6.alloc (.cells #[.int .i64 1] 3) = W62 at *
            refine hK.out _ _ ⟨cell_of_row W62 _ 0 _ _ _ nW62, cell_of_row W62 _ 1 _ _ _ nW62, cell_of_row W62 _ 2 _ _ _ nW62, cell_of_row W62 _ 3 _ _ _ nW62, cell_of_row W62 _ 4 _ _ _ nW62, cell_of_row W62 _ 5 _ _ _ nW62, cell_of_row W62 _ 6 _ _ _ nW62⟩ (fun hNew => ?_)
            clear hK K hNew
            (try clear hHeld)
            have hHeld : _ ∧ _ ∧ _ ∧ _ ∧ _ ∧ _ ∧ _ := ⟨cell_of_row W62 _ 0 _ _ _ nW62, cell_of_row W62 _ 1 _ _ _ nW62, cell_of_row W62 _ 2 _ _ _ nW62, cell_of_row W62 _ 3 _ _ _ nW62, cell_of_row W62 _ 4 _ _ _ nW62, cell_of_row W62 _ 5 _ _ _ nW62, cell_of_row W62 _ 6 _ _ _ nW62⟩
            try simp only [Act.put, List.getElem_toArray, List.getElem_cons_zero, List.getElem_cons_succ, List.setIfInBounds_toArray, List.set_cons_zero, List.set_cons_succ]
            refine wpAnyH_ready (rs := [3]) (by kernel_rfl) (by simp) ?_
            refine AllReadyH.cons rfl (fun K hK => ?_) AllReadyH.nil
            obtain ⟨v3, W623, r3, oiW623, b3, k3⟩ := oiW62.appendR (reads_int1 kA) (by rw [List.length_map]; omega) (by simp) hzW62
            have otW623 := Own.same otW62 (w' := W623) (fun g hg => k3 g (Own.lt otW62 g hg).2 (own_apart' otW62 oiW62 (by decide) g hg))
            have otW623 : OwnT 32 W623 R (.slice a8 l8 c8) (done.map (·.2)) := otW623
            have nW623 := (k3 N (Array.getElem?_eq_some_iff.1 nW62).1 (own_ne oiW62 nW62 (by decide))).trans nW62
            have kB := (k3 gB (Array.getElem?_eq_some_iff.1 kB).1 (own_ne oiW62 kB (by decide))).trans kB
            have hbW623 := hbW62.trans b3
            have hzW623 : R ≤ W623.heap.size := Nat.le_trans hzW62 b3.size
            refine step_append_run (by rfl) (.tmp 84) (.tmp 86) 53 (by rfl) (.slice a9 l9 c9) (.slice (some ⟨gA, 0, none⟩) 1 1) v3 W623 (by rfl) (by rfl) r3 ?_
            clear r3 b3 k3 kA
            refine hK.out _ _ ⟨cell_of_row W623 _ 0 _ _ _ nW623, cell_of_row W623 _ 1 _ _ _ nW623, cell_of_row W623 _ 2 _ _ _ nW623, cell_of_row W623 _ 3 _ _ _ nW623, cell_of_row W623 _ 4 _ _ _ nW623, cell_of_row W623 _ 5 _ _ _ nW623, cell_of_row W623 _ 6 _ _ _ nW623⟩ (fun hNew => ?_)
            clear hK K hNew
            (try clear hHeld)
            have hHeld : _ ∧ _ ∧ _ ∧ _ ∧ _ ∧ _ ∧ _ := ⟨cell_of_row W623 _ 0 _ _ _ nW623, cell_of_row W623 _ 1 _ _ _ nW623, cell_of_row W623 _ 2 _ _ _ nW623, cell_of_row W623 _ 3 _ _ _ nW623, cell_of_row W623 _ 4 _ _ _ nW623, cell_of_row W623 _ 5 _ _ _ nW623, cell_of_row W623 _ 6 _ _ _ nW623⟩
            try simp only [Act.put, List.getElem_toArray, List.getElem_cons_zero, List.getElem_cons_succ, List.setIfInBounds_toArray, List.set_cons_zero, List.set_cons_succ]
            refine wpAnyH_ready (rs := [7]) (by kernel_rfl) (by simp) ?_
            refine AllReadyH.cons rfl (fun K hK => ?_) AllReadyH.nil
            obtain ⟨v7, W6237, r7, otW6237, b7, k7⟩ := otW623.appR32 (HRS.out W623 gB kB) (by rw [List.length_map]; omega) (by simp) hzW623
            have oiW6237 := Own.same oiW623 (w' := W6237) (fun g hg => k7 g (Own.lt oiW623 g hg).2 (own_apart' oiW623 otW623 (by decide) g hg))
            have nW6237 := (k7 N (Array.getElem?_eq_some_iff.1 nW623).1 HNE.out).trans nW623
            have hbW6237 := hbW623.trans b7
            have hzW6237 : R ≤ W6237.heap.size := Nat.le_trans hzW623 b7.size
            refine step_append_run (by rfl) (.tmp 88) (.tmp 90) 41 (by rfl) (.slice a8 l8 c8) (.slice (some ⟨gB, 0, none⟩) 1 1) v7 W6237 (by rfl) (by rfl) r7 ?_
            clear r7 b7 k7 kB
            refine hK.out _ _ ⟨cell_of_row W6237 _ 0 _ _ _ nW6237, cell_of_row W6237 _ 1 _ _ _ nW6237, cell_of_row W6237 _ 2 _ _ _ nW6237, cell_of_row W6237 _ 3 _ _ _ nW6237, cell_of_row W6237 _ 4 _ _ _ nW6237, cell_of_row W6237 _ 5 _ _ _ nW6237, cell_of_row W6237 _ 6 _ _ _ nW6237⟩ (fun hNew => ?_)
            clear hK K hNew
            (try clear hHeld)
            have hHeld : _ ∧ _ ∧ _ ∧ _ ∧ _ ∧ _ ∧ _ := ⟨cell_of_row W6237 _ 0 _ _ _ nW6237, cell_of_row W6237 _ 1 _ _ _ nW6237, cell_of_row W6237 _ 2 _ _ _ nW6237, cell_of_row W6237 _ 3 _ _ _ nW6237, cell_of_row W6237 _ 4 _ _ _ nW6237, cell_of_row W6237 _ 5 _ _ _ nW6237, cell_of_row W6237 _ 6 _ _ _ nW6237⟩
            try simp only [Act.put, List.getElem_toArray, List.getElem_cons_zero, List.getElem_cons_succ, List.setIfInBounds_toArray, List.set_cons_zero, List.set_cons_succ]
            have HN9 := Lib.hid nW6237
            have HB9 := Lib.hid hbW6237
            have OI9 := Lib.hid (show OwnI W6237 R v3 (done.map (·.1) ++ [1]) from oiW6237)
            have OT9 := Lib.hid otW6237
            have e2 := cell_of_row W6237 _ 2 _ _ _ nW6237
            obtain ⟨a5, l5, c5, rfl⟩ := Own.slice OI9.out
            obtain ⟨a6, l6, c6, rfl⟩ := Own.slice OT9.out
            clear hbW6237 oiW6237 otW6237 nW6237
            refine wpAnyH_take (i := 8) (v := ?_) rfl (by kernel_rfl) (by kernel_rfl) (by kernel_rfl) (fun _ _ _ h => h) (Or.inl ⟨by rfl, ?_⟩) (by assumption) ?_
            rotate_left; · (intro w hSw; (try dsimp only at hSw); go_simp; try with_reducible rfl)
            try simp only [Act.put, List.getElem_toArray, List.getElem_cons_zero, List.getElem_cons_succ, List.setIfInBounds_toArray, List.set_cons_zero, List.set_cons_succ]
            refine wpAnyH_take (i := 9) (v := ?_) rfl (by kernel_rfl) (by kernel_rfl) (by kernel_rfl) (fun _ _ _ h => h) (Or.inl ⟨by rfl, ?_⟩) (by assumption) ?_
            rotate_left; · (intro w hSw; (try dsimp only at hSw); go_simp; try with_reducible rfl)
            try simp only [Act.put, List.getElem_toArray, List.getElem_cons_zero, List.getElem_cons_succ, List.setIfInBounds_toArray, List.set_cons_zero, List.set_cons_succ]
            refine wpAnyH_done (by kernel_rfl) ?_ _
            clear hHeld
            go_wp2
            go_roundw
            case rel => exact ⟨xs, ys1, left - tsz, done ++ [(1, ⟨tst, tix, tsz, tsp, tnum, tden, tday⟩)], rfl, ⟨by omega, by omega⟩, HDN.out, by have := HLEN.out; simp at this ⊢; omega, HKX.out, HKT.out, HRX.out, HRD.out, HB9.out, by rw [List.map_append]; exact OI9.out, by rw [List.map_append]; exact OT9.out⟩
            case measure => simp [lenV]; try omega
        · have q1 : decide (tsz ≤ left) = false := decide_eq_false hle
          have HDN := Lib.hid (show D = done ++ takP (mrgP xs ys1) left by have := HDR.out; rw [HM.out, takP, if_neg hle] at this; exact this)
          clear hle HDR
          go_wp2
          go_roundw
          case rel => exact ⟨xs, ys1, left, done, rfl, ⟨h0l, hlb⟩, HDN.out, by have := HLEN.out; simp at this ⊢; omega, HKX.out, HKT.out, HRX.out, HRD.out, HB6.out, OI6.out, OT6.out⟩
          case measure => simp [lenV]; try omega
      · have HRD := Lib.hid (hc2 hc0)
        clear hc1 hc2
        have hwn := sb0 (w := wc) (.cells #[.string ⟨#[]⟩, .int .i64 0, .int .i64 0, .int .i64 0, .int .i64 0, .int .i64 0, .int .i64 0] 32)
        have hnn := heap_alloc_new wc (.cells #[.string ⟨#[]⟩, .int .i64 0, .int .i64 0, .int .i64 0, .int .i64 0, .int .i64 0, .int .i64 0] 32)
        obtain ⟨N, hN⟩ : ∃ N, N = wc.heap.size := ⟨_, rfl⟩
        obtain ⟨wn, hwn2⟩ : ∃ wn, wn = wc.alloc (.cells #[.string ⟨#[]⟩, .int .i64 0, .int .i64 0, .int .i64 0, .int .i64 0, .int .i64 0, .int .i64 0] 32) := ⟨_, rfl⟩
        rw [← hwn2] at hwn hnn
        rw [← hN] at hnn
        have HWN := Lib.hid hwn2
        have HN := Lib.hid hN
        have p0 := bc hwn p0
        have p1 := bc hwn p1
        have p2 := bc hwn p2
        have p3 := bc hwn p3
        have p4 := bc hwn p4
        have p5 := bc hwn p5
        have p6 := bc hwn p6
        have oin := HOIC.out.below hwn
        have otn := OwnT.below HOTC.out hwn
        have hbn := HBC.out.trans (hwn.mono hRc)
        have hne : N ≠ tb := by rw [hN]; have := HTB.out; omega
        have hNE0 : (Value.slice a8 l8 c8).ownBlock ≠ some N := fun e => by have := (Own.lt HOTC.out _ e).2; omega
        have hNE1 : (Value.slice a9 l9 c9).ownBlock ≠ some N := fun e => by have := (Own.lt HOIC.out _ e).2; omega
        have HNE := Lib.hid hNE0
        have hRN : R ≤ N := by rw [hN]; exact hRc
        have OID := Lib.hid (OwnI.below oin (Below.refl _ wn).drew)
        have OTD := Lib.hid (OwnT.below otn (Below.refl _ wn).drew)
        have HBD := Lib.hid hbn.drew
        have HND := Lib.hid (show wn.drew.heap[N]? = _ from hnn)
        clear hN hwn2 hwn hnn oin otn hbn hNE0
        go_upto_region 13 with fail
        rw [← HWN.out]
        try rw [← HN.out]
        clear HWN HN
        have HSB0 : ∀ w' : World, Below (wn).drew.heap.size (wn).drew w' → (w'.cell? ⟨tb, tq, none⟩ = some (.string tst) ∧ w'.cell? ⟨tb, tq + 1, none⟩ = some (.int .i64 tix) ∧ w'.cell? ⟨tb, tq + 2, none⟩ = some (.int .i64 tsz) ∧ w'.cell? ⟨tb, tq + 3, none⟩ = some (.int .i64 tsp) ∧ w'.cell? ⟨tb, tq + 4, none⟩ = some (.int .i64 tnum) ∧ w'.cell? ⟨tb, tq + 5, none⟩ = some (.int .i64 tden) ∧ w'.cell? ⟨tb, tq + 6, none⟩ = some (.int .i64 tday)) := fun w' hb => ⟨bc hb p0, bc hb p1, bc hb p2, bc hb p3, bc hb p4, bc hb p5, bc hb p6⟩
        refine wp_region_held_drew (S := fun w' => w'.cell? ⟨tb, tq, none⟩ = some (.string tst) ∧ w'.cell? ⟨tb, tq + 1, none⟩ = some (.int .i64 tix) ∧ w'.cell? ⟨tb, tq + 2, none⟩ = some (.int .i64 tsz) ∧ w'.cell? ⟨tb, tq + 3, none⟩ = some (.int .i64 tsp) ∧ w'.cell? ⟨tb, tq + 4, none⟩ = some (.int .i64 tnum) ∧ w'.cell? ⟨tb, tq + 5, none⟩ = some (.int .i64 tden) ∧ w'.cell? ⟨tb, tq + 6, none⟩ = some (.int .i64 tday)) (by kernel_rfl) (HSB0 _ (Below.refl _ _)) (fun hHeld => ?_)
        have HSB := Lib.hid HSB0
        clear HSB0
        generalize (wn).drew = Wd at *
        obtain ⟨y0, y1, y2, y3, y4, y5, y6⟩ := HSB.out _ (Below.refl _ _)
        have z0 := cell_of_row Wd _ 0 _ _ _ HND.out
        have z1 := cell_of_row Wd _ 1 _ _ _ HND.out
        have z2 := cell_of_row Wd _ 2 _ _ _ HND.out
        have z3 := cell_of_row Wd _ 3 _ _ _ HND.out
        have z4 := cell_of_row Wd _ 4 _ _ _ HND.out
        have z5 := cell_of_row Wd _ 5 _ _ _ HND.out
        have z6 := cell_of_row Wd _ 6 _ _ _ HND.out
        have f0 := frozen_of_row Wd _ 0 _ _ HND.out
        have f1 := frozen_of_row Wd _ 1 _ _ HND.out
        have f2 := frozen_of_row Wd _ 2 _ _ HND.out
        have f3 := frozen_of_row Wd _ 3 _ _ HND.out
        have f4 := frozen_of_row Wd _ 4 _ _ HND.out
        have f5 := frozen_of_row Wd _ 5 _ _ HND.out
        have f6 := frozen_of_row Wd _ 6 _ _ HND.out
        clear p0 p1 p2 p3 p4 p5 p6
        have hone : (1 : Int) ≤ (ys1.length : Int) + 1 := by omega
        refine wpAnyH_take (i := 0) (v := ?_) rfl (by kernel_rfl) (by kernel_rfl) (by kernel_rfl) (fun _ _ _ h => h) (Or.inl ⟨by rfl, ?_⟩) (by assumption) ?_
        rotate_left; · (intro w hSw; (try dsimp only at hSw); go_simp; try with_reducible rfl)
        try simp only [Act.put, List.getElem_toArray, List.getElem_cons_zero, List.getElem_cons_succ, List.setIfInBounds_toArray, List.set_cons_zero, List.set_cons_succ]
        refine wpAnyH_take (i := 1) (v := ?_) rfl (by kernel_rfl) (by kernel_rfl) (by kernel_rfl) (fun _ _ _ h => h) (Or.inl ⟨by rfl, ?_⟩) (by assumption) ?_
        rotate_left; · (intro w hSw; (try dsimp only at hSw); go_simp; try with_reducible rfl)
        try simp only [Act.put, List.getElem_toArray, List.getElem_cons_zero, List.getElem_cons_succ, List.setIfInBounds_toArray, List.set_cons_zero, List.set_cons_succ]
        refine wpAnyH_take (i := 2) (v := ?_) rfl (by kernel_rfl) (by kernel_rfl) (by kernel_rfl) (fun _ _ _ h => h) (Or.inl ⟨by rfl, ?_⟩) (by assumption) ?_
        rotate_left; · (intro w hSw; (try dsimp only at hSw); go_simp; try with_reducible rfl)
        try simp only [Act.put, List.getElem_toArray, List.getElem_cons_zero, List.getElem_cons_succ, List.setIfInBounds_toArray, List.set_cons_zero, List.set_cons_succ]
        refine wpAnyH_take (i := 3) (v := ?_) rfl (by kernel_rfl) (by kernel_rfl) (by kernel_rfl) (fun _ _ _ h => h) (Or.inl ⟨by rfl, ?_⟩) (by assumption) ?_
        rotate_left; · (intro w hSw; (try dsimp only at hSw); go_simp; try with_reducible rfl)
        try simp only [Act.put, List.getElem_toArray, List.getElem_cons_zero, List.getElem_cons_succ, List.setIfInBounds_toArray, List.set_cons_zero, List.set_cons_succ]
        refine wpAnyH_take (i := 4) (v := ?_) rfl (by kernel_rfl) (by kernel_rfl) (by kernel_rfl) (fun _ _ _ h => h) (Or.inl ⟨by rfl, ?_⟩) (by assumption) ?_
        rotate_left; · (intro w hSw; (try dsimp only at hSw); go_simp; try with_reducible rfl)
        try simp only [Act.put, List.getElem_toArray, List.getElem_cons_zero, List.getElem_cons_succ, List.setIfInBounds_toArray, List.set_cons_zero, List.set_cons_succ]
        clear hone
        refine wpAnyH_ready (rs := [5]) (by kernel_rfl) (by simp) ?_
        refine AllReadyH.cons rfl (fun K hK => ?_) AllReadyH.nil
        go_simp
        refine hK.out _ _ ⟨far7 _ _ _ _ _ _ _ hne y0, far7 _ _ _ _ _ _ _ hne y1, far7 _ _ _ _ _ _ _ hne y2, far7 _ _ _ _ _ _ _ hne y3, far7 _ _ _ _ _ _ _ hne y4, far7 _ _ _ _ _ _ _ hne y5, far7 _ _ _ _ _ _ _ hne y6⟩ (fun hNew => ?_)
        clear hK K hHeld
        have hHeld := hNew
        clear hNew
        try simp only [Act.put, List.getElem_toArray, List.getElem_cons_zero, List.getElem_cons_succ, List.setIfInBounds_toArray, List.set_cons_zero, List.set_cons_succ]
        refine wpAnyH_take (i := 6) (v := ?_) rfl (by kernel_rfl) (by kernel_rfl) (by kernel_rfl) (fun _ _ _ h => h) (Or.inl ⟨by rfl, ?_⟩) (by assumption) ?_
        rotate_left; · (intro w hSw; (try dsimp only at hSw); go_simp; try with_reducible rfl)
        try simp only [Act.put, List.getElem_toArray, List.getElem_cons_zero, List.getElem_cons_succ, List.setIfInBounds_toArray, List.set_cons_zero, List.set_cons_succ]
        refine wpAnyH_done (by kernel_rfl) ?_ _
        clear hHeld HSB y0 y1 y2 y3 y4 y5 y6 z0 z1 z2 z3 z4 z5 z6 f0 f1 f2 f3 f4 f5 f6
        have n6 := seven_set HND.out (.string tst) (.int .i64 tix) (.int .i64 tsz) (.int .i64 tsp) (.int .i64 tnum) (.int .i64 tden) (.int .i64 tday)
        have hb6 := seven_below HBD.out hRN (.string tst) (.int .i64 tix) (.int .i64 tsz) (.int .i64 tsp) (.int .i64 tnum) (.int .i64 tden) (.int .i64 tday)
        have oi6 := Own.same OID.out (w' := (((((((Wd.setCell ⟨N, 0, none⟩ (.string tst)).setCell ⟨N, 1, none⟩ (.int .i64 tix)).setCell ⟨N, 2, none⟩ (.int .i64 tsz)).setCell ⟨N, 3, none⟩ (.int .i64 tsp)).setCell ⟨N, 4, none⟩ (.int .i64 tnum)).setCell ⟨N, 5, none⟩ (.int .i64 tden)).setCell ⟨N, 6, none⟩ (.int .i64 tday))) (fun g hg => seven_other _ _ _ _ _ _ _ _ (fun e => hNE1 (by rw [hg, e])))
        have ot6 := Own.same OTD.out (w' := (((((((Wd.setCell ⟨N, 0, none⟩ (.string tst)).setCell ⟨N, 1, none⟩ (.int .i64 tix)).setCell ⟨N, 2, none⟩ (.int .i64 tsz)).setCell ⟨N, 3, none⟩ (.int .i64 tsp)).setCell ⟨N, 4, none⟩ (.int .i64 tnum)).setCell ⟨N, 5, none⟩ (.int .i64 tden)).setCell ⟨N, 6, none⟩ (.int .i64 tday))) (fun g hg => seven_other _ _ _ _ _ _ _ _ (fun e => HNE.out (by rw [hg, e])))
        obtain ⟨w6, hw6⟩ : ∃ w6, w6 = (((((((Wd.setCell ⟨N, 0, none⟩ (.string tst)).setCell ⟨N, 1, none⟩ (.int .i64 tix)).setCell ⟨N, 2, none⟩ (.int .i64 tsz)).setCell ⟨N, 3, none⟩ (.int .i64 tsp)).setCell ⟨N, 4, none⟩ (.int .i64 tnum)).setCell ⟨N, 5, none⟩ (.int .i64 tden)).setCell ⟨N, 6, none⟩ (.int .i64 tday)) := ⟨_, rfl⟩
        rw [← hw6] at n6 hb6 oi6 ot6 ⊢
        clear hw6 OID OTD HBD HND
        have hz6 : R ≤ w6.heap.size := by have := hb6.size; have := HZO.out; omega
        have oi6 : OwnI w6 R (.slice a9 l9 c9) (done.map (·.1)) := oi6
        have ot6 : OwnT 32 w6 R (.slice a8 l8 c8) (done.map (·.2)) := ot6
        have N6 := Lib.hid n6
        have HB6 := Lib.hid hb6
        have OI6 := Lib.hid oi6
        have OT6 := Lib.hid ot6
        clear n6 hb6 oi6 ot6
        have d2 := cell_of_row w6 _ 2 _ _ _ N6.out
        by_cases hle : tsz ≤ left
        · have q1 : decide (tsz ≤ left) = true := decide_eq_true hle
          have hw2 : IntKind.i64.wrap (left - tsz) = left - tsz := by have := HBUD.out; have := HTS.out; rw [IntKind.wrap_i64]; omega
          have hts0 := HTS.out
          have HDN := Lib.hid (show D = (done ++ [(1, ⟨tst, tix, tsz, tsp, tnum, tden, tday⟩)]) ++ takP (mrgP xs ys1) (left - tsz) by have := HDR.out; rw [HM.out, takP, if_pos hle] at this; rw [this, List.append_assoc]; rfl)
          go_upto_region 15 with fail
          have hnW : w6.drew.heap[N]? = some (.cells #[.string tst, .int .i64 tix, .int .i64 tsz, .int .i64 tsp, .int .i64 tnum, .int .i64 tden, .int .i64 tday] 32) := N6.out
          have hbW : Below R wO w6.drew := HB6.out.drew
          have hoW : OwnI w6.drew R (.slice a9 l9 c9) (done.map (·.1)) := OI6.out.below (Below.refl _ w6).drew
          have htW : OwnT 32 w6.drew R (.slice a8 l8 c8) (done.map (·.2)) := OT6.out.below (Below.refl _ w6).drew
          have hzW : R ≤ w6.drew.heap.size := hz6
          refine wp_region_held_drew (S := fun w' => w'.cell? ⟨N, 0, none⟩ = some (.string tst) ∧ w'.cell? ⟨N, 1, none⟩ = some (.int .i64 tix) ∧ w'.cell? ⟨N, 2, none⟩ = some (.int .i64 tsz) ∧ w'.cell? ⟨N, 3, none⟩ = some (.int .i64 tsp) ∧ w'.cell? ⟨N, 4, none⟩ = some (.int .i64 tnum) ∧ w'.cell? ⟨N, 5, none⟩ = some (.int .i64 tden) ∧ w'.cell? ⟨N, 6, none⟩ = some (.int .i64 tday)) (by kernel_rfl) ⟨cell_of_row _ _ 0 _ _ _ hnW, cell_of_row _ _ 1 _ _ _ hnW, cell_of_row _ _ 2 _ _ _ hnW, cell_of_row _ _ 3 _ _ _ hnW, cell_of_row _ _ 4 _ _ _ hnW, cell_of_row _ _ 5 _ _ _ hnW, cell_of_row _ _ 6 _ _ _ hnW⟩ (fun hHeld => ?_)
          clear d2
          generalize w6.drew = Wd at *
          have nWd := hnW
          have hbWd := hbW
          have oiWd := hoW
          have otWd := htW
          have hzWd := hzW
          clear hnW hbW hoW htW hzW N6 HB6 OI6 OT6 HTS
          refine wpAnyH_take (i := 0) (v := ?_) rfl (by kernel_rfl) (by kernel_rfl) (by kernel_rfl) (fun _ _ _ h => h) (Or.inl ⟨by rfl, ?_⟩) (by assumption) ?_
          rotate_left; · (intro w hSw; (try dsimp only at hSw); go_simp; try with_reducible rfl)
          try simp only [Act.put, List.getElem_toArray, List.getElem_cons_zero, List.getElem_cons_succ, List.setIfInBounds_toArray, List.set_cons_zero, List.set_cons_succ]
          refine wpAnyH_take (i := 1) (v := ?_) rfl (by kernel_rfl) (by kernel_rfl) (by kernel_rfl) (fun _ _ _ h => h) (Or.inl ⟨by rfl, ?_⟩) (by assumption) ?_
          rotate_left; · (intro w hSw; (try dsimp only at hSw); go_simp; try with_reducible rfl)
          try simp only [Act.put, List.getElem_toArray, List.getElem_cons_zero, List.getElem_cons_succ, List.setIfInBounds_toArray, List.set_cons_zero, List.set_cons_succ]
          refine wpAnyH_take (i := 4) (v := ?_) rfl (by kernel_rfl) (by kernel_rfl) (by kernel_rfl) (fun _ _ _ h => h) (Or.inl ⟨by rfl, ?_⟩) (by assumption) ?_
          rotate_left; · (intro w hSw; (try dsimp only at hSw); go_simp; try with_reducible rfl)
          try simp only [Act.put, List.getElem_toArray, List.getElem_cons_zero, List.getElem_cons_succ, List.setIfInBounds_toArray, List.set_cons_zero, List.set_cons_succ]
          refine wpAnyH_take (i := 5) (v := ?_) rfl (by kernel_rfl) (by kernel_rfl) (by kernel_rfl) (fun _ _ _ h => h) (Or.inl ⟨by rfl, ?_⟩) (by assumption) ?_
          rotate_left; · (intro w hSw; (try dsimp only at hSw); go_simp; try with_reducible rfl)
          try simp only [Act.put, List.getElem_toArray, List.getElem_cons_zero, List.getElem_cons_succ, List.setIfInBounds_toArray, List.set_cons_zero, List.set_cons_succ]
          refine wpAnyH_ready (rs := [2, 6]) (by kernel_rfl) (by simp) ?_
          refine AllReadyH.cons rfl (fun K hK => ?_) (AllReadyH.cons rfl (fun K hK => ?_) AllReadyH.nil)
          · skip
            go_simp
            have hs := sb0 (w := Wd) (.cells #[.int .i64 1] 3)
            have kA := heap_alloc_new Wd (.cells #[.int .i64 1] 3)
            have hzW2 : R ≤ (Wd.alloc (.cells #[.int .i64 1] 3)).heap.size := by rw [World.size_alloc]; omega
            obtain ⟨gA, hgA⟩ : ∃ g, g = Wd.heap.size := ⟨_, rfl⟩
            rw [← hgA] at kA
            try rw [← hgA]
            have nW2 := bb hs nWd
            have oiW2 := OwnI.below oiWd hs
            have otW2 := OwnT.below otWd hs
            have hbW2 := hbWd.trans (hs.mono hzWd)
            clear hgA hs
            generalize Wd.alloc (.cells #[.int .i64 1] 3) = W2 at *
            refine hK.out _ _ ⟨cell_of_row W2 _ 0 _ _ _ nW2, cell_of_row W2 _ 1 _ _ _ nW2, cell_of_row W2 _ 2 _ _ _ nW2, cell_of_row W2 _ 3 _ _ _ nW2, cell_of_row W2 _ 4 _ _ _ nW2, cell_of_row W2 _ 5 _ _ _ nW2, cell_of_row W2 _ 6 _ _ _ nW2⟩ (fun hNew => ?_)
            clear hK K hNew
            (try clear hHeld)
            have hHeld : _ ∧ _ ∧ _ ∧ _ ∧ _ ∧ _ ∧ _ := ⟨cell_of_row W2 _ 0 _ _ _ nW2, cell_of_row W2 _ 1 _ _ _ nW2, cell_of_row W2 _ 2 _ _ _ nW2, cell_of_row W2 _ 3 _ _ _ nW2, cell_of_row W2 _ 4 _ _ _ nW2, cell_of_row W2 _ 5 _ _ _ nW2, cell_of_row W2 _ 6 _ _ _ nW2⟩
            try simp only [Act.put, List.getElem_toArray, List.getElem_cons_zero, List.getElem_cons_succ, List.setIfInBounds_toArray, List.set_cons_zero, List.set_cons_succ]
            refine wpAnyH_ready (rs := [3, 6]) (by kernel_rfl) (by simp) ?_
            refine AllReadyH.cons rfl (fun K hK => ?_) (AllReadyH.cons rfl (fun K hK => ?_) AllReadyH.nil)
            · skip
              obtain ⟨v3, W23, r3, oiW23, b3, k3⟩ := oiW2.appendR (reads_int1 kA) (by rw [List.length_map]; omega) (by simp) hzW2
              have otW23 := Own.same otW2 (w' := W23) (fun g hg => k3 g (Own.lt otW2 g hg).2 (own_apart' otW2 oiW2 (by decide) g hg))
              have otW23 : OwnT 32 W23 R (.slice a8 l8 c8) (done.map (·.2)) := otW23
              have nW23 := (k3 N (Array.getElem?_eq_some_iff.1 nW2).1 (own_ne oiW2 nW2 (by decide))).trans nW2
              have hbW23 := hbW2.trans b3
              have hzW23 : R ≤ W23.heap.size := Nat.le_trans hzW2 b3.size
              refine step_append_run (by rfl) (.tmp 84) (.tmp 86) 53 (by rfl) (.slice a9 l9 c9) (.slice (some ⟨gA, 0, none⟩) 1 1) v3 W23 (by rfl) (by rfl) r3 ?_
              clear r3 b3 k3 kA
              refine hK.out _ _ ⟨cell_of_row W23 _ 0 _ _ _ nW23, cell_of_row W23 _ 1 _ _ _ nW23, cell_of_row W23 _ 2 _ _ _ nW23, cell_of_row W23 _ 3 _ _ _ nW23, cell_of_row W23 _ 4 _ _ _ nW23, cell_of_row W23 _ 5 _ _ _ nW23, cell_of_row W23 _ 6 _ _ _ nW23⟩ (fun hNew => ?_)
              clear hK K hNew
              (try clear hHeld)
              have hHeld : _ ∧ _ ∧ _ ∧ _ ∧ _ ∧ _ ∧ _ := ⟨cell_of_row W23 _ 0 _ _ _ nW23, cell_of_row W23 _ 1 _ _ _ nW23, cell_of_row W23 _ 2 _ _ _ nW23, cell_of_row W23 _ 3 _ _ _ nW23, cell_of_row W23 _ 4 _ _ _ nW23, cell_of_row W23 _ 5 _ _ _ nW23, cell_of_row W23 _ 6 _ _ _ nW23⟩
              try simp only [Act.put, List.getElem_toArray, List.getElem_cons_zero, List.getElem_cons_succ, List.setIfInBounds_toArray, List.set_cons_zero, List.set_cons_succ]
              refine wpAnyH_ready (rs := [6]) (by kernel_rfl) (by simp) ?_
              refine AllReadyH.cons rfl (fun K hK => ?_) AllReadyH.nil
              go_simp
              have hs := sb0 (w := W23) (.cells #[.string tst, .int .i64 tix, .int .i64 tsz, .int .i64 tsp, .int .i64 tnum, .int .i64 tden, .int .i64 tday] 32)
              have kB := heap_alloc_new W23 (.cells #[.string tst, .int .i64 tix, .int .i64 tsz, .int .i64 tsp, .int .i64 tnum, .int .i64 tden, .int .i64 tday] 32)
              have hzW236 : R ≤ (W23.alloc (.cells #[.string tst, .int .i64 tix, .int .i64 tsz, .int .i64 tsp, .int .i64 tnum, .int .i64 tden, .int .i64 tday] 32)).heap.size := by rw [World.size_alloc]; omega
              obtain ⟨gB, hgB⟩ : ∃ g, g = W23.heap.size := ⟨_, rfl⟩
              rw [← hgB] at kB
              try rw [← hgB]
              have nW236 := bb hs nW23
              have oiW236 := OwnI.below oiW23 hs
              have otW236 := OwnT.below otW23 hs
              have hbW236 := hbW23.trans (hs.mono hzW23)
              clear hgB hs
              generalize W23.alloc (.cells #[.string tst, .int .i64 tix, .int .i64 tsz, .int .i64 tsp, .int .i64 tnum, .int .i64 tden, .int .i64 tday] 32) = W236 at *
              refine hK.out _ _ ⟨cell_of_row W236 _ 0 _ _ _ nW236, cell_of_row W236 _ 1 _ _ _ nW236, cell_of_row W236 _ 2 _ _ _ nW236, cell_of_row W236 _ 3 _ _ _ nW236, cell_of_row W236 _ 4 _ _ _ nW236, cell_of_row W236 _ 5 _ _ _ nW236, cell_of_row W236 _ 6 _ _ _ nW236⟩ (fun hNew => ?_)
              clear hK K hNew
              (try clear hHeld)
              have hHeld : _ ∧ _ ∧ _ ∧ _ ∧ _ ∧ _ ∧ _ := ⟨cell_of_row W236 _ 0 _ _ _ nW236, cell_of_row W236 _ 1 _ _ _ nW236, cell_of_row W236 _ 2 _ _ _ nW236, cell_of_row W236 _ 3 _ _ _ nW236, cell_of_row W236 _ 4 _ _ _ nW236, cell_of_row W236 _ 5 _ _ _ nW236, cell_of_row W236 _ 6 _ _ _ nW236⟩
              try simp only [Act.put, List.getElem_toArray, List.getElem_cons_zero, List.getElem_cons_succ, List.setIfInBounds_toArray, List.set_cons_zero, List.set_cons_succ]
              refine wpAnyH_ready (rs := [7]) (by kernel_rfl) (by simp) ?_
              refine AllReadyH.cons rfl (fun K hK => ?_) AllReadyH.nil
              obtain ⟨v7, W2367, r7, otW2367, b7, k7⟩ := otW236.appR32 (HRS.out W236 gB kB) (by rw [List.length_map]; omega) (by simp) hzW236
              have oiW2367 := Own.same oiW236 (w' := W2367) (fun g hg => k7 g (Own.lt oiW236 g hg).2 (own_apart' oiW236 otW236 (by decide) g hg))
              have nW2367 := (k7 N (Array.getElem?_eq_some_iff.1 nW236).1 HNE.out).trans nW236
              have hbW2367 := hbW236.trans b7
              have hzW2367 : R ≤ W2367.heap.size := Nat.le_trans hzW236 b7.size
              refine step_append_run (by rfl) (.tmp 88) (.tmp 90) 41 (by rfl) (.slice a8 l8 c8) (.slice (some ⟨gB, 0, none⟩) 1 1) v7 W2367 (by rfl) (by rfl) r7 ?_
              clear r7 b7 k7 kB
              refine hK.out _ _ ⟨cell_of_row W2367 _ 0 _ _ _ nW2367, cell_of_row W2367 _ 1 _ _ _ nW2367, cell_of_row W2367 _ 2 _ _ _ nW2367, cell_of_row W2367 _ 3 _ _ _ nW2367, cell_of_row W2367 _ 4 _ _ _ nW2367, cell_of_row W2367 _ 5 _ _ _ nW2367, cell_of_row W2367 _ 6 _ _ _ nW2367⟩ (fun hNew => ?_)
              clear hK K hNew
              (try clear hHeld)
              have hHeld : _ ∧ _ ∧ _ ∧ _ ∧ _ ∧ _ ∧ _ := ⟨cell_of_row W2367 _ 0 _ _ _ nW2367, cell_of_row W2367 _ 1 _ _ _ nW2367, cell_of_row W2367 _ 2 _ _ _ nW2367, cell_of_row W2367 _ 3 _ _ _ nW2367, cell_of_row W2367 _ 4 _ _ _ nW2367, cell_of_row W2367 _ 5 _ _ _ nW2367, cell_of_row W2367 _ 6 _ _ _ nW2367⟩
              try simp only [Act.put, List.getElem_toArray, List.getElem_cons_zero, List.getElem_cons_succ, List.setIfInBounds_toArray, List.set_cons_zero, List.set_cons_succ]
              have HN9 := Lib.hid nW2367
              have HB9 := Lib.hid hbW2367
              have OI9 := Lib.hid (show OwnI W2367 R v3 (done.map (·.1) ++ [1]) from oiW2367)
              have OT9 := Lib.hid otW2367
              have e2 := cell_of_row W2367 _ 2 _ _ _ nW2367
              obtain ⟨a5, l5, c5, rfl⟩ := Own.slice OI9.out
              obtain ⟨a6, l6, c6, rfl⟩ := Own.slice OT9.out
              clear hbW2367 oiW2367 otW2367 nW2367
              refine wpAnyH_take (i := 8) (v := ?_) rfl (by kernel_rfl) (by kernel_rfl) (by kernel_rfl) (fun _ _ _ h => h) (Or.inl ⟨by rfl, ?_⟩) (by assumption) ?_
              rotate_left; · (intro w hSw; (try dsimp only at hSw); go_simp; try with_reducible rfl)
              try simp only [Act.put, List.getElem_toArray, List.getElem_cons_zero, List.getElem_cons_succ, List.setIfInBounds_toArray, List.set_cons_zero, List.set_cons_succ]
              refine wpAnyH_take (i := 9) (v := ?_) rfl (by kernel_rfl) (by kernel_rfl) (by kernel_rfl) (fun _ _ _ h => h) (Or.inl ⟨by rfl, ?_⟩) (by assumption) ?_
              rotate_left; · (intro w hSw; (try dsimp only at hSw); go_simp; try with_reducible rfl)
              try simp only [Act.put, List.getElem_toArray, List.getElem_cons_zero, List.getElem_cons_succ, List.setIfInBounds_toArray, List.set_cons_zero, List.set_cons_succ]
              refine wpAnyH_done (by kernel_rfl) ?_ _
              clear hHeld
              go_wp2
              go_roundw
              case rel => exact ⟨xs, ys1, left - tsz, done ++ [(1, ⟨tst, tix, tsz, tsp, tnum, tden, tday⟩)], rfl, ⟨by omega, by omega⟩, HDN.out, by have := HLEN.out; simp at this ⊢; omega, HKX.out, HKT.out, HRX.out, HRD.out, HB9.out, by rw [List.map_append]; exact OI9.out, by rw [List.map_append]; exact OT9.out⟩
              case measure => simp [lenV]; try omega
            · skip
              go_simp
              have hs := sb0 (w := W2) (.cells #[.string tst, .int .i64 tix, .int .i64 tsz, .int .i64 tsp, .int .i64 tnum, .int .i64 tden, .int .i64 tday] 32)
              have kB := heap_alloc_new W2 (.cells #[.string tst, .int .i64 tix, .int .i64 tsz, .int .i64 tsp, .int .i64 tnum, .int .i64 tden, .int .i64 tday] 32)
              have hzW26 : R ≤ (W2.alloc (.cells #[.string tst, .int .i64 tix, .int .i64 tsz, .int .i64 tsp, .int .i64 tnum, .int .i64 tden, .int .i64 tday] 32)).heap.size := by rw [World.size_alloc]; omega
              obtain ⟨gB, hgB⟩ : ∃ g, g = W2.heap.size := ⟨_, rfl⟩
              rw [← hgB] at kB
              try rw [← hgB]
              have kA := bb hs kA
              have nW26 := bb hs nW2
              have oiW26 := OwnI.below oiW2 hs
              have otW26 := OwnT.below otW2 hs
              have hbW26 := hbW2.trans (hs.mono hzW2)
              clear hgB hs
              generalize W2.alloc (.cells #[.string tst, .int .i64 tix, .int .i64 tsz, .int .i64 tsp, .int .i64 tnum, .int .i64 tden, .int .i64 tday] 32) = W26 at *
              refine hK.out _ _ ⟨cell_of_row W26 _ 0 _ _ _ nW26, cell_of_row W26 _ 1 _ _ _ nW26, cell_of_row W26 _ 2 _ _ _ nW26, cell_of_row W26 _ 3 _ _ _ nW26, cell_of_row W26 _ 4 _ _ _ nW26, cell_of_row W26 _ 5 _ _ _ nW26, cell_of_row W26 _ 6 _ _ _ nW26⟩ (fun hNew => ?_)
              clear hK K hNew
              (try clear hHeld)
              have hHeld : _ ∧ _ ∧ _ ∧ _ ∧ _ ∧ _ ∧ _ := ⟨cell_of_row W26 _ 0 _ _ _ nW26, cell_of_row W26 _ 1 _ _ _ nW26, cell_of_row W26 _ 2 _ _ _ nW26, cell_of_row W26 _ 3 _ _ _ nW26, cell_of_row W26 _ 4 _ _ _ nW26, cell_of_row W26 _ 5 _ _ _ nW26, cell_of_row W26 _ 6 _ _ _ nW26⟩
              try simp only [Act.put, List.getElem_toArray, List.getElem_cons_zero, List.getElem_cons_succ, List.setIfInBounds_toArray, List.set_cons_zero, List.set_cons_succ]
              refine wpAnyH_ready (rs := [3]) (by kernel_rfl) (by simp) ?_
              refine AllReadyH.cons rfl (fun K hK => ?_) AllReadyH.nil
              obtain ⟨v3, W263, r3, oiW263, b3, k3⟩ := oiW26.appendR (reads_int1 kA) (by rw [List.length_map]; omega) (by simp) hzW26
              have otW263 := Own.same otW26 (w' := W263) (fun g hg => k3 g (Own.lt otW26 g hg).2 (own_apart' otW26 oiW26 (by decide) g hg))
              have otW263 : OwnT 32 W263 R (.slice a8 l8 c8) (done.map (·.2)) := otW263
              have nW263 := (k3 N (Array.getElem?_eq_some_iff.1 nW26).1 (own_ne oiW26 nW26 (by decide))).trans nW26
              have kB := (k3 gB (Array.getElem?_eq_some_iff.1 kB).1 (own_ne oiW26 kB (by decide))).trans kB
              have hbW263 := hbW26.trans b3
              have hzW263 : R ≤ W263.heap.size := Nat.le_trans hzW26 b3.size
              refine step_append_run (by rfl) (.tmp 84) (.tmp 86) 53 (by rfl) (.slice a9 l9 c9) (.slice (some ⟨gA, 0, none⟩) 1 1) v3 W263 (by rfl) (by rfl) r3 ?_
              clear r3 b3 k3 kA
              refine hK.out _ _ ⟨cell_of_row W263 _ 0 _ _ _ nW263, cell_of_row W263 _ 1 _ _ _ nW263, cell_of_row W263 _ 2 _ _ _ nW263, cell_of_row W263 _ 3 _ _ _ nW263, cell_of_row W263 _ 4 _ _ _ nW263, cell_of_row W263 _ 5 _ _ _ nW263, cell_of_row W263 _ 6 _ _ _ nW263⟩ (fun hNew => ?_)
              clear hK K hNew
              (try clear hHeld)
              have hHeld : _ ∧ _ ∧ _ ∧ _ ∧ _ ∧ _ ∧ _ := ⟨cell_of_row W263 _ 0 _ _ _ nW263, cell_of_row W263 _ 1 _ _ _ nW263, cell_of_row W263 _ 2 _ _ _ nW263, cell_of_row W263 _ 3 _ _ _ nW263, cell_of_row W263 _ 4 _ _ _ nW263, cell_of_row W263 _ 5 _ _ _ nW263, cell_of_row W263 _ 6 _ _ _ nW263⟩
              try simp only [Act.put, List.getElem_toArray, List.getElem_cons_zero, List.getElem_cons_succ, List.setIfInBounds_toArray, List.set_cons_zero, List.set_cons_succ]
              refine wpAnyH_ready (rs := [7]) (by kernel_rfl) (by simp) ?_
              refine AllReadyH.cons rfl (fun K hK => ?_) AllReadyH.nil
              obtain ⟨v7, W2637, r7, otW2637, b7, k7⟩ := otW263.appR32 (HRS.out W263 gB kB) (by rw [List.length_map]; omega) (by simp) hzW263
              have oiW2637 := Own.same oiW263 (w' := W2637) (fun g hg => k7 g (Own.lt oiW263 g hg).2 (own_apart' oiW263 otW263 (by decide) g hg))
              have nW2637 := (k7 N (Array.getElem?_eq_some_iff.1 nW263).1 HNE.out).trans nW263
              have hbW2637 := hbW263.trans b7
              have hzW2637 : R ≤ W2637.heap.size := Nat.le_trans hzW263 b7.size
              refine step_append_run (by rfl) (.tmp 88) (.tmp 90) 41 (by rfl) (.slice a8 l8 c8) (.slice (some ⟨gB, 0, none⟩) 1 1) v7 W2637 (by rfl) (by rfl) r7 ?_
              clear r7 b7 k7 kB
              refine hK.out _ _ ⟨cell_of_row W2637 _ 0 _ _ _ nW2637, cell_of_row W2637 _ 1 _ _ _ nW2637, cell_of_row W2637 _ 2 _ _ _ nW2637, cell_of_row W2637 _ 3 _ _ _ nW2637, cell_of_row W2637 _ 4 _ _ _ nW2637, cell_of_row W2637 _ 5 _ _ _ nW2637, cell_of_row W2637 _ 6 _ _ _ nW2637⟩ (fun hNew => ?_)
              clear hK K hNew
              (try clear hHeld)
              have hHeld : _ ∧ _ ∧ _ ∧ _ ∧ _ ∧ _ ∧ _ := ⟨cell_of_row W2637 _ 0 _ _ _ nW2637, cell_of_row W2637 _ 1 _ _ _ nW2637, cell_of_row W2637 _ 2 _ _ _ nW2637, cell_of_row W2637 _ 3 _ _ _ nW2637, cell_of_row W2637 _ 4 _ _ _ nW2637, cell_of_row W2637 _ 5 _ _ _ nW2637, cell_of_row W2637 _ 6 _ _ _ nW2637⟩
              try simp only [Act.put, List.getElem_toArray, List.getElem_cons_zero, List.getElem_cons_succ, List.setIfInBounds_toArray, List.set_cons_zero, List.set_cons_succ]
              have HN9 := Lib.hid nW2637
              have HB9 := Lib.hid hbW2637
              have OI9 := Lib.hid (show OwnI W2637 R v3 (done.map (·.1) ++ [1]) from oiW2637)
              have OT9 := Lib.hid otW2637
              have e2 := cell_of_row W2637 _ 2 _ _ _ nW2637
              obtain ⟨a5, l5, c5, rfl⟩ := Own.slice OI9.out
              obtain ⟨a6, l6, c6, rfl⟩ := Own.slice OT9.out
              clear hbW2637 oiW2637 otW2637 nW2637
              refine wpAnyH_take (i := 8) (v := ?_) rfl (by kernel_rfl) (by kernel_rfl) (by kernel_rfl) (fun _ _ _ h => h) (Or.inl ⟨by rfl, ?_⟩) (by assumption) ?_
              rotate_left; · (intro w hSw; (try dsimp only at hSw); go_simp; try with_reducible rfl)
              try simp only [Act.put, List.getElem_toArray, List.getElem_cons_zero, List.getElem_cons_succ, List.setIfInBounds_toArray, List.set_cons_zero, List.set_cons_succ]
              refine wpAnyH_take (i := 9) (v := ?_) rfl (by kernel_rfl) (by kernel_rfl) (by kernel_rfl) (fun _ _ _ h => h) (Or.inl ⟨by rfl, ?_⟩) (by assumption) ?_
              rotate_left; · (intro w hSw; (try dsimp only at hSw); go_simp; try with_reducible rfl)
              try simp only [Act.put, List.getElem_toArray, List.getElem_cons_zero, List.getElem_cons_succ, List.setIfInBounds_toArray, List.set_cons_zero, List.set_cons_succ]
              refine wpAnyH_done (by kernel_rfl) ?_ _
              clear hHeld
              go_wp2
              go_roundw
              case rel => exact ⟨xs, ys1, left - tsz, done ++ [(1, ⟨tst, tix, tsz, tsp, tnum, tden, tday⟩)], rfl, ⟨by omega, by omega⟩, HDN.out, by have := HLEN.out; simp at this ⊢; omega, HKX.out, HKT.out, HRX.out, HRD.out, HB9.out, by rw [List.map_append]; exact OI9.out, by rw [List.map_append]; exact OT9.out⟩
              case measure => simp [lenV]; try omega
          · skip
            go_simp
            have hs := sb0 (w := Wd) (.cells #[.string tst, .int .i64 tix, .int .i64 tsz, .int .i64 tsp, .int .i64 tnum, .int .i64 tden, .int .i64 tday] 32)
            have kB := heap_alloc_new Wd (.cells #[.string tst, .int .i64 tix, .int .i64 tsz, .int .i64 tsp, .int .i64 tnum, .int .i64 tden, .int .i64 tday] 32)
            have hzW6 : R ≤ (Wd.alloc (.cells #[.string tst, .int .i64 tix, .int .i64 tsz, .int .i64 tsp, .int .i64 tnum, .int .i64 tden, .int .i64 tday] 32)).heap.size := by rw [World.size_alloc]; omega
            obtain ⟨gB, hgB⟩ : ∃ g, g = Wd.heap.size := ⟨_, rfl⟩
            rw [← hgB] at kB
            try rw [← hgB]
            have nW6 := bb hs nWd
            have oiW6 := OwnI.below oiWd hs
            have otW6 := OwnT.below otWd hs
            have hbW6 := hbWd.trans (hs.mono hzWd)
            clear hgB hs
            generalize Wd.alloc (.cells #[.string tst, .int .i64 tix, .int .i64 tsz, .int .i64 tsp, .int .i64 tnum, .int .i64 tden, .int .i64 tday] 32) = W6 at *
            refine hK.out _ _ ⟨cell_of_row W6 _ 0 _ _ _ nW6, cell_of_row W6 _ 1 _ _ _ nW6, cell_of_row W6 _ 2 _ _ _ nW6, cell_of_row W6 _ 3 _ _ _ nW6, cell_of_row W6 _ 4 _ _ _ nW6, cell_of_row W6 _ 5 _ _ _ nW6, cell_of_row W6 _ 6 _ _ _ nW6⟩ (fun hNew => ?_)
            clear hK K hNew
            (try clear hHeld)
            have hHeld : _ ∧ _ ∧ _ ∧ _ ∧ _ ∧ _ ∧ _ := ⟨cell_of_row W6 _ 0 _ _ _ nW6, cell_of_row W6 _ 1 _ _ _ nW6, cell_of_row W6 _ 2 _ _ _ nW6, cell_of_row W6 _ 3 _ _ _ nW6, cell_of_row W6 _ 4 _ _ _ nW6, cell_of_row W6 _ 5 _ _ _ nW6, cell_of_row W6 _ 6 _ _ _ nW6⟩
            try simp only [Act.put, List.getElem_toArray, List.getElem_cons_zero, List.getElem_cons_succ, List.setIfInBounds_toArray, List.set_cons_zero, List.set_cons_succ]
            refine wpAnyH_ready (rs := [2]) (by kernel_rfl) (by simp) ?_
            refine AllReadyH.cons rfl (fun K hK => ?_) AllReadyH.nil
            go_simp
            have hs := sb0 (w := W6) (.cells #[.int .i64 1] 3)
            have kA := heap_alloc_new W6 (.cells #[.int .i64 1] 3)
            have hzW62 : R ≤ (W6.alloc (.cells #[.int .i64 1] 3)).heap.size := by rw [World.size_alloc]; omega
            obtain ⟨gA, hgA⟩ : ∃ g, g = W6.heap.size := ⟨_, rfl⟩
            rw [← hgA] at kA
            try rw [← hgA]
            have kB := bb hs kB
            have nW62 := bb hs nW6
            have oiW62 := OwnI.below oiW6 hs
            have otW62 := OwnT.below otW6 hs
            have hbW62 := hbW6.trans (hs.mono hzW6)
            clear hgA hs
            generalize W6.alloc (.cells #[.int .i64 1] 3) = W62 at *
            refine hK.out _ _ ⟨cell_of_row W62 _ 0 _ _ _ nW62, cell_of_row W62 _ 1 _ _ _ nW62, cell_of_row W62 _ 2 _ _ _ nW62, cell_of_row W62 _ 3 _ _ _ nW62, cell_of_row W62 _ 4 _ _ _ nW62, cell_of_row W62 _ 5 _ _ _ nW62, cell_of_row W62 _ 6 _ _ _ nW62⟩ (fun hNew => ?_)
            clear hK K hNew
            (try clear hHeld)
            have hHeld : _ ∧ _ ∧ _ ∧ _ ∧ _ ∧ _ ∧ _ := ⟨cell_of_row W62 _ 0 _ _ _ nW62, cell_of_row W62 _ 1 _ _ _ nW62, cell_of_row W62 _ 2 _ _ _ nW62, cell_of_row W62 _ 3 _ _ _ nW62, cell_of_row W62 _ 4 _ _ _ nW62, cell_of_row W62 _ 5 _ _ _ nW62, cell_of_row W62 _ 6 _ _ _ nW62⟩
            try simp only [Act.put, List.getElem_toArray, List.getElem_cons_zero, List.getElem_cons_succ, List.setIfInBounds_toArray, List.set_cons_zero, List.set_cons_succ]
            refine wpAnyH_ready (rs := [3]) (by kernel_rfl) (by simp) ?_
            refine AllReadyH.cons rfl (fun K hK => ?_) AllReadyH.nil
            obtain ⟨v3, W623, r3, oiW623, b3, k3⟩ := oiW62.appendR (reads_int1 kA) (by rw [List.length_map]; omega) (by simp) hzW62
            have otW623 := Own.same otW62 (w' := W623) (fun g hg => k3 g (Own.lt otW62 g hg).2 (own_apart' otW62 oiW62 (by decide) g hg))
            have otW623 : OwnT 32 W623 R (.slice a8 l8 c8) (done.map (·.2)) := otW623
            have nW623 := (k3 N (Array.getElem?_eq_some_iff.1 nW62).1 (own_ne oiW62 nW62 (by decide))).trans nW62
            have kB := (k3 gB (Array.getElem?_eq_some_iff.1 kB).1 (own_ne oiW62 kB (by decide))).trans kB
            have hbW623 := hbW62.trans b3
            have hzW623 : R ≤ W623.heap.size := Nat.le_trans hzW62 b3.size
            refine step_append_run (by rfl) (.tmp 84) (.tmp 86) 53 (by rfl) (.slice a9 l9 c9) (.slice (some ⟨gA, 0, none⟩) 1 1) v3 W623 (by rfl) (by rfl) r3 ?_
            clear r3 b3 k3 kA
            refine hK.out _ _ ⟨cell_of_row W623 _ 0 _ _ _ nW623, cell_of_row W623 _ 1 _ _ _ nW623, cell_of_row W623 _ 2 _ _ _ nW623, cell_of_row W623 _ 3 _ _ _ nW623, cell_of_row W623 _ 4 _ _ _ nW623, cell_of_row W623 _ 5 _ _ _ nW623, cell_of_row W623 _ 6 _ _ _ nW623⟩ (fun hNew => ?_)
            clear hK K hNew
            (try clear hHeld)
            have hHeld : _ ∧ _ ∧ _ ∧ _ ∧ _ ∧ _ ∧ _ := ⟨cell_of_row W623 _ 0 _ _ _ nW623, cell_of_row W623 _ 1 _ _ _ nW623, cell_of_row W623 _ 2 _ _ _ nW623, cell_of_row W623 _ 3 _ _ _ nW623, cell_of_row W623 _ 4 _ _ _ nW623, cell_of_row W623 _ 5 _ _ _ nW623, cell_of_row W623 _ 6 _ _ _ nW623⟩
            try simp only [Act.put, List.getElem_toArray, List.getElem_cons_zero, List.getElem_cons_succ, List.setIfInBounds_toArray, List.set_cons_zero, List.set_cons_succ]
            refine wpAnyH_ready (rs := [7]) (by kernel_rfl) (by simp) ?_
            refine AllReadyH.cons rfl (fun K hK => ?_) AllReadyH.nil
            obtain ⟨v7, W6237, r7, otW6237, b7, k7⟩ := otW623.appR32 (HRS.out W623 gB kB) (by rw [List.length_map]; omega) (by simp) hzW623
            have oiW6237 := Own.same oiW623 (w' := W6237) (fun g hg => k7 g (Own.lt oiW623 g hg).2 (own_apart' oiW623 otW623 (by decide) g hg))
            have nW6237 := (k7 N (Array.getElem?_eq_some_iff.1 nW623).1 HNE.out).trans nW623
            have hbW6237 := hbW623.trans b7
            have hzW6237 : R ≤ W6237.heap.size := Nat.le_trans hzW623 b7.size
            refine step_append_run (by rfl) (.tmp 88) (.tmp 90) 41 (by rfl) (.slice a8 l8 c8) (.slice (some ⟨gB, 0, none⟩) 1 1) v7 W6237 (by rfl) (by rfl) r7 ?_
            clear r7 b7 k7 kB
            refine hK.out _ _ ⟨cell_of_row W6237 _ 0 _ _ _ nW6237, cell_of_row W6237 _ 1 _ _ _ nW6237, cell_of_row W6237 _ 2 _ _ _ nW6237, cell_of_row W6237 _ 3 _ _ _ nW6237, cell_of_row W6237 _ 4 _ _ _ nW6237, cell_of_row W6237 _ 5 _ _ _ nW6237, cell_of_row W6237 _ 6 _ _ _ nW6237⟩ (fun hNew => ?_)
            clear hK K hNew
            (try clear hHeld)
            have hHeld : _ ∧ _ ∧ _ ∧ _ ∧ _ ∧ _ ∧ _ := ⟨cell_of_row W6237 _ 0 _ _ _ nW6237, cell_of_row W6237 _ 1 _ _ _ nW6237, cell_of_row W6237 _ 2 _ _ _ nW6237, cell_of_row W6237 _ 3 _ _ _ nW6237, cell_of_row W6237 _ 4 _ _ _ nW6237, cell_of_row W6237 _ 5 _ _ _ nW6237, cell_of_row W6237 _ 6 _ _ _ nW6237⟩
            try simp only [Act.put, List.getElem_toArray, List.getElem_cons_zero, List.getElem_cons_succ, List.setIfInBounds_toArray, List.set_cons_zero, List.set_cons_succ]
            have HN9 := Lib.hid nW6237
            have HB9 := Lib.hid hbW6237
            have OI9 := Lib.hid (show OwnI W6237 R v3 (done.map (·.1) ++ [1]) from oiW6237)
            have OT9 := Lib.hid otW6237
            have e2 := cell_of_row W6237 _ 2 _ _ _ nW6237
            obtain ⟨a5, l5, c5, rfl⟩ := Own.slice OI9.out
            obtain ⟨a6, l6, c6, rfl⟩ := Own.slice OT9.out
            clear hbW6237 oiW6237 otW6237 nW6237
            refine wpAnyH_take (i := 8) (v := ?_) rfl (by kernel_rfl) (by kernel_rfl) (by kernel_rfl) (fun _ _ _ h => h) (Or.inl ⟨by rfl, ?_⟩) (by assumption) ?_
            rotate_left; · (intro w hSw; (try dsimp only at hSw); go_simp; try with_reducible rfl)
            try simp only [Act.put, List.getElem_toArray, List.getElem_cons_zero, List.getElem_cons_succ, List.setIfInBounds_toArray, List.set_cons_zero, List.set_cons_succ]
            refine wpAnyH_take (i := 9) (v := ?_) rfl (by kernel_rfl) (by kernel_rfl) (by kernel_rfl) (fun _ _ _ h => h) (Or.inl ⟨by rfl, ?_⟩) (by assumption) ?_
            rotate_left; · (intro w hSw; (try dsimp only at hSw); go_simp; try with_reducible rfl)
            try simp only [Act.put, List.getElem_toArray, List.getElem_cons_zero, List.getElem_cons_succ, List.setIfInBounds_toArray, List.set_cons_zero, List.set_cons_succ]
            refine wpAnyH_done (by kernel_rfl) ?_ _
            clear hHeld
            go_wp2
            go_roundw
            case rel => exact ⟨xs, ys1, left - tsz, done ++ [(1, ⟨tst, tix, tsz, tsp, tnum, tden, tday⟩)], rfl, ⟨by omega, by omega⟩, HDN.out, by have := HLEN.out; simp at this ⊢; omega, HKX.out, HKT.out, HRX.out, HRD.out, HB9.out, by rw [List.map_append]; exact OI9.out, by rw [List.map_append]; exact OT9.out⟩
            case measure => simp [lenV]; try omega
        · have q1 : decide (tsz ≤ left) = false := decide_eq_false hle
          have HDN := Lib.hid (show D = done ++ takP (mrgP xs ys1) left by have := HDR.out; rw [HM.out, takP, if_neg hle] at this; exact this)
          clear hle HDR
          go_wp2
          go_roundw
          case rel => exact ⟨xs, ys1, left, done, rfl, ⟨h0l, hlb⟩, HDN.out, by have := HLEN.out; simp at this ⊢; omega, HKX.out, HKT.out, HRX.out, HRD.out, HB6.out, OI6.out, OT6.out⟩
          case measure => simp [lenV]; try omega

end Go.Proofs.Ytcgilfnhbliadaa
