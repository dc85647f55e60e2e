/- Law Greedy, walked. -/
import Derived.Test.YtapjgjjmlbhanaaN5
import Derived.Test.YtapjgjjmlbhanaaK2
import Derived.Test.YtapjgjjmlbhanaaB7
namespace Go.Proofs.Ytapjgjjmlbhanaa
open Go.RowKit Go.Lib
set_option linter.unusedSimpArgs false

def slR (k : Nat) : Nat := 66 + k
theorem slR_inj : ∀ a b, slR a = slR b → a = b := by
  intro a b h
  unfold slR at h
  omega
def pfR (mv lv dv : Value) (n d s1 s2 : Int) (k : Nat) (v : Value) : Prop :=
  match k with
  | 0 => v = .int .i64 0
  | 1 => v = .bool false
  | 2 => v = .bool false
  | 3 => v = .int .i64 n
  | 4 => v = mv
  | 5 => v = lv
  | 6 => v = dv
  | 7 => v = .int .i64 s1
  | 8 => v = mv
  | 9 => v = lv
  | 11 => v = dv
  | 13 => v = .int .i64 d
  | 16 => v = .int .i64 s2
  | 17 => v = .int .i64 (s1 - s2)
  | 18 => v = .bool false
  | 19 => v = .bool false
  | _ => True

set_option maxRecDepth 100000 in
set_option maxHeartbeats 16000000 in
theorem lawGreedy_any (g : Gl) (v dv : Value) (d : Int) (hs : List Hd) (devs : List Int) (w : World) (hg : GlAt w g) (hv : ReadsH w v hs) (hd : ReadsI w dv devs) :
    Calls Try.prog 7 #[g.v, v, dv, .int .i64 d] w fun e w' => e = .returned (.bool true) ∧ Below w.heap.size w w' := by
  have c12 := few_any g v hs
  have c31 := gain_ok g v dv d hs devs
  have c31b := gain_bad g v dv d hs
  have c23 := greedy_two g v hs
  have c23b := greedy_bad g v hs
  have c15 := goalOf_any g
  have c16 := holdingsOf_any v hs
  obtain ⟨na, n1, nc, pa, n2, pc, sa, n3, sc, e1⟩ := hg.val
  obtain ⟨ao, n4, c4, rfl⟩ := hv.val
  obtain ⟨dao, dc, db, doff, rfl, hdl, hdm, hdcell⟩ := hd.at
  rw [e1] at c12 c31 c31b c23 c23b c15 ⊢
  have HG := Lib.hid hg
  have HV := Lib.hid hv
  have HD := Lib.hid hd
  have C12 := Lib.hid c12
  have C31 := Lib.hid c31
  have C31b := Lib.hid c31b
  have C23 := Lib.hid c23
  have C23b := Lib.hid c23b
  have C15 := Lib.hid c15
  have C16 := Lib.hid c16
  have AW := Lib.hid awake_any
  clear hg hv hd hdcell c12 c31 c31b c23 c23b c15 c16 e1
  have b0 : Below w.heap.size w (w.alloc (.cells #[.slice na n1 nc, .int .i64 g.thr, .bool g.idx, .slice pa n2 pc, .slice sa n3 sc] 26)) := (Below.refl _ _).alloc (Nat.le_refl _) _
  have g0 := heap_alloc_last w (.cells #[.slice na n1 nc, .int .i64 g.thr, .bool g.idx, .slice pa n2 pc, .slice sa n3 sc] 26)
  obtain ⟨G, hG⟩ : ∃ G, G = w.heap.size := ⟨_, rfl⟩
  have HGG := Lib.hid hG
  rw [← hG] at g0
  have G0 := Lib.hid g0
  clear g0 hG
  go_enter Try.func7, Try.ntmps7
  go_upto_region 1 with fail
  rw [← HGG.out]
  generalize w.alloc (Obj.cells #[.slice na n1 nc, .int .i64 g.thr, .bool g.idx, .slice pa n2 pc, .slice sa n3 sc] 26) = W at b0 G0 ⊢
  have a0 := cell_of_row _ _ 0 _ _ _ G0.out
  have a1 := cell_of_row _ _ 1 _ _ _ G0.out
  have a2 := cell_of_row _ _ 2 _ _ _ G0.out
  have a3 := cell_of_row _ _ 3 _ _ _ G0.out
  have a4 := cell_of_row _ _ 4 _ _ _ G0.out
  go_wp2_with fail
  refine (C12.out W (HG.out.below b0) (HV.out.below b0)).mono ?_
  rintro e w1 ⟨rfl, hb1⟩
  have b1 := b0.trans (hb1.mono b0.size)
  have G1 := Lib.hid ((hb1.block G (Array.getElem?_eq_some_iff.1 G0.out).1).trans G0.out)
  clear a0 a1 a2 a3 a4 G0 hb1 b0
  have z1 := b1.size
  by_cases hfew : fewB g hs = false
  · rw [hfew]
    go_wp2_with fail
    refine (AW.out _).mono ?_
    rintro e w2 ⟨rfl, hba⟩
    go_wp2
    go_ret
    exact ⟨rfl, b1.trans (hba.mono z1)⟩
  have hfew1 : fewB g hs = true := by simpa using hfew
  have hparts := few_parts hfew1
  rw [hfew1]
  have HPT := Lib.hid hparts
  clear hfew hfew1 hparts
  by_cases hl1 : 20 < devs.length
  · have k1 : decide ((devs.length : Int) > 20) = true := by simp; omega
    go_wp2_with fail
    refine (AW.out _).mono ?_
    rintro e w2 ⟨rfl, hba⟩
    go_wp2
    go_ret
    exact ⟨rfl, b1.trans (hba.mono z1)⟩
  have k1 : decide ((devs.length : Int) > 20) = false := by simp; omega
  have a0 := cell_of_row _ _ 0 _ _ _ G1.out
  have a1 := cell_of_row _ _ 1 _ _ _ G1.out
  have a2 := cell_of_row _ _ 2 _ _ _ G1.out
  have a3 := cell_of_row _ _ 3 _ _ _ G1.out
  have a4 := cell_of_row _ _ 4 _ _ _ G1.out
  by_cases hok : Ok g hs
  · have CB := Lib.hid (C31.out w1 (HG.out.below b1) (HV.out.below b1) (HD.out.below b1) hok)
    have HOK := Lib.hid hok
    clear hok
    go_wp2_with fail
    refine CB.out.mono ?_
    rintro e w2 ⟨rfl, hb2⟩
    have b2 := b1.trans (hb2.mono b1.size)
    have G2 := Lib.hid ((hb2.block G (Array.getElem?_eq_some_iff.1 G1.out).1).trans G1.out)
    have CB2 := Lib.hid (C23.out w2 (HG.out.below b2) (HV.out.below b2) HOK.out)
    clear a0 a1 a2 a3 a4 hb2 CB
    have a0 := cell_of_row _ _ 0 _ _ _ G2.out
    have a1 := cell_of_row _ _ 1 _ _ _ G2.out
    have a2 := cell_of_row _ _ 2 _ _ _ G2.out
    have a3 := cell_of_row _ _ 3 _ _ _ G2.out
    have a4 := cell_of_row _ _ 4 _ _ _ G2.out
    go_wp2_with fail
    refine CB2.out.mono ?_
    rintro e w3 ⟨L, av, out, hp, hsd, rfl, hav, hol, hcase, hb3⟩
    obtain ⟨oa, oc, _, _, rfl, _, _, _⟩ := hav.at
    have HP := Lib.hid hp
    have HSD := Lib.hid hsd
    have HCASE := Lib.hid hcase
    have HAV := Lib.hid hav
    have b3 := b2.trans (hb3.mono b2.size)
    have G3 := Lib.hid ((hb3.block G (Array.getElem?_eq_some_iff.1 G2.out).1).trans G2.out)
    have HB3 := Lib.hid hb3
    clear a0 a1 a2 a3 a4 CB2 hp hsd hcase hav
    have a0 := cell_of_row _ _ 0 _ _ _ G3.out
    have a1 := cell_of_row _ _ 1 _ _ _ G3.out
    have a2 := cell_of_row _ _ 2 _ _ _ G3.out
    have a3 := cell_of_row _ _ 3 _ _ _ G3.out
    have a4 := cell_of_row _ _ 4 _ _ _ G3.out
    generalize hfe : sufE g hs = fe at *
    have HFE := Lib.hid hfe
    clear hfe
    generalize hnn : sumR g hs devs - sumR g hs (devs ++ [d]) = n at *
    have HNN := Lib.hid hnn
    clear hnn
    have CG := Lib.hid (C15.out w3 (HG.out.below b3) (by have := HPT.out.2.1; omega))
    go_wp2_with fail
    refine CG.out.mono ?_
    rintro e wa ⟨u, rfl, hga, hba⟩
    have ba := b3.trans (hba.mono b3.size)
    have Ga := Lib.hid ((hba.block G (Array.getElem?_eq_some_iff.1 G3.out).1).trans G3.out)
    have CH := Lib.hid (C16.out wa (HV.out.below ba) (by have := HPT.out.2.2.2.2; omega))
    obtain ⟨ua, un, uc, vpa, vpn, vpc, vsa, vsn, vsc, eu⟩ := hga.val
    have HGa := Lib.hid hga
    have EU := Lib.hid eu
    rw [eu]
    clear a0 a1 a2 a3 a4 hga CG eu
    simp only at EU ⊢
    go_wp2_with fail
    refine CH.out.mono ?_
    rintro e wb ⟨lu, rfl, hlb, hbb⟩
    obtain ⟨lao, lln, lc, rfl⟩ := hlb.val
    have bb := ba.trans (hbb.mono ba.size)
    have gb := HGa.out.below hbb
    have bM : Below wb.heap.size wb (wb.alloc (.cells #[.slice ua un uc, .int .i64 g.thr, .bool g.idx, .slice vpa vpn vpc, .slice vsa vsn vsc] 37)) := (Below.refl _ _).alloc (Nat.le_refl _) _
    have aM := heap_alloc_last wb (.cells #[.slice ua un uc, .int .i64 g.thr, .bool g.idx, .slice vpa vpn vpc, .slice vsa vsn vsc] 37)
    obtain ⟨M, hM⟩ : ∃ M, M = wb.heap.size := ⟨_, rfl⟩
    have HM := Lib.hid hM
    rw [← hM] at aM
    have g5 := gb.below bM
    have l5 := hlb.below bM
    have b5 := bb.trans (bM.mono bb.size)
    have bi5 : Below w3.heap.size w3 (wb.alloc (.cells #[.slice ua un uc, .int .i64 g.thr, .bool g.idx, .slice vpa vpn vpc, .slice vsa vsn vsc] 37)) := (hba.trans (hbb.mono hba.size)).alloc (hba.trans (hbb.mono hba.size)).size _
    have C17 := refCheck_any _ _ hs _ g5 l5
    rw [EU.out] at C17
    have C17 := Lib.hid C17
    have G5 := Lib.hid ((bi5.block G (Array.getElem?_eq_some_iff.1 G3.out).1).trans G3.out)
    have AM := Lib.hid aM
    have GG5 := Lib.hid g5
    have L5 := Lib.hid l5
    clear hM aM g5 l5 bM gb hlb hbb hba ba bb CH HGa Ga
    go_upto_region 6 with fail
    rw [← HM.out]
    generalize wb.alloc (.cells #[.slice ua un uc, .int .i64 g.thr, .bool g.idx, .slice vpa vpn vpc, .slice vsa vsn vsc] 37) = W5 at AM GG5 L5 b5 bi5 C17 G5 ⊢
    have m0 := cell_of_row _ _ 0 _ _ _ AM.out
    have m1 := cell_of_row _ _ 1 _ _ _ AM.out
    have m2 := cell_of_row _ _ 2 _ _ _ AM.out
    have m3 := cell_of_row _ _ 3 _ _ _ AM.out
    have m4 := cell_of_row _ _ 4 _ _ _ AM.out
    have HAV5 := Lib.hid (HAV.out.below bi5)
    have c17 := C17.out
    rw [show decide (Ok { g with nv := u } hs) = true from decide_eq_true HOK.out] at c17
    have C17' := Lib.hid c17
    clear c17 C17
    go_wp2_with fail
    refine C17'.out.mono ?_
    rintro e w6 ⟨rfl, hb6⟩
    have b6 := b5.trans (hb6.mono b5.size)
    have G6 := Lib.hid ((hb6.block G (Array.getElem?_eq_some_iff.1 G5.out).1).trans G5.out)
    have GG6 := Lib.hid (GG5.out.below hb6)
    have L6 := Lib.hid (L5.out.below hb6)
    have M6 := Lib.hid ((hb6.block M (Array.getElem?_eq_some_iff.1 AM.out).1).trans AM.out)
    have HAV6 := Lib.hid (HAV5.out.below hb6)
    clear m0 m1 m2 m3 m4 AM GG5 L5 hb6 C17' bi5 b5
    have c32 := fun (u2 : Value) (W : World) (ds : List Int) (h : Below w6.heap.size w6 W) (hr : ReadsI W u2 ds) => sum_ref { g with nv := u } _ u2 hs ds W (GG6.out.below h) (L6.out.below h) hr (show Ok { g with nv := u } hs from HOK.out)
    have c27 := fun (W : World) (h : Below w6.heap.size w6 W) => sufE_any { g with nv := u } _ hs W (GG6.out.below h) (L6.out.below h)
    have c33 := fun (W : World) (h : Below w6.heap.size w6 W) (hall : sufB g L (2 ^ L.length - 1) = true) => greedy_ref { g with nv := u } _ hs L W (GG6.out.below h) (L6.out.below h) (show Ok { g with nv := u } hs from HOK.out) HP.out HSD.out (show sufB { g with nv := u } L (2 ^ L.length - 1) = true from hall)
    have hs1 : ∀ ds, sumR { g with nv := u } hs ds = sumR g hs ds := fun _ => rfl
    have hs2 : sufE { g with nv := u } hs = fe := HFE.out
    have hs3 : greedyL { g with nv := u } L = greedyL g L := greedyL_nv g u L
    simp only [EU.out, hs1] at c32
    simp only [EU.out, hs2] at c27
    simp only [EU.out, hs3] at c33
    have C32 := Lib.hid c32
    have C27 := Lib.hid c27
    have C33 := Lib.hid c33
    have z6 := b6.size
    clear hs1 hs2 hs3 c32 c27 c33
    have m0 := cell_of_row _ _ 0 _ _ _ M6.out
    have m1 := cell_of_row _ _ 1 _ _ _ M6.out
    have m2 := cell_of_row _ _ 2 _ _ _ M6.out
    have m3 := cell_of_row _ _ 3 _ _ _ M6.out
    have m4 := cell_of_row _ _ 4 _ _ _ M6.out
    go_wp2_with fail
    obtain ⟨W0, hW0⟩ : ∃ W0, W0 = w6.drew := ⟨_, rfl⟩
    have hbd : Below w6.heap.size w6 W0 := by rw [hW0]; exact (Below.refl _ _).drew
    have hd0 := HD.out.below (b6.trans (hbd.mono z6))
    have HD0 := Lib.hid hd0
    have hm0 := (hbd.block M (Array.getElem?_eq_some_iff.1 M6.out).1).trans M6.out
    clear m0 m1 m2 m3 m4 hd0
    have m0 := cell_of_row _ M 0 _ _ _ hm0
    have m1 := cell_of_row _ M 1 _ _ _ hm0
    have m2 := cell_of_row _ M 2 _ _ _ hm0
    have m3 := cell_of_row _ M 3 _ _ _ hm0
    have m4 := cell_of_row _ M 4 _ _ _ hm0
    simp only [List.getElem?_toArray, List.getElem?_cons_zero, List.getElem?_cons_succ] at m0 m1 m2 m3 m4
    have CELLS := Lib.hid (And.intro m0 (And.intro m1 (And.intro m2 (And.intro m3 m4))))
    clear m0 m1 m2 m3 m4 hm0
    have hnd : decide (n = sumR g hs devs - sumR g hs (devs ++ [d])) = true := decide_eq_true HNN.out.symm
    have hnn2 : (n != sumR g hs devs - sumR g hs (devs ++ [d])) = false := by rw [HNN.out]; simp
    have HN2 := Lib.hid hnn2
    clear hnd hnn2
    refine wp_region_inv (by kernel_rfl) (fun l a w' => ∃ x : Nat → Value, a = ⟨#[Value.agg #[Value.slice na n1 nc, Value.int .i64 g.thr, Value.bool g.idx, Value.slice pa n2 pc, Value.slice sa n3 sc], Value.slice ao n4 c4, Value.slice dao devs.length dc, Value.int .i64 d, Value.pointer (some ⟨G, 0, none⟩), undef, undef, undef, Value.bool false, Value.int .i64 n, Value.int .i64 0, Value.slice oa out.length oc, Value.int .i64 fe, Value.pointer (some ⟨M, 0, none⟩), Value.slice lao lln lc, undef, Value.agg #[Value.slice na n1 nc, Value.int .i64 g.thr, Value.bool g.idx, Value.slice pa n2 pc, Value.slice sa n3 sc], Value.slice ao n4 c4, Value.bool true, Value.bool false, Value.bool false, Value.slice dao devs.length dc, Value.int .i64 devs.length, Value.bool false, Value.bool false, undef, Value.tuple #[Value.int .i64 n, Value.int .i64 0], Value.agg #[Value.slice na n1 nc, Value.int .i64 g.thr, Value.bool g.idx, Value.slice pa n2 pc, Value.slice sa n3 sc], Value.slice ao n4 c4, Value.slice dao devs.length dc, Value.int .i64 d, Value.tuple #[Value.int .i64 n, Value.int .i64 0], Value.int .i64 n, Value.int .i64 0, Value.tuple #[Value.slice oa out.length oc, Value.int .i64 fe], Value.agg #[Value.slice na n1 nc, Value.int .i64 g.thr, Value.bool g.idx, Value.slice pa n2 pc, Value.slice sa n3 sc], Value.slice ao n4 c4, Value.tuple #[Value.slice oa out.length oc, Value.int .i64 fe], Value.slice oa out.length oc, Value.int .i64 fe, Value.agg #[Value.slice na n1 nc, Value.int .i64 g.thr, Value.bool g.idx, Value.slice pa n2 pc, Value.slice sa n3 sc], Value.agg #[Value.slice ua un uc, Value.int .i64 g.thr, Value.bool g.idx, Value.slice vpa vpn vpc, Value.slice vsa vsn vsc], Value.slice ao n4 c4, Value.slice lao lln lc, Value.agg #[Value.slice ua un uc, Value.int .i64 g.thr, Value.bool g.idx, Value.slice vpa vpn vpc, Value.slice vsa vsn vsc], Value.slice lao lln lc, Value.bool true, Value.bool false, undef, undef, undef, undef, undef, undef, undef, undef, undef, undef, undef, undef, undef, undef, undef, undef, undef, undef, x 66, x 67, x 68, x 69, x 70, x 71, x 72, x 73, x 74, x 75, x 76, x 77, x 78, x 79, x 80, x 81, x 82, x 83, x 84, x 85, undef, undef, undef, undef, undef, undef, undef, undef, undef, undef, undef, undef, undef, undef, undef, undef, undef, undef, undef, undef, undef, undef, undef, undef, undef, undef, undef, undef], []⟩ ∧ InvS W0 devs d 10 12 14 15 slR (pfR (Value.agg #[.slice ua un uc, .int .i64 g.thr, .bool g.idx, .slice vpa vpn vpc, .slice vsa vsn vsc]) (Value.slice lao lln lc) (Value.slice dao devs.length dc) n d (sumR g hs devs) (sumR g hs (devs ++ [d]))) l x w') ⟨fun _ => undef, rfl, by rw [← hW0]; exact InvS.start _ _ _ _ _ _ _ _ _ _⟩ ?_ ?_
    · rintro l a w' hl0 ⟨x, rfl, h⟩ k hk
      obtain ⟨hlt0, hdep⟩ := ready_dep hk
      have hnot := ready_not hl0 hk
      have hlt : k < 20 := hlt0
      have hl : l.size = 20 := hl0
      have hbw := h.app.below
      have hwz := hbw.size
      obtain ⟨q0, q1, q2, q3, q4⟩ := CELLS.out
      have q0 := (hbw.cell (cell_lt q0)).trans q0
      have q1 := (hbw.cell (cell_lt q1)).trans q1
      have q2 := (hbw.cell (cell_lt q2)).trans q2
      have q3 := (hbw.cell (cell_lt q3)).trans q3
      have q4 := (hbw.cell (cell_lt q4)).trans q4
      clear hk hl0 hlt0
      rcases (show k = 0 ∨ k = 1 ∨ k = 2 ∨ k = 3 ∨ k = 4 ∨ k = 5 ∨ k = 6 ∨ k = 7 ∨ k = 8 ∨ k = 9 ∨ k = 10 ∨ k = 11 ∨ k = 12 ∨ k = 13 ∨ k = 14 ∨ k = 15 ∨ k = 16 ∨ k = 17 ∨ k = 18 ∨ k = 19 by omega) with rfl | rfl | rfl | rfl | rfl | rfl | rfl | rfl | rfl | rfl | rfl | rfl | rfl | rfl | rfl | rfl | rfl | rfl | rfl | rfl
      · clear hlt
        clear hdep
        refine wpOp_go rfl (fun K' hK => ?_)
        go_simp
        exact hK.out _ _ ⟨_, by simp [updV, slR], h.put slR_inj 0 (by omega) _ (Below.refl _ _) (rfl)⟩
      · clear hlt
        have d0 : x 66 = .int .i64 0 := h.pure 0 (hdep _ rfl ⟨0, .data⟩ (by simp) rfl)
        clear hdep
        refine wpOp_go rfl (fun K' hK => ?_)
        simp only [d0]
        go_simp
        exact hK.out _ _ ⟨_, by simp [updV, slR, d0], h.put slR_inj 1 (by omega) _ (Below.refl _ _) (rfl)⟩
      · clear hlt
        have d1 : x 67 = .bool false := h.pure 1 (hdep _ rfl ⟨1, .data⟩ (by simp) rfl)
        clear hdep
        refine wpOp_go rfl (fun K' hK => ?_)
        simp only [d1]
        go_simp
        exact hK.out _ _ ⟨_, by simp [updV, slR, d1], h.put slR_inj 2 (by omega) _ (Below.refl _ _) (rfl)⟩
      · clear hlt
        have d2 : x 68 = .bool false := h.pure 2 (hdep _ rfl ⟨2, .guard⟩ (by simp) rfl)
        clear hdep
        refine wpOp_go rfl (fun K' hK => ?_)
        simp only [d2]
        go_simp
        exact hK.out _ _ ⟨_, by simp [updV, slR, d2], h.put slR_inj 3 (by omega) _ (Below.refl _ _) (rfl)⟩
      · clear hlt
        have d2 : x 68 = .bool false := h.pure 2 (hdep _ rfl ⟨2, .guard⟩ (by simp) rfl)
        clear hdep
        refine wpOp_go rfl (fun K' hK => ?_)
        simp only [d2]
        go_simp
        exact hK.out _ _ ⟨_, by simp [updV, slR, d2], h.put slR_inj 4 (by omega) _ (Below.refl _ _) (rfl)⟩
      · clear hlt
        have d2 : x 68 = .bool false := h.pure 2 (hdep _ rfl ⟨2, .guard⟩ (by simp) rfl)
        clear hdep
        refine wpOp_go rfl (fun K' hK => ?_)
        simp only [d2]
        go_simp
        exact hK.out _ _ ⟨_, by simp [updV, slR, d2], h.put slR_inj 5 (by omega) _ (Below.refl _ _) (rfl)⟩
      · clear hlt
        have d2 : x 68 = .bool false := h.pure 2 (hdep _ rfl ⟨2, .guard⟩ (by simp) rfl)
        clear hdep
        refine wpOp_go rfl (fun K' hK => ?_)
        simp only [d2]
        go_simp
        exact hK.out _ _ ⟨_, by simp [updV, slR, d2], h.put slR_inj 6 (by omega) _ (Below.refl _ _) (rfl)⟩
      · clear hlt
        have d2 : x 68 = .bool false := h.pure 2 (hdep _ rfl ⟨2, .guard⟩ (by simp) rfl)
        have d4 : x 70 = Value.agg #[.slice ua un uc, .int .i64 g.thr, .bool g.idx, .slice vpa vpn vpc, .slice vsa vsn vsc] := h.pure 4 (hdep _ rfl ⟨4, .data⟩ (by simp) rfl)
        have d5 : x 71 = Value.slice lao lln lc := h.pure 5 (hdep _ rfl ⟨5, .data⟩ (by simp) rfl)
        have d6 : x 72 = Value.slice dao devs.length dc := h.pure 6 (hdep _ rfl ⟨6, .data⟩ (by simp) rfl)
        clear hdep
        have HRD := Lib.hid (HD0.out.below hbw)
        have B7 := Lib.hid (hbd.trans (hbw.mono hbd.size))
        refine wpOp_go rfl (fun K' hK => ?_)
        simp only [d2, d4, d5, d6]
        go_simp
        go_at_call 32
        refine (C32.out _ _ _ B7.out HRD.out).mono ?_
        rintro e w9 ⟨rfl, hb9⟩
        go_wp2_with fail
        exact hK.out _ _ ⟨_, by simp [updV, slR, d2, d4, d5, d6], h.put slR_inj 7 (by omega) _ hb9 rfl⟩
      · clear hlt
        have d2 : x 68 = .bool false := h.pure 2 (hdep _ rfl ⟨2, .guard⟩ (by simp) rfl)
        clear hdep
        refine wpOp_go rfl (fun K' hK => ?_)
        simp only [d2]
        go_simp
        exact hK.out _ _ ⟨_, by simp [updV, slR, d2], h.put slR_inj 8 (by omega) _ (Below.refl _ _) (rfl)⟩
      · clear hlt
        have d2 : x 68 = .bool false := h.pure 2 (hdep _ rfl ⟨2, .guard⟩ (by simp) rfl)
        clear hdep
        refine wpOp_go rfl (fun K' hK => ?_)
        simp only [d2]
        go_simp
        exact hK.out _ _ ⟨_, by simp [updV, slR, d2], h.put slR_inj 9 (by omega) _ (Below.refl _ _) (rfl)⟩
      · clear hlt
        have d2 : x 68 = .bool false := h.pure 2 (hdep _ rfl ⟨2, .guard⟩ (by simp) rfl)
        clear hdep
        refine wpOp_go rfl (fun K' hK => ?_)
        simp only [d2]
        go_simp
        exact hK.out _ _ ⟨_, by simp [updV, slR, d2], h.build0 slR_inj (by omega) (by omega) hnot (fun _ => trivial)⟩
      · clear hlt
        have d2 : x 68 = .bool false := h.pure 2 (hdep _ rfl ⟨2, .guard⟩ (by simp) rfl)
        clear hdep
        refine wpOp_go rfl (fun K' hK => ?_)
        simp only [d2]
        go_simp
        exact hK.out _ _ ⟨_, by simp [updV, slR, d2], h.put slR_inj 11 (by omega) _ (Below.refl _ _) (rfl)⟩
      · clear hlt
        have d2 : x 68 = .bool false := h.pure 2 (hdep _ rfl ⟨2, .guard⟩ (by simp) rfl)
        have d10 := hdep _ rfl ⟨10, .data⟩ (by simp) rfl
        have d11 : x 77 = Value.slice dao devs.length dc := h.pure 11 (hdep _ rfl ⟨11, .data⟩ (by simp) rfl)
        clear hdep
        obtain ⟨v', w9, r, h'⟩ := h.app1 slR_inj (by omega) (by omega) d10 hnot (fun _ => trivial) HD0.out (by omega)
        refine wpOp_go rfl (fun K' hK => ?_)
        simp only [d2, d11]
        refine (if_pos rfl).mpr ?_
        refine wp_app (.tmp 76) (.tmp 77) 24 rfl _ _ v' w9 rfl rfl r ?_
        exact hK.out _ _ ⟨_, by simp [Act.put, updV, slR, d2, d11], h'⟩
      · clear hlt
        have d2 : x 68 = .bool false := h.pure 2 (hdep _ rfl ⟨2, .guard⟩ (by simp) rfl)
        clear hdep
        refine wpOp_go rfl (fun K' hK => ?_)
        simp only [d2]
        go_simp
        exact hK.out _ _ ⟨_, by simp [updV, slR, d2], h.put slR_inj 13 (by omega) _ (Below.refl _ _) (rfl)⟩
      · clear hlt
        have d2 : x 68 = .bool false := h.pure 2 (hdep _ rfl ⟨2, .guard⟩ (by simp) rfl)
        have d13 : x 79 = .int .i64 d := h.pure 13 (hdep _ rfl ⟨13, .data⟩ (by simp) rfl)
        clear hdep
        refine wpOp_go rfl (fun K' hK => ?_)
        simp only [d2, d13]
        go_simp
        exact hK.out _ _ ⟨_, by simp [updV, slR, d2, d13], h.build1 slR_inj (by omega) (by omega) hnot (fun _ => trivial)⟩
      · clear hlt
        have d2 : x 68 = .bool false := h.pure 2 (hdep _ rfl ⟨2, .guard⟩ (by simp) rfl)
        have d12 := hdep _ rfl ⟨12, .data⟩ (by simp) rfl
        have d14 := hdep _ rfl ⟨14, .data⟩ (by simp) rfl
        clear hdep
        obtain ⟨v', w9, r, h'⟩ := h.app2 slR_inj (by omega) (by omega) d12 d14 hnot (fun _ => trivial) (by omega)
        refine wpOp_go rfl (fun K' hK => ?_)
        simp only [d2]
        refine (if_pos rfl).mpr ?_
        refine wp_app (.tmp 78) (.tmp 80) 24 rfl _ _ v' w9 rfl rfl r ?_
        exact hK.out _ _ ⟨_, by simp [Act.put, updV, slR, d2], h'⟩
      · clear hlt
        have d2 : x 68 = .bool false := h.pure 2 (hdep _ rfl ⟨2, .guard⟩ (by simp) rfl)
        have d8 : x 74 = Value.agg #[.slice ua un uc, .int .i64 g.thr, .bool g.idx, .slice vpa vpn vpc, .slice vsa vsn vsc] := h.pure 8 (hdep _ rfl ⟨8, .data⟩ (by simp) rfl)
        have d9 : x 75 = Value.slice lao lln lc := h.pure 9 (hdep _ rfl ⟨9, .data⟩ (by simp) rfl)
        have d15 := hdep _ rfl ⟨15, .data⟩ (by simp) rfl
        clear hdep
        have HRD := Lib.hid ((h.app.f10 d15).reads (by rw [List.length_append, List.length_singleton]; omega))
        have B7 := Lib.hid (hbd.trans (hbw.mono hbd.size))
        refine wpOp_go rfl (fun K' hK => ?_)
        simp only [d2, d8, d9]
        go_simp
        go_at_call 32
        refine (C32.out _ _ _ B7.out HRD.out).mono ?_
        rintro e w9 ⟨rfl, hb9⟩
        go_wp2_with fail
        exact hK.out _ _ ⟨_, by simp [updV, slR, d2, d8, d9], h.put slR_inj 16 (by omega) _ hb9 rfl⟩
      · clear hlt
        have d2 : x 68 = .bool false := h.pure 2 (hdep _ rfl ⟨2, .guard⟩ (by simp) rfl)
        have d7 : x 73 = .int .i64 (sumR g hs devs) := h.pure 7 (hdep _ rfl ⟨7, .data⟩ (by simp) rfl)
        have d16 : x 82 = .int .i64 (sumR g hs (devs ++ [d])) := h.pure 16 (hdep _ rfl ⟨16, .data⟩ (by simp) rfl)
        clear hdep
        have k8 := sumR_bd HOK.out devs
        have k9 := sumR_bd HOK.out (devs ++ [d])
        have k10 := sumR_anti HOK.out (devs := devs) (es := devs ++ [d]) (fun x hx => List.mem_append_left _ hx)
        refine wpOp_go rfl (fun K' hK => ?_)
        simp only [d2, d7, d16]
        go_simp
        have hwr := wraps_i64 (sumR g hs devs - sumR g hs (devs ++ [d])) (by omega) (by omega)
        try simp only [hwr]
        exact hK.out _ _ ⟨_, by simp [updV, slR, d2, d7, d16, hwr], h.put slR_inj 17 (by omega) _ (Below.refl _ _) rfl⟩
      · clear hlt
        have d2 : x 68 = .bool false := h.pure 2 (hdep _ rfl ⟨2, .guard⟩ (by simp) rfl)
        have d3 : x 69 = .int .i64 n := h.pure 3 (hdep _ rfl ⟨3, .data⟩ (by simp) rfl)
        have d17 : x 83 = .int .i64 (sumR g hs devs - sumR g hs (devs ++ [d])) := h.pure 17 (hdep _ rfl ⟨17, .data⟩ (by simp) rfl)
        clear hdep
        have k9 := HN2.out
        refine wpOp_go rfl (fun K' hK => ?_)
        simp only [d2, d3, d17]
        go_simp
        exact hK.out _ _ ⟨_, by simp [updV, slR, d2, d3, d17], h.put slR_inj 18 (by omega) _ (Below.refl _ _) rfl⟩
      · clear hlt
        have d2 : x 68 = .bool false := h.pure 2 (hdep _ rfl ⟨2, .data⟩ (by simp) rfl)
        have d18 : x 84 = .bool false := h.pure 18 (hdep _ rfl ⟨18, .data⟩ (by simp) rfl)
        clear hdep
        refine wpOp_go rfl (fun K' hK => ?_)
        simp only [d2, d18]
        go_simp
        exact hK.out _ _ ⟨_, by simp [updV, slR, d2, d18], h.put slR_inj 19 (by omega) _ (Below.refl _ _) (rfl)⟩
    · rintro l a w' hl0 ⟨x, rfl, h⟩ hr
      have dn : ∀ k, k < 20 → l.getD k false = true := all_listed hl0 (by decide +kernel) hr
      have d19 : x 85 = .bool false := h.pure 19 (dn 19 (by omega))
      have hbw := h.app.below
      have B7 := hbd.trans (hbw.mono hbd.size)
      have b7 := b6.trans (B7.mono z6)
      have z7 := B7.size
      have M7 := Lib.hid ((B7.block M (Array.getElem?_eq_some_iff.1 M6.out).1).trans M6.out)
      have HAV7 := Lib.hid (HAV6.out.below B7)
      have C27' := Lib.hid (C27.out w' B7)
      clear dn hr h hl0 CELLS hbw
      simp only [d19]
      clear d19
      have m0 := cell_of_row _ _ 0 _ _ _ M7.out
      have m1 := cell_of_row _ _ 1 _ _ _ M7.out
      have m2 := cell_of_row _ _ 2 _ _ _ M7.out
      have m3 := cell_of_row _ _ 3 _ _ _ M7.out
      have m4 := cell_of_row _ _ 4 _ _ _ M7.out
      go_wp2_with fail
      refine C27'.out.mono ?_
      rintro e w8 ⟨rfl, hb8⟩
      clear m0 m1 m2 m3 m4
      have B8 := B7.trans (hb8.mono z7)
      have b8 := b6.trans (B8.mono z6)
      have HAV8 := Lib.hid (HAV7.out.below hb8)
      have M8 := Lib.hid ((hb8.block M (Array.getElem?_eq_some_iff.1 M7.out).1).trans M7.out)
      clear hb8 C27'
      rcases HCASE.out with ⟨rfl, rfl⟩ | ⟨rfl, hall, ho⟩
      · go_wp2_with fail
        refine (AW.out _).mono ?_
        rintro e w9 ⟨rfl, hb9⟩
        have bfin := b8.trans (hb9.mono b8.size)
        go_wp2
        go_ret
        exact ⟨rfl, bfin⟩
      · subst ho
        have HALL := Lib.hid hall
        clear hall
        go_wp2_with fail
        refine (AW.out _).mono ?_
        rintro e w9 ⟨rfl, hb9⟩
        have B9 := B8.trans (hb9.mono B8.size)
        have M9 := Lib.hid ((hb9.block M (Array.getElem?_eq_some_iff.1 M8.out).1).trans M8.out)
        have HAV9 := Lib.hid (HAV8.out.below hb9)
        clear hb9
        have m0 := cell_of_row _ _ 0 _ _ _ M9.out
        have m1 := cell_of_row _ _ 1 _ _ _ M9.out
        have m2 := cell_of_row _ _ 2 _ _ _ M9.out
        have m3 := cell_of_row _ _ 3 _ _ _ M9.out
        have m4 := cell_of_row _ _ 4 _ _ _ M9.out
        go_wp2_with fail
        refine (C33.out w9 B9 HALL.out).mono ?_
        rintro e w10 ⟨u10, rfl, hr10, hb10⟩
        have hi := ints_any _ u10 (greedyL g L) (greedyL g L) w10 (HAV9.out.below hb10) hr10
        rw [decide_eq_true rfl] at hi
        have HI := Lib.hid hi
        have b10 := b6.trans ((B9.trans (hb10.mono B9.size)).mono z6)
        obtain ⟨qa, qc, _, _, rfl, _⟩ := hr10.at
        clear hr10 hi hb10 m0 m1 m2 m3 m4
        go_wp2_with fail
        refine HI.out.mono ?_
        rintro e w11 ⟨rfl, q, rfl⟩
        go_wp2
        go_ret
        exact ⟨rfl, below_drewN b10 _⟩
  · have CB := Lib.hid (C31b.out w1 (HG.out.below b1) (HV.out.below b1) hok)
    have HNOK := Lib.hid hok
    clear hok
    go_wp2_with fail
    refine CB.out.mono ?_
    rintro e w2 ⟨rfl, hb2⟩
    have b2 := b1.trans (hb2.mono b1.size)
    have G2 := Lib.hid ((hb2.block G (Array.getElem?_eq_some_iff.1 G1.out).1).trans G1.out)
    have CB2 := Lib.hid (C23b.out w2 (HG.out.below b2) (HV.out.below b2) HNOK.out)
    clear a0 a1 a2 a3 a4 hb2 CB
    have a0 := cell_of_row _ _ 0 _ _ _ G2.out
    have a1 := cell_of_row _ _ 1 _ _ _ G2.out
    have a2 := cell_of_row _ _ 2 _ _ _ G2.out
    have a3 := cell_of_row _ _ 3 _ _ _ G2.out
    have a4 := cell_of_row _ _ 4 _ _ _ G2.out
    go_wp2_with fail
    refine CB2.out.mono ?_
    rintro e w3 ⟨rfl, hb3⟩
    have b3 := b2.trans (hb3.mono b2.size)
    have G3 := Lib.hid ((hb3.block G (Array.getElem?_eq_some_iff.1 G2.out).1).trans G2.out)
    clear a0 a1 a2 a3 a4 hb3 CB2
    have a0 := cell_of_row _ _ 0 _ _ _ G3.out
    have a1 := cell_of_row _ _ 1 _ _ _ G3.out
    have a2 := cell_of_row _ _ 2 _ _ _ G3.out
    have a3 := cell_of_row _ _ 3 _ _ _ G3.out
    have a4 := cell_of_row _ _ 4 _ _ _ G3.out
    have CG := Lib.hid (C15.out w3 (HG.out.below b3) (by have := HPT.out.2.1; omega))
    go_wp2_with fail
    refine CG.out.mono ?_
    rintro e wa ⟨u, rfl, hga, hba⟩
    have ba := b3.trans (hba.mono b3.size)
    have Ga := Lib.hid ((hba.block G (Array.getElem?_eq_some_iff.1 G3.out).1).trans G3.out)
    have CH := Lib.hid (C16.out wa (HV.out.below ba) (by have := HPT.out.2.2.2.2; omega))
    obtain ⟨ua, un, uc, vpa, vpn, vpc, vsa, vsn, vsc, eu⟩ := hga.val
    have HGa := Lib.hid hga
    have EU := Lib.hid eu
    rw [eu]
    clear a0 a1 a2 a3 a4 hga CG eu
    simp only at EU ⊢
    go_wp2_with fail
    refine CH.out.mono ?_
    rintro e wb ⟨lu, rfl, hlb, hbb⟩
    obtain ⟨lao, lln, lc, rfl⟩ := hlb.val
    have bb := ba.trans (hbb.mono ba.size)
    have gb := HGa.out.below hbb
    have bM : Below wb.heap.size wb (wb.alloc (.cells #[.slice ua un uc, .int .i64 g.thr, .bool g.idx, .slice vpa vpn vpc, .slice vsa vsn vsc] 37)) := (Below.refl _ _).alloc (Nat.le_refl _) _
    have aM := heap_alloc_last wb (.cells #[.slice ua un uc, .int .i64 g.thr, .bool g.idx, .slice vpa vpn vpc, .slice vsa vsn vsc] 37)
    obtain ⟨M, hM⟩ : ∃ M, M = wb.heap.size := ⟨_, rfl⟩
    have HM := Lib.hid hM
    rw [← hM] at aM
    have g5 := gb.below bM
    have l5 := hlb.below bM
    have b5 := bb.trans (bM.mono bb.size)
    have bi5 : Below w3.heap.size w3 (wb.alloc (.cells #[.slice ua un uc, .int .i64 g.thr, .bool g.idx, .slice vpa vpn vpc, .slice vsa vsn vsc] 37)) := (hba.trans (hbb.mono hba.size)).alloc (hba.trans (hbb.mono hba.size)).size _
    have C17 := refCheck_any _ _ hs _ g5 l5
    rw [EU.out] at C17
    have C17 := Lib.hid C17
    have G5 := Lib.hid ((bi5.block G (Array.getElem?_eq_some_iff.1 G3.out).1).trans G3.out)
    have AM := Lib.hid aM
    have GG5 := Lib.hid g5
    have L5 := Lib.hid l5
    clear hM aM g5 l5 bM gb hlb hbb hba ba bb CH HGa Ga
    go_upto_region 6 with fail
    rw [← HM.out]
    generalize wb.alloc (.cells #[.slice ua un uc, .int .i64 g.thr, .bool g.idx, .slice vpa vpn vpc, .slice vsa vsn vsc] 37) = W5 at AM GG5 L5 b5 bi5 C17 G5 ⊢
    have m0 := cell_of_row _ _ 0 _ _ _ AM.out
    have m1 := cell_of_row _ _ 1 _ _ _ AM.out
    have m2 := cell_of_row _ _ 2 _ _ _ AM.out
    have m3 := cell_of_row _ _ 3 _ _ _ AM.out
    have m4 := cell_of_row _ _ 4 _ _ _ AM.out
    have c17 := C17.out
    rw [show decide (Ok { g with nv := u } hs) = false from decide_eq_false HNOK.out] at c17
    have C17' := Lib.hid c17
    clear c17 C17
    go_wp2_with fail
    refine C17'.out.mono ?_
    rintro e w6 ⟨rfl, hb6⟩
    have b6 := b5.trans (hb6.mono b5.size)
    have G6 := Lib.hid ((hb6.block G (Array.getElem?_eq_some_iff.1 G5.out).1).trans G5.out)
    clear m0 m1 m2 m3 m4 AM GG5 L5 hb6 C17' bi5
    go_wp2_with fail
    refine (AW.out _).mono ?_
    rintro e w7 ⟨rfl, hb7⟩
    go_wp2
    go_ret
    exact ⟨rfl, b6.trans (hb7.mono b6.size)⟩

end Go.Proofs.Ytapjgjjmlbhanaa
