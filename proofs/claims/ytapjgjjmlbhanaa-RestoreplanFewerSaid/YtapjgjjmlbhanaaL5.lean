/- Law Minimal, walked. -/
import Derived.Test.YtapjgjjmlbhanaaM5
import Derived.Test.YtapjgjjmlbhanaaK2
import Derived.Test.YtapjgjjmlbhanaaB7
namespace Go.Proofs.Ytapjgjjmlbhanaa
open Go.RowKit Go.Lib
set_option linter.unusedSimpArgs false

theorem ReadsLL.elem {w : World} {v : Value} {xss : List (List Int)} (h : ReadsLL w v xss) : ∃ ao c b off, v = .slice ao xss.length c ∧ xss.length ≤ 4611686018427387904 ∧
    ∀ i, i < xss.length → ao = some ⟨b, off, none⟩ ∧ ∃ ea ec, w.cell? ⟨b, off + i, none⟩ = some (.slice ea (xss.getD i []).length ec) ∧ ReadsI w (.slice ea (xss.getD i []).length ec) (xss.getD i []) := by
  obtain ⟨vs, h1, h2, h3⟩ := h
  obtain ⟨ao, c, b, off, e, hc, hm, hcell⟩ := RowAt.at h2
  refine ⟨ao, c, b, off, e, hm, fun i hi => ?_⟩
  obtain ⟨ha, hcl⟩ := hcell i hi
  have h0 := hcl 0 (by omega)
  rw [Nat.mul_one, Nat.add_zero] at h0
  obtain ⟨ea, ec, ee⟩ := (h3 i hi).val'
  rw [ee] at h0
  have ho := h3 i hi
  rw [ee] at ho
  exact ⟨ha, ea, ec, h0, ho⟩
theorem fe_cases (g : Gl) (hs : List Hd) : (sufE g hs = 0 ∧ Ok g hs) ∨ (sufE g hs = 1 ∨ sufE g hs = 10) ∧ minOut g hs = [] := by
  by_cases h : sufE g hs = 0
  · refine .inl ⟨h, Decidable.byContradiction fun hok => ?_⟩
    rw [sufE_bad hok] at h
    exact absurd h (by decide)
  · refine .inr ⟨?_, by unfold minOut; rw [if_neg h]⟩
    unfold sufE at h ⊢
    split
    · rename_i hok
      rw [if_pos hok] at h
      split
      · exact .inr rfl
      · rename_i hq
        rw [if_neg hq] at h
        exact absurd rfl h
    · exact .inl rfl

set_option maxRecDepth 100000 in
set_option maxHeartbeats 16000000 in
theorem lawMinimal_any (g : Gl) (v : Value) (hs : List Hd) (w : World) (hg : GlAt w g) (hv : ReadsH w v hs) :
    Calls Try.prog 5 #[g.v, v] w fun e w' => e = .returned (.bool true) ∧ Below w.heap.size w w' := by
  obtain ⟨fe, hfe⟩ : ∃ fe, fe = sufE g hs := ⟨_, rfl⟩
  obtain ⟨mo, hmo⟩ : ∃ mo, mo = minOut g hs := ⟨_, rfl⟩
  have hcs := fe_cases g hs
  have c12 := few_any g v hs
  have c20 := fewest_two g v hs
  have c26 := minimal_two g v hs
  have c15 := goalOf_any g
  have c16 := holdingsOf_any v hs
  obtain ⟨md, hmd⟩ : ∃ md, md = mo.headD [] := ⟨_, rfl⟩
  simp only [← hfe, ← hmo, ← hmd] at c20 c26 hcs
  obtain ⟨na, n1, nc, pa, n2, pc, sa, n3, sc, e1⟩ := hg.val
  obtain ⟨ao, n4, c4, rfl⟩ := hv.val
  rw [e1] at c12 c20 c26 c15 ⊢
  have HG := Lib.hid hg
  have HV := Lib.hid hv
  have C12 := Lib.hid c12
  have C20 := Lib.hid c20
  have C26 := Lib.hid c26
  have C15 := Lib.hid c15
  have C16 := Lib.hid c16
  have AW := Lib.hid awake_any
  have HFE := Lib.hid hfe
  have HMO := Lib.hid hmo
  have HMD := Lib.hid hmd
  have HCS := Lib.hid hcs
  clear hg hv c12 c20 c26 c15 c16 e1 hfe hmo hcs hmd
  have b0 : Below w.heap.size w (w.alloc (.cells #[.slice na n1 nc, .int .i64 g.thr, .bool g.idx, .slice pa n2 pc, .slice sa n3 sc] 26)) := (Below.refl _ _).alloc (Nat.le_refl _) _
  have g0 := heap_alloc_last w (.cells #[.slice na n1 nc, .int .i64 g.thr, .bool g.idx, .slice pa n2 pc, .slice sa n3 sc] 26)
  obtain ⟨G, hG⟩ : ∃ G, G = w.heap.size := ⟨_, rfl⟩
  have HGG := Lib.hid hG
  rw [← hG] at g0
  have G0 := Lib.hid g0
  clear g0 hG
  go_enter Try.func5, Try.ntmps5
  go_upto_region 1 with fail
  rw [← HGG.out]
  generalize w.alloc (Obj.cells #[.slice na n1 nc, .int .i64 g.thr, .bool g.idx, .slice pa n2 pc, .slice sa n3 sc] 26) = W at b0 G0 ⊢
  have a0 := cell_of_row _ _ 0 _ _ _ G0.out
  have a1 := cell_of_row _ _ 1 _ _ _ G0.out
  have a2 := cell_of_row _ _ 2 _ _ _ G0.out
  have a3 := cell_of_row _ _ 3 _ _ _ G0.out
  have a4 := cell_of_row _ _ 4 _ _ _ G0.out
  go_wp2_with fail
  refine (C12.out W (HG.out.below b0) (HV.out.below b0)).mono ?_
  rintro e w1 ⟨rfl, hb1⟩
  have b1 := b0.trans (hb1.mono b0.size)
  have G1 := Lib.hid ((hb1.block G (Array.getElem?_eq_some_iff.1 G0.out).1).trans G0.out)
  clear a0 a1 a2 a3 a4 G0 hb1 b0
  have z1 := b1.size
  by_cases hfew : fewB g hs = false
  · rw [hfew]
    go_wp2_with fail
    refine (AW.out _).mono ?_
    rintro e w2 ⟨rfl, hba⟩
    go_wp2
    go_ret
    exact ⟨rfl, b1.trans (hba.mono z1)⟩
  have hfew1 : fewB g hs = true := by simpa using hfew
  have hparts := few_parts hfew1
  rw [hfew1]
  have h6 : Ok g hs → hs.length ≤ 6 := fun hok => by
    have := hok.1.2.2
    have := hparts.2.2.2.2
    omega
  have HPT := Lib.hid hparts
  have H6 := Lib.hid h6
  clear hfew hfew1 hparts h6
  have a0 := cell_of_row _ _ 0 _ _ _ G1.out
  have a1 := cell_of_row _ _ 1 _ _ _ G1.out
  have a2 := cell_of_row _ _ 2 _ _ _ G1.out
  have a3 := cell_of_row _ _ 3 _ _ _ G1.out
  have a4 := cell_of_row _ _ 4 _ _ _ G1.out
  have CB := Lib.hid (C20.out w1 (HG.out.below b1) (HV.out.below b1) H6.out)
  go_wp2_with fail
  refine CB.out.mono ?_
  rintro e w2 ⟨av, rfl, hav, hb2⟩
  obtain ⟨oa, oc, rfl⟩ := hav.val'
  have HAV := Lib.hid hav
  have b2 := b1.trans (hb2.mono b1.size)
  have G2 := Lib.hid ((hb2.block G (Array.getElem?_eq_some_iff.1 G1.out).1).trans G1.out)
  have CB2 := Lib.hid (C26.out w2 (HG.out.below b2) (HV.out.below b2) H6.out)
  clear a0 a1 a2 a3 a4 hb2 CB hav
  have a0 := cell_of_row _ _ 0 _ _ _ G2.out
  have a1 := cell_of_row _ _ 1 _ _ _ G2.out
  have a2 := cell_of_row _ _ 2 _ _ _ G2.out
  have a3 := cell_of_row _ _ 3 _ _ _ G2.out
  have a4 := cell_of_row _ _ 4 _ _ _ G2.out
  go_wp2_with fail
  refine CB2.out.mono ?_
  rintro e w3 ⟨sv, rfl, hsv, hne, hb3⟩
  obtain ⟨qa, qc, rfl⟩ := hsv.val
  have HSV := Lib.hid hsv
  have HNE := Lib.hid hne
  have HAV3 := Lib.hid (HAV.out.below hb3)
  have b3 := b2.trans (hb3.mono b2.size)
  have G3 := Lib.hid ((hb3.block G (Array.getElem?_eq_some_iff.1 G2.out).1).trans G2.out)
  clear a0 a1 a2 a3 a4 CB2 hb3 HAV hsv hne
  have a0 := cell_of_row _ _ 0 _ _ _ G3.out
  have a1 := cell_of_row _ _ 1 _ _ _ G3.out
  have a2 := cell_of_row _ _ 2 _ _ _ G3.out
  have a3 := cell_of_row _ _ 3 _ _ _ G3.out
  have a4 := cell_of_row _ _ 4 _ _ _ G3.out
  have CG := Lib.hid (C15.out w3 (HG.out.below b3) (by have := HPT.out.2.1; omega))
  generalize hml : mo.length = ml at *
  have HML := Lib.hid hml
  generalize hal : md.length = al at *
  have HAL := Lib.hid hal
  clear hml hal
  go_wp2_with fail
  refine CG.out.mono ?_
  rintro e wa ⟨u, rfl, hga, hba⟩
  have ba := b3.trans (hba.mono b3.size)
  have CH := Lib.hid (C16.out wa (HV.out.below ba) (by have := HPT.out.2.2.2.2; omega))
  obtain ⟨ua, un, uc, vpa, vpn, vpc, vsa, vsn, vsc, eu⟩ := hga.val
  have HGa := Lib.hid hga
  have EU := Lib.hid eu
  rw [eu]
  clear a0 a1 a2 a3 a4 hga CG eu
  simp only at EU ⊢
  go_wp2_with fail
  refine CH.out.mono ?_
  rintro e wb ⟨lu, rfl, hlb, hbb⟩
  obtain ⟨lao, lln, lc, rfl⟩ := hlb.val
  have bb := ba.trans (hbb.mono ba.size)
  have gb := HGa.out.below hbb
  have bM : Below wb.heap.size wb (wb.alloc (.cells #[.slice ua un uc, .int .i64 g.thr, .bool g.idx, .slice vpa vpn vpc, .slice vsa vsn vsc] 37)) := (Below.refl _ _).alloc (Nat.le_refl _) _
  have aM := heap_alloc_last wb (.cells #[.slice ua un uc, .int .i64 g.thr, .bool g.idx, .slice vpa vpn vpc, .slice vsa vsn vsc] 37)
  obtain ⟨M, hM⟩ : ∃ M, M = wb.heap.size := ⟨_, rfl⟩
  have HM := Lib.hid hM
  rw [← hM] at aM
  have b5 := bb.trans (bM.mono bb.size)
  have bi5 : Below w3.heap.size w3 (wb.alloc (.cells #[.slice ua un uc, .int .i64 g.thr, .bool g.idx, .slice vpa vpn vpc, .slice vsa vsn vsc] 37)) := (hba.trans (hbb.mono hba.size)).alloc (hba.trans (hbb.mono hba.size)).size _
  have GG5 := Lib.hid (gb.below bM)
  have L5 := Lib.hid (hlb.below bM)
  have AM := Lib.hid aM
  clear hM aM bM gb hlb hbb hba ba bb CH HGa
  go_upto_region 6 with fail
  rw [← HM.out]
  generalize wb.alloc (.cells #[.slice ua un uc, .int .i64 g.thr, .bool g.idx, .slice vpa vpn vpc, .slice vsa vsn vsc] 37) = W5 at AM GG5 L5 b5 bi5 ⊢
  have m0 := cell_of_row _ _ 0 _ _ _ AM.out
  have m1 := cell_of_row _ _ 1 _ _ _ AM.out
  have m2 := cell_of_row _ _ 2 _ _ _ AM.out
  have m3 := cell_of_row _ _ 3 _ _ _ AM.out
  have m4 := cell_of_row _ _ 4 _ _ _ AM.out
  have HAV5 := Lib.hid (HAV3.out.below bi5)
  have HSV5 := Lib.hid (HSV.out.below bi5)
  have c27 := sufE_any { g with nv := u } _ hs W5 GG5.out L5.out
  have hs2 : sufE { g with nv := u } hs = fe := HFE.out.symm
  simp only [EU.out, hs2] at c27
  have C27 := Lib.hid c27
  clear c27 hs2 bi5
  go_wp2_with fail
  refine C27.out.mono ?_
  rintro e w6 ⟨rfl, hb6⟩
  have b6 := b5.trans (hb6.mono b5.size)
  have GG6 := Lib.hid (GG5.out.below hb6)
  have L6 := Lib.hid (L5.out.below hb6)
  have M6 := Lib.hid ((hb6.block M (Array.getElem?_eq_some_iff.1 AM.out).1).trans AM.out)
  have HAV6 := Lib.hid (HAV5.out.below hb6)
  have HSV6 := Lib.hid (HSV5.out.below hb6)
  clear m0 m1 m2 m3 m4 AM GG5 L5 hb6 C27 b5 HAV3 HSV HAV5 HSV5
  have z6 := b6.size
  rcases HCS.out with ⟨rfl, hok⟩ | ⟨hfe, hmo⟩
  · have c28 := minimal_ref { g with nv := u } _ hs w6 GG6.out L6.out hok
    have hs3 : minR { g with nv := u } hs = mo := by
      rw [HMO.out]
      unfold minOut
      rw [if_pos HFE.out.symm]
      rfl
    simp only [EU.out, hs3] at c28
    have C28 := Lib.hid c28
    have hnil := HNE.out rfl
    have hm0 : 0 < ml := by rw [← HML.out]; exact List.length_pos_iff.2 hnil
    clear c28 hs3 hnil hok
    have m0 := cell_of_row _ _ 0 _ _ _ M6.out
    have m1 := cell_of_row _ _ 1 _ _ _ M6.out
    have m2 := cell_of_row _ _ 2 _ _ _ M6.out
    have m3 := cell_of_row _ _ 3 _ _ _ M6.out
    have m4 := cell_of_row _ _ 4 _ _ _ M6.out
    go_wp2_with fail
    refine C28.out.mono ?_
    rintro e w7 ⟨rv, rfl, hrv, hb7⟩
    have b7 := b6.trans (hb7.mono z6)
    have z7 := b7.size
    obtain ⟨xa, xc, xb, xo, rfl, hxm, hx⟩ := hrv.elem
    obtain ⟨ya, yc, yb, yo, ey, _, hy⟩ := (HSV6.out.below hb7).elem
    rw [HML.out] at ey hx hy hxm ⊢
    injection ey with ey1 ey2 ey3
    subst ey1
    have HX := Lib.hid hx
    have HY := Lib.hid hy
    have HAV7 := Lib.hid (HAV6.out.below hb7)
    have hm0' : decide ((ml : Int) = 0) = false := by simp; omega
    have hm0'' : ((ml : Int) == 0) = false := by simp; omega
    have hnn : ((ml : Int) != (ml : Int)) = false := by simp
    clear m0 m1 m2 m3 m4 hrv hx hy hb7 C28 ey3
    go_wp2_with fail
    clear hm0' hm0'' hnn
    go_loopg [13] ml (fun gk v13 wx => ∃ k : Nat, k + gk = ml ∧ v13 = .int .i64 k ∧ Below w7.heap.size w7 wx)
    case atStart => exact ⟨0, by omega, rfl, Below.refl _ _⟩
    case round =>
      obtain ⟨k, hk, rfl, hbx⟩ := hrel
      have zx := hbx.size
      cases gk with
      | zero =>
        obtain rfl : k = ml := by omega
        go_wp2_with fail
        refine (AW.out _).mono ?_
        rintro e w8 ⟨rfl, hb8⟩
        have b8 := hbx.trans (hb8.mono zx)
        obtain ⟨rfl, ea, ec, hc1, hr1⟩ := HX.out 0 (by omega)
        have hq1 := (b8.cell (cell_lt hc1)).trans hc1
        have hr2 := hr1.below b8
        have hh : md = mo.getD 0 [] := by rw [HMD.out]; cases mo <;> rfl
        rw [Nat.add_zero] at hq1
        have CI := Lib.hid (ints_any _ _ _ _ w8 (HAV7.out.below b8) hr2)
        rw [hh, decide_eq_true rfl] at CI
        rw [← hh, HAL.out] at CI hq1
        clear hr1 hr2 hh hc1 hb8
        go_wp2_with fail
        refine CI.out.mono ?_
        rintro e w11 ⟨rfl, q, rfl⟩
        go_wp2
        go_ret
        exact ⟨rfl, below_drewN (b7.trans (b8.mono z7)) _⟩
      | succ go =>
        have hlt : k < ml := by omega
        obtain ⟨rfl, ea, ec, hc1, hr1⟩ := HX.out k hlt
        obtain ⟨rfl, fa, fc, hc2, hr2⟩ := HY.out k hlt
        have hq1 := (hbx.cell (cell_lt hc1)).trans hc1
        have hq2 := (hbx.cell (cell_lt hc2)).trans hc2
        have CI := Lib.hid (fun W (h : Below wr.heap.size wr W) => ints_any _ _ _ _ W (hr2.below (hbx.trans (h.mono zx))) (hr1.below (hbx.trans (h.mono zx))))
        rw [decide_eq_true rfl] at CI
        have hkeep : ∀ w8 : World, Below wr.heap.size wr w8 → Below wr.heap.size wr w8 ∧ w8.cell? ⟨xb, xo + k, none⟩ = some (.slice ea (mo.getD k []).length ec) ∧ w8.cell? ⟨yb, yo + k, none⟩ = some (.slice fa (mo.getD k []).length fc) := fun w8 hb =>
          ⟨hb, (hb.cell (cell_lt hq1)).trans hq1, (hb.cell (cell_lt hq2)).trans hq2⟩
        have HKEEP := Lib.hid hkeep
        have HHS := Lib.hid (hkeep wr.drew (Below.refl _ _).drew)
        clear hr1 hr2 hc1 hc2 hkeep hq1 hq2
        generalize (mo.getD k []).length = kl at *
        go_wp2_with fail
        refine wp_region_held_drew (S := fun w' => Below wr.heap.size wr w' ∧ w'.cell? ⟨xb, xo + k, none⟩ = some (.slice ea kl ec) ∧ w'.cell? ⟨yb, yo + k, none⟩ = some (.slice fa kl fc)) (by kernel_rfl) HHS.out (fun hHeld => ?_)
        refine wpAnyH_take (i := 0) (v := ?_) rfl (by kernel_rfl) (by kernel_rfl) (by kernel_rfl) (fun _ _ _ h => h) (Or.inl ⟨by rfl, ?_⟩) (by assumption) ?_
        rotate_left; · (intro w hSw; (try dsimp only at hSw); go_simp; try with_reducible rfl)
        try simp only [Act.put, List.getElem_toArray, List.getElem_cons_zero, List.getElem_cons_succ, List.setIfInBounds_toArray, List.set_cons_zero, List.set_cons_succ]
        refine wpAnyH_take (i := 1) (v := ?_) rfl (by kernel_rfl) (by kernel_rfl) (by kernel_rfl) (fun _ _ _ h => h) (Or.inl ⟨by rfl, ?_⟩) (by assumption) ?_
        rotate_left; · (intro w hSw; (try dsimp only at hSw); go_simp; try with_reducible rfl)
        try simp only [Act.put, List.getElem_toArray, List.getElem_cons_zero, List.getElem_cons_succ, List.setIfInBounds_toArray, List.set_cons_zero, List.set_cons_succ]
        refine wpAnyH_take (i := 2) (v := ?_) rfl (by kernel_rfl) (by kernel_rfl) (by kernel_rfl) (fun _ _ _ h => h) (Or.inl ⟨by rfl, ?_⟩) (by assumption) ?_
        rotate_left; · (intro w hSw; (try dsimp only at hSw); go_simp; try with_reducible rfl)
        try simp only [Act.put, List.getElem_toArray, List.getElem_cons_zero, List.getElem_cons_succ, List.setIfInBounds_toArray, List.set_cons_zero, List.set_cons_succ]
        refine wpAnyH_take (i := 3) (v := ?_) rfl (by kernel_rfl) (by kernel_rfl) (by kernel_rfl) (fun _ _ _ h => h) (Or.inl ⟨by rfl, ?_⟩) (by assumption) ?_
        rotate_left; · (intro w hSw; (try dsimp only at hSw); go_simp; try with_reducible rfl)
        try simp only [Act.put, List.getElem_toArray, List.getElem_cons_zero, List.getElem_cons_succ, List.setIfInBounds_toArray, List.set_cons_zero, List.set_cons_succ]
        refine wpAnyH_take (i := 4) (v := ?_) rfl (by kernel_rfl) (by kernel_rfl) (by kernel_rfl) (fun _ _ _ h => h) (Or.inl ⟨by rfl, ?_⟩) (by assumption) ?_
        rotate_left; · (intro w hSw; (try dsimp only at hSw); go_simp; try with_reducible rfl)
        try simp only [Act.put, List.getElem_toArray, List.getElem_cons_zero, List.getElem_cons_succ, List.setIfInBounds_toArray, List.set_cons_zero, List.set_cons_succ]
        refine wpAnyH_take (i := 5) (v := ?_) rfl (by kernel_rfl) (by kernel_rfl) (by kernel_rfl) (fun _ _ _ h => h) (Or.inl ⟨by rfl, ?_⟩) (by assumption) ?_
        rotate_left; · (intro w hSw; (try dsimp only at hSw); go_simp; try with_reducible rfl)
        try simp only [Act.put, List.getElem_toArray, List.getElem_cons_zero, List.getElem_cons_succ, List.setIfInBounds_toArray, List.set_cons_zero, List.set_cons_succ]
        refine wpAnyH_take (i := 6) (v := ?_) rfl (by kernel_rfl) (by kernel_rfl) (by kernel_rfl) (fun _ _ _ h => h) (Or.inl ⟨by rfl, ?_⟩) (by assumption) ?_
        rotate_left; · (intro w hSw; (try dsimp only at hSw); go_simp; try with_reducible rfl)
        try simp only [Act.put, List.getElem_toArray, List.getElem_cons_zero, List.getElem_cons_succ, List.setIfInBounds_toArray, List.set_cons_zero, List.set_cons_succ]
        refine wpAnyH_take (i := 7) (v := ?_) rfl (by kernel_rfl) (by kernel_rfl) (by kernel_rfl) (fun _ _ _ h => h) (Or.inl ⟨by rfl, ?_⟩) (by assumption) ?_
        rotate_left; · (intro w hSw; (try dsimp only at hSw); go_simp; try with_reducible rfl)
        try simp only [Act.put, List.getElem_toArray, List.getElem_cons_zero, List.getElem_cons_succ, List.setIfInBounds_toArray, List.set_cons_zero, List.set_cons_succ]
        refine wpAnyH_ready (rs := [8]) (by kernel_rfl) (by simp) ?_
        refine AllReadyH.cons rfl (fun K hK => ?_) AllReadyH.nil
        go_simp
        go_at_call 25
        refine (CI.out _ hHeld.1).mono ?_
        rintro e w9 ⟨rfl, q, rfl⟩
        go_wp2_with fail
        refine hK.out _ _ (HKEEP.out _ (below_drewN (Below.refl _ _) _)) (fun hNew => ?_)
        clear hK K hHeld
        have hHeld := hNew
        clear hNew
        try simp only [Act.put, List.getElem_toArray, List.getElem_cons_zero, List.getElem_cons_succ, List.setIfInBounds_toArray, List.set_cons_zero, List.set_cons_succ]
        refine wpAnyH_take (i := 9) (v := ?_) rfl (by kernel_rfl) (by kernel_rfl) (by kernel_rfl) (fun _ _ _ h => h) (Or.inl ⟨by rfl, ?_⟩) (by assumption) ?_
        rotate_left; · (intro w hSw; (try dsimp only at hSw); go_simp; try with_reducible rfl)
        try simp only [Act.put, List.getElem_toArray, List.getElem_cons_zero, List.getElem_cons_succ, List.setIfInBounds_toArray, List.set_cons_zero, List.set_cons_succ]
        refine wpAnyH_done (by kernel_rfl) ?_ _
        go_wp2
        go_roundg go
        case measure => omega
        case rel => exact ⟨k + 1, by omega, by go_num, hbx.trans (hHeld.1.mono zx)⟩
  · subst hmo
    obtain rfl : 0 = ml := HML.out
    have hmd := HMD.out
    subst hmd
    obtain rfl : 0 = al := HAL.out
    rcases hfe with rfl | rfl
    all_goals
      clear HCS HFE HMO C20 C26
      go_wp2_with fail
      refine (AW.out _).mono ?_
      rintro e w8 ⟨rfl, hb8⟩
      go_wp2
      go_ret
      exact ⟨rfl, b6.trans (hb8.mono z6)⟩

end Go.Proofs.Ytapjgjjmlbhanaa
