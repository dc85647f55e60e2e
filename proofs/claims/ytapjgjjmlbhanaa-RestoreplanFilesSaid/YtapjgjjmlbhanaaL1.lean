/- Law Files, walked. -/
import Derived.Test.YtapjgjjmlbhanaaL0
import Derived.Test.YtapjgjjmlbhanaaK2
import Derived.Test.YtapjgjjmlbhanaaB7
namespace Go.Proofs.Ytapjgjjmlbhanaa
open Go.RowKit Go.Lib
set_option linter.unusedSimpArgs false

set_option maxRecDepth 100000 in
set_option maxHeartbeats 16000000 in
theorem lawFiles_any (g : Gl) (v dv fv : Value) (hs : List Hd) (devs : List Int) (fs : List Fl) (w : World) (hg : GlAt w g) (hv : ReadsH w v hs) (hd : ReadsI w dv devs) (hf : ReadsFl w fv fs) :
    Calls Try.prog 3 #[g.v, v, dv, fv] w fun e w' => e = .returned (.bool true) ∧ Below w.heap.size w w' := by
  have c12 := few_any g v hs
  have c14b := files_bad g v dv fv hs
  have c14 := files_ok g v dv fv hs devs fs
  have c15 := goalOf_any g
  have c16 := holdingsOf_any v hs
  obtain ⟨na, n1, nc, pa, n2, pc, sa, n3, sc, e1⟩ := hg.val
  obtain ⟨ao, n4, c4, rfl⟩ := hv.val
  obtain ⟨dao, dc, db, doff, rfl, hdl, hdm, hdcell⟩ := hd.at
  obtain ⟨fao, fc, fb, foff, rfl, hfl, hfm, hfcell⟩ := hf.at
  rw [e1] at c12 c14 c14b c15 ⊢
  have HG := Lib.hid hg
  have HV := Lib.hid hv
  have HD := Lib.hid hd
  have HF := Lib.hid hf
  have HFC := Lib.hid hfcell
  have C12 := Lib.hid c12
  have C14 := Lib.hid c14
  have C14b := Lib.hid c14b
  have C15 := Lib.hid c15
  have C16 := Lib.hid c16
  have AW := Lib.hid awake_any
  have HE1 := Lib.hid e1
  clear hg hv hd hf hfcell hdcell c12 c14 c14b c15 c16 e1
  have b0 : Below w.heap.size w (w.alloc (.cells #[.slice na n1 nc, .int .i64 g.thr, .bool g.idx, .slice pa n2 pc, .slice sa n3 sc] 26)) := (Below.refl _ _).alloc (Nat.le_refl _) _
  have g0 := heap_alloc_last w (.cells #[.slice na n1 nc, .int .i64 g.thr, .bool g.idx, .slice pa n2 pc, .slice sa n3 sc] 26)
  obtain ⟨G, hG⟩ : ∃ G, G = w.heap.size := ⟨_, rfl⟩
  have HGG := Lib.hid hG
  rw [← hG] at g0
  have G0 := Lib.hid g0
  clear g0 hG
  go_enter Try.func3, Try.ntmps3
  go_upto_region 1 with fail
  rw [← HGG.out]
  generalize w.alloc (Obj.cells #[.slice na n1 nc, .int .i64 g.thr, .bool g.idx, .slice pa n2 pc, .slice sa n3 sc] 26) = W at b0 G0 ⊢
  have a0 := cell_of_row _ _ 0 _ _ _ G0.out
  have a1 := cell_of_row _ _ 1 _ _ _ G0.out
  have a2 := cell_of_row _ _ 2 _ _ _ G0.out
  have a3 := cell_of_row _ _ 3 _ _ _ G0.out
  have a4 := cell_of_row _ _ 4 _ _ _ G0.out
  go_wp2_with fail
  refine (C12.out W (HG.out.below b0) (HV.out.below b0)).mono ?_
  rintro e w1 ⟨rfl, hb1⟩
  have b1 := b0.trans (hb1.mono b0.size)
  have G1 := Lib.hid ((hb1.block G (Array.getElem?_eq_some_iff.1 G0.out).1).trans G0.out)
  clear a0 a1 a2 a3 a4 G0 hb1 b0
  have z1 := b1.size
  by_cases hfew : fewB g hs = false
  · rw [hfew]
    go_wp2_with fail
    refine (AW.out _).mono ?_
    rintro e w2 ⟨rfl, hb2⟩
    go_wp2
    go_ret
    exact ⟨rfl, b1.trans (hb2.mono z1)⟩
  have hfew1 : fewB g hs = true := by simpa using hfew
  have hparts := few_parts hfew1
  rw [hfew1]
  have HPT := Lib.hid hparts
  clear hfew hfew1 hparts
  by_cases hd20 : 20 < devs.length
  · have k1 : decide ((devs.length : Int) > 20) = true := by simp; omega
    go_wp2_with fail
    refine (AW.out _).mono ?_
    rintro e w2 ⟨rfl, hb2⟩
    go_wp2
    go_ret
    exact ⟨rfl, b1.trans (hb2.mono z1)⟩
  have k1 : decide ((devs.length : Int) > 20) = false := by simp; omega
  by_cases hf6 : 6 < fs.length
  · have k2 : decide ((fs.length : Int) > 6) = true := by simp; omega
    go_wp2_with fail
    refine (AW.out _).mono ?_
    rintro e w2 ⟨rfl, hb2⟩
    go_wp2
    go_ret
    exact ⟨rfl, b1.trans (hb2.mono z1)⟩
  have k2 : decide ((fs.length : Int) > 6) = false := by simp; omega
  have a0 := cell_of_row _ _ 0 _ _ _ G1.out
  have a1 := cell_of_row _ _ 1 _ _ _ G1.out
  have a2 := cell_of_row _ _ 2 _ _ _ G1.out
  have a3 := cell_of_row _ _ 3 _ _ _ G1.out
  have a4 := cell_of_row _ _ 4 _ _ _ G1.out
  by_cases hok : Ok g hs
  · have CB := Lib.hid (C14.out w1 (HG.out.below b1) (HV.out.below b1) (HD.out.below b1) (HF.out.below b1) hok (by omega))
    have HOK := Lib.hid hok
    clear hok
    go_wp2_with fail
    refine CB.out.mono ?_
    rintro e w2 ⟨L, hp, pv, rfl, hpv, hb2⟩
    obtain ⟨pa', pc', pb', poff', rfl, hpl, hpm, hpcell⟩ := hpv.at
    have hsel := selR_eq (devs := devs) HOK.out hp fs
    rw [← hsel] at hpl hpm hpcell ⊢
    have HPV := Lib.hid hpcell
    have b2 := b1.trans (hb2.mono z1)
    have G2 := Lib.hid ((hb2.block G (Array.getElem?_eq_some_iff.1 G1.out).1).trans G1.out)
    have Z12 := Lib.hid hb2.size
    clear a0 a1 a2 a3 a4 G1 hb2 CB hpv hpcell hsel hp
    have a0 := cell_of_row _ _ 0 _ _ _ G2.out
    have a1 := cell_of_row _ _ 1 _ _ _ G2.out
    have a2 := cell_of_row _ _ 2 _ _ _ G2.out
    have a3 := cell_of_row _ _ 3 _ _ _ G2.out
    have a4 := cell_of_row _ _ 4 _ _ _ G2.out
    have CG := Lib.hid (C15.out w2 (HG.out.below b2) (by have := HPT.out.2.1; omega))
    go_wp2_with fail
    refine CG.out.mono ?_
    rintro e w3 ⟨u, rfl, hg3, hb3⟩
    have b3 := b2.trans (hb3.mono b2.size)
    have CH := Lib.hid (C16.out w3 (HV.out.below b3) (by have := HPT.out.2.2.2.2; omega))
    obtain ⟨ua, un, uc, vpa, vpn, vpc, vsa, vsn, vsc, eu⟩ := hg3.val
    have HG3 := Lib.hid hg3
    have EU := Lib.hid eu
    rw [eu]
    clear a0 a1 a2 a3 a4 G2 hg3 CG eu
    simp only at EU ⊢
    go_wp2_with fail
    refine CH.out.mono ?_
    rintro e w4 ⟨lu, rfl, hl4, hb4⟩
    obtain ⟨lao, lln, lc, rfl⟩ := hl4.val
    have b4 := b3.trans (hb4.mono b3.size)
    have g4 := HG3.out.below hb4
    have bM : Below w4.heap.size w4 (w4.alloc (.cells #[.slice ua un uc, .int .i64 g.thr, .bool g.idx, .slice vpa vpn vpc, .slice vsa vsn vsc] 37)) := (Below.refl _ _).alloc (Nat.le_refl _) _
    have aM := heap_alloc_last w4 (.cells #[.slice ua un uc, .int .i64 g.thr, .bool g.idx, .slice vpa vpn vpc, .slice vsa vsn vsc] 37)
    obtain ⟨M, hM⟩ : ∃ M, M = w4.heap.size := ⟨_, rfl⟩
    have HM := Lib.hid hM
    rw [← hM] at aM
    have g5 := g4.below bM
    have l5 := hl4.below bM
    have b5 := b4.trans (bM.mono b4.size)
    have b25 : Below w2.heap.size w2 (w4.alloc (.cells #[.slice ua un uc, .int .i64 g.thr, .bool g.idx, .slice vpa vpn vpc, .slice vsa vsn vsc] 37)) := (hb3.trans (hb4.mono hb3.size)).alloc (hb3.trans (hb4.mono hb3.size)).size _
    have C17 := refCheck_any _ _ hs _ g5 l5
    rw [EU.out] at C17
    have C17 := Lib.hid C17
    have AM := Lib.hid aM
    have G5 := Lib.hid g5
    have L5 := Lib.hid l5
    clear hM aM g5 l5 bM g4 hl4 hb4 hb3 b3 b4 CH HG3
    go_upto_region 5 with fail
    rw [← HM.out]
    generalize w4.alloc (.cells #[.slice ua un uc, .int .i64 g.thr, .bool g.idx, .slice vpa vpn vpc, .slice vsa vsn vsc] 37) = W5 at AM G5 L5 b5 b25 C17 ⊢
    have m0 := cell_of_row _ _ 0 _ _ _ AM.out
    have m1 := cell_of_row _ _ 1 _ _ _ AM.out
    have m2 := cell_of_row _ _ 2 _ _ _ AM.out
    have m3 := cell_of_row _ _ 3 _ _ _ AM.out
    have m4 := cell_of_row _ _ 4 _ _ _ AM.out
    have c17 := C17.out
    rw [show decide (Ok { g with nv := u } hs) = true from decide_eq_true HOK.out] at c17
    have C17' := Lib.hid c17
    clear c17 C17
    go_wp2_with fail
    refine C17'.out.mono ?_
    rintro e w6 ⟨rfl, hb6⟩
    have M6 := Lib.hid ((hb6.block M (Array.getElem?_eq_some_iff.1 AM.out).1).trans AM.out)
    have b6 := b5.trans (hb6.mono b5.size)
    have b26 := b25.trans (hb6.mono b25.size)
    have G6 := Lib.hid (G5.out.below hb6)
    have L6 := Lib.hid (L5.out.below hb6)
    have C18 : Calls Try.prog 18 #[({ g with nv := u } : Gl).v, .slice lao lln lc, .slice dao devs.length dc] w6 fun e w' => ∃ v, e = .returned (.tuple #[v, .int .i64 (shR g hs devs), .int .i64 (ixR g hs devs)]) ∧ ReadsI w' v (ndR g hs devs) ∧ Below w6.heap.size w6 w' :=
      lacks_any { g with nv := u } _ _ hs devs w6 G6.out L6.out (HD.out.below b6) (by have := HPT.out.2.1; show g.ns.length ≤ 64; omega) HOK.out.2.1.2 HOK.out.1.2.1.1 HOK.out.1.2.1.2 (thereS_zero devs (show Ok { g with nv := u } hs from HOK.out))
    rw [EU.out] at C18
    have C18 := Lib.hid C18
    clear m0 m1 m2 m3 m4 AM G5 L5 hb6 C17' b5
    have m0 := cell_of_row _ _ 0 _ _ _ M6.out
    have m1 := cell_of_row _ _ 1 _ _ _ M6.out
    have m2 := cell_of_row _ _ 2 _ _ _ M6.out
    have m3 := cell_of_row _ _ 3 _ _ _ M6.out
    have m4 := cell_of_row _ _ 4 _ _ _ M6.out
    go_wp2_with fail
    refine C18.out.mono ?_
    rintro e w7 ⟨ndv, rfl, hnd, hb7⟩
    obtain ⟨nao, ncc, end1⟩ := hnd.val'
    rw [end1] at hnd ⊢
    have M7 := Lib.hid ((hb7.block M (Array.getElem?_eq_some_iff.1 M6.out).1).trans M6.out)
    have b7 := b6.trans (hb7.mono b6.size)
    have G7 := Lib.hid (G6.out.below hb7)
    have ND := Lib.hid hnd
    have hix : ixR g hs devs ≤ 1 := by unfold ixR; split <;> omega
    have ndlen : (ndR g hs devs).length = g.ns.length := by simp [ndR]
    have NDL := Lib.hid ndlen
    have B2 := Lib.hid b2
    have hpl6 : (selR g (ndR g hs devs) (shR g hs devs) (ixR g hs devs) fs).length ≤ 6 := by
      unfold selR
      rw [List.length_map]
      have := List.length_filter_le (okR g (ndR g hs devs) (shR g hs devs) (ixR g hs devs)) fs
      omega
    clear m0 m1 m2 m3 m4 M6 G6 L6 C18 hnd end1 ndlen
    generalize ndR g hs devs = nd at *
    generalize shR g hs devs = sh at *
    generalize ixR g hs devs = ix at *
    obtain ⟨P, hP⟩ : ∃ P, P = selR g nd sh ix fs := ⟨_, rfl⟩
    rw [← hP] at hpl hpm HPV hpl6 ⊢
    have HP := Lib.hid hP
    clear hP
    have z7 := b7.size
    have hw27 := b26.trans (hb7.mono b26.size)
    go_wp2
    generalize hfn : fs.length = fn at *
    have HFN := Lib.hid hfn
    clear hfn
    go_loopg [16, 17] fn (fun gk v16 v17 wx => ∃ i : Nat, i + gk = fn ∧ v17 = .int .i64 i ∧ v16 = .int .i64 ((selR g nd sh ix (fs.take i)).length : Nat) ∧ Below w7.heap.size w7 wx)
    case atStart => exact ⟨0, by omega, rfl, by simp [selR], Below.refl _ _⟩
    case round =>
      obtain ⟨i, hi, rfl, rfl, hbx⟩ := hrel
      have zx := hbx.size
      cases gk with
      | zero =>
        obtain rfl : i = fn := by omega
        rw [List.take_of_length_le (show fs.length ≤ i by rw [HFN.out]; exact Nat.le_refl _), ← HP.out]
        go_wp2_with fail
        refine (AW.out _).mono ?_
        rintro e w8 ⟨rfl, hb8⟩
        go_wp2
        go_ret
        exact ⟨rfl, b7.trans ((hbx.trans (hb8.mono zx)).mono z7)⟩
      | succ go =>
        have hlt : i < fn := by omega
        have hif : i < fs.length := by rw [HFN.out]; exact hlt
        have hst := selR_at g nd sh ix fs i hif
        obtain ⟨e1, e2, e3, e4⟩ := HFC.out i hlt
        subst e1
        rw [getD_at _ _ _ hif] at e2 e3 e4
        have hwr := b7.trans (hbx.mono z7)
        rw [← hwr.cell (p := ⟨fb, _, none⟩) (cell_lt e2)] at e2
        rw [← hwr.cell (p := ⟨fb, _, none⟩) (cell_lt e3)] at e3
        have e4' := e4.below hwr
        obtain ⟨sao, scp, _, _, esv, _, _, _⟩ := e4.at
        rw [esv] at e3 e4'
        have hokr : okR g nd sh ix fs[i] = (!decide (0 < sh) && (!decide (0 < ix) && restB g.ns nd fs[i].ss)) := rfl
        rw [← HP.out] at hst
        have HST := Lib.hid hst
        have HOKR := Lib.hid hokr
        have E4 := Lib.hid e4'
        clear hst hokr e4 e4' esv
        generalize okR g nd sh ix fs[i] = okb at HST HOKR
        generalize fs[i] = f at *
        obtain ⟨path, sv, ss⟩ := f
        simp only at e2 e3 HST HOKR E4
        generalize (selR g nd sh ix (fs.take i)).length = at0 at *
        generalize hat1 : (selR g nd sh ix (fs.take (i + 1))).length = at1 at *
        have HAT := Lib.hid hat1
        clear hat1
        have hM := (hbx.block M (Array.getElem?_eq_some_iff.1 M7.out).1).trans M7.out
        have m0 := cell_of_row _ _ 0 _ _ _ hM
        have m1 := cell_of_row _ _ 1 _ _ _ hM
        have m2 := cell_of_row _ _ 2 _ _ _ hM
        have m3 := cell_of_row _ _ 3 _ _ _ hM
        have m4 := cell_of_row _ _ 4 _ _ _ hM
        simp only [List.getElem?_toArray, List.getElem?_cons_zero, List.getElem?_cons_succ] at m0 m1 m2 m3 m4
        have HMM := Lib.hid hM
        clear hM
        by_cases hs20 : 20 < ss.length
        · have k3 : decide ((ss.length : Int) > 20) = true := by simp; omega
          clear m0 m1 m2 m3 m4
          go_wp2_with fail
          refine (AW.out _).mono ?_
          rintro e w8 ⟨rfl, hb8⟩
          go_wp2
          go_ret
          exact ⟨rfl, hwr.trans (hb8.mono hwr.size)⟩
        have k3 : decide ((ss.length : Int) > 20) = false := by simp; omega
        by_cases hsh : 0 < sh
        · have k4 : decide (sh > 0) = true := decide_eq_true hsh
          have hok0 : okb = false := by rw [HOKR.out, decide_eq_true hsh]; rfl
          have HST2 := Lib.hid (HST.out.1 hok0)
          clear hok0 hsh m0 m1 m2 m3 m4
          go_wp2_with fail
          go_quiet (fail)
          go_wp2
          go_roundg go
          case measure => omega
          case rel => exact ⟨i + 1, by omega, by go_num, by rw [HAT.out, HST2.out], below_drewN hbx _⟩
        have k4 : decide (sh > 0) = false := decide_eq_false hsh
        by_cases hixx : 0 < ix
        · have k5 : decide (ix > 0) = true := decide_eq_true hixx
          have hok0 : okb = false := by rw [HOKR.out, decide_eq_true hixx]; simp
          have HST2 := Lib.hid (HST.out.1 hok0)
          clear hok0 hixx hsh m0 m1 m2 m3 m4
          go_wp2_with fail
          go_quiet (fail)
          go_wp2
          go_roundg go
          case measure => omega
          case rel => exact ⟨i + 1, by omega, by go_num, by rw [HAT.out, HST2.out], below_drewN hbx _⟩
        have k5 : decide (ix > 0) = false := decide_eq_false hixx
        have hokr : okb = restB g.ns nd ss := by rw [HOKR.out, decide_eq_false hsh, decide_eq_false hixx]; rfl
        have HOKR2 := Lib.hid hokr
        have C19 := fun (W8 : World) (hW : Below wr.heap.size wr W8) => restorable_any { g with nv := u } _ _ nd ss W8 ((G7.out.below hbx).below hW).1 ((ND.out.below hbx).below hW) (E4.out.below hW) (Nat.le_of_eq NDL.out)
        rw [EU.out] at C19
        have C19 := Lib.hid C19
        clear hokr hsh hixx
        have hHS : Below wr.heap.size wr wr.drew ∧ wr.drew.cell? ⟨M, 0, none⟩ = some (.slice ua un uc) ∧ wr.drew.cell? ⟨M, 1, none⟩ = some (.int .i64 g.thr) ∧ wr.drew.cell? ⟨M, 2, none⟩ = some (.bool g.idx) ∧ wr.drew.cell? ⟨M, 3, none⟩ = some (.slice vpa vpn vpc) ∧ wr.drew.cell? ⟨M, 4, none⟩ = some (.slice vsa vsn vsc) ∧ wr.drew.cell? ⟨fb, foff + i * 2 + 1, none⟩ = some (.slice sao ss.length scp) := ⟨(Below.refl _ _).drew, m0, m1, m2, m3, m4, e3⟩
        have HHS := Lib.hid hHS
        have hkeep : ∀ w8 : World, Below wr.heap.size wr w8 → Below wr.heap.size wr w8 ∧ w8.cell? ⟨M, 0, none⟩ = some (.slice ua un uc) ∧ w8.cell? ⟨M, 1, none⟩ = some (.int .i64 g.thr) ∧ w8.cell? ⟨M, 2, none⟩ = some (.bool g.idx) ∧ w8.cell? ⟨M, 3, none⟩ = some (.slice vpa vpn vpc) ∧ w8.cell? ⟨M, 4, none⟩ = some (.slice vsa vsn vsc) ∧ w8.cell? ⟨fb, foff + i * 2 + 1, none⟩ = some (.slice sao ss.length scp) := fun w8 hb =>
          ⟨hb, (hb.cell (p := ⟨M, 0, none⟩) (cell_lt m0)).trans m0, (hb.cell (p := ⟨M, 1, none⟩) (cell_lt m1)).trans m1, (hb.cell (p := ⟨M, 2, none⟩) (cell_lt m2)).trans m2, (hb.cell (p := ⟨M, 3, none⟩) (cell_lt m3)).trans m3, (hb.cell (p := ⟨M, 4, none⟩) (cell_lt m4)).trans m4, (hb.cell (p := ⟨fb, _, none⟩) (cell_lt e3)).trans e3⟩
        have HKEEP := Lib.hid hkeep
        have E2 := Lib.hid e2
        clear hHS hkeep m0 m1 m2 m3 m4 e2
        go_wp2_with fail
        clear e3
        refine wp_region_held_drew (S := fun w' => Below wr.heap.size wr w' ∧ w'.cell? ⟨M, 0, none⟩ = some (.slice ua un uc) ∧ w'.cell? ⟨M, 1, none⟩ = some (.int .i64 g.thr) ∧ w'.cell? ⟨M, 2, none⟩ = some (.bool g.idx) ∧ w'.cell? ⟨M, 3, none⟩ = some (.slice vpa vpn vpc) ∧ w'.cell? ⟨M, 4, none⟩ = some (.slice vsa vsn vsc) ∧ w'.cell? ⟨fb, foff + i * 2 + 1, none⟩ = some (.slice sao ss.length scp)) (by kernel_rfl) HHS.out (fun hHeld => ?_)
        refine wpAnyH_take (i := 0) (v := ?_) rfl (by kernel_rfl) (by kernel_rfl) (by kernel_rfl) (fun _ _ _ h => h) (Or.inl ⟨by rfl, ?_⟩) (by assumption) ?_
        rotate_left; · (intro w hSw; (try dsimp only at hSw); go_simp; try with_reducible rfl)
        try simp only [Act.put, List.getElem_toArray, List.getElem_cons_zero, List.getElem_cons_succ, List.setIfInBounds_toArray, List.set_cons_zero, List.set_cons_succ]
        refine wpAnyH_take (i := 1) (v := ?_) rfl (by kernel_rfl) (by kernel_rfl) (by kernel_rfl) (fun _ _ _ h => h) (Or.inl ⟨by rfl, ?_⟩) (by assumption) ?_
        rotate_left; · (intro w hSw; (try dsimp only at hSw); go_simp; try with_reducible rfl)
        try simp only [Act.put, List.getElem_toArray, List.getElem_cons_zero, List.getElem_cons_succ, List.setIfInBounds_toArray, List.set_cons_zero, List.set_cons_succ]
        refine wpAnyH_take (i := 2) (v := ?_) rfl (by kernel_rfl) (by kernel_rfl) (by kernel_rfl) (fun _ _ _ h => h) (Or.inl ⟨by rfl, ?_⟩) (by assumption) ?_
        rotate_left; · (intro w hSw; (try dsimp only at hSw); go_simp; try with_reducible rfl)
        try simp only [Act.put, List.getElem_toArray, List.getElem_cons_zero, List.getElem_cons_succ, List.setIfInBounds_toArray, List.set_cons_zero, List.set_cons_succ]
        refine wpAnyH_take (i := 3) (v := ?_) rfl (by kernel_rfl) (by kernel_rfl) (by kernel_rfl) (fun _ _ _ h => h) (Or.inl ⟨by rfl, ?_⟩) (by assumption) ?_
        rotate_left; · (intro w hSw; (try dsimp only at hSw); go_simp; try with_reducible rfl)
        try simp only [Act.put, List.getElem_toArray, List.getElem_cons_zero, List.getElem_cons_succ, List.setIfInBounds_toArray, List.set_cons_zero, List.set_cons_succ]
        refine wpAnyH_take (i := 4) (v := ?_) rfl (by kernel_rfl) (by kernel_rfl) (by kernel_rfl) (fun _ _ _ h => h) (Or.inl ⟨by rfl, ?_⟩) (by assumption) ?_
        rotate_left; · (intro w hSw; (try dsimp only at hSw); go_simp; try with_reducible rfl)
        try simp only [Act.put, List.getElem_toArray, List.getElem_cons_zero, List.getElem_cons_succ, List.setIfInBounds_toArray, List.set_cons_zero, List.set_cons_succ]
        refine wpAnyH_take (i := 5) (v := ?_) rfl (by kernel_rfl) (by kernel_rfl) (by kernel_rfl) (fun _ _ _ h => h) (Or.inl ⟨by rfl, ?_⟩) (by assumption) ?_
        rotate_left; · (intro w hSw; (try dsimp only at hSw); go_simp; try with_reducible rfl)
        try simp only [Act.put, List.getElem_toArray, List.getElem_cons_zero, List.getElem_cons_succ, List.setIfInBounds_toArray, List.set_cons_zero, List.set_cons_succ]
        refine wpAnyH_take (i := 6) (v := ?_) rfl (by kernel_rfl) (by kernel_rfl) (by kernel_rfl) (fun _ _ _ h => h) (Or.inl ⟨by rfl, ?_⟩) (by assumption) ?_
        rotate_left; · (intro w hSw; (try dsimp only at hSw); go_simp; try with_reducible rfl)
        try simp only [Act.put, List.getElem_toArray, List.getElem_cons_zero, List.getElem_cons_succ, List.setIfInBounds_toArray, List.set_cons_zero, List.set_cons_succ]
        refine wpAnyH_take (i := 7) (v := ?_) rfl (by kernel_rfl) (by kernel_rfl) (by kernel_rfl) (fun _ _ _ h => h) (Or.inl ⟨by rfl, ?_⟩) (by assumption) ?_
        rotate_left; · (intro w hSw; (try dsimp only at hSw); go_simp; try with_reducible rfl)
        try simp only [Act.put, List.getElem_toArray, List.getElem_cons_zero, List.getElem_cons_succ, List.setIfInBounds_toArray, List.set_cons_zero, List.set_cons_succ]
        refine wpAnyH_take (i := 8) (v := ?_) rfl (by kernel_rfl) (by kernel_rfl) (by kernel_rfl) (fun _ _ _ h => h) (Or.inl ⟨by rfl, ?_⟩) (by assumption) ?_
        rotate_left; · (intro w hSw; (try dsimp only at hSw); go_simp; try with_reducible rfl)
        try simp only [Act.put, List.getElem_toArray, List.getElem_cons_zero, List.getElem_cons_succ, List.setIfInBounds_toArray, List.set_cons_zero, List.set_cons_succ]
        refine wpAnyH_take (i := 9) (v := ?_) rfl (by kernel_rfl) (by kernel_rfl) (by kernel_rfl) (fun _ _ _ h => h) (Or.inl ⟨by rfl, ?_⟩) (by assumption) ?_
        rotate_left; · (intro w hSw; (try dsimp only at hSw); go_simp; try with_reducible rfl)
        try simp only [Act.put, List.getElem_toArray, List.getElem_cons_zero, List.getElem_cons_succ, List.setIfInBounds_toArray, List.set_cons_zero, List.set_cons_succ]
        refine wpAnyH_take (i := 10) (v := ?_) rfl (by kernel_rfl) (by kernel_rfl) (by kernel_rfl) (fun _ _ _ h => h) (Or.inl ⟨by rfl, ?_⟩) (by assumption) ?_
        rotate_left; · (intro w hSw; (try dsimp only at hSw); go_simp; try with_reducible rfl)
        try simp only [Act.put, List.getElem_toArray, List.getElem_cons_zero, List.getElem_cons_succ, List.setIfInBounds_toArray, List.set_cons_zero, List.set_cons_succ]
        refine wpAnyH_take (i := 11) (v := ?_) rfl (by kernel_rfl) (by kernel_rfl) (by kernel_rfl) (fun _ _ _ h => h) (Or.inl ⟨by rfl, ?_⟩) (by assumption) ?_
        rotate_left; · (intro w hSw; (try dsimp only at hSw); go_simp; try with_reducible rfl)
        try simp only [Act.put, List.getElem_toArray, List.getElem_cons_zero, List.getElem_cons_succ, List.setIfInBounds_toArray, List.set_cons_zero, List.set_cons_succ]
        refine wpAnyH_take (i := 12) (v := ?_) rfl (by kernel_rfl) (by kernel_rfl) (by kernel_rfl) (fun _ _ _ h => h) (Or.inl ⟨by rfl, ?_⟩) (by assumption) ?_
        rotate_left; · (intro w hSw; (try dsimp only at hSw); go_simp; try with_reducible rfl)
        try simp only [Act.put, List.getElem_toArray, List.getElem_cons_zero, List.getElem_cons_succ, List.setIfInBounds_toArray, List.set_cons_zero, List.set_cons_succ]
        refine wpAnyH_take (i := 13) (v := ?_) rfl (by kernel_rfl) (by kernel_rfl) (by kernel_rfl) (fun _ _ _ h => h) (Or.inl ⟨by rfl, ?_⟩) (by assumption) ?_
        rotate_left; · (intro w hSw; (try dsimp only at hSw); go_simp; try with_reducible rfl)
        try simp only [Act.put, List.getElem_toArray, List.getElem_cons_zero, List.getElem_cons_succ, List.setIfInBounds_toArray, List.set_cons_zero, List.set_cons_succ]
        refine wpAnyH_ready (rs := [14]) (by kernel_rfl) (by simp) ?_
        refine AllReadyH.cons rfl (fun K hK => ?_) AllReadyH.nil
        go_simp
        go_at_call 19
        refine (C19.out _ hHeld.1).mono ?_
        rintro e w8 ⟨rfl, hb8⟩
        go_wp2_with fail
        refine hK.out _ _ (HKEEP.out _ (hHeld.1.trans (hb8.mono hHeld.1.size))) (fun hNew => ?_)
        clear hK K hHeld hb8
        have hHeld := hNew
        clear hNew
        try simp only [Act.put, List.getElem_toArray, List.getElem_cons_zero, List.getElem_cons_succ, List.setIfInBounds_toArray, List.set_cons_zero, List.set_cons_succ]
        rw [← HOKR2.out]
        have hb8 := hHeld.1
        have bx8 := hbx.trans (hb8.mono zx)
        cases okb with
        | false =>
          have HST2 := Lib.hid (HST.out.1 rfl)
          refine wpAnyH_take (i := 15) (v := ?_) rfl (by kernel_rfl) (by kernel_rfl) (by kernel_rfl) (fun _ _ _ h => h) (Or.inl ⟨by rfl, ?_⟩) (by assumption) ?_
          rotate_left; · (intro w hSw; (try dsimp only at hSw); go_simp; try with_reducible rfl)
          try simp only [Act.put, List.getElem_toArray, List.getElem_cons_zero, List.getElem_cons_succ, List.setIfInBounds_toArray, List.set_cons_zero, List.set_cons_succ]
          refine wpAnyH_take (i := 16) (v := ?_) rfl (by kernel_rfl) (by kernel_rfl) (by kernel_rfl) (fun _ _ _ h => h) (Or.inl ⟨by rfl, ?_⟩) (by assumption) ?_
          rotate_left; · (intro w hSw; (try dsimp only at hSw); go_simp; try with_reducible rfl)
          try simp only [Act.put, List.getElem_toArray, List.getElem_cons_zero, List.getElem_cons_succ, List.setIfInBounds_toArray, List.set_cons_zero, List.set_cons_succ]
          refine wpAnyH_done (by kernel_rfl) ?_ _
          clear hHeld
          go_wp2_with fail
          go_roundg go
          case measure => omega
          case rel => exact ⟨i + 1, by omega, by go_num, by rw [HAT.out, HST2.out], bx8⟩
        | true =>
          obtain ⟨s1, s2, s3⟩ := HST.out.2 rfl
          have HS1 := Lib.hid s1
          obtain ⟨p1, p2⟩ := HPV.out at0 s2
          subst p1
          have bw28 := hw27.trans (bx8.mono hw27.size)
          rw [← bw28.cell (p := ⟨pb', _, none⟩) (cell_lt p2), s3] at p2
          have p3 := (hb8.cell (p := ⟨fb, _, none⟩) (cell_lt E2.out)).trans E2.out
          have k6 : decide ((at0 : Int) ≥ (P.length : Int)) = false := by simp; omega
          have k7 : decide (P.length ≤ at0) = false := by simp; omega
          refine wpAnyH_take (i := 15) (v := ?_) rfl (by kernel_rfl) (by kernel_rfl) (by kernel_rfl) (fun _ _ _ h => h) (Or.inl ⟨by rfl, ?_⟩) (by assumption) ?_
          rotate_left; · (intro w hSw; (try dsimp only at hSw); go_simp; try with_reducible rfl)
          try simp only [Act.put, List.getElem_toArray, List.getElem_cons_zero, List.getElem_cons_succ, List.setIfInBounds_toArray, List.set_cons_zero, List.set_cons_succ]
          refine wpAnyH_take (i := 16) (v := ?_) rfl (by kernel_rfl) (by kernel_rfl) (by kernel_rfl) (fun _ _ _ h => h) (Or.inl ⟨by rfl, ?_⟩) (by assumption) ?_
          rotate_left; · (intro w hSw; (try dsimp only at hSw); go_simp; try with_reducible rfl)
          try simp only [Act.put, List.getElem_toArray, List.getElem_cons_zero, List.getElem_cons_succ, List.setIfInBounds_toArray, List.set_cons_zero, List.set_cons_succ]
          refine wpAnyH_done (by kernel_rfl) ?_ _
          clear hHeld s1 s3
          go_wp2_with fail
          go_quiet (fail)
          go_wp2
          go_roundg go
          case measure => omega
          case rel => exact ⟨i + 1, by omega, by go_num, by rw [HAT.out, HS1.out]; go_num, below_drewN bx8 _⟩
  · have CB := Lib.hid (C14b.out w1 (HG.out.below b1) (HV.out.below b1) hok)
    have HNOK := Lib.hid hok
    clear hok
    go_wp2_with fail
    refine CB.out.mono ?_
    rintro e w2 ⟨rfl, hb2⟩
    have b2 := b1.trans (hb2.mono z1)
    have G2 := Lib.hid ((hb2.block G (Array.getElem?_eq_some_iff.1 G1.out).1).trans G1.out)
    clear a0 a1 a2 a3 a4 G1 hb2 b1 CB
    have a0 := cell_of_row _ _ 0 _ _ _ G2.out
    have a1 := cell_of_row _ _ 1 _ _ _ G2.out
    have a2 := cell_of_row _ _ 2 _ _ _ G2.out
    have a3 := cell_of_row _ _ 3 _ _ _ G2.out
    have a4 := cell_of_row _ _ 4 _ _ _ G2.out
    have CG := Lib.hid (C15.out w2 (HG.out.below b2) (by have := HPT.out.2.1; omega))
    go_wp2_with fail
    refine CG.out.mono ?_
    rintro e w3 ⟨u, rfl, hg3, hb3⟩
    have b3 := b2.trans (hb3.mono b2.size)
    have CH := Lib.hid (C16.out w3 (HV.out.below b3) (by have := HPT.out.2.2.2.2; omega))
    obtain ⟨ua, un, uc, vpa, vpn, vpc, vsa, vsn, vsc, eu⟩ := hg3.val
    have HG3 := Lib.hid hg3
    have EU := Lib.hid eu
    rw [eu]
    clear a0 a1 a2 a3 a4 G2 hg3 CG eu
    simp only at EU ⊢
    go_wp2_with fail
    refine CH.out.mono ?_
    rintro e w4 ⟨lu, rfl, hl4, hb4⟩
    obtain ⟨lao, lln, lc, rfl⟩ := hl4.val
    have b4 := b3.trans (hb4.mono b3.size)
    have g4 := HG3.out.below hb4
    have bM : Below w4.heap.size w4 (w4.alloc (.cells #[.slice ua un uc, .int .i64 g.thr, .bool g.idx, .slice vpa vpn vpc, .slice vsa vsn vsc] 37)) := (Below.refl _ _).alloc (Nat.le_refl _) _
    have aM := heap_alloc_last w4 (.cells #[.slice ua un uc, .int .i64 g.thr, .bool g.idx, .slice vpa vpn vpc, .slice vsa vsn vsc] 37)
    obtain ⟨M, hM⟩ : ∃ M, M = w4.heap.size := ⟨_, rfl⟩
    have HM := Lib.hid hM
    rw [← hM] at aM
    have g5 := g4.below bM
    have l5 := hl4.below bM
    have b5 := b4.trans (bM.mono b4.size)
    have b25 : Below w2.heap.size w2 (w4.alloc (.cells #[.slice ua un uc, .int .i64 g.thr, .bool g.idx, .slice vpa vpn vpc, .slice vsa vsn vsc] 37)) := (hb3.trans (hb4.mono hb3.size)).alloc (hb3.trans (hb4.mono hb3.size)).size _
    have C17 := refCheck_any _ _ hs _ g5 l5
    rw [EU.out] at C17
    have C17 := Lib.hid C17
    have AM := Lib.hid aM
    have G5 := Lib.hid g5
    have L5 := Lib.hid l5
    clear hM aM g5 l5 bM g4 hl4 hb4 hb3 b3 b4 CH HG3
    go_upto_region 5 with fail
    rw [← HM.out]
    generalize w4.alloc (.cells #[.slice ua un uc, .int .i64 g.thr, .bool g.idx, .slice vpa vpn vpc, .slice vsa vsn vsc] 37) = W5 at AM G5 L5 b5 b25 C17 ⊢
    have m0 := cell_of_row _ _ 0 _ _ _ AM.out
    have m1 := cell_of_row _ _ 1 _ _ _ AM.out
    have m2 := cell_of_row _ _ 2 _ _ _ AM.out
    have m3 := cell_of_row _ _ 3 _ _ _ AM.out
    have m4 := cell_of_row _ _ 4 _ _ _ AM.out
    have c17 := C17.out
    rw [show decide (Ok { g with nv := u } hs) = false from decide_eq_false HNOK.out] at c17
    have C17' := Lib.hid c17
    clear c17 C17
    go_wp2_with fail
    refine C17'.out.mono ?_
    rintro e w6 ⟨rfl, hb6⟩
    go_wp2_with fail
    refine (AW.out _).mono ?_
    rintro e w7 ⟨rfl, hb7⟩
    go_wp2
    go_ret
    exact ⟨rfl, b5.trans ((hb6.trans (hb7.mono hb6.size)).mono b5.size)⟩

end Go.Proofs.Ytapjgjjmlbhanaa
