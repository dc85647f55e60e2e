/- Law Fetches, walked. -/
import Derived.Test.YtapjgjjmlbhanaaQ2
import Derived.Test.YtapjgjjmlbhanaaK2
import Derived.Test.YtapjgjjmlbhanaaB7
namespace Go.Proofs.Ytapjgjjmlbhanaa
open Go.RowKit Go.Lib
set_option linter.unusedSimpArgs false

theorem ReadsF.below {w w' : World} {v : Value} {fs : List (Int × Pc)} (h : ReadsF w v fs) (hb : Below w.heap.size w w') : ReadsF w' v fs := RowAt.below h hb
theorem ReadsF.elem {w : World} {v : Value} {fs : List (Int × Pc)} (h : ReadsF w v fs) : ∃ ao c b off, v = .slice ao fs.length c ∧ fs.length ≤ 4611686018427387904 ∧
    ∀ i, i < fs.length → ao = some ⟨b, off, none⟩ ∧ w.cell? ⟨b, off + i * 3, none⟩ = some (.int .i64 (fs.getD i (0, default)).1) ∧ w.cell? ⟨b, off + i * 3 + 1, none⟩ = some (.string (fs.getD i (0, default)).2.st) ∧ w.cell? ⟨b, off + i * 3 + 2, none⟩ = some (.int .i64 (fs.getD i (0, default)).2.ix) := by
  obtain ⟨ao, c, b, off, e, h1, h2, h3⟩ := RowAt.at h
  refine ⟨ao, c, b, off, e, h2, fun i hi => ?_⟩
  obtain ⟨h4, h5⟩ := h3 i hi
  exact ⟨h4, h5 0 (by omega), h5 1 (by omega), h5 2 (by omega)⟩
theorem ReadsF.val' {w : World} {v : Value} {fs : List (Int × Pc)} (h : ReadsF w v fs) : ∃ ao c, v = .slice ao fs.length c := by
  obtain ⟨ao, c, _, _, e, _⟩ := h.elem
  exact ⟨ao, c, e⟩

set_option maxRecDepth 100000 in
set_option maxHeartbeats 2000000 in
theorem fetches_bad (g : Gl) (v dv : Value) (hs : List Hd) (devs : List Int) (w : World) (hg : GlAt w g) (hv : ReadsH w v hs) (hd : ReadsI w dv devs) (hok : ¬ Ok g hs) :
    Calls Try.prog 29 #[g.v, v, dv] w fun e w' => e = .returned (.tuple #[.slice none 0 0, .int .i64 1]) ∧ Below w.heap.size w w' := by
  have cc := fun W h1 h2 => read_bad g v hs W h1 h2 hok
  obtain ⟨na, n1, nc, pa, n2, pc, sa, n3, sc, e1⟩ := hg.val
  obtain ⟨ao, n4, c4, rfl⟩ := hv.val
  obtain ⟨dao, dc, _, _, rfl, _⟩ := hd.at
  rw [e1] at cc ⊢
  have CC := Lib.hid cc
  have HG := Lib.hid hg
  have HV := Lib.hid hv
  clear hg hv hok cc e1 hd
  go_enter Try.func29, Try.ntmps29
  go_wp2_with fail
  try go_step3
  go_wp2_with fail
  refine (CC.out _ (HG.out.below (by (repeat' (first | (with_reducible exact Below.refl _ _) | (with_reducible assumption) | (with_reducible refine Below.alloc ?_ ?_ _) | (with_reducible refine Below.drew ?_) | (with_reducible refine below_drewN ?_ _) | (with_reducible refine Below.setCell ?_ ?_ _) | (with_reducible refine below_step ?_ (by with_reducible assumption) ?_) | go_size)))) (HV.out.below (by (repeat' (first | (with_reducible exact Below.refl _ _) | (with_reducible assumption) | (with_reducible refine Below.alloc ?_ ?_ _) | (with_reducible refine Below.drew ?_) | (with_reducible refine below_drewN ?_ _) | (with_reducible refine Below.setCell ?_ ?_ _) | (with_reducible refine below_step ?_ (by with_reducible assumption) ?_) | go_size))))).mono ?_
  rintro e w1 ⟨rfl, hb⟩
  go_wp2
  try rw [Exit.noGoto_ret]
  go_ret2
  exact ⟨rfl, by (repeat' (first | (with_reducible exact Below.refl _ _) | (with_reducible assumption) | (with_reducible refine Below.alloc ?_ ?_ _) | (with_reducible refine Below.drew ?_) | (with_reducible refine below_drewN ?_ _) | (with_reducible refine Below.setCell ?_ ?_ _) | (with_reducible refine below_step ?_ (by with_reducible assumption) ?_) | go_size))⟩

/-- What Fetches answers. -/
def fetOut (g : Gl) (hs : List Hd) (devs : List Int) : List (Int × Pc) := if Ok g hs then (fetR g hs devs devs.length).2 else []
def okE (g : Gl) (hs : List Hd) : Int := if Ok g hs then 0 else 1
theorem fetches_two (g : Gl) (v dv : Value) (hs : List Hd) (devs : List Int) (w : World) (hg : GlAt w g) (hv : ReadsH w v hs) (hd : ReadsI w dv devs) (hlen : devs.length ≤ 1000) (hps : ∀ y ∈ hs, y.ps.length ≤ 1000) :
    Calls Try.prog 29 #[g.v, v, dv] w fun e w' => ∃ u, e = .returned (.tuple #[u, .int .i64 (okE g hs)]) ∧ ReadsF w' u (fetOut g hs devs) ∧ Below w.heap.size w w' := by
  unfold fetOut okE
  by_cases hok : Ok g hs
  · simp only [if_pos hok]
    refine (fetches_ok g v dv hs devs w hg hv hd hok hlen hps).mono ?_
    rintro e w' ⟨L, hp, hsd, u, rfl, hr, hb⟩
    exact ⟨u, rfl, by rw [← fetL_eq hok hp]; exact hr, hb⟩
  · simp only [if_neg hok]
    refine (fetches_bad g v dv hs devs w hg hv hd hok).mono ?_
    rintro e w' ⟨rfl, hb⟩
    exact ⟨_, rfl, (Own.nil w' 0 71 3 (ftCell [])).row (by simp), hb⟩

set_option maxRecDepth 100000 in
set_option maxHeartbeats 16000000 in
theorem lawFetches_any (g : Gl) (v dv : Value) (hs : List Hd) (devs : List Int) (w : World) (hg : GlAt w g) (hv : ReadsH w v hs) (hd : ReadsI w dv devs) :
    Calls Try.prog 6 #[g.v, v, dv] w fun e w' => e = .returned (.bool true) ∧ Below w.heap.size w w' := by
  obtain ⟨fe, hfe⟩ : ∃ fe, fe = okE g hs := ⟨_, rfl⟩
  obtain ⟨fo, hfo⟩ : ∃ fo, fo = fetOut g hs devs := ⟨_, rfl⟩
  have c12 := few_any g v hs
  have c29 := fetches_two g v dv hs devs
  have c15 := goalOf_any g
  have c16 := holdingsOf_any v hs
  simp only [← hfe, ← hfo] at c29
  obtain ⟨na, n1, nc, pa, n2, pc, sa, n3, sc, e1⟩ := hg.val
  obtain ⟨ao, n4, c4, rfl⟩ := hv.val
  obtain ⟨dao, dc, db, doff, rfl, hdl, hdm, _⟩ := hd.at
  rw [e1] at c12 c29 c15 ⊢
  have HG := Lib.hid hg
  have HV := Lib.hid hv
  have HD := Lib.hid hd
  have C12 := Lib.hid c12
  have C29 := Lib.hid c29
  have C15 := Lib.hid c15
  have C16 := Lib.hid c16
  have AW := Lib.hid awake_any
  have HFE := Lib.hid hfe
  have HFO := Lib.hid hfo
  clear hg hv hd c12 c29 c15 c16 e1 hfe hfo
  have b0 : Below w.heap.size w (w.alloc (.cells #[.slice na n1 nc, .int .i64 g.thr, .bool g.idx, .slice pa n2 pc, .slice sa n3 sc] 26)) := (Below.refl _ _).alloc (Nat.le_refl _) _
  have g0 := heap_alloc_last w (.cells #[.slice na n1 nc, .int .i64 g.thr, .bool g.idx, .slice pa n2 pc, .slice sa n3 sc] 26)
  obtain ⟨G, hG⟩ : ∃ G, G = w.heap.size := ⟨_, rfl⟩
  have HGG := Lib.hid hG
  rw [← hG] at g0
  have G0 := Lib.hid g0
  clear g0 hG
  go_enter Try.func6, Try.ntmps6
  go_upto_region 1 with fail
  rw [← HGG.out]
  generalize w.alloc (Obj.cells #[.slice na n1 nc, .int .i64 g.thr, .bool g.idx, .slice pa n2 pc, .slice sa n3 sc] 26) = W at b0 G0 ⊢
  have a0 := cell_of_row _ _ 0 _ _ _ G0.out
  have a1 := cell_of_row _ _ 1 _ _ _ G0.out
  have a2 := cell_of_row _ _ 2 _ _ _ G0.out
  have a3 := cell_of_row _ _ 3 _ _ _ G0.out
  have a4 := cell_of_row _ _ 4 _ _ _ G0.out
  go_wp2_with fail
  refine (C12.out W (HG.out.below b0) (HV.out.below b0)).mono ?_
  rintro e w1 ⟨rfl, hb1⟩
  have b1 := b0.trans (hb1.mono b0.size)
  have G1 := Lib.hid ((hb1.block G (Array.getElem?_eq_some_iff.1 G0.out).1).trans G0.out)
  clear a0 a1 a2 a3 a4 G0 hb1 b0
  have z1 := b1.size
  by_cases hfew : fewB g hs = false
  · rw [hfew]
    go_wp2_with fail
    refine (AW.out _).mono ?_
    rintro e w2 ⟨rfl, hba⟩
    go_wp2
    go_ret
    exact ⟨rfl, b1.trans (hba.mono z1)⟩
  have hfew1 : fewB g hs = true := by simpa using hfew
  have hparts := few_parts hfew1
  rw [hfew1]
  have HPT := Lib.hid hparts
  clear hfew hfew1 hparts
  by_cases hl1 : 20 < devs.length
  · have k1 : decide ((devs.length : Int) > 20) = true := by simp; omega
    go_wp2_with fail
    refine (AW.out _).mono ?_
    rintro e w2 ⟨rfl, hba⟩
    go_wp2
    go_ret
    exact ⟨rfl, b1.trans (hba.mono z1)⟩
  have k1 : decide ((devs.length : Int) > 20) = false := by simp; omega
  have a0 := cell_of_row _ _ 0 _ _ _ G1.out
  have a1 := cell_of_row _ _ 1 _ _ _ G1.out
  have a2 := cell_of_row _ _ 2 _ _ _ G1.out
  have a3 := cell_of_row _ _ 3 _ _ _ G1.out
  have a4 := cell_of_row _ _ 4 _ _ _ G1.out
  have CB := Lib.hid (C29.out w1 (HG.out.below b1) (HV.out.below b1) (HD.out.below b1) (by omega) (fun y hy => by have := (HPT.out.1 y hy).1; omega))
  go_wp2_with fail
  refine CB.out.mono ?_
  rintro e w3 ⟨av, rfl, hav, hb2⟩
  obtain ⟨oa, oc, rfl⟩ := hav.val'
  have HAV := Lib.hid hav
  have b3 := b1.trans (hb2.mono b1.size)
  have G3 := Lib.hid ((hb2.block G (Array.getElem?_eq_some_iff.1 G1.out).1).trans G1.out)
  clear a0 a1 a2 a3 a4 hb2 CB hav
  have a0 := cell_of_row _ _ 0 _ _ _ G3.out
  have a1 := cell_of_row _ _ 1 _ _ _ G3.out
  have a2 := cell_of_row _ _ 2 _ _ _ G3.out
  have a3 := cell_of_row _ _ 3 _ _ _ G3.out
  have a4 := cell_of_row _ _ 4 _ _ _ G3.out
  have CG := Lib.hid (C15.out w3 (HG.out.below b3) (by have := HPT.out.2.1; omega))
  generalize hml : fo.length = ml at *
  have HML := Lib.hid hml
  clear hml
  go_wp2_with fail
  refine CG.out.mono ?_
  rintro e wa ⟨u, rfl, hga, hba⟩
  have ba := b3.trans (hba.mono b3.size)
  have CH := Lib.hid (C16.out wa (HV.out.below ba) (by have := HPT.out.2.2.2.2; omega))
  obtain ⟨ua, un, uc, vpa, vpn, vpc, vsa, vsn, vsc, eu⟩ := hga.val
  have HGa := Lib.hid hga
  have EU := Lib.hid eu
  rw [eu]
  clear a0 a1 a2 a3 a4 hga CG eu
  simp only at EU ⊢
  go_wp2_with fail
  refine CH.out.mono ?_
  rintro e wb ⟨lu, rfl, hlb, hbb⟩
  obtain ⟨lao, lln, lc, rfl⟩ := hlb.val
  have bb := ba.trans (hbb.mono ba.size)
  have gb := HGa.out.below hbb
  have bM : Below wb.heap.size wb (wb.alloc (.cells #[.slice ua un uc, .int .i64 g.thr, .bool g.idx, .slice vpa vpn vpc, .slice vsa vsn vsc] 37)) := (Below.refl _ _).alloc (Nat.le_refl _) _
  have aM := heap_alloc_last wb (.cells #[.slice ua un uc, .int .i64 g.thr, .bool g.idx, .slice vpa vpn vpc, .slice vsa vsn vsc] 37)
  obtain ⟨M, hM⟩ : ∃ M, M = wb.heap.size := ⟨_, rfl⟩
  have HM := Lib.hid hM
  rw [← hM] at aM
  have b5 := bb.trans (bM.mono bb.size)
  have bi5 : Below w3.heap.size w3 (wb.alloc (.cells #[.slice ua un uc, .int .i64 g.thr, .bool g.idx, .slice vpa vpn vpc, .slice vsa vsn vsc] 37)) := (hba.trans (hbb.mono hba.size)).alloc (hba.trans (hbb.mono hba.size)).size _
  have GG5 := Lib.hid (gb.below bM)
  have L5 := Lib.hid (hlb.below bM)
  have AM := Lib.hid aM
  clear hM aM bM gb hlb hbb hba ba bb CH HGa
  go_upto_region 5 with fail
  rw [← HM.out]
  generalize wb.alloc (.cells #[.slice ua un uc, .int .i64 g.thr, .bool g.idx, .slice vpa vpn vpc, .slice vsa vsn vsc] 37) = W5 at AM GG5 L5 b5 bi5 ⊢
  have m0 := cell_of_row _ _ 0 _ _ _ AM.out
  have m1 := cell_of_row _ _ 1 _ _ _ AM.out
  have m2 := cell_of_row _ _ 2 _ _ _ AM.out
  have m3 := cell_of_row _ _ 3 _ _ _ AM.out
  have m4 := cell_of_row _ _ 4 _ _ _ AM.out
  have HAV5 := Lib.hid (HAV.out.below bi5)
  have c17 := refCheck_any _ _ hs _ GG5.out L5.out
  rw [EU.out] at c17
  have C17 := Lib.hid c17
  clear c17 bi5
  by_cases hok : Ok g hs
  · have c17 := C17.out
    rw [show decide (Ok { g with nv := u } hs) = true from decide_eq_true hok] at c17
    have C17' := Lib.hid c17
    have hfe := HFE.out
    unfold okE at hfe
    rw [if_pos hok] at hfe
    subst hfe
    clear c17
    go_wp2_with fail
    refine C17'.out.mono ?_
    rintro e w6 ⟨rfl, hb6⟩
    have b6 := b5.trans (hb6.mono b5.size)
    have GG6 := Lib.hid (GG5.out.below hb6)
    have L6 := Lib.hid (L5.out.below hb6)
    have M6 := Lib.hid ((hb6.block M (Array.getElem?_eq_some_iff.1 AM.out).1).trans AM.out)
    have HAV6 := Lib.hid (HAV5.out.below hb6)
    clear m0 m1 m2 m3 m4 AM GG5 L5 hb6 C17 C17' b5 HAV HAV5
    have z6 := b6.size
    have c30 := fetches_ref { g with nv := u } _ _ hs devs w6 GG6.out L6.out (HD.out.below b6) hok (by omega) (fun y hy => by have := (HPT.out.1 y hy).1; omega) (by have := HPT.out.2.2.1; show g.ps.length ≤ 1000; omega)
    have hs3 : (fetR { g with nv := u } hs devs devs.length).2 = fo := by
      rw [HFO.out]
      unfold fetOut
      rw [if_pos hok]
      rfl
    simp only [EU.out, hs3] at c30
    have C30 := Lib.hid c30
    clear c30 hs3 hok
    have m0 := cell_of_row _ _ 0 _ _ _ M6.out
    have m1 := cell_of_row _ _ 1 _ _ _ M6.out
    have m2 := cell_of_row _ _ 2 _ _ _ M6.out
    have m3 := cell_of_row _ _ 3 _ _ _ M6.out
    have m4 := cell_of_row _ _ 4 _ _ _ M6.out
    go_wp2_with fail
    refine C30.out.mono ?_
    rintro e w7 ⟨rv, rfl, hrv, hb7⟩
    have b7 := b6.trans (hb7.mono z6)
    have z7 := b7.size
    obtain ⟨xa, xc, xb, xo, rfl, hxm, hx⟩ := hrv.elem
    obtain ⟨ya, yc, yb, yo, ey, _, hy⟩ := (HAV6.out.below hb7).elem
    rw [HML.out] at ey hx hy hxm ⊢
    injection ey with ey1 ey2 ey3
    subst ey1 ey3
    have HX := Lib.hid hx
    have HY := Lib.hid hy
    have hnn : ((ml : Int) != (ml : Int)) = false := by simp
    clear m0 m1 m2 m3 m4 hrv hx hy hb7 C30
    go_wp2_with fail
    clear hnn
    go_loopg [12] ml (fun gk v12 wx => ∃ k : Nat, k + gk = ml ∧ v12 = .int .i64 k ∧ Below w7.heap.size w7 wx)
    case atStart => exact ⟨0, by omega, rfl, Below.refl _ _⟩
    case round =>
      obtain ⟨k, hk, rfl, hbx⟩ := hrel
      have zx := hbx.size
      cases gk with
      | zero =>
        obtain rfl : k = ml := by omega
        go_wp2_with fail
        refine (AW.out _).mono ?_
        rintro e w8 ⟨rfl, hb8⟩
        go_wp2
        go_ret
        exact ⟨rfl, b7.trans ((hbx.trans (hb8.mono zx)).mono z7)⟩
      | succ go =>
        have hlt : k < ml := by omega
        obtain ⟨rfl, hc1, hc2, hc3⟩ := HX.out k hlt
        obtain ⟨rfl, hd1, hd2, hd3⟩ := HY.out k hlt
        have hc1 := (hbx.cell (cell_lt hc1)).trans hc1
        have hc2 := (hbx.cell (cell_lt hc2)).trans hc2
        have hc3 := (hbx.cell (cell_lt hc3)).trans hc3
        have hd1 := (hbx.cell (cell_lt hd1)).trans hd1
        have hd2 := (hbx.cell (cell_lt hd2)).trans hd2
        have hd3 := (hbx.cell (cell_lt hd3)).trans hd3
        generalize (fo.getD k (0, default)).2.st = st at *
        generalize (fo.getD k (0, default)).2.ix = ix at *
        generalize (fo.getD k (0, default)).1 = d at *
        have k2 := str_eq st st
        rw [decide_eq_true rfl] at k2
        go_wp2
        go_quiet (fail)
        go_wp2
        go_roundg go
        case measure => omega
        case rel => exact ⟨k + 1, by omega, by go_num, below_drewN hbx _⟩
  · have c17 := C17.out
    rw [show decide (Ok { g with nv := u } hs) = false from decide_eq_false hok] at c17
    have C17' := Lib.hid c17
    have hfe := HFE.out
    have hfo := HFO.out
    unfold okE at hfe
    unfold fetOut at hfo
    rw [if_neg hok] at hfe hfo
    subst hfe hfo
    obtain rfl : 0 = ml := HML.out
    clear c17 C17 hok C29 HFO HFE
    go_wp2_with fail
    refine C17'.out.mono ?_
    rintro e w6 ⟨rfl, hb6⟩
    have b6 := b5.trans (hb6.mono b5.size)
    clear m0 m1 m2 m3 m4
    go_wp2_with fail
    refine (AW.out _).mono ?_
    rintro e w7 ⟨rfl, hb7⟩
    go_wp2
    go_ret
    exact ⟨rfl, b6.trans (hb7.mono b6.size)⟩

end Go.Proofs.Ytapjgjjmlbhanaa
