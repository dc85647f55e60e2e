/- Law Lacks, walked. -/
import Derived.Test.YtapjgjjmlbhanaaN3
import Derived.Test.YtapjgjjmlbhanaaK2
import Derived.Test.YtapjgjjmlbhanaaB7
namespace Go.Proofs.Ytapjgjjmlbhanaa
open Go.RowKit Go.Lib
set_option linter.unusedSimpArgs false

def Nd.v (n : Nd) : Value := .agg #[.string n.st, .int .i64 n.d]
theorem run_neq_nd (p : Nd) (w : World) : (binOp .neq 80 p.v p.v).run Try.prog w = .ok (.bool false) w := by
  have u3 := Try.underlying3
  have a3 := Try.isAgg3
  have z3 := Try.sizeOf3
  have u9 := Try.underlying9
  have a9 := Try.isAgg9
  have z9 := Try.sizeOf9
  have hS : Try.prog.underlying 80 = some (.struct (Try.prog.fieldsOf 80)) := by kernel_rfl
  have hp : Try.prog.stoodInHeld 80 = false := by kernel_rfl
  obtain ⟨s, i⟩ := p
  unfold Nd.v
  rw [run_neq_struct, show (10000 : Nat) = 9999 + 1 from rfl, run_equalIn_agg w 9999 80 _ _ hS hp]
  simp only [Program.fieldsOf, Try.underlying80]
  go_simp

/-- Of the needs that lack something, the one at a place. -/
theorem lackL_at (g : Gl) (hs : List Hd) (devs : List Int) (k : Nat) (hk : k < g.ns.length) :
    (¬ 0 < (ndR g hs devs).getD k 0 → (lackTo' g hs devs (k + 1)).length = (lackTo' g hs devs k).length) ∧
    (0 < (ndR g hs devs).getD k 0 → (lackTo' g hs devs (k + 1)).length = (lackTo' g hs devs k).length + 1 ∧ (lackTo' g hs devs k).length < (lackL g hs devs).length ∧
      (lackL g hs devs).getD (lackTo' g hs devs k).length default = ⟨(g.ns.getD k default).st, (ndR g hs devs).getD k 0⟩) := by
  have pre : ∀ n, k + 1 ≤ n → ∃ r, lackTo' g hs devs n = lackTo' g hs devs (k + 1) ++ r := by
    intro n
    induction n with
    | zero => intro h; omega
    | succ n ih =>
      intro h
      by_cases e : k + 1 = n + 1
      · rw [e]; exact ⟨[], by simp⟩
      · obtain ⟨r, hr⟩ := ih (by omega)
        rw [lackTo', hr, List.append_assoc]
        exact ⟨_, rfl⟩
  obtain ⟨r, hr⟩ := pre g.ns.length (by omega)
  have hs1 : lackTo' g hs devs (k + 1) = lackTo' g hs devs k ++ if 0 < (ndR g hs devs).getD k 0 then [⟨(g.ns.getD k default).st, (ndR g hs devs).getD k 0⟩] else [] := rfl
  constructor
  · intro h
    rw [hs1, if_neg h, List.append_nil]
  · intro h
    have hl : lackL g hs devs = lackTo' g hs devs (k + 1) ++ r := hr
    rw [hl, hs1, if_pos h]
    exact ⟨by simp, by simp, by simp [List.getD]⟩

set_option maxRecDepth 100000 in
set_option maxHeartbeats 16000000 in
theorem lawLacks_any (g : Gl) (v dv : Value) (hs : List Hd) (devs : List Int) (w : World) (hg : GlAt w g) (hv : ReadsH w v hs) (hd : ReadsI w dv devs) :
    Calls Try.prog 11 #[g.v, v, dv] w fun e w' => e = .returned (.bool true) ∧ Below w.heap.size w w' := by
  have c12 := few_any g v hs
  have c21b := suffic_bad g v dv hs
  have c21 := suffic_ok g v dv hs devs
  have c34b := lacking_bad g v dv hs
  have c34 := lacking_ok g v dv hs devs
  have c36 := check_any g v hs
  have c15 := goalOf_any g
  have c16 := holdingsOf_any v hs
  obtain ⟨nao, nnc, nnb, nno, env, hnl, hnm, hncell⟩ := hg.1.at
  obtain ⟨na, n1, nc, pa, n2, pc, sa, n3, sc, e1⟩ := hg.val
  obtain ⟨ao, n4, c4, rfl⟩ := hv.val
  have env2 : g.nv = .slice na n1 nc := by
    have := e1
    unfold Gl.v at this
    simp at this
    exact this.1
  rw [env] at env2
  cases env2
  obtain ⟨dao, dc, db, doff, rfl, hdl, hdm, hdcell⟩ := hd.at
  rw [e1] at c12 c21 c21b c34 c34b c36 c15 ⊢
  have HG := Lib.hid hg
  have HV := Lib.hid hv
  have HD := Lib.hid hd
  have C12 := Lib.hid c12
  have C21 := Lib.hid c21
  have C21b := Lib.hid c21b
  have C34 := Lib.hid c34
  have C34b := Lib.hid c34b
  have C36 := Lib.hid c36
  have C15 := Lib.hid c15
  have C16 := Lib.hid c16
  have AW := Lib.hid awake_any
  have HE1 := Lib.hid e1
  have HNC := Lib.hid hncell
  clear hg hv hd hdcell c12 c21 c21b c34 c34b c36 c15 c16 e1 env hncell
  have HNL := Lib.hid hnl
  clear hnl
  have b0 : Below w.heap.size w (w.alloc (.cells #[.slice nao g.ns.length nnc, .int .i64 g.thr, .bool g.idx, .slice pa n2 pc, .slice sa n3 sc] 26)) := (Below.refl _ _).alloc (Nat.le_refl _) _
  have g0 := heap_alloc_last w (.cells #[.slice nao g.ns.length nnc, .int .i64 g.thr, .bool g.idx, .slice pa n2 pc, .slice sa n3 sc] 26)
  obtain ⟨G, hG⟩ : ∃ G, G = w.heap.size := ⟨_, rfl⟩
  have HGG := Lib.hid hG
  rw [← hG] at g0
  have G0 := Lib.hid g0
  clear g0 hG
  go_enter Try.func11, Try.ntmps11
  go_upto_region 1 with fail
  rw [← HGG.out]
  generalize w.alloc (Obj.cells #[.slice nao g.ns.length nnc, .int .i64 g.thr, .bool g.idx, .slice pa n2 pc, .slice sa n3 sc] 26) = W at b0 G0 ⊢
  have a0 := cell_of_row _ _ 0 _ _ _ G0.out
  have a1 := cell_of_row _ _ 1 _ _ _ G0.out
  have a2 := cell_of_row _ _ 2 _ _ _ G0.out
  have a3 := cell_of_row _ _ 3 _ _ _ G0.out
  have a4 := cell_of_row _ _ 4 _ _ _ G0.out
  go_wp2_with fail
  refine (C12.out W (HG.out.below b0) (HV.out.below b0)).mono ?_
  rintro e w1 ⟨rfl, hb1⟩
  have b1 := b0.trans (hb1.mono b0.size)
  have G1 := Lib.hid ((hb1.block G (Array.getElem?_eq_some_iff.1 G0.out).1).trans G0.out)
  clear a0 a1 a2 a3 a4 G0 hb1 b0
  have z1 := b1.size
  by_cases hfew : fewB g hs = false
  · rw [hfew]
    go_wp2_with fail
    refine (AW.out _).mono ?_
    rintro e w2 ⟨rfl, hba⟩
    go_wp2
    go_ret
    exact ⟨rfl, b1.trans (hba.mono z1)⟩
  have hfew1 : fewB g hs = true := by simpa using hfew
  have hparts := few_parts hfew1
  rw [hfew1]
  have HPT := Lib.hid hparts
  clear hfew hfew1 hparts
  by_cases hl1 : 20 < devs.length
  · have k1 : decide ((devs.length : Int) > 20) = true := by simp; omega
    go_wp2_with fail
    refine (AW.out _).mono ?_
    rintro e w2 ⟨rfl, hba⟩
    go_wp2
    go_ret
    exact ⟨rfl, b1.trans (hba.mono z1)⟩
  have k1 : decide ((devs.length : Int) > 20) = false := by simp; omega
  have a0 := cell_of_row _ _ 0 _ _ _ G1.out
  have a1 := cell_of_row _ _ 1 _ _ _ G1.out
  have a2 := cell_of_row _ _ 2 _ _ _ G1.out
  have a3 := cell_of_row _ _ 3 _ _ _ G1.out
  have a4 := cell_of_row _ _ 4 _ _ _ G1.out
  by_cases hok : Ok g hs
  · have CB := Lib.hid (C21.out w1 (HG.out.below b1) (HV.out.below b1) (HD.out.below b1) hok)
    have HOK := Lib.hid hok
    clear hok
    go_wp2_with fail
    refine CB.out.mono ?_
    rintro e w2 ⟨rfl, hb2⟩
    have b2 := b1.trans (hb2.mono b1.size)
    have G2 := Lib.hid ((hb2.block G (Array.getElem?_eq_some_iff.1 G1.out).1).trans G1.out)
    have CB2 := Lib.hid (C34.out w2 (HG.out.below b2) (HV.out.below b2) (HD.out.below b2) HOK.out)
    clear a0 a1 a2 a3 a4 hb2 CB
    have a0 := cell_of_row _ _ 0 _ _ _ G2.out
    have a1 := cell_of_row _ _ 1 _ _ _ G2.out
    have a2 := cell_of_row _ _ 2 _ _ _ G2.out
    have a3 := cell_of_row _ _ 3 _ _ _ G2.out
    have a4 := cell_of_row _ _ 4 _ _ _ G2.out
    go_wp2_with fail
    refine CB2.out.mono ?_
    rintro e w3 ⟨nv3, rfl, hn3, hb3⟩
    obtain ⟨oa, oc, ob, oo, rfl, hol, hom, hocell⟩ := hn3.at
    have b3 := b2.trans (hb3.mono b2.size)
    have G3 := Lib.hid ((hb3.block G (Array.getElem?_eq_some_iff.1 G2.out).1).trans G2.out)
    have HOC := Lib.hid hocell
    clear a0 a1 a2 a3 a4 hn3 hb3 CB2 hocell
    have a0 := cell_of_row _ _ 0 _ _ _ G3.out
    have a1 := cell_of_row _ _ 1 _ _ _ G3.out
    have a2 := cell_of_row _ _ 2 _ _ _ G3.out
    have a3 := cell_of_row _ _ 3 _ _ _ G3.out
    have a4 := cell_of_row _ _ 4 _ _ _ G3.out
    have CG := Lib.hid (C15.out w3 (HG.out.below b3) (by have := HPT.out.2.1; omega))
    go_wp2_with fail
    refine CG.out.mono ?_
    rintro e wa ⟨u, rfl, hga, hba⟩
    have ba := b3.trans (hba.mono b3.size)
    have Ga := Lib.hid ((hba.block G (Array.getElem?_eq_some_iff.1 G3.out).1).trans G3.out)
    have CH := Lib.hid (C16.out wa (HV.out.below ba) (by have := HPT.out.2.2.2.2; omega))
    obtain ⟨ua, un, uc, vpa, vpn, vpc, vsa, vsn, vsc, eu⟩ := hga.val
    have HGa := Lib.hid hga
    have EU := Lib.hid eu
    rw [eu]
    clear a0 a1 a2 a3 a4 hga CG eu
    simp only at EU ⊢
    go_wp2_with fail
    refine CH.out.mono ?_
    rintro e wb ⟨lu, rfl, hlb, hbb⟩
    obtain ⟨lao, lln, lc, rfl⟩ := hlb.val
    have bb := ba.trans (hbb.mono ba.size)
    have gb := HGa.out.below hbb
    have bM : Below wb.heap.size wb (wb.alloc (.cells #[.slice ua un uc, .int .i64 g.thr, .bool g.idx, .slice vpa vpn vpc, .slice vsa vsn vsc] 37)) := (Below.refl _ _).alloc (Nat.le_refl _) _
    have aM := heap_alloc_last wb (.cells #[.slice ua un uc, .int .i64 g.thr, .bool g.idx, .slice vpa vpn vpc, .slice vsa vsn vsc] 37)
    obtain ⟨M, hM⟩ : ∃ M, M = wb.heap.size := ⟨_, rfl⟩
    have HM := Lib.hid hM
    rw [← hM] at aM
    have g5 := gb.below bM
    have l5 := hlb.below bM
    have b5 := bb.trans (bM.mono bb.size)
    have bi5 : Below w3.heap.size w3 (wb.alloc (.cells #[.slice ua un uc, .int .i64 g.thr, .bool g.idx, .slice vpa vpn vpc, .slice vsa vsn vsc] 37)) := (hba.trans (hbb.mono hba.size)).alloc (hba.trans (hbb.mono hba.size)).size _
    have C17 := refCheck_any _ _ hs _ g5 l5
    rw [EU.out] at C17
    have C17 := Lib.hid C17
    have G5 := Lib.hid ((bi5.block G (Array.getElem?_eq_some_iff.1 G3.out).1).trans G3.out)
    have AM := Lib.hid aM
    have GG5 := Lib.hid g5
    have L5 := Lib.hid l5
    clear hM aM g5 l5 bM gb hlb hbb hba ba bb CH HGa Ga
    go_upto_region 6 with fail
    rw [← HM.out]
    generalize wb.alloc (.cells #[.slice ua un uc, .int .i64 g.thr, .bool g.idx, .slice vpa vpn vpc, .slice vsa vsn vsc] 37) = W5 at AM GG5 L5 b5 bi5 C17 G5 ⊢
    have m0 := cell_of_row _ _ 0 _ _ _ AM.out
    have m1 := cell_of_row _ _ 1 _ _ _ AM.out
    have m2 := cell_of_row _ _ 2 _ _ _ AM.out
    have m3 := cell_of_row _ _ 3 _ _ _ AM.out
    have m4 := cell_of_row _ _ 4 _ _ _ AM.out
    have c17 := C17.out
    rw [show decide (Ok { g with nv := u } hs) = true from decide_eq_true HOK.out] at c17
    have C17' := Lib.hid c17
    clear c17 C17
    go_wp2_with fail
    refine C17'.out.mono ?_
    rintro e w6 ⟨rfl, hb6⟩
    have b6 := b5.trans (hb6.mono b5.size)
    have G6 := Lib.hid ((hb6.block G (Array.getElem?_eq_some_iff.1 G5.out).1).trans G5.out)
    have bi6 := bi5.trans (hb6.mono bi5.size)
    have GG6 := Lib.hid (GG5.out.below hb6)
    have L6 := Lib.hid (L5.out.below hb6)
    have M6 := Lib.hid ((hb6.block M (Array.getElem?_eq_some_iff.1 AM.out).1).trans AM.out)
    have CK := C36.out w6 (HG.out.below b6) (HV.out.below b6)
    rw [if_pos HOK.out] at CK
    have CK := Lib.hid CK
    clear m0 m1 m2 m3 m4 AM GG5 L5 hb6 C17' bi5 b5
    have a0 := cell_of_row _ _ 0 _ _ _ G6.out
    have a1 := cell_of_row _ _ 1 _ _ _ G6.out
    have a2 := cell_of_row _ _ 2 _ _ _ G6.out
    have a3 := cell_of_row _ _ 3 _ _ _ G6.out
    have a4 := cell_of_row _ _ 4 _ _ _ G6.out
    go_wp2_with fail
    refine CK.out.mono ?_
    rintro e w7 ⟨rfl, hb7⟩
    have b7 := b6.trans (hb7.mono b6.size)
    have G7 := Lib.hid ((hb7.block G (Array.getElem?_eq_some_iff.1 G6.out).1).trans G6.out)
    have bi7 := bi6.trans (hb7.mono bi6.size)
    have GG7 := Lib.hid (GG6.out.below hb7)
    have L7 := Lib.hid (L6.out.below hb7)
    have M7 := Lib.hid ((hb7.block M (Array.getElem?_eq_some_iff.1 M6.out).1).trans M6.out)
    have C18 : Calls Try.prog 18 #[({ g with nv := u } : Gl).v, .slice lao lln lc, .slice dao devs.length dc] w7 fun e w' => ∃ v, e = .returned (.tuple #[v, .int .i64 (shR g hs devs), .int .i64 (ixR g hs devs)]) ∧ ReadsI w' v (ndR g hs devs) ∧ Below w7.heap.size w7 w' :=
      lacks_any { g with nv := u } _ _ hs devs w7 GG7.out L7.out (HD.out.below b7) (by have := HPT.out.2.1; show g.ns.length ≤ 64; omega) HOK.out.2.1.2 HOK.out.1.2.1.1 HOK.out.1.2.1.2 (thereS_zero devs (show Ok { g with nv := u } hs from HOK.out))
    rw [EU.out] at C18
    have C18 := Lib.hid C18
    clear a0 a1 a2 a3 a4 hb7 CK GG6 L6 M6 bi6
    have m0 := cell_of_row _ _ 0 _ _ _ M7.out
    have m1 := cell_of_row _ _ 1 _ _ _ M7.out
    have m2 := cell_of_row _ _ 2 _ _ _ M7.out
    have m3 := cell_of_row _ _ 3 _ _ _ M7.out
    have m4 := cell_of_row _ _ 4 _ _ _ M7.out
    go_wp2_with fail
    refine C18.out.mono ?_
    rintro e w8 ⟨ndv, rfl, hnd, hb8⟩
    obtain ⟨nda, ndc, ndb, ndo, rfl, hndl, hndm, hndcell⟩ := hnd.at
    have b8 := b7.trans (hb8.mono b7.size)
    have G8 := Lib.hid ((hb8.block G (Array.getElem?_eq_some_iff.1 G7.out).1).trans G7.out)
    have bi8 := bi7.trans (hb8.mono bi7.size)
    have GG8 := Lib.hid (GG7.out.below hb8)
    have L8 := Lib.hid (L7.out.below hb8)
    have M8 := Lib.hid ((hb8.block M (Array.getElem?_eq_some_iff.1 M7.out).1).trans M7.out)
    have NDC := Lib.hid hndcell
    have ndlen : (ndR g hs devs).length = g.ns.length := by simp [ndR]
    rw [ndlen] at hndl hndm NDC ⊢
    clear m0 m1 m2 m3 m4 hb8 C18 GG7 L7 M7 bi7 hnd hndcell ndlen
    have z8 := b8.size
    generalize hnn : g.ns.length = nn at *
    have HNN := Lib.hid hnn
    clear hnn
    go_wp2
    go_loopg [18, 19] nn (fun gk v18 v19 wx => ∃ k : Nat, k + gk = nn ∧ v19 = .int .i64 k ∧ v18 = .int .i64 ((lackTo' g hs devs k).length : Nat) ∧ Below w8.heap.size w8 wx)
    case atStart => exact ⟨0, by omega, rfl, rfl, Below.refl _ _⟩
    case round =>
      obtain ⟨k, hk, rfl, rfl, hbx⟩ := hrel
      have zx := hbx.size
      have hwr := b8.trans (hbx.mono z8)
      cases gk with
      | zero =>
        obtain rfl : k = nn := by omega
        have hll : (lackTo' g hs devs k).length = (lackL g hs devs).length := by unfold lackL; rw [HNN.out]
        have CS := fun (w9 : World) (h : Below w8.heap.size w8 w9) => sum_ref { g with nv := u } _ _ hs devs w9 (GG8.out.below h) (L8.out.below h) (HD.out.below (b8.trans (h.mono z8))) (show Ok { g with nv := u } hs from HOK.out)
        rw [EU.out] at CS
        have hsum : sumR { g with nv := u } hs devs = sumR g hs devs := rfl
        rw [hsum] at CS
        have CS := Lib.hid CS
        have hixb : (ixR g hs devs == 1) = !thereI g hs devs := by unfold ixR; cases thereI g hs devs <;> rfl
        clear hsum
        generalize (lackTo' g hs devs k).length = at0 at *
        generalize (lackL g hs devs).length = al at *
        generalize sumR g hs devs = sm at *
        generalize shR g hs devs = sh at *
        generalize ixR g hs devs = ix at *
        generalize (!thereI g hs devs) = ti at *
        have hsm : (sm == 0) = decide (sm = 0) := rfl
        generalize decide (sm = 0) = okb at *
        obtain rfl : at0 = al := hll
        go_wp2_with fail
        refine (AW.out _).mono ?_
        rintro e w9 ⟨rfl, hb9⟩
        have b89 := hbx.trans (hb9.mono zx)
        have M9 := (b89.block M (Array.getElem?_eq_some_iff.1 M8.out).1).trans M8.out
        have M9 := Lib.hid M9
        have m0 := cell_of_row _ _ 0 _ _ _ M9.out
        have m1 := cell_of_row _ _ 1 _ _ _ M9.out
        have m2 := cell_of_row _ _ 2 _ _ _ M9.out
        have m3 := cell_of_row _ _ 3 _ _ _ M9.out
        have m4 := cell_of_row _ _ 4 _ _ _ M9.out
        go_wp2_with fail
        refine (CS.out _ b89).mono ?_
        rintro e w10 ⟨rfl, hb10⟩
        have hfin := b8.trans ((b89.trans (hb10.mono b89.size)).mono z8)
        clear m0 m1 m2 m3 m4
        cases okb with
        | false =>
          go_wp2
          go_ret
          exact ⟨rfl, hfin⟩
        | true =>
          go_wp2
          go_ret
          exact ⟨rfl, hfin⟩
      | succ go =>
        have hlt : k < nn := by omega
        have hkn : k < g.ns.length := by rw [HNN.out]; exact hlt
        have hat := lackL_at g hs devs k hkn
        have hz0 : 0 ≤ (ndR g hs devs).getD k 0 := by
          have hnd := HOK.out.2.1.2 (g.ns.getD k default) (by rw [getD_at _ _ _ hkn]; exact List.getElem_mem _)
          rw [ndR_at g hs devs hkn, down_eq _ _ (by have := hnd.1; omega)]
          omega
        obtain ⟨q1, q2⟩ := NDC.out k hlt
        subst q1
        rw [← hbx.cell (p := ⟨ndb, _, none⟩) (cell_lt q2)] at q2
        have hnl64 : (lackTo' g hs devs k).length ≤ 64 := by
          have h1 := lackTo'_len g hs devs k
          have h2 := HOK.out.1.1
          omega
        have HAT := Lib.hid hat
        clear hat
        generalize hzz : (ndR g hs devs).getD k 0 = z at *
        have HZZ := Lib.hid hzz
        clear hzz
        generalize (lackTo' g hs devs k).length = at0 at *
        generalize hat1 : (lackTo' g hs devs (k + 1)).length = at1 at *
        have HAT1 := Lib.hid hat1
        clear hat1
        by_cases hz : 0 < z
        · have k9 : (z == 0) = false := by simp; omega
          obtain ⟨s1, s2, s3⟩ := HAT.out.2 hz
          have HS1 := Lib.hid s1
          have HS3 := Lib.hid s3
          obtain ⟨p1, p2, p3⟩ := HOC.out at0 s2
          subst p1
          rw [s3] at p2 p3
          have bi8r := bi8.trans (hbx.mono bi8.size)
          rw [← bi8r.cell (p := ⟨ob, _, none⟩) (cell_lt p2)] at p2
          rw [← bi8r.cell (p := ⟨ob, _, none⟩) (cell_lt p3)] at p3
          obtain ⟨r1, r2, _⟩ := HNC.out k hlt
          subst r1
          rw [← hwr.cell (p := ⟨nnb, _, none⟩) (cell_lt r2)] at r2
          have gk := (hbx.block G (Array.getElem?_eq_some_iff.1 G8.out).1).trans G8.out
          have gk0 := cell_of_row _ _ 0 _ _ _ gk
          simp only [List.getElem?_toArray, List.getElem?_cons_zero] at gk0
          have hneq := fun W => run_neq_nd ⟨(g.ns.getD k default).st, z⟩ W
          unfold Nd.v at hneq
          have hal : ((lackL g hs devs).length : Int) ≤ 64 := by
            have h1 := lackTo'_len g hs devs g.ns.length
            have h2 := HOK.out.1.1
            unfold lackL
            omega
          generalize (lackL g hs devs).length = al at *
          generalize (g.ns.getD k default).st = st at *
          have k10 : decide (al ≤ at0) = false := by simp; omega
          have k11 : decide ((at0 : Int) ≥ (al : Int)) = false := by simp; omega
          simp only at p2 p3 hneq
          clear s1 s3 gk
          go_wp2_with fail
          go_quiet (fail)
          go_wp2
          go_roundg go
          case measure => omega
          case rel => exact ⟨k + 1, by omega, by go_num, by rw [HAT1.out, HS1.out]; go_num, below_drewN hbx _⟩
        · have k9 : (z == 0) = true := by simp; omega
          have HS1 := Lib.hid (HAT.out.1 hz)
          clear hz hz0
          go_wp2
          go_roundg go
          case measure => omega
          case rel => exact ⟨k + 1, by omega, by go_num, by rw [HAT1.out, HS1.out], hbx⟩
  · have CB := Lib.hid (C21b.out w1 (HG.out.below b1) (HV.out.below b1) hok)
    have HNOK := Lib.hid hok
    clear hok
    go_wp2_with fail
    refine CB.out.mono ?_
    rintro e w2 ⟨rfl, hb2⟩
    have b2 := b1.trans (hb2.mono b1.size)
    have G2 := Lib.hid ((hb2.block G (Array.getElem?_eq_some_iff.1 G1.out).1).trans G1.out)
    have CB2 := Lib.hid (C34b.out w2 (HG.out.below b2) (HV.out.below b2) HNOK.out)
    clear a0 a1 a2 a3 a4 hb2 CB
    have a0 := cell_of_row _ _ 0 _ _ _ G2.out
    have a1 := cell_of_row _ _ 1 _ _ _ G2.out
    have a2 := cell_of_row _ _ 2 _ _ _ G2.out
    have a3 := cell_of_row _ _ 3 _ _ _ G2.out
    have a4 := cell_of_row _ _ 4 _ _ _ G2.out
    go_wp2_with fail
    refine CB2.out.mono ?_
    rintro e w3 ⟨rfl, hb3⟩
    have b3 := b2.trans (hb3.mono b2.size)
    have G3 := Lib.hid ((hb3.block G (Array.getElem?_eq_some_iff.1 G2.out).1).trans G2.out)
    clear a0 a1 a2 a3 a4 hb3 CB2
    have a0 := cell_of_row _ _ 0 _ _ _ G3.out
    have a1 := cell_of_row _ _ 1 _ _ _ G3.out
    have a2 := cell_of_row _ _ 2 _ _ _ G3.out
    have a3 := cell_of_row _ _ 3 _ _ _ G3.out
    have a4 := cell_of_row _ _ 4 _ _ _ G3.out
    have CG := Lib.hid (C15.out w3 (HG.out.below b3) (by have := HPT.out.2.1; omega))
    go_wp2_with fail
    refine CG.out.mono ?_
    rintro e wa ⟨u, rfl, hga, hba⟩
    have ba := b3.trans (hba.mono b3.size)
    have Ga := Lib.hid ((hba.block G (Array.getElem?_eq_some_iff.1 G3.out).1).trans G3.out)
    have CH := Lib.hid (C16.out wa (HV.out.below ba) (by have := HPT.out.2.2.2.2; omega))
    obtain ⟨ua, un, uc, vpa, vpn, vpc, vsa, vsn, vsc, eu⟩ := hga.val
    have HGa := Lib.hid hga
    have EU := Lib.hid eu
    rw [eu]
    clear a0 a1 a2 a3 a4 hga CG eu
    simp only at EU ⊢
    go_wp2_with fail
    refine CH.out.mono ?_
    rintro e wb ⟨lu, rfl, hlb, hbb⟩
    obtain ⟨lao, lln, lc, rfl⟩ := hlb.val
    have bb := ba.trans (hbb.mono ba.size)
    have gb := HGa.out.below hbb
    have bM : Below wb.heap.size wb (wb.alloc (.cells #[.slice ua un uc, .int .i64 g.thr, .bool g.idx, .slice vpa vpn vpc, .slice vsa vsn vsc] 37)) := (Below.refl _ _).alloc (Nat.le_refl _) _
    have aM := heap_alloc_last wb (.cells #[.slice ua un uc, .int .i64 g.thr, .bool g.idx, .slice vpa vpn vpc, .slice vsa vsn vsc] 37)
    obtain ⟨M, hM⟩ : ∃ M, M = wb.heap.size := ⟨_, rfl⟩
    have HM := Lib.hid hM
    rw [← hM] at aM
    have g5 := gb.below bM
    have l5 := hlb.below bM
    have b5 := bb.trans (bM.mono bb.size)
    have bi5 : Below w3.heap.size w3 (wb.alloc (.cells #[.slice ua un uc, .int .i64 g.thr, .bool g.idx, .slice vpa vpn vpc, .slice vsa vsn vsc] 37)) := (hba.trans (hbb.mono hba.size)).alloc (hba.trans (hbb.mono hba.size)).size _
    have C17 := refCheck_any _ _ hs _ g5 l5
    rw [EU.out] at C17
    have C17 := Lib.hid C17
    have G5 := Lib.hid ((bi5.block G (Array.getElem?_eq_some_iff.1 G3.out).1).trans G3.out)
    have AM := Lib.hid aM
    have GG5 := Lib.hid g5
    have L5 := Lib.hid l5
    clear hM aM g5 l5 bM gb hlb hbb hba ba bb CH HGa Ga
    go_upto_region 6 with fail
    rw [← HM.out]
    generalize wb.alloc (.cells #[.slice ua un uc, .int .i64 g.thr, .bool g.idx, .slice vpa vpn vpc, .slice vsa vsn vsc] 37) = W5 at AM GG5 L5 b5 bi5 C17 G5 ⊢
    have m0 := cell_of_row _ _ 0 _ _ _ AM.out
    have m1 := cell_of_row _ _ 1 _ _ _ AM.out
    have m2 := cell_of_row _ _ 2 _ _ _ AM.out
    have m3 := cell_of_row _ _ 3 _ _ _ AM.out
    have m4 := cell_of_row _ _ 4 _ _ _ AM.out
    have c17 := C17.out
    rw [show decide (Ok { g with nv := u } hs) = false from decide_eq_false HNOK.out] at c17
    have C17' := Lib.hid c17
    clear c17 C17
    go_wp2_with fail
    refine C17'.out.mono ?_
    rintro e w6 ⟨rfl, hb6⟩
    have b6 := b5.trans (hb6.mono b5.size)
    have G6 := Lib.hid ((hb6.block G (Array.getElem?_eq_some_iff.1 G5.out).1).trans G5.out)
    clear m0 m1 m2 m3 m4 AM GG5 L5 hb6 C17' bi5
    go_wp2_with fail
    refine (AW.out _).mono ?_
    rintro e w7 ⟨rfl, hb7⟩
    have b7 := b6.trans (hb7.mono b6.size)
    have G7 := Lib.hid ((hb7.block G (Array.getElem?_eq_some_iff.1 G6.out).1).trans G6.out)
    have CK := C36.out w7 (HG.out.below b7) (HV.out.below b7)
    rw [if_neg HNOK.out] at CK
    have CK := Lib.hid CK
    clear hb7
    have a0 := cell_of_row _ _ 0 _ _ _ G7.out
    have a1 := cell_of_row _ _ 1 _ _ _ G7.out
    have a2 := cell_of_row _ _ 2 _ _ _ G7.out
    have a3 := cell_of_row _ _ 3 _ _ _ G7.out
    have a4 := cell_of_row _ _ 4 _ _ _ G7.out
    go_wp2_with fail
    refine CK.out.mono ?_
    rintro e w8 ⟨rfl, hb8⟩
    go_wp2
    go_ret
    exact ⟨rfl, b7.trans (hb8.mono b7.size)⟩

end Go.Proofs.Ytapjgjjmlbhanaa
