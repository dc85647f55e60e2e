/- The law Heals, walked. -/
import Derived.Test.YtijcicgbhcphjaaX2
import Derived.Test.YtijcicgbhcphjaaL3
namespace Go.Proofs.Ytijcicgbhcphjaa
open Go.RowKit Go.Lib Go.ChangeMaps
set_option linter.unusedSimpArgs false

set_option maxRecDepth 100000 in
set_option maxHeartbeats 32000000 in
theorem law_heals (v lv : Value) (V : Vp) (ls : List Int) (w : World) (hv : VwAt w v V) (hl : ReadsI w lv ls) :
    Calls Try.prog 11 #[v, lv] w fun e w' => e = .returned (.bool true) ∧ Below w.heap.size w w' := by
  have HV := Lib.hid hv
  have HL := Lib.hid hl
  obtain ⟨ma, mc, ha, hc, ra, rl, rc, wa, wl, wc, rfl⟩ := hv.val
  obtain ⟨la, lc, _, _, rfl, -⟩ := hl.at
  clear hv hl
  obtain ⟨ml, hml⟩ : ∃ ml, ml = V.mem.length := ⟨_, rfl⟩
  obtain ⟨nh, hnh⟩ : ∃ nh, nh = V.held.length := ⟨_, rfl⟩
  rw [← hml, ← hnh] at HV ⊢
  have HML := Lib.hid hml
  have HNH := Lib.hid hnh
  clear hml hnh
  obtain ⟨ll, hll⟩ : ∃ ll, ll = ls.length := ⟨_, rfl⟩
  rw [← hll] at HL ⊢
  clear hll
  have CA := Lib.hid (fun W => awake_any W)
  have hA : Below w.heap.size w (w.alloc (.cells #[.slice ma ml mc, .slice ha nh hc, .slice ra rl rc, .slice wa wl wc] 26)) := (Below.refl _ _).alloc (Nat.le_refl _) _
  have hbx := heap_alloc_new w (.cells #[.slice ma ml mc, .slice ha nh hc, .slice ra rl rc, .slice wa wl wc] 26)
  go_enter Try.func11, Try.ntmps11
  go_wp2_with fail
  refine (CA.out _).mono ?_
  rintro e w1 ⟨rfl, hb1⟩
  have hbw1 := hA.trans (hb1.mono hA.size)
  have hbx1 := (hb1.block w.heap.size (by rw [World.size_alloc]; omega)).trans hbx
  have hlt1 := (Array.getElem?_eq_some_iff.1 hbx1).1
  have d0 : w1.cell? ⟨w.heap.size, 0, none⟩ = some (.slice ma ml mc) := cell_of_row w1 _ 0 _ _ _ hbx1
  have d1 : w1.cell? ⟨w.heap.size, 1, none⟩ = some (.slice ha nh hc) := cell_of_row w1 _ 1 _ _ _ hbx1
  have d2 : w1.cell? ⟨w.heap.size, 2, none⟩ = some (.slice ra rl rc) := cell_of_row w1 _ 2 _ _ _ hbx1
  have d3 : w1.cell? ⟨w.heap.size, 3, none⟩ = some (.slice wa wl wc) := cell_of_row w1 _ 3 _ _ _ hbx1
  have CS := Lib.hid (small_any _ _ (.slice none 0 0) V ls [] w1 (HV.out.below hbw1) (HL.out.below hbw1) (nil_jobs _))
  clear hb1 hA hbx hbx1
  by_cases hsm : Small V ls []
  rotate_left
  · rw [decide_eq_false hsm] at CS
    clear hsm
    go_wp2_with fail
    refine CS.out.mono ?_
    rintro e w2 ⟨rfl, hb2⟩
    go_wp2_with fail
    refine (CA.out _).mono ?_
    rintro e w3 ⟨rfl, hb3⟩
    go_wp2
    go_ret
    exact ⟨rfl, hbw1.trans ((hb2.trans (hb3.mono hb2.size)).mono hbw1.size)⟩
  rw [decide_eq_true hsm] at CS
  have HREF := Lib.hid (Small.refs hsm)
  clear hsm
  go_wp2_with fail
  refine CS.out.mono ?_
  rintro e w2 ⟨rfl, hb2⟩
  have hbw2 := hbw1.trans (hb2.mono hbw1.size)
  have d0 := (hb2.cell (p := ⟨w.heap.size, 0, none⟩) hlt1).trans d0
  have d1 := (hb2.cell (p := ⟨w.heap.size, 1, none⟩) hlt1).trans d1
  have d2 := (hb2.cell (p := ⟨w.heap.size, 2, none⟩) hlt1).trans d2
  have d3 := (hb2.cell (p := ⟨w.heap.size, 3, none⟩) hlt1).trans d3
  have CP := Lib.hid (plan_any _ _ V ls w2 (HV.out.below hbw2) (HL.out.below hbw2) HREF.out)
  have hlt2 := cell_lt d0
  clear CS
  go_wp2_with fail
  refine CP.out.mono ?_
  rintro e w3 ⟨hb3, hcase⟩
  have hbw3 := hbw2.trans (hb3.mono hbw2.size)
  have d0 := (hb3.cell (p := ⟨w.heap.size, 0, none⟩) hlt2).trans d0
  have d1 := (hb3.cell (p := ⟨w.heap.size, 1, none⟩) hlt2).trans d1
  have d2 := (hb3.cell (p := ⟨w.heap.size, 2, none⟩) hlt2).trans d2
  have d3 := (hb3.cell (p := ⟨w.heap.size, 3, none⟩) hlt2).trans d3
  have hlt3 := cell_lt d0
  clear CP
  rcases hcase with ⟨hno, rfl⟩ | ⟨hfit, u, rfl, hu⟩
  · have CY := Lib.hid (apply_any _ _ (.slice none 0 0) V ls [] w3 (HV.out.below hbw3) (HL.out.below hbw3) (nil_jobs _) HREF.out)
    have HNO := Lib.hid hno
    clear hno
    go_wp2_with fail
    refine CY.out.mono ?_
    rintro e w4 ⟨hb4, hcase⟩
    have hb4' := hbw3.trans (hb4.mono hbw3.size)
    have zz := hb4'.size
    rcases hcase with ⟨_, rfl⟩ | ⟨hf, _⟩ | ⟨hf, _⟩
    · go_wp2
      go_ret
      exact ⟨rfl, by (repeat' (first | (with_reducible exact Below.refl _ _) | (with_reducible assumption) | (with_reducible refine Below.alloc ?_ ?_ _) | (with_reducible refine Below.drew ?_) | (with_reducible refine below_drewN ?_ _) | (with_reducible refine Below.setCell ?_ ?_ _) | (with_reducible refine below_step ?_ (by with_reducible assumption) ?_) | go_size))⟩
    · exact absurd hf HNO.out
    · exact absurd hf HNO.out
  obtain ⟨V', f1, f2, f3, f4, f5, f6, f7, f8⟩ := after_plan hfit
  have hpa := planR_all (goneB V.mem ls) hfit.1
  have hjs : ∀ j ∈ (planR V (goneB V.mem ls)).2, j.from_.length ≤ 1000000 := fun j hj => by have := (pjob_facts hfit.1 (hpa.2.2.2 j hj)).2.1; omega
  have hjl := planR_len (goneB V.mem ls) hfit.1
  have hmem : (cleanV (goneB V.mem ls) V').mem = V.mem := f2
  have hrf' := clean_refs (gone := goneB V.mem ls) (doAllP_refs _ _ _ f1 HREF.out)
  have HFIT := Lib.hid hfit
  have HG5 := Lib.hid f5
  have HOK4 := Lib.hid f4
  have HNO8 := Lib.hid f8
  have hlen2 : (cleanV (goneB V.mem ls) V').held.length = nh := by rw [cleanV_len, f3, ← HNH.out]
  have HLEN2 := Lib.hid hlen2
  clear hpa f4 f5 f8 f3 hfit hlen2
  have HMEM := Lib.hid hmem
  have HF1 := Lib.hid f1
  have HF6 := Lib.hid f6
  have HF7 := Lib.hid f7
  have HRF := Lib.hid hrf'
  have CL1 := Lib.hid (fun W (h : Below w.heap.size w W) => least_any _ _ V ls W (HV.out.below h) (HL.out.below h) HREF.out)
  clear f1 f2 f6 f7 hmem hrf'
  generalize hgn : goneB V.mem ls = gone at *
  have hrj : ReadsJ w3 u (planR V gone).2 := hu.reads (by omega) hjs
  have CY := Lib.hid (apply_any _ _ u V ls _ w3 (HV.out.below hbw3) (HL.out.below hbw3) hrj HREF.out)
  rw [hgn] at CY
  obtain ⟨ja, jc, _, _, rfl, -⟩ := hrj.at
  clear hu hrj hjs
  generalize (planR V gone).2 = js at *
  have HGN := Lib.hid hgn
  clear hgn
  go_wp2_with fail
  refine CY.out.mono ?_
  rintro e w4 ⟨hb4, hcase⟩
  have hbw4 := hbw3.trans (hb4.mono hbw3.size)
  have d0 := (hb4.cell (p := ⟨w.heap.size, 0, none⟩) hlt3).trans d0
  have d1 := (hb4.cell (p := ⟨w.heap.size, 1, none⟩) hlt3).trans d1
  have d2 := (hb4.cell (p := ⟨w.heap.size, 2, none⟩) hlt3).trans d2
  have d3 := (hb4.cell (p := ⟨w.heap.size, 3, none⟩) hlt3).trans d3
  have hlt4 := cell_lt d0
  clear CY
  rcases hcase with ⟨hno, _⟩ | ⟨_, hd, _⟩ | ⟨_, V2, u2, hd, rfl, hu2⟩
  · exact absurd HFIT.out hno
  · rw [HF1.out] at hd; cases hd
  rw [HF1.out] at hd
  cases hd
  have HU2 := Lib.hid hu2
  obtain ⟨ma2, mc2, ha2, hc2, ra2, rl2, rc2, wa2, wl2, wc2, rfl⟩ := hu2.val
  clear hu2
  have hm2 : (cleanV gone V').mem.length = ml := by rw [HMEM.out, ← HML.out]
  rw [hm2, HLEN2.out] at HU2 ⊢
  clear hm2
  have hA7 : Below w4.heap.size w4 (w4.alloc (.cells #[.slice ma2 ml mc2, .slice ha2 nh hc2, .slice ra2 rl2 rc2, .slice wa2 wl2 wc2] 26)) := (Below.refl _ _).alloc (Nat.le_refl _) _
  have hbx7 := heap_alloc_new w4 (.cells #[.slice ma2 ml mc2, .slice ha2 nh hc2, .slice ra2 rl2 rc2, .slice wa2 wl2 wc2] 26)
  obtain ⟨W7, hW7⟩ : ∃ W7, W7 = w4.alloc (.cells #[.slice ma2 ml mc2, .slice ha2 nh hc2, .slice ra2 rl2 rc2, .slice wa2 wl2 wc2] 26) := ⟨_, rfl⟩
  rw [← hW7] at hA7 hbx7
  have HW7 := Lib.hid hW7
  have hbw7 := hbw4.trans (hA7.mono hbw4.size)
  have d0 := bc hA7 d0
  have d1 := bc hA7 d1
  have d2 := bc hA7 d2
  have d3 := bc hA7 d3
  have k0 : W7.cell? ⟨w4.heap.size, 0, none⟩ = some (.slice ma2 ml mc2) := cell_of_row W7 _ 0 _ _ _ hbx7
  have k1 : W7.cell? ⟨w4.heap.size, 1, none⟩ = some (.slice ha2 nh hc2) := cell_of_row W7 _ 1 _ _ _ hbx7
  have HBX7 := Lib.hid hbx7
  clear hW7 hbx7
  go_upto_region 5 with fail
  rw [← HW7.out]
  clear HW7
  have HU7 := Lib.hid (HU2.out.below hA7)
  have h4 := hA7.size
  clear hA7 HU2
  generalize w4.heap.size = B2 at *
  have HD0 := Lib.hid d0
  have HD1 := Lib.hid d1
  have HD2 := Lib.hid d2
  have HD3 := Lib.hid d3
  have HL7 := Lib.hid (HL.out.below hbw7)
  have HV7 := Lib.hid (HV.out.below hbw7)
  obtain ⟨_, _, _, _, e, _, hH1, _, _⟩ := HV7.out
  cases e
  have hH1 := hH1.at
  rw [← HNH.out] at hH1
  obtain ⟨_, _, hb, ho, e, _, _, hcell1⟩ := hH1
  cases e
  have HC1 := Lib.hid hcell1
  obtain ⟨_, _, _, _, e, hM2, hH2, hR2, _⟩ := HU7.out
  cases e
  have hH2 := hH2.at
  rw [HLEN2.out] at hH2
  obtain ⟨_, _, hb2, ho2, e, _, _, hcell2⟩ := hH2
  cases e
  have HC2 := Lib.hid hcell2
  have hM2 := hM2.at
  have hmm : (cleanV gone V').mem.length = ml := by rw [HMEM.out, ← HML.out]
  rw [hmm] at hM2
  obtain ⟨_, _, mb2, mo2, e, _, _, mcell2⟩ := hM2
  cases e
  have MC2 := Lib.hid mcell2
  obtain ⟨_, _, rb2, ro2, e, _, _, rcell2⟩ := hR2.at
  cases e
  have RC2 := Lib.hid rcell2
  have HRL := Lib.hid (show (cleanV gone V').room.length = ml by have := HF6.out.1.2.2.1.1; rw [this, hmm])
  have HLL := HL7.out
  obtain ⟨_, _, lb, lo, e, _, lm1, lcell⟩ := HL7.out.at
  cases e
  have LC := Lib.hid lcell
  have lm1 : ls.length ≤ 4611686018427387904 := lm1
  clear hcell1 hcell2 mcell2 rcell2 lcell hmm hR2 HLL hb4 hbw4
  have hm12 : ml ≤ 12 := by rw [HML.out]; exact HFIT.out.1.1.1
  have hn256 : nh ≤ 256 := by rw [HNH.out]; exact HFIT.out.1.1.2
  go_wp2
  clear d0 d1 d2 d3 k0 k1
  go_loopw [74, 9, 10, 11, 12, 13, 14, 15, 16, 18] (fun v74 _ _ _ _ _ _ _ _ _ wr => ∃ k : Nat, k ≤ nh ∧ v74 = .int .i64 k ∧ Below W7.heap.size W7 wr) (fun v74 _ _ _ _ _ _ _ _ _ _ => nh - (intOf v74).toNat)
  case atStart => exact ⟨0, Nat.zero_le _, rfl, Below.refl _ _⟩
  case round =>
    obtain ⟨k, hk, rfl, hbel⟩ := hrel
    have hbw := hbw7.trans (hbel.mono hbw7.size)
    have d0 := bc hbel HD0.out
    have d1 := bc hbel HD1.out
    have d2 := bc hbel HD2.out
    have d3 := bc hbel HD3.out
    have hkx := bb hbel HBX7.out
    have k0 : wr.cell? ⟨B2, 0, none⟩ = some (.slice ma2 ml mc2) := cell_of_row wr _ 0 _ _ _ hkx
    have k1 : wr.cell? ⟨B2, 1, none⟩ = some (.slice ha2 nh hc2) := cell_of_row wr _ 1 _ _ _ hkx
    by_cases hlt : k < nh
    · have HE := Lib.hid (heals HOK4.out HG5.out HNO8.out (k := k) (by rw [← HNH.out]; exact hlt))
      have hky : k < (cleanV gone V').held.length := by rw [HLEN2.out]; exact hlt
      have hyok := HF6.out.1.small.2.2.2.2 k hky
      have hxok := HFIT.out.1.small.2.2.2.2 k (by rw [← HNH.out]; exact hlt)
      rw [HMEM.out, ← HML.out] at hyok
      rw [← HML.out] at hxok
      obtain ⟨e1, g0, g1, g2, g3, g4, xrv, xav, g5, g6, hxr, hxa⟩ := HC1.out k hlt
      subst e1
      obtain ⟨e2, p0, p1, p2, p3, p4, yrv, yav, p5, p6, hyr, hya⟩ := HC2.out k hlt
      subst e2
      obtain ⟨x, hx⟩ : ∃ x, x = V.held.getD k default := ⟨_, rfl⟩
      obtain ⟨y, hy⟩ : ∃ y, y = (cleanV gone V').held.getD k default := ⟨_, rfl⟩
      rw [← hx] at HE hxok g0 g1 g2 g3 g4 hxr hxa
      rw [← hy] at HE hyok p0 p1 p2 p3 p4 hyr hya
      clear hx hy hky
      have CX := Lib.hid (fun W (h : Below W7.heap.size W7 W) => count_any _ _ xrv xav V ls x W (HV7.out.below h) (HL7.out.below h) (hxa.below h) (by obtain ⟨a, c, _, _, e, _⟩ := hxr.at; exact ⟨a, _, c, e⟩) (by rw [← HML.out]; exact hxok.2.2.2.2.2) hxok.at_small.1)
      have CY := Lib.hid (fun W (h : Below W7.heap.size W7 W) => count_any _ _ yrv yav (cleanV gone V') ls y W (HU7.out.below h) (HL7.out.below h) (hya.below h) (by obtain ⟨a, c, _, _, e, _⟩ := hyr.at; exact ⟨a, _, c, e⟩) (by rw [HMEM.out, ← HML.out]; exact hyok.2.2.2.2.2) hyok.at_small.1)
      rw [HMEM.out, HGN.out] at CY
      rw [HGN.out] at CX
      have hy16 := hyok.at_small.1
      have hx16 := hxok.at_small.1
      obtain ⟨xra, xrc, _, _, rfl, -⟩ := hxr.at
      obtain ⟨xua, xuc, _, _, rfl, -⟩ := hxa.at
      obtain ⟨yra, yrc, _, _, rfl, -⟩ := hyr.at
      obtain ⟨yua, yuc, _, _, rfl, -⟩ := hya.at
      clear hxr hxa hyr hya hxok hyok
      obtain ⟨xid, xvault, xblock, xdata, xtotal, xrefs, xat⟩ := x
      obtain ⟨yid, yvault, yblock, ydata, ytotal, yrefs, yat⟩ := y
      unfold Hp.v at CX CY
      simp only at CX CY HE g0 g1 g2 g3 g4 g5 g6 p0 p1 p2 p3 p4 p5 p6 hy16 hx16
      have hb16 : (leftI gone xat).length ≤ 16 := Nat.le_trans (leftI_len _ _) hx16
      have ha16 : (leftI gone yat).length ≤ 16 := Nat.le_trans (leftI_len _ _) hy16
      generalize (leftI gone xat).length = b at *
      generalize (leftI gone yat).length = a at *
      generalize xrefs.length = xrl at *
      generalize yrefs.length = yrl at *
      generalize xat.length = xul at *
      generalize yat.length = yul at *
      have p0 := bc hbel p0
      have p1 := bc hbel p1
      have p2 := bc hbel p2
      have p3 := bc hbel p3
      have p4 := bc hbel p4
      have p5 := bc hbel p5
      have p6 := bc hbel p6
      have hA : Below wr.heap.size wr (wr.alloc (.cells #[.string yid, .int .i64 yvault, .int .i64 yblock, .int .i64 ydata, .int .i64 ytotal, .slice yra yrl yrc, .slice yua yul yuc] 52)) := (Below.refl _ _).alloc (Nat.le_refl _) _
      have hkj := heap_alloc_new wr (.cells #[.string yid, .int .i64 yvault, .int .i64 yblock, .int .i64 ydata, .int .i64 ytotal, .slice yra yrl yrc, .slice yua yul yuc] 52)
      obtain ⟨WA, hWA⟩ : ∃ WA, WA = wr.alloc (.cells #[.string yid, .int .i64 yvault, .int .i64 yblock, .int .i64 ydata, .int .i64 ytotal, .slice yra yrl yrc, .slice yua yul yuc] 52) := ⟨_, rfl⟩
      rw [← hWA] at hA hkj
      have HWA := Lib.hid hWA
      have HKJ := Lib.hid hkj
      have h7A := hbel.trans (hA.mono hbel.size)
      have HBEL := Lib.hid h7A
      obtain ⟨N, hN⟩ : ∃ N, N = wr.heap.size := ⟨_, rfl⟩
      rw [← hN] at HKJ
      have HN := Lib.hid hN
      clear hWA hkj hN
      go_upto_region 12 with fail
      rw [← HWA.out]
      try rw [← HN.out]
      have d0 := bc hA d0
      have d1 := bc hA d1
      have d2 := bc hA d2
      have d3 := bc hA d3
      have g0 := bc h7A g0
      have g1 := bc h7A g1
      have g2 := bc h7A g2
      have g3 := bc h7A g3
      have g4 := bc h7A g4
      have g5 := bc h7A g5
      have g6 := bc h7A g6
      have HBX := Lib.hid (bb hA hkx)
      have HBD := Lib.hid (show Below W7.heap.size W7 WA.drew from h7A.drew)
      have HKD := Lib.hid (show WA.drew.heap[N]? = _ from HKJ.out)
      have HXD := Lib.hid (show WA.drew.heap[B2]? = _ from HBX.out)
      clear hA h7A hkx k0 k1 p0 p1 p2 p3 p4 p5 p6 HWA HBEL HKJ HBX HN
      have HSB0 : ∀ w' : World, Below (WA).drew.heap.size (WA).drew w' → (w'.cell? ⟨w.heap.size, 0, none⟩ = some (.slice ma ml mc) ∧ w'.cell? ⟨w.heap.size, 1, none⟩ = some (.slice (some ⟨hb, ho, none⟩) nh hc) ∧ w'.cell? ⟨w.heap.size, 2, none⟩ = some (.slice ra rl rc) ∧ w'.cell? ⟨w.heap.size, 3, none⟩ = some (.slice wa wl wc) ∧ w'.cell? ⟨hb, ho + k * 7, none⟩ = some (.string xid) ∧ w'.cell? ⟨hb, ho + k * 7 + 1, none⟩ = some (.int .i64 xvault) ∧ w'.cell? ⟨hb, ho + k * 7 + 2, none⟩ = some (.int .i64 xblock) ∧ w'.cell? ⟨hb, ho + k * 7 + 3, none⟩ = some (.int .i64 xdata) ∧ w'.cell? ⟨hb, ho + k * 7 + 4, none⟩ = some (.int .i64 xtotal) ∧ w'.cell? ⟨hb, ho + k * 7 + 5, none⟩ = some (.slice xra xrl xrc) ∧ w'.cell? ⟨hb, ho + k * 7 + 6, none⟩ = some (.slice xua xul xuc)) := fun w' hb => ⟨bc hb d0, bc hb d1, bc hb d2, bc hb d3, bc hb g0, bc hb g1, bc hb g2, bc hb g3, bc hb g4, bc hb g5, bc hb g6⟩
      refine wp_region_held_drew (S := fun w' => w'.cell? ⟨w.heap.size, 0, none⟩ = some (.slice ma ml mc) ∧ w'.cell? ⟨w.heap.size, 1, none⟩ = some (.slice (some ⟨hb, ho, none⟩) nh hc) ∧ w'.cell? ⟨w.heap.size, 2, none⟩ = some (.slice ra rl rc) ∧ w'.cell? ⟨w.heap.size, 3, none⟩ = some (.slice wa wl wc) ∧ w'.cell? ⟨hb, ho + k * 7, none⟩ = some (.string xid) ∧ w'.cell? ⟨hb, ho + k * 7 + 1, none⟩ = some (.int .i64 xvault) ∧ w'.cell? ⟨hb, ho + k * 7 + 2, none⟩ = some (.int .i64 xblock) ∧ w'.cell? ⟨hb, ho + k * 7 + 3, none⟩ = some (.int .i64 xdata) ∧ w'.cell? ⟨hb, ho + k * 7 + 4, none⟩ = some (.int .i64 xtotal) ∧ w'.cell? ⟨hb, ho + k * 7 + 5, none⟩ = some (.slice xra xrl xrc) ∧ w'.cell? ⟨hb, ho + k * 7 + 6, none⟩ = some (.slice xua xul xuc)) (by kernel_rfl) (HSB0 _ (Below.refl _ _)) (fun hHeld => ?_)
      have HSB := Lib.hid HSB0
      clear HSB0
      generalize (WA).drew = Wd at *
      refine wpAnyH_take (i := 0) (v := ?_) rfl (by kernel_rfl) (by kernel_rfl) (by kernel_rfl) (fun _ _ _ h => h) (Or.inl ⟨by rfl, ?_⟩) (by assumption) ?_
      rotate_left; · (intro w hSw; (try dsimp only at hSw); go_simp; try with_reducible rfl)
      try simp only [Act.put, List.getElem_toArray, List.getElem_cons_zero, List.getElem_cons_succ, List.setIfInBounds_toArray, List.set_cons_zero, List.set_cons_succ]
      refine wpAnyH_take (i := 1) (v := ?_) rfl (by kernel_rfl) (by kernel_rfl) (by kernel_rfl) (fun _ _ _ h => h) (Or.inl ⟨by rfl, ?_⟩) (by assumption) ?_
      rotate_left; · (intro w hSw; (try dsimp only at hSw); go_simp; try with_reducible rfl)
      try simp only [Act.put, List.getElem_toArray, List.getElem_cons_zero, List.getElem_cons_succ, List.setIfInBounds_toArray, List.set_cons_zero, List.set_cons_succ]
      refine wpAnyH_take (i := 2) (v := ?_) rfl (by kernel_rfl) (by kernel_rfl) (by kernel_rfl) (fun _ _ _ h => h) (Or.inl ⟨by rfl, ?_⟩) (by assumption) ?_
      rotate_left; · (intro w hSw; (try dsimp only at hSw); go_simp; try with_reducible rfl)
      try simp only [Act.put, List.getElem_toArray, List.getElem_cons_zero, List.getElem_cons_succ, List.setIfInBounds_toArray, List.set_cons_zero, List.set_cons_succ]
      refine wpAnyH_take (i := 3) (v := ?_) rfl (by kernel_rfl) (by kernel_rfl) (by kernel_rfl) (fun _ _ _ h => h) (Or.inl ⟨by rfl, ?_⟩) (by assumption) ?_
      rotate_left; · (intro w hSw; (try dsimp only at hSw); go_simp; try with_reducible rfl)
      try simp only [Act.put, List.getElem_toArray, List.getElem_cons_zero, List.getElem_cons_succ, List.setIfInBounds_toArray, List.set_cons_zero, List.set_cons_succ]
      refine wpAnyH_take (i := 4) (v := ?_) rfl (by kernel_rfl) (by kernel_rfl) (by kernel_rfl) (fun _ _ _ h => h) (Or.inl ⟨by rfl, ?_⟩) (by assumption) ?_
      rotate_left; · (intro w hSw; (try dsimp only at hSw); go_simp; try with_reducible rfl)
      try simp only [Act.put, List.getElem_toArray, List.getElem_cons_zero, List.getElem_cons_succ, List.setIfInBounds_toArray, List.set_cons_zero, List.set_cons_succ]
      refine wpAnyH_take (i := 5) (v := ?_) rfl (by kernel_rfl) (by kernel_rfl) (by kernel_rfl) (fun _ _ _ h => h) (Or.inl ⟨by rfl, ?_⟩) (by assumption) ?_
      rotate_left; · (intro w hSw; (try dsimp only at hSw); go_simp; try with_reducible rfl)
      try simp only [Act.put, List.getElem_toArray, List.getElem_cons_zero, List.getElem_cons_succ, List.setIfInBounds_toArray, List.set_cons_zero, List.set_cons_succ]
      refine wpAnyH_take (i := 6) (v := ?_) rfl (by kernel_rfl) (by kernel_rfl) (by kernel_rfl) (fun _ _ _ h => h) (Or.inl ⟨by rfl, ?_⟩) (by assumption) ?_
      rotate_left; · (intro w hSw; (try dsimp only at hSw); go_simp; try with_reducible rfl)
      try simp only [Act.put, List.getElem_toArray, List.getElem_cons_zero, List.getElem_cons_succ, List.setIfInBounds_toArray, List.set_cons_zero, List.set_cons_succ]
      refine wpAnyH_ready (rs := [7]) (by kernel_rfl) (by simp) ?_
      refine AllReadyH.cons rfl (fun K hK => ?_) AllReadyH.nil
      go_simp
      refine (CX.out _ HBD.out).mono ?_; rintro e w5 ⟨mp1, rfl, -, hb5⟩
      go_wp2_with fail
      refine hK.out _ _ (HSB.out _ hb5) (fun hNew => ?_)
      clear hK K hHeld
      have hHeld := hNew
      clear hNew
      try simp only [Act.put, List.getElem_toArray, List.getElem_cons_zero, List.getElem_cons_succ, List.setIfInBounds_toArray, List.set_cons_zero, List.set_cons_succ]
      refine wpAnyH_take (i := 8) (v := ?_) rfl (by kernel_rfl) (by kernel_rfl) (by kernel_rfl) (fun _ _ _ h => h) (Or.inl ⟨by rfl, ?_⟩) (by assumption) ?_
      rotate_left; · (intro w hSw; (try dsimp only at hSw); go_simp; try with_reducible rfl)
      try simp only [Act.put, List.getElem_toArray, List.getElem_cons_zero, List.getElem_cons_succ, List.setIfInBounds_toArray, List.set_cons_zero, List.set_cons_succ]
      refine wpAnyH_take (i := 9) (v := ?_) rfl (by kernel_rfl) (by kernel_rfl) (by kernel_rfl) (fun _ _ _ h => h) (Or.inl ⟨by rfl, ?_⟩) (by assumption) ?_
      rotate_left; · (intro w hSw; (try dsimp only at hSw); go_simp; try with_reducible rfl)
      try simp only [Act.put, List.getElem_toArray, List.getElem_cons_zero, List.getElem_cons_succ, List.setIfInBounds_toArray, List.set_cons_zero, List.set_cons_succ]
      refine wpAnyH_take (i := 10) (v := ?_) rfl (by kernel_rfl) (by kernel_rfl) (by kernel_rfl) (fun _ _ _ h => h) (Or.inl ⟨by rfl, ?_⟩) (by assumption) ?_
      rotate_left; · (intro w hSw; (try dsimp only at hSw); go_simp; try with_reducible rfl)
      try simp only [Act.put, List.getElem_toArray, List.getElem_cons_zero, List.getElem_cons_succ, List.setIfInBounds_toArray, List.set_cons_zero, List.set_cons_succ]
      refine wpAnyH_take (i := 11) (v := ?_) rfl (by kernel_rfl) (by kernel_rfl) (by kernel_rfl) (fun _ _ _ h => h) (Or.inl ⟨by rfl, ?_⟩) (by assumption) ?_
      rotate_left; · (intro w hSw; (try dsimp only at hSw); go_simp; try with_reducible rfl)
      try simp only [Act.put, List.getElem_toArray, List.getElem_cons_zero, List.getElem_cons_succ, List.setIfInBounds_toArray, List.set_cons_zero, List.set_cons_succ]
      refine wpAnyH_take (i := 12) (v := ?_) rfl (by kernel_rfl) (by kernel_rfl) (by kernel_rfl) (fun _ _ _ h => h) (Or.inl ⟨by rfl, ?_⟩) (by assumption) ?_
      rotate_left; · (intro w hSw; (try dsimp only at hSw); go_simp; try with_reducible rfl)
      try simp only [Act.put, List.getElem_toArray, List.getElem_cons_zero, List.getElem_cons_succ, List.setIfInBounds_toArray, List.set_cons_zero, List.set_cons_succ]
      refine wpAnyH_done (by kernel_rfl) ?_ _
      have h75 := HBD.out.trans (hb5.mono HBD.out.size)
      have hkn := bb hb5 HKD.out
      have hxn := bb hb5 HXD.out

      have p0 : w5.cell? ⟨N, 0, none⟩ = some (.string yid) := cell_of_row w5 _ 0 _ _ _ hkn
      have p1 : w5.cell? ⟨N, 1, none⟩ = some (.int .i64 yvault) := cell_of_row w5 _ 1 _ _ _ hkn
      have p2 : w5.cell? ⟨N, 2, none⟩ = some (.int .i64 yblock) := cell_of_row w5 _ 2 _ _ _ hkn
      have p3 : w5.cell? ⟨N, 3, none⟩ = some (.int .i64 ydata) := cell_of_row w5 _ 3 _ _ _ hkn
      have p4 : w5.cell? ⟨N, 4, none⟩ = some (.int .i64 ytotal) := cell_of_row w5 _ 4 _ _ _ hkn
      have p5 : w5.cell? ⟨N, 5, none⟩ = some (.slice yra yrl yrc) := cell_of_row w5 _ 5 _ _ _ hkn
      have p6 : w5.cell? ⟨N, 6, none⟩ = some (.slice yua yul yuc) := cell_of_row w5 _ 6 _ _ _ hkn
      have k0 : w5.cell? ⟨B2, 0, none⟩ = some (.slice ma2 ml mc2) := cell_of_row w5 _ 0 _ _ _ hxn
      have k1 : w5.cell? ⟨B2, 1, none⟩ = some (.slice (some ⟨hb2, ho2, none⟩) nh hc2) := cell_of_row w5 _ 1 _ _ _ hxn
      have k2 : w5.cell? ⟨B2, 2, none⟩ = some (.slice ra2 (cleanV gone V').room.length rc2) := cell_of_row w5 _ 2 _ _ _ hxn
      have k3 : w5.cell? ⟨B2, 3, none⟩ = some (.slice wa2 wl2 wc2) := cell_of_row w5 _ 3 _ _ _ hxn
      clear hHeld HSB CX HBD HKD HXD d0 d1 d2 d3 g0 g1 g2 g3 g4 g5 g6 hb5 hkn hxn
      have C6 := Lib.hid (CY.out _ h75)
      go_wp2_with fail
      refine C6.out.mono ?_
      rintro e w6 ⟨mp2, rfl, hm2, hb6⟩
      have h76 := h75.trans (hb6.mono h75.size)
      have p2 := bc hb6 p2
      have p3 := bc hb6 p3
      have p4 := bc hb6 p4
      have k0 := bc hb6 k0
      have k2 := bc hb6 k2
      have HM2 := Lib.hid hm2
      have P2 := Lib.hid p2
      have K0 := Lib.hid k0
      have K2 := Lib.hid k2
      clear CY C6 hm2 hb6 p0 p1 p5 p6 k1 k3 h75
      by_cases c1 : (b : Int) < ydata
      · obtain rfl : a = b := HE.out.2.1 c1
        have q1 : decide ((a : Int) < ydata) = true := decide_eq_true c1
        clear c1
        go_wp2
        go_roundw
        case rel => exact ⟨k + 1, by omega, by go_num, h76⟩
        case measure => simp [intOf]; omega
      have q1 : decide ((b : Int) < ydata) = false := decide_eq_false c1
      have q2 : decide (a < b) = false := decide_eq_false (by have := HE.out.1; omega)
      have C1 := Lib.hid c1
      clear c1
      by_cases c2 : (a : Int) = ytotal
      · have q3 : ((a : Int) == ytotal) = true := by simp [c2]
        clear c2
        go_wp2
        go_roundw
        case rel => exact ⟨k + 1, by omega, by go_num, h76⟩
        case measure => simp [intOf]; omega
      have q3 : ((a : Int) == ytotal) = false := by simp [c2]
      have HR := Lib.hid (HE.out.2.2 (by have := C1.out; omega) c2)
      clear c2 HE C1
      go_wp2
      go_loopw [127, 15, 16, 18] (fun v127 _ _ _ wr => ∃ d : Nat, d ≤ ml ∧ v127 = .int .i64 d ∧ Below w6.heap.size w6 wr) (fun v127 _ _ _ _ => ml - (intOf v127).toNat)
      case atStart => exact ⟨0, Nat.zero_le _, rfl, Below.refl _ _⟩
      case round =>
        obtain ⟨d, hd, rfl, hby⟩ := hrel
        have h7y := h76.trans (hby.mono h76.size)
        clear p2 p3 p4 k0 k2
        by_cases hdl : d < ml
        · obtain ⟨e3, _, _, _, _, f4⟩ := MC2.out d hdl
          subst e3
          have f4 := bc h7y f4
          have k0 := bc hby K0.out
          have hgd : gone d = (((cleanV gone V').mem.getD d default).exp || decide ((d : Int) ∈ ls)) := by
            rw [HMEM.out, ← congrFun HGN.out d]
            unfold goneB
            rw [Bool.or_comm]
          have HGD := Lib.hid hgd
          have HRD := Lib.hid (HR.out d (by rw [← HML.out]; exact hdl))
          clear hgd
          generalize ((cleanV gone V').mem.getD d default).exp = ex at *
          go_upto_block 4 with fail
          go_cut [16] (fun v16 wx => v16 = .bool (gone d) ∧ wr = wx)
          case first =>
            go_wp2_with fail
            go_loop [138, 16, 18] (fun v138 v16 _ => ∃ j : Nat, j ≤ ls.length ∧ v138 = .int .i64 j ∧ v16 = .bool (ex || decide ((d : Int) ∈ ls.take j))) (fun v138 _ _ => ls.length - (intOf v138).toNat)
            case atStart => exact ⟨0, Nat.zero_le _, rfl, by simp⟩
            case round =>
              obtain ⟨j, hj, rfl, rfl⟩ := hrel
              by_cases hlj : j < ls.length
              · obtain ⟨e4, g1⟩ := LC.out j hlj
                subst e4
                have g1 := bc h7y g1
                have HS2 := Lib.hid (show (ex || decide ((d : Int) ∈ ls.take (j + 1))) = ((ex || decide ((d : Int) ∈ ls.take j)) || decide (ls.getD j 0 = (d : Int))) by
                  rw [decide_eq_decide.2 (mem_take_succ ls (d : Int) j hlj), getD_at _ _ _ hlj, Bool.decide_or, Bool.or_assoc]
                  congr 2
                  exact decide_eq_decide.2 ⟨fun h => h.symm, fun h => h.symm⟩)
                generalize ls.getD j 0 = x at *
                generalize (ex || decide ((d : Int) ∈ ls.take j)) = B at *
                cases B with
                | true =>
                  go_wp2
                  go_round
                  case rel => exact ⟨j + 1, by omega, by go_num, by rw [HS2.out]; rfl⟩
                  case measure => simp [intOf]; omega
                | false =>
                  by_cases hx : x = (d : Int)
                  · have q5 : (x == (d : Int)) = true := by simp [hx]
                    rw [decide_eq_true hx] at HS2
                    clear hx
                    go_wp2
                    go_round
                    case rel => exact ⟨j + 1, by omega, by go_num, by rw [HS2.out]; rfl⟩
                    case measure => simp [intOf]; omega
                  · have q5 : (x == (d : Int)) = false := by simp [hx]
                    rw [decide_eq_false hx] at HS2
                    clear hx
                    go_wp2
                    go_round
                    case rel => exact ⟨j + 1, by omega, by go_num, by rw [HS2.out]; rfl⟩
                    case measure => simp [intOf]; omega
              · have HT := Lib.hid (show ls.take j = ls from List.take_of_length_le (by omega))
                go_wp2
                go_meet
                case rel => exact ⟨by rw [HT.out, HGD.out], rfl⟩
          case rest =>
          obtain ⟨rfl, rfl⟩ := hcut
          clear f4 k0 HGD
          have hbD : Below wr.heap.size wr wr.drew := (Below.refl _ _).drew
          have h6D := hby.trans (hbD.mono hby.size)
          have k2 := bc h6D K2.out
          have p2 := bc h6D P2.out
          have hlk := key_int.lookup0 (tm := 77) (te := 4) Try.underlying77 (z := .bool false) (fun w => by kernel_rfl) (bb h6D HM2.out) (d : Int)
          have hlk : (Instr.lookup 77 (.map (some mp2)) (.int .i64 d) false).run Try.prog wr.drew = .ok (.bool (decide ((d : Int) ∈ goodsI gone yat))) wr.drew := hlk.trans (congrArg (fun v => Result.ok v wr.drew) (look_setI (d : Int) (goodsI gone yat) 0))
          obtain ⟨gd, hgd⟩ : ∃ gd, gd = gone d := ⟨_, rfl⟩
          rw [← hgd]
          rw [← hgd] at HRD
          clear hgd
          go_upto_region 26 with fail
          cases gd with
          | true =>
            refine wp_region_held_drew (S := fun _ => True) (by kernel_rfl) trivial (fun hHeld => ?_)
            generalize wr.drew = Wy at *
            refine wpAnyH_take (i := 0) (v := ?_) rfl (by kernel_rfl) (by kernel_rfl) (by kernel_rfl) (fun _ _ _ h => h) (Or.inl ⟨by rfl, ?_⟩) (by assumption) ?_
            rotate_left; · (intro w hSw; (try dsimp only at hSw); go_simp; try with_reducible rfl)
            try simp only [Act.put, List.getElem_toArray, List.getElem_cons_zero, List.getElem_cons_succ, List.setIfInBounds_toArray, List.set_cons_zero, List.set_cons_succ]
            refine wpAnyH_take (i := 1) (v := ?_) rfl (by kernel_rfl) (by kernel_rfl) (by kernel_rfl) (fun _ _ _ h => h) (Or.inl ⟨by rfl, ?_⟩) (by assumption) ?_
            rotate_left; · (intro w hSw; (try dsimp only at hSw); go_simp; try with_reducible rfl)
            try simp only [Act.put, List.getElem_toArray, List.getElem_cons_zero, List.getElem_cons_succ, List.setIfInBounds_toArray, List.set_cons_zero, List.set_cons_succ]
            refine wpAnyH_take (i := 2) (v := ?_) rfl (by kernel_rfl) (by kernel_rfl) (by kernel_rfl) (fun _ _ _ h => h) (Or.inl ⟨by rfl, ?_⟩) (by assumption) ?_
            rotate_left; · (intro w hSw; (try dsimp only at hSw); go_simp; try with_reducible rfl)
            try simp only [Act.put, List.getElem_toArray, List.getElem_cons_zero, List.getElem_cons_succ, List.setIfInBounds_toArray, List.set_cons_zero, List.set_cons_succ]
            refine wpAnyH_take (i := 3) (v := undef) rfl (by kernel_rfl) (by kernel_rfl) (by kernel_rfl) (fun _ _ _ h => h) (Or.inr ⟨by rfl, rfl⟩) (by assumption) ?_
            try simp only [Act.put, List.getElem_toArray, List.getElem_cons_zero, List.getElem_cons_succ, List.setIfInBounds_toArray, List.set_cons_zero, List.set_cons_succ]
            refine wpAnyH_take (i := 4) (v := undef) rfl (by kernel_rfl) (by kernel_rfl) (by kernel_rfl) (fun _ _ _ h => h) (Or.inr ⟨by rfl, rfl⟩) (by assumption) ?_
            try simp only [Act.put, List.getElem_toArray, List.getElem_cons_zero, List.getElem_cons_succ, List.setIfInBounds_toArray, List.set_cons_zero, List.set_cons_succ]
            refine wpAnyH_take (i := 5) (v := undef) rfl (by kernel_rfl) (by kernel_rfl) (by kernel_rfl) (fun _ _ _ h => h) (Or.inr ⟨by rfl, rfl⟩) (by assumption) ?_
            try simp only [Act.put, List.getElem_toArray, List.getElem_cons_zero, List.getElem_cons_succ, List.setIfInBounds_toArray, List.set_cons_zero, List.set_cons_succ]
            refine wpAnyH_take (i := 6) (v := undef) rfl (by kernel_rfl) (by kernel_rfl) (by kernel_rfl) (fun _ _ _ h => h) (Or.inr ⟨by rfl, rfl⟩) (by assumption) ?_
            try simp only [Act.put, List.getElem_toArray, List.getElem_cons_zero, List.getElem_cons_succ, List.setIfInBounds_toArray, List.set_cons_zero, List.set_cons_succ]
            refine wpAnyH_take (i := 7) (v := ?_) rfl (by kernel_rfl) (by kernel_rfl) (by kernel_rfl) (fun _ _ _ h => h) (Or.inl ⟨by rfl, ?_⟩) (by assumption) ?_
            rotate_left; · (intro w hSw; (try dsimp only at hSw); go_simp; try with_reducible rfl)
            try simp only [Act.put, List.getElem_toArray, List.getElem_cons_zero, List.getElem_cons_succ, List.setIfInBounds_toArray, List.set_cons_zero, List.set_cons_succ]
            refine wpAnyH_take (i := 8) (v := ?_) rfl (by kernel_rfl) (by kernel_rfl) (by kernel_rfl) (fun _ _ _ h => h) (Or.inl ⟨by rfl, ?_⟩) (by assumption) ?_
            rotate_left; · (intro w hSw; (try dsimp only at hSw); go_simp; try with_reducible rfl)
            try simp only [Act.put, List.getElem_toArray, List.getElem_cons_zero, List.getElem_cons_succ, List.setIfInBounds_toArray, List.set_cons_zero, List.set_cons_succ]
            refine wpAnyH_take (i := 9) (v := undef) rfl (by kernel_rfl) (by kernel_rfl) (by kernel_rfl) (fun _ _ _ h => h) (Or.inr ⟨by rfl, rfl⟩) (by assumption) ?_
            try simp only [Act.put, List.getElem_toArray, List.getElem_cons_zero, List.getElem_cons_succ, List.setIfInBounds_toArray, List.set_cons_zero, List.set_cons_succ]
            refine wpAnyH_take (i := 10) (v := undef) rfl (by kernel_rfl) (by kernel_rfl) (by kernel_rfl) (fun _ _ _ h => h) (Or.inr ⟨by rfl, rfl⟩) (by assumption) ?_
            try simp only [Act.put, List.getElem_toArray, List.getElem_cons_zero, List.getElem_cons_succ, List.setIfInBounds_toArray, List.set_cons_zero, List.set_cons_succ]
            refine wpAnyH_take (i := 11) (v := undef) rfl (by kernel_rfl) (by kernel_rfl) (by kernel_rfl) (fun _ _ _ h => h) (Or.inr ⟨by rfl, rfl⟩) (by assumption) ?_
            try simp only [Act.put, List.getElem_toArray, List.getElem_cons_zero, List.getElem_cons_succ, List.setIfInBounds_toArray, List.set_cons_zero, List.set_cons_succ]
            refine wpAnyH_take (i := 12) (v := undef) rfl (by kernel_rfl) (by kernel_rfl) (by kernel_rfl) (fun _ _ _ h => h) (Or.inr ⟨by rfl, rfl⟩) (by assumption) ?_
            try simp only [Act.put, List.getElem_toArray, List.getElem_cons_zero, List.getElem_cons_succ, List.setIfInBounds_toArray, List.set_cons_zero, List.set_cons_succ]
            refine wpAnyH_take (i := 13) (v := undef) rfl (by kernel_rfl) (by kernel_rfl) (by kernel_rfl) (fun _ _ _ h => h) (Or.inr ⟨by rfl, rfl⟩) (by assumption) ?_
            try simp only [Act.put, List.getElem_toArray, List.getElem_cons_zero, List.getElem_cons_succ, List.setIfInBounds_toArray, List.set_cons_zero, List.set_cons_succ]
            refine wpAnyH_take (i := 14) (v := undef) rfl (by kernel_rfl) (by kernel_rfl) (by kernel_rfl) (fun _ _ _ h => h) (Or.inr ⟨by rfl, rfl⟩) (by assumption) ?_
            try simp only [Act.put, List.getElem_toArray, List.getElem_cons_zero, List.getElem_cons_succ, List.setIfInBounds_toArray, List.set_cons_zero, List.set_cons_succ]
            refine wpAnyH_take (i := 15) (v := undef) rfl (by kernel_rfl) (by kernel_rfl) (by kernel_rfl) (fun _ _ _ h => h) (Or.inr ⟨by rfl, rfl⟩) (by assumption) ?_
            try simp only [Act.put, List.getElem_toArray, List.getElem_cons_zero, List.getElem_cons_succ, List.setIfInBounds_toArray, List.set_cons_zero, List.set_cons_succ]
            refine wpAnyH_take (i := 16) (v := undef) rfl (by kernel_rfl) (by kernel_rfl) (by kernel_rfl) (fun _ _ _ h => h) (Or.inr ⟨by rfl, rfl⟩) (by assumption) ?_
            try simp only [Act.put, List.getElem_toArray, List.getElem_cons_zero, List.getElem_cons_succ, List.setIfInBounds_toArray, List.set_cons_zero, List.set_cons_succ]
            refine wpAnyH_take (i := 17) (v := undef) rfl (by kernel_rfl) (by kernel_rfl) (by kernel_rfl) (fun _ _ _ h => h) (Or.inr ⟨by rfl, rfl⟩) (by assumption) ?_
            try simp only [Act.put, List.getElem_toArray, List.getElem_cons_zero, List.getElem_cons_succ, List.setIfInBounds_toArray, List.set_cons_zero, List.set_cons_succ]
            refine wpAnyH_take (i := 18) (v := ?_) rfl (by kernel_rfl) (by kernel_rfl) (by kernel_rfl) (fun _ _ _ h => h) (Or.inl ⟨by rfl, ?_⟩) (by assumption) ?_
            rotate_left; · (intro w hSw; (try dsimp only at hSw); go_simp; try with_reducible rfl)
            try simp only [Act.put, List.getElem_toArray, List.getElem_cons_zero, List.getElem_cons_succ, List.setIfInBounds_toArray, List.set_cons_zero, List.set_cons_succ]
            refine wpAnyH_done (by kernel_rfl) ?_ _
            clear hHeld k2 p2 hlk
            go_wp2
            go_roundw
            case rel => exact ⟨d + 1, by omega, by go_num, h6D⟩
            case measure => simp [intOf]; omega
          | false =>
            by_cases hin : (d : Int) ∈ goodsI gone yat
            · rw [decide_eq_true hin] at hlk
              clear hin
              refine wp_region_held_drew (S := fun w' => (Instr.lookup 77 (.map (some mp2)) (.int .i64 d) false).run Try.prog w' = .ok (.bool true) w') (by kernel_rfl) hlk (fun hHeld => ?_)
              generalize wr.drew = Wy at *
              refine wpAnyH_take (i := 0) (v := ?_) rfl (by kernel_rfl) (by kernel_rfl) (by kernel_rfl) (fun _ _ _ h => h) (Or.inl ⟨by rfl, ?_⟩) (by assumption) ?_
              rotate_left; · (intro w hSw; (try dsimp only at hSw); go_simp; try with_reducible rfl)
              try simp only [Act.put, List.getElem_toArray, List.getElem_cons_zero, List.getElem_cons_succ, List.setIfInBounds_toArray, List.set_cons_zero, List.set_cons_succ]
              refine wpAnyH_take (i := 1) (v := ?_) rfl (by kernel_rfl) (by kernel_rfl) (by kernel_rfl) (fun _ _ _ h => h) (Or.inl ⟨by rfl, ?_⟩) (by assumption) ?_
              rotate_left; · (intro w hSw; (try dsimp only at hSw); go_simp; try with_reducible rfl)
              try simp only [Act.put, List.getElem_toArray, List.getElem_cons_zero, List.getElem_cons_succ, List.setIfInBounds_toArray, List.set_cons_zero, List.set_cons_succ]
              refine wpAnyH_take (i := 2) (v := ?_) rfl (by kernel_rfl) (by kernel_rfl) (by kernel_rfl) (fun _ _ _ h => h) (Or.inl ⟨by rfl, ?_⟩) (by assumption) ?_
              rotate_left; · (intro w hSw; (try dsimp only at hSw); go_simp; try with_reducible rfl)
              try simp only [Act.put, List.getElem_toArray, List.getElem_cons_zero, List.getElem_cons_succ, List.setIfInBounds_toArray, List.set_cons_zero, List.set_cons_succ]
              refine wpAnyH_take (i := 3) (v := ?_) rfl (by kernel_rfl) (by kernel_rfl) (by kernel_rfl) (fun _ _ _ h => h) (Or.inl ⟨by rfl, ?_⟩) (by assumption) ?_
              rotate_left; · (intro w hSw; (try dsimp only at hSw); go_simp; try with_reducible rfl)
              try simp only [Act.put, List.getElem_toArray, List.getElem_cons_zero, List.getElem_cons_succ, List.setIfInBounds_toArray, List.set_cons_zero, List.set_cons_succ]
              refine wpAnyH_take (i := 4) (v := ?_) rfl (by kernel_rfl) (by kernel_rfl) (by kernel_rfl) (fun _ _ _ h => h) (Or.inl ⟨by rfl, ?_⟩) (by assumption) ?_
              rotate_left; · (intro w hSw; (try dsimp only at hSw); go_simp; try with_reducible rfl)
              try simp only [Act.put, List.getElem_toArray, List.getElem_cons_zero, List.getElem_cons_succ, List.setIfInBounds_toArray, List.set_cons_zero, List.set_cons_succ]
              refine wpAnyH_take (i := 5) (v := ?_) rfl (by kernel_rfl) (by kernel_rfl) (by kernel_rfl) (fun _ _ _ h => h) (Or.inl ⟨by rfl, ?_⟩) (by assumption) ?_
              rotate_left; · (intro w hSw; (try dsimp only at hSw); go_simp; try with_reducible rfl)
              try simp only [Act.put, List.getElem_toArray, List.getElem_cons_zero, List.getElem_cons_succ, List.setIfInBounds_toArray, List.set_cons_zero, List.set_cons_succ]
              refine wpAnyH_take (i := 6) (v := ?_) rfl (by kernel_rfl) (by kernel_rfl) (by kernel_rfl) (fun _ _ _ h => h) (Or.inl ⟨by rfl, ?_⟩) (by assumption) ?_
              rotate_left; · (intro w hSw; (try dsimp only at hSw); go_simp; try with_reducible rfl)
              try simp only [Act.put, List.getElem_toArray, List.getElem_cons_zero, List.getElem_cons_succ, List.setIfInBounds_toArray, List.set_cons_zero, List.set_cons_succ]
              refine wpAnyH_take (i := 7) (v := ?_) rfl (by kernel_rfl) (by kernel_rfl) (by kernel_rfl) (fun _ _ _ h => h) (Or.inl ⟨by rfl, ?_⟩) (by assumption) ?_
              rotate_left; · (intro w hSw; (try dsimp only at hSw); go_simp; try with_reducible rfl)
              try simp only [Act.put, List.getElem_toArray, List.getElem_cons_zero, List.getElem_cons_succ, List.setIfInBounds_toArray, List.set_cons_zero, List.set_cons_succ]
              refine wpAnyH_take (i := 8) (v := ?_) rfl (by kernel_rfl) (by kernel_rfl) (by kernel_rfl) (fun _ _ _ h => h) (Or.inl ⟨by rfl, ?_⟩) (by assumption) ?_
              rotate_left; · (intro w hSw; (try dsimp only at hSw); go_simp; try with_reducible rfl)
              try simp only [Act.put, List.getElem_toArray, List.getElem_cons_zero, List.getElem_cons_succ, List.setIfInBounds_toArray, List.set_cons_zero, List.set_cons_succ]
              refine wpAnyH_take (i := 9) (v := undef) rfl (by kernel_rfl) (by kernel_rfl) (by kernel_rfl) (fun _ _ _ h => h) (Or.inr ⟨by rfl, rfl⟩) (by assumption) ?_
              try simp only [Act.put, List.getElem_toArray, List.getElem_cons_zero, List.getElem_cons_succ, List.setIfInBounds_toArray, List.set_cons_zero, List.set_cons_succ]
              refine wpAnyH_take (i := 10) (v := undef) rfl (by kernel_rfl) (by kernel_rfl) (by kernel_rfl) (fun _ _ _ h => h) (Or.inr ⟨by rfl, rfl⟩) (by assumption) ?_
              try simp only [Act.put, List.getElem_toArray, List.getElem_cons_zero, List.getElem_cons_succ, List.setIfInBounds_toArray, List.set_cons_zero, List.set_cons_succ]
              refine wpAnyH_take (i := 11) (v := undef) rfl (by kernel_rfl) (by kernel_rfl) (by kernel_rfl) (fun _ _ _ h => h) (Or.inr ⟨by rfl, rfl⟩) (by assumption) ?_
              try simp only [Act.put, List.getElem_toArray, List.getElem_cons_zero, List.getElem_cons_succ, List.setIfInBounds_toArray, List.set_cons_zero, List.set_cons_succ]
              refine wpAnyH_take (i := 12) (v := undef) rfl (by kernel_rfl) (by kernel_rfl) (by kernel_rfl) (fun _ _ _ h => h) (Or.inr ⟨by rfl, rfl⟩) (by assumption) ?_
              try simp only [Act.put, List.getElem_toArray, List.getElem_cons_zero, List.getElem_cons_succ, List.setIfInBounds_toArray, List.set_cons_zero, List.set_cons_succ]
              refine wpAnyH_take (i := 13) (v := undef) rfl (by kernel_rfl) (by kernel_rfl) (by kernel_rfl) (fun _ _ _ h => h) (Or.inr ⟨by rfl, rfl⟩) (by assumption) ?_
              try simp only [Act.put, List.getElem_toArray, List.getElem_cons_zero, List.getElem_cons_succ, List.setIfInBounds_toArray, List.set_cons_zero, List.set_cons_succ]
              refine wpAnyH_take (i := 14) (v := undef) rfl (by kernel_rfl) (by kernel_rfl) (by kernel_rfl) (fun _ _ _ h => h) (Or.inr ⟨by rfl, rfl⟩) (by assumption) ?_
              try simp only [Act.put, List.getElem_toArray, List.getElem_cons_zero, List.getElem_cons_succ, List.setIfInBounds_toArray, List.set_cons_zero, List.set_cons_succ]
              refine wpAnyH_take (i := 15) (v := undef) rfl (by kernel_rfl) (by kernel_rfl) (by kernel_rfl) (fun _ _ _ h => h) (Or.inr ⟨by rfl, rfl⟩) (by assumption) ?_
              try simp only [Act.put, List.getElem_toArray, List.getElem_cons_zero, List.getElem_cons_succ, List.setIfInBounds_toArray, List.set_cons_zero, List.set_cons_succ]
              refine wpAnyH_take (i := 16) (v := undef) rfl (by kernel_rfl) (by kernel_rfl) (by kernel_rfl) (fun _ _ _ h => h) (Or.inr ⟨by rfl, rfl⟩) (by assumption) ?_
              try simp only [Act.put, List.getElem_toArray, List.getElem_cons_zero, List.getElem_cons_succ, List.setIfInBounds_toArray, List.set_cons_zero, List.set_cons_succ]
              refine wpAnyH_take (i := 17) (v := undef) rfl (by kernel_rfl) (by kernel_rfl) (by kernel_rfl) (fun _ _ _ h => h) (Or.inr ⟨by rfl, rfl⟩) (by assumption) ?_
              try simp only [Act.put, List.getElem_toArray, List.getElem_cons_zero, List.getElem_cons_succ, List.setIfInBounds_toArray, List.set_cons_zero, List.set_cons_succ]
              refine wpAnyH_take (i := 18) (v := ?_) rfl (by kernel_rfl) (by kernel_rfl) (by kernel_rfl) (fun _ _ _ h => h) (Or.inl ⟨by rfl, ?_⟩) (by assumption) ?_
              rotate_left; · (intro w hSw; (try dsimp only at hSw); go_simp; try with_reducible rfl)
              try simp only [Act.put, List.getElem_toArray, List.getElem_cons_zero, List.getElem_cons_succ, List.setIfInBounds_toArray, List.set_cons_zero, List.set_cons_succ]
              refine wpAnyH_done (by kernel_rfl) ?_ _
              clear hHeld k2 p2 hlk
              go_wp2
              go_roundw
              case rel => exact ⟨d + 1, by omega, by go_num, h6D⟩
              case measure => simp [intOf]; omega
            · have hroom := HRD.out rfl hin
              rw [decide_eq_false hin] at hlk
              have hdr : d < (cleanV gone V').room.length := by rw [HRL.out]; exact hdl
              obtain ⟨e5, r1⟩ := RC2.out d hdr
              subst e5
              have r1 := bc (h7y.trans (hbD.mono h7y.size)) r1
              generalize (cleanV gone V').room.getD d 0 = room at *
              have q6 : decide (yblock ≤ room) = false := decide_eq_false (by omega)
              clear hin hroom
              refine wp_region_held_drew (S := fun w' => (Instr.lookup 77 (.map (some mp2)) (.int .i64 d) false).run Try.prog w' = .ok (.bool false) w' ∧ w'.cell? ⟨B2, 2, none⟩ = some (.slice (some ⟨rb2, ro2, none⟩) (cleanV gone V').room.length rc2) ∧ w'.cell? ⟨rb2, ro2 + d, none⟩ = some (.int .i64 room) ∧ w'.cell? ⟨N, 2, none⟩ = some (.int .i64 yblock)) (by kernel_rfl) ⟨hlk, k2, r1, p2⟩ (fun hHeld => ?_)
              generalize wr.drew = Wy at *
              refine wpAnyH_take (i := 0) (v := ?_) rfl (by kernel_rfl) (by kernel_rfl) (by kernel_rfl) (fun _ _ _ h => h) (Or.inl ⟨by rfl, ?_⟩) (by assumption) ?_
              rotate_left; · (intro w hSw; (try dsimp only at hSw); go_simp; try with_reducible rfl)
              try simp only [Act.put, List.getElem_toArray, List.getElem_cons_zero, List.getElem_cons_succ, List.setIfInBounds_toArray, List.set_cons_zero, List.set_cons_succ]
              refine wpAnyH_take (i := 1) (v := ?_) rfl (by kernel_rfl) (by kernel_rfl) (by kernel_rfl) (fun _ _ _ h => h) (Or.inl ⟨by rfl, ?_⟩) (by assumption) ?_
              rotate_left; · (intro w hSw; (try dsimp only at hSw); go_simp; try with_reducible rfl)
              try simp only [Act.put, List.getElem_toArray, List.getElem_cons_zero, List.getElem_cons_succ, List.setIfInBounds_toArray, List.set_cons_zero, List.set_cons_succ]
              refine wpAnyH_take (i := 2) (v := ?_) rfl (by kernel_rfl) (by kernel_rfl) (by kernel_rfl) (fun _ _ _ h => h) (Or.inl ⟨by rfl, ?_⟩) (by assumption) ?_
              rotate_left; · (intro w hSw; (try dsimp only at hSw); go_simp; try with_reducible rfl)
              try simp only [Act.put, List.getElem_toArray, List.getElem_cons_zero, List.getElem_cons_succ, List.setIfInBounds_toArray, List.set_cons_zero, List.set_cons_succ]
              refine wpAnyH_take (i := 3) (v := ?_) rfl (by kernel_rfl) (by kernel_rfl) (by kernel_rfl) (fun _ _ _ h => h) (Or.inl ⟨by rfl, ?_⟩) (by assumption) ?_
              rotate_left; · (intro w hSw; (try dsimp only at hSw); go_simp; try with_reducible rfl)
              try simp only [Act.put, List.getElem_toArray, List.getElem_cons_zero, List.getElem_cons_succ, List.setIfInBounds_toArray, List.set_cons_zero, List.set_cons_succ]
              refine wpAnyH_take (i := 4) (v := ?_) rfl (by kernel_rfl) (by kernel_rfl) (by kernel_rfl) (fun _ _ _ h => h) (Or.inl ⟨by rfl, ?_⟩) (by assumption) ?_
              rotate_left; · (intro w hSw; (try dsimp only at hSw); go_simp; try with_reducible rfl)
              try simp only [Act.put, List.getElem_toArray, List.getElem_cons_zero, List.getElem_cons_succ, List.setIfInBounds_toArray, List.set_cons_zero, List.set_cons_succ]
              refine wpAnyH_take (i := 5) (v := ?_) rfl (by kernel_rfl) (by kernel_rfl) (by kernel_rfl) (fun _ _ _ h => h) (Or.inl ⟨by rfl, ?_⟩) (by assumption) ?_
              rotate_left; · (intro w hSw; (try dsimp only at hSw); go_simp; try with_reducible rfl)
              try simp only [Act.put, List.getElem_toArray, List.getElem_cons_zero, List.getElem_cons_succ, List.setIfInBounds_toArray, List.set_cons_zero, List.set_cons_succ]
              refine wpAnyH_take (i := 6) (v := ?_) rfl (by kernel_rfl) (by kernel_rfl) (by kernel_rfl) (fun _ _ _ h => h) (Or.inl ⟨by rfl, ?_⟩) (by assumption) ?_
              rotate_left; · (intro w hSw; (try dsimp only at hSw); go_simp; try with_reducible rfl)
              try simp only [Act.put, List.getElem_toArray, List.getElem_cons_zero, List.getElem_cons_succ, List.setIfInBounds_toArray, List.set_cons_zero, List.set_cons_succ]
              refine wpAnyH_take (i := 7) (v := ?_) rfl (by kernel_rfl) (by kernel_rfl) (by kernel_rfl) (fun _ _ _ h => h) (Or.inl ⟨by rfl, ?_⟩) (by assumption) ?_
              rotate_left; · (intro w hSw; (try dsimp only at hSw); go_simp; try with_reducible rfl)
              try simp only [Act.put, List.getElem_toArray, List.getElem_cons_zero, List.getElem_cons_succ, List.setIfInBounds_toArray, List.set_cons_zero, List.set_cons_succ]
              refine wpAnyH_take (i := 8) (v := ?_) rfl (by kernel_rfl) (by kernel_rfl) (by kernel_rfl) (fun _ _ _ h => h) (Or.inl ⟨by rfl, ?_⟩) (by assumption) ?_
              rotate_left; · (intro w hSw; (try dsimp only at hSw); go_simp; try with_reducible rfl)
              try simp only [Act.put, List.getElem_toArray, List.getElem_cons_zero, List.getElem_cons_succ, List.setIfInBounds_toArray, List.set_cons_zero, List.set_cons_succ]
              refine wpAnyH_take (i := 9) (v := ?_) rfl (by kernel_rfl) (by kernel_rfl) (by kernel_rfl) (fun _ _ _ h => h) (Or.inl ⟨by rfl, ?_⟩) (by assumption) ?_
              rotate_left; · (intro w hSw; (try dsimp only at hSw); go_simp; try with_reducible rfl)
              try simp only [Act.put, List.getElem_toArray, List.getElem_cons_zero, List.getElem_cons_succ, List.setIfInBounds_toArray, List.set_cons_zero, List.set_cons_succ]
              refine wpAnyH_take (i := 10) (v := ?_) rfl (by kernel_rfl) (by kernel_rfl) (by kernel_rfl) (fun _ _ _ h => h) (Or.inl ⟨by rfl, ?_⟩) (by assumption) ?_
              rotate_left; · (intro w hSw; (try dsimp only at hSw); go_simp; try with_reducible rfl)
              try simp only [Act.put, List.getElem_toArray, List.getElem_cons_zero, List.getElem_cons_succ, List.setIfInBounds_toArray, List.set_cons_zero, List.set_cons_succ]
              refine wpAnyH_take (i := 11) (v := ?_) rfl (by kernel_rfl) (by kernel_rfl) (by kernel_rfl) (fun _ _ _ h => h) (Or.inl ⟨by rfl, ?_⟩) (by assumption) ?_
              rotate_left; · (intro w hSw; (try dsimp only at hSw); go_simp; try with_reducible rfl)
              try simp only [Act.put, List.getElem_toArray, List.getElem_cons_zero, List.getElem_cons_succ, List.setIfInBounds_toArray, List.set_cons_zero, List.set_cons_succ]
              refine wpAnyH_take (i := 12) (v := ?_) rfl (by kernel_rfl) (by kernel_rfl) (by kernel_rfl) (fun _ _ _ h => h) (Or.inl ⟨by rfl, ?_⟩) (by assumption) ?_
              rotate_left; · (intro w hSw; (try dsimp only at hSw); go_simp; try with_reducible rfl)
              try simp only [Act.put, List.getElem_toArray, List.getElem_cons_zero, List.getElem_cons_succ, List.setIfInBounds_toArray, List.set_cons_zero, List.set_cons_succ]
              refine wpAnyH_take (i := 13) (v := ?_) rfl (by kernel_rfl) (by kernel_rfl) (by kernel_rfl) (fun _ _ _ h => h) (Or.inl ⟨by rfl, ?_⟩) (by assumption) ?_
              rotate_left; · (intro w hSw; (try dsimp only at hSw); go_simp; try with_reducible rfl)
              try simp only [Act.put, List.getElem_toArray, List.getElem_cons_zero, List.getElem_cons_succ, List.setIfInBounds_toArray, List.set_cons_zero, List.set_cons_succ]
              refine wpAnyH_take (i := 14) (v := ?_) rfl (by kernel_rfl) (by kernel_rfl) (by kernel_rfl) (fun _ _ _ h => h) (Or.inl ⟨by rfl, ?_⟩) (by assumption) ?_
              rotate_left; · (intro w hSw; (try dsimp only at hSw); go_simp; try with_reducible rfl)
              try simp only [Act.put, List.getElem_toArray, List.getElem_cons_zero, List.getElem_cons_succ, List.setIfInBounds_toArray, List.set_cons_zero, List.set_cons_succ]
              refine wpAnyH_take (i := 15) (v := ?_) rfl (by kernel_rfl) (by kernel_rfl) (by kernel_rfl) (fun _ _ _ h => h) (Or.inl ⟨by rfl, ?_⟩) (by assumption) ?_
              rotate_left; · (intro w hSw; (try dsimp only at hSw); go_simp; try with_reducible rfl)
              try simp only [Act.put, List.getElem_toArray, List.getElem_cons_zero, List.getElem_cons_succ, List.setIfInBounds_toArray, List.set_cons_zero, List.set_cons_succ]
              refine wpAnyH_take (i := 16) (v := ?_) rfl (by kernel_rfl) (by kernel_rfl) (by kernel_rfl) (fun _ _ _ h => h) (Or.inl ⟨by rfl, ?_⟩) (by assumption) ?_
              rotate_left; · (intro w hSw; (try dsimp only at hSw); go_simp; try with_reducible rfl)
              try simp only [Act.put, List.getElem_toArray, List.getElem_cons_zero, List.getElem_cons_succ, List.setIfInBounds_toArray, List.set_cons_zero, List.set_cons_succ]
              refine wpAnyH_take (i := 17) (v := ?_) rfl (by kernel_rfl) (by kernel_rfl) (by kernel_rfl) (fun _ _ _ h => h) (Or.inl ⟨by rfl, ?_⟩) (by assumption) ?_
              rotate_left; · (intro w hSw; (try dsimp only at hSw); go_simp; try with_reducible rfl)
              try simp only [Act.put, List.getElem_toArray, List.getElem_cons_zero, List.getElem_cons_succ, List.setIfInBounds_toArray, List.set_cons_zero, List.set_cons_succ]
              refine wpAnyH_take (i := 18) (v := ?_) rfl (by kernel_rfl) (by kernel_rfl) (by kernel_rfl) (fun _ _ _ h => h) (Or.inl ⟨by rfl, ?_⟩) (by assumption) ?_
              rotate_left; · (intro w hSw; (try dsimp only at hSw); go_simp; try with_reducible rfl)
              try simp only [Act.put, List.getElem_toArray, List.getElem_cons_zero, List.getElem_cons_succ, List.setIfInBounds_toArray, List.set_cons_zero, List.set_cons_succ]
              refine wpAnyH_done (by kernel_rfl) ?_ _
              clear hHeld k2 p2 hlk r1
              go_wp2
              go_roundw
              case rel => exact ⟨d + 1, by omega, by go_num, h6D⟩
              case measure => simp [intOf]; omega
        · have hde : d = ml := by omega
          subst hde
          clear hdl
          have HBY := Lib.hid hby
          have H7Y := Lib.hid h7y
          go_wp2
          go_roundw
          case rel => exact ⟨k + 1, by omega, by go_num, H7Y.out⟩
          case measure => simp [intOf]; omega
    · have k2 : wr.cell? ⟨B2, 2, none⟩ = some (.slice ra2 (cleanV gone V').room.length rc2) := cell_of_row wr _ 2 _ _ _ hkx
      have k3 : wr.cell? ⟨B2, 3, none⟩ = some (.slice wa2 wl2 wc2) := cell_of_row wr _ 3 _ _ _ hkx
      have CD1 := Lib.hid (dead_any _ _ V ls wr (HV7.out.below hbel) (HL7.out.below hbel) HREF.out)
      have HDL := Lib.hid (heals_dead HG5.out V.held.length (Nat.le_refl _))
      rw [HGN.out] at CD1
      go_wp2_with fail
      refine CD1.out.mono ?_
      rintro e w8 ⟨hb8, hcase⟩
      rcases hcase with ⟨hno, _⟩ | ⟨_, u8, rfl, ho8⟩
      · exact absurd HFIT.out hno
      have h78 := hbel.trans (hb8.mono hbel.size)
      have k0 := bc hb8 k0
      have k1 := bc hb8 k1
      have k2 := bc hb8 k2
      have k3 := bc hb8 k3
      have CD2 := Lib.hid (dead_any _ _ (cleanV gone V') ls w8 (HU7.out.below h78) (HL7.out.below h78) HRF.out)
      rw [HMEM.out, HGN.out, HLEN2.out] at CD2
      have HL8 := Lib.hid (deadTo_len V gone V.held.length)
      have HL9 := Lib.hid (deadTo_len (cleanV gone V') gone nh)
      rw [← HNH.out] at HL8 HDL ho8
      have hl8 : (deadTo V gone nh).length ≤ 256 := Nat.le_trans HL8.out hn256
      have hl9 : (deadTo (cleanV gone V') gone nh).length ≤ 256 := Nat.le_trans HL9.out hn256
      obtain ⟨s8, t8, rfl, -⟩ := Own.row ho8 (by omega)
      clear CD1 d0 d1 d2 d3 hb8 ho8
      go_wp2_with fail
      refine CD2.out.mono ?_
      rintro e w9 ⟨hb9, hcase⟩
      rcases hcase with ⟨hno, _⟩ | ⟨_, u9, rfl, ho9⟩
      · exact absurd HF6.out hno
      obtain ⟨s9, t9, rfl, -⟩ := Own.row ho9 (by omega)
      have hbw9 := hbw7.trans ((h78.trans (hb9.mono h78.size)).mono hbw7.size)
      rw [HDL.out]
      clear CD2 k0 k1 k2 k3 ho9 hb9
      generalize (deadTo (cleanV gone V') gone nh).length = dl at *
      go_wp2
      go_ret
      exact ⟨rfl, hbw9⟩

end Go.Proofs.Ytijcicgbhcphjaa
