/- Law Fewer, walked. -/
import Derived.Test.YtapjgjjmlbhanaaU3
import Derived.Test.YtapjgjjmlbhanaaV1
import Derived.Test.YtapjgjjmlbhanaaK2
import Derived.Test.YtapjgjjmlbhanaaL5
namespace Go.Proofs.Ytapjgjjmlbhanaa
open Go.RowKit Go.Lib
set_option linter.unusedSimpArgs false

theorem cheap3 (g : Gl) (v cv : Value) (hs : List Hd) (w : World) (hg : GlAt w g) (hv : ReadsH w v hs) (hc : ReadsI w cv (List.replicate hs.length 3)) (hok : Ok g hs) (h6 : hs.length ≤ 6) (hz : sufE g hs = 0) :
    Calls Try.prog 24 #[g.v, v, cv] w fun e w' => ∃ u, e = .returned (.tuple #[u, .int .i64 (3 * ((mdOf g hs).length : Int)), .int .i64 0]) ∧ ReadsI w' u (mdOf g hs) ∧ Below w.heap.size w w' := by
  have hcs : CsOk (List.replicate hs.length 3) := fun c hc => by
    rw [List.mem_replicate] at hc
    rw [hc.2]
    omega
  refine (cheapest_ok g v cv hs _ w hg hv hc hok (List.length_replicate ..) hcs).mono ?_
  rintro e w' ⟨L, pl, hp, hpl, hL, hsd, ⟨h1, rfl, hb⟩ | ⟨h1, u, rfl, hr, hb⟩⟩
  · exact absurd hz ((suff_some hok hp hsd).1 h1)
  · obtain ⟨e1, e2⟩ := md_cheap hok hp hpl hsd h6 hz
    refine ⟨u, by rw [e2], ?_, hb⟩
    rw [← e1]
    exact hr

set_option maxRecDepth 100000 in
set_option maxHeartbeats 16000000 in
theorem lawFewer_any (g : Gl) (v dv : Value) (hs : List Hd) (devs : List Int) (w : World) (hg : GlAt w g) (hv : ReadsH w v hs) (hd : ReadsI w dv devs) :
    Calls Try.prog 4 #[g.v, v, dv] w fun e w' => e = .returned (.bool true) ∧ Below w.heap.size w w' := by
  obtain ⟨fe, hfe⟩ : ∃ fe, fe = sufE g hs := ⟨_, rfl⟩
  obtain ⟨md, hmd⟩ : ∃ md, md = mdOf g hs := ⟨_, rfl⟩
  have hcs := fe_cases g hs
  have c12 := few_any g v hs
  have c20 := fewest_two g v hs
  have c21 := fun (u : Value) (ds : List Int) (W : World) (h1 : GlAt W g) (h2 : ReadsH W v hs) (h3 : ReadsI W u ds) (hok : Ok g hs) => suffic_ok g v u hs ds W h1 h2 h3 hok
  have c23 := greedy_two g v hs
  have c24 := fun (cv : Value) => cheap3 g v cv hs
  change ∀ (w : World), GlAt w g → ReadsH w v hs → (Ok g hs → hs.length ≤ 6) → Calls Try.prog 20 #[g.v, v] w fun e w' => ∃ u, e = .returned (.tuple #[u, .int .i64 (sufE g hs)]) ∧ ReadsI w' u (mdOf g hs) ∧ Below w.heap.size w w' at c20
  simp only [← hfe, ← hmd] at c20 c23 c24 hcs
  obtain ⟨na, n1, nc, pa, n2, pc, sa, n3, sc, e1⟩ := hg.val
  obtain ⟨ao, c4, _, _, rfl, _⟩ := hv.at
  obtain ⟨dao, dc, _, _, rfl, hdl, hdm, _⟩ := hd.at
  rw [e1] at c12 c20 c23 ⊢
  simp only [e1] at c21 c24
  have HG := Lib.hid hg
  have HV := Lib.hid hv
  have HD := Lib.hid hd
  have C12 := Lib.hid c12
  have C20 := Lib.hid c20
  have C21 := Lib.hid c21
  have C23 := Lib.hid c23
  have C24 := Lib.hid c24
  have AW := Lib.hid awake_any
  have HFE := Lib.hid hfe
  have HMD := Lib.hid hmd
  have HCS := Lib.hid hcs
  clear hg hv hd c12 c20 c21 c23 c24 e1 hfe hmd hcs
  have b0 : Below w.heap.size w (w.alloc (.cells #[.slice na n1 nc, .int .i64 g.thr, .bool g.idx, .slice pa n2 pc, .slice sa n3 sc] 26)) := (Below.refl _ _).alloc (Nat.le_refl _) _
  have g0 := heap_alloc_last w (.cells #[.slice na n1 nc, .int .i64 g.thr, .bool g.idx, .slice pa n2 pc, .slice sa n3 sc] 26)
  obtain ⟨G, hG⟩ : ∃ G, G = w.heap.size := ⟨_, rfl⟩
  have HGG := Lib.hid hG
  rw [← hG] at g0
  have G0 := Lib.hid g0
  clear g0 hG
  go_enter Try.func4, Try.ntmps4
  go_upto_region 1 with fail
  rw [← HGG.out]
  generalize w.alloc (Obj.cells #[.slice na n1 nc, .int .i64 g.thr, .bool g.idx, .slice pa n2 pc, .slice sa n3 sc] 26) = W at b0 G0 ⊢
  have a0 := cell_of_row _ _ 0 _ _ _ G0.out
  have a1 := cell_of_row _ _ 1 _ _ _ G0.out
  have a2 := cell_of_row _ _ 2 _ _ _ G0.out
  have a3 := cell_of_row _ _ 3 _ _ _ G0.out
  have a4 := cell_of_row _ _ 4 _ _ _ G0.out
  go_wp2_with fail
  refine (C12.out W (HG.out.below b0) (HV.out.below b0)).mono ?_
  rintro e w1 ⟨rfl, hb1⟩
  have b1 := b0.trans (hb1.mono b0.size)
  have G1 := Lib.hid ((hb1.block G (Array.getElem?_eq_some_iff.1 G0.out).1).trans G0.out)
  clear a0 a1 a2 a3 a4 G0 hb1 b0
  have z1 := b1.size
  by_cases hfew : fewB g hs = false
  · rw [hfew]
    go_wp2_with fail
    refine (AW.out _).mono ?_
    rintro e w2 ⟨rfl, hba⟩
    go_wp2
    go_ret
    exact ⟨rfl, b1.trans (hba.mono z1)⟩
  have hfew1 : fewB g hs = true := by simpa using hfew
  rw [hfew1]
  clear hfew hfew1
  by_cases hl1 : 6 < devs.length
  · have k1 : decide ((devs.length : Int) > 6) = true := by simp; omega
    go_wp2_with fail
    refine (AW.out _).mono ?_
    rintro e w2 ⟨rfl, hba⟩
    go_wp2
    go_ret
    exact ⟨rfl, b1.trans (hba.mono z1)⟩
  have k1 : decide ((devs.length : Int) > 6) = false := by simp; omega
  by_cases hl2 : 6 < hs.length
  · have k2 : decide ((hs.length : Int) > 6) = true := by simp; omega
    go_wp2_with fail
    refine (AW.out _).mono ?_
    rintro e w2 ⟨rfl, hba⟩
    go_wp2
    go_ret
    exact ⟨rfl, b1.trans (hba.mono z1)⟩
  have k2 : decide ((hs.length : Int) > 6) = false := by simp; omega
  have h6 : hs.length ≤ 6 := by omega
  have a0 := cell_of_row _ _ 0 _ _ _ G1.out
  have a1 := cell_of_row _ _ 1 _ _ _ G1.out
  have a2 := cell_of_row _ _ 2 _ _ _ G1.out
  have a3 := cell_of_row _ _ 3 _ _ _ G1.out
  have a4 := cell_of_row _ _ 4 _ _ _ G1.out
  have CB := Lib.hid (C20.out w1 (HG.out.below b1) (HV.out.below b1) (fun _ => h6))
  generalize hhl : hs.length = hl at *
  have HHL := Lib.hid hhl
  clear hhl
  go_wp2_with fail
  refine CB.out.mono ?_
  rintro e w2 ⟨av, rfl, hav, hb2⟩
  obtain ⟨oa, oc, rfl⟩ := hav.val'
  have HAV := Lib.hid hav
  have b2 := b1.trans (hb2.mono b1.size)
  have G2 := Lib.hid ((hb2.block G (Array.getElem?_eq_some_iff.1 G1.out).1).trans G1.out)
  clear a0 a1 a2 a3 a4
  have a0 := cell_of_row _ _ 0 _ _ _ G2.out
  have a1 := cell_of_row _ _ 1 _ _ _ G2.out
  have a2 := cell_of_row _ _ 2 _ _ _ G2.out
  have a3 := cell_of_row _ _ 3 _ _ _ G2.out
  have a4 := cell_of_row _ _ 4 _ _ _ G2.out

  clear CB hav hb2 k1 k2
  rcases HCS.out with ⟨rfl, hok⟩ | ⟨hfe, hmo⟩
  · have HOK := Lib.hid hok
    have hz : sufE g hs = 0 := HFE.out.symm
    have HS0 := Lib.hid (show sumR g hs md = 0 by rw [HMD.out]; exact md_suff hok (by rw [HHL.out]; exact h6) hz)
    have HLS := Lib.hid (fun (k : Nat) (hk : k < md.length) => show ¬ sumR g hs (withoutL md k) = 0 by rw [HMD.out] at hk ⊢; exact md_less hok (by rw [HHL.out]; exact h6) hz k hk)
    have HFW := Lib.hid (fun (o : List Int) (ho : sumR g hs o = 0) => show md.length ≤ o.length by rw [HMD.out]; exact md_few hok (by rw [HHL.out]; exact h6) hz o ho)
    have hmdl : md.length ≤ 6 := by
      have h1 := HFW.out (devsOf hs) (by
        have hz2 := hz
        unfold sufE at hz2
        rw [if_pos hok] at hz2
        have h0 := (sumR_bd hok (devsOf hs)).1
        by_cases hq : 0 < sumR g hs (devsOf hs)
        · rw [if_pos hq] at hz2; exact absurd hz2 (by decide)
        · omega)
      obtain ⟨L, hp, hsd⟩ := existsL hok.2.2.2
      rw [devsOf_eq hok.2.2.2 hp hsd, List.length_map, hp.length_eq, HHL.out] at h1
      omega
    have CS1 := C21.out (.slice oa md.length oc) md w2 (HG.out.below b2) (HV.out.below b2) HAV.out hok
    rw [HS0.out, decide_eq_true rfl] at CS1
    have CS1 := Lib.hid CS1
    clear hok hz
    generalize hal : md.length = al at *
    have HAL := Lib.hid hal
    clear hal
    go_wp2_with fail
    refine CS1.out.mono ?_
    rintro e w3 ⟨rfl, hb3⟩
    have HAV3 := Lib.hid (HAV.out.below hb3)
    have b3 := b2.trans (hb3.mono b2.size)
    have G3 := Lib.hid ((hb3.block G (Array.getElem?_eq_some_iff.1 G2.out).1).trans G2.out)
    clear a0 a1 a2 a3 a4
    have a0 := cell_of_row _ _ 0 _ _ _ G3.out
    have a1 := cell_of_row _ _ 1 _ _ _ G3.out
    have a2 := cell_of_row _ _ 2 _ _ _ G3.out
    have a3 := cell_of_row _ _ 3 _ _ _ G3.out
    have a4 := cell_of_row _ _ 4 _ _ _ G3.out

    clear CS1 hb3
    have z3 := b3.size
    go_wp2_with fail
    clear a0 a1 a2 a3 a4
    go_loopg [11, 12, 13] al (fun gk v11 v12 v13 wx => ∃ k : Nat, k + gk = al ∧ v11 = .int .i64 k ∧ Below w3.heap.size w3 wx)
    case atStart => exact ⟨0, by omega, rfl, Below.refl _ _⟩
    case round =>
      obtain ⟨k, hk, rfl, hbx⟩ := hrel
      have zx := hbx.size
      cases gk with
      | succ go =>
        have hkl : k < al := by omega
        have hno := HLS.out k hkl
        have CW := Lib.hid (fun (W8 : World) (h : Below wr.heap.size wr W8) => without_any (.slice oa al oc) md k W8 (HAV3.out.below (hbx.trans (h.mono zx))) (by rw [HAL.out]; exact hkl) (by rw [HAL.out]; omega))
        have hwl : (withoutL md k).length ≤ 12 := by
          unfold withoutL
          rw [List.length_append, List.length_take, List.length_drop, HAL.out]
          omega
        have CS := Lib.hid (fun (u8 : Value) (W8 : World) (h : Below wr.heap.size wr W8) (hu : ReadsI W8 u8 (withoutL md k)) => show Calls Try.prog 21 _ W8 (fun e w' => e = .returned (.tuple #[.bool false, .int .i64 0]) ∧ Below W8.heap.size W8 w') by
          have := C21.out u8 (withoutL md k) W8 (HG.out.below (b3.trans ((hbx.trans (h.mono zx)).mono z3))) (HV.out.below (b3.trans ((hbx.trans (h.mono zx)).mono z3))) hu HOK.out
          rw [decide_eq_false hno] at this
          exact this)
        clear hno
        have hGx := (hbx.block G (Array.getElem?_eq_some_iff.1 G3.out).1).trans G3.out
        have a0 := cell_of_row _ _ 0 _ _ _ hGx
        have a1 := cell_of_row _ _ 1 _ _ _ hGx
        have a2 := cell_of_row _ _ 2 _ _ _ hGx
        have a3 := cell_of_row _ _ 3 _ _ _ hGx
        have a4 := cell_of_row _ _ 4 _ _ _ hGx
        simp only [List.getElem?_toArray, List.getElem?_cons_zero, List.getElem?_cons_succ] at a0 a1 a2 a3 a4
        have hkeep : ∀ w8 : World, Below wr.heap.size wr w8 → Below wr.heap.size wr w8 ∧ w8.cell? ⟨G, 0, none⟩ = some (.slice na n1 nc) ∧ w8.cell? ⟨G, 1, none⟩ = some (.int .i64 g.thr) ∧ w8.cell? ⟨G, 2, none⟩ = some (.bool g.idx) ∧ w8.cell? ⟨G, 3, none⟩ = some (.slice pa n2 pc) ∧ w8.cell? ⟨G, 4, none⟩ = some (.slice sa n3 sc) := fun w8 hb =>
          ⟨hb, (hb.cell (p := ⟨G, 0, none⟩) (cell_lt a0)).trans a0, (hb.cell (p := ⟨G, 1, none⟩) (cell_lt a1)).trans a1, (hb.cell (p := ⟨G, 2, none⟩) (cell_lt a2)).trans a2, (hb.cell (p := ⟨G, 3, none⟩) (cell_lt a3)).trans a3, (hb.cell (p := ⟨G, 4, none⟩) (cell_lt a4)).trans a4⟩
        have HKEEP := Lib.hid hkeep
        have HHS := Lib.hid (hkeep wr.drew (Below.refl _ _).drew)
        clear hkeep a0 a1 a2 a3 a4 hGx
        generalize withoutL md k = ys at *
        go_wp2_with fail
        refine wp_region_held_drew (S := fun w' => Below wr.heap.size wr w' ∧ w'.cell? ⟨G, 0, none⟩ = some (.slice na n1 nc) ∧ w'.cell? ⟨G, 1, none⟩ = some (.int .i64 g.thr) ∧ w'.cell? ⟨G, 2, none⟩ = some (.bool g.idx) ∧ w'.cell? ⟨G, 3, none⟩ = some (.slice pa n2 pc) ∧ w'.cell? ⟨G, 4, none⟩ = some (.slice sa n3 sc)) (by kernel_rfl) HHS.out (fun hHeld => ?_)
        refine wpAnyH_take (i := 0) (v := ?_) rfl (by kernel_rfl) (by kernel_rfl) (by kernel_rfl) (fun _ _ _ h => h) (Or.inl ⟨by rfl, ?_⟩) (by assumption) ?_
        rotate_left; · (intro w hSw; (try dsimp only at hSw); go_simp; try with_reducible rfl)
        try simp only [Act.put, List.getElem_toArray, List.getElem_cons_zero, List.getElem_cons_succ, List.setIfInBounds_toArray, List.set_cons_zero, List.set_cons_succ]
        refine wpAnyH_take (i := 1) (v := ?_) rfl (by kernel_rfl) (by kernel_rfl) (by kernel_rfl) (fun _ _ _ h => h) (Or.inl ⟨by rfl, ?_⟩) (by assumption) ?_
        rotate_left; · (intro w hSw; (try dsimp only at hSw); go_simp; try with_reducible rfl)
        try simp only [Act.put, List.getElem_toArray, List.getElem_cons_zero, List.getElem_cons_succ, List.setIfInBounds_toArray, List.set_cons_zero, List.set_cons_succ]
        refine wpAnyH_take (i := 2) (v := ?_) rfl (by kernel_rfl) (by kernel_rfl) (by kernel_rfl) (fun _ _ _ h => h) (Or.inl ⟨by rfl, ?_⟩) (by assumption) ?_
        rotate_left; · (intro w hSw; (try dsimp only at hSw); go_simp; try with_reducible rfl)
        try simp only [Act.put, List.getElem_toArray, List.getElem_cons_zero, List.getElem_cons_succ, List.setIfInBounds_toArray, List.set_cons_zero, List.set_cons_succ]
        refine wpAnyH_take (i := 3) (v := ?_) rfl (by kernel_rfl) (by kernel_rfl) (by kernel_rfl) (fun _ _ _ h => h) (Or.inl ⟨by rfl, ?_⟩) (by assumption) ?_
        rotate_left; · (intro w hSw; (try dsimp only at hSw); go_simp; try with_reducible rfl)
        try simp only [Act.put, List.getElem_toArray, List.getElem_cons_zero, List.getElem_cons_succ, List.setIfInBounds_toArray, List.set_cons_zero, List.set_cons_succ]
        refine wpAnyH_ready (rs := [4]) (by kernel_rfl) (by simp) ?_
        refine AllReadyH.cons rfl (fun K hK => ?_) AllReadyH.nil
        go_simp
        go_at_call 22
        refine (CW.out _ hHeld.1).mono ?_
        rintro e w8 ⟨u8, rfl, ho8, hb8⟩
        have hr8 := ho8.reads (by omega)
        obtain ⟨za, zc, er⟩ := hr8.val'
        rw [er] at hr8 ⊢
        have R8 := Lib.hid hr8
        clear ho8 hr8 er
        go_wp2_with fail
        refine hK.out _ _ (HKEEP.out _ (hHeld.1.trans (hb8.mono hHeld.1.size))) (fun hNew => ?_)
        clear hb8
        clear hK K hHeld
        have hHeld := hNew
        clear hNew
        try simp only [Act.put, List.getElem_toArray, List.getElem_cons_zero, List.getElem_cons_succ, List.setIfInBounds_toArray, List.set_cons_zero, List.set_cons_succ]
        refine wpAnyH_ready (rs := [5]) (by kernel_rfl) (by simp) ?_
        refine AllReadyH.cons rfl (fun K hK => ?_) AllReadyH.nil
        go_simp
        go_at_call 21
        refine (CS.out _ _ hHeld.1 R8.out).mono ?_
        rintro e w9 ⟨rfl, hb9⟩
        go_wp2_with fail
        refine hK.out _ _ (HKEEP.out _ (hHeld.1.trans (hb9.mono hHeld.1.size))) (fun hNew => ?_)
        clear hb9
        clear hK K hHeld
        have hHeld := hNew
        clear hNew
        try simp only [Act.put, List.getElem_toArray, List.getElem_cons_zero, List.getElem_cons_succ, List.setIfInBounds_toArray, List.set_cons_zero, List.set_cons_succ]
        refine wpAnyH_take (i := 6) (v := ?_) rfl (by kernel_rfl) (by kernel_rfl) (by kernel_rfl) (fun _ _ _ h => h) (Or.inl ⟨by rfl, ?_⟩) (by assumption) ?_
        rotate_left; · (intro w hSw; (try dsimp only at hSw); go_simp; try with_reducible rfl)
        try simp only [Act.put, List.getElem_toArray, List.getElem_cons_zero, List.getElem_cons_succ, List.setIfInBounds_toArray, List.set_cons_zero, List.set_cons_succ]
        refine wpAnyH_take (i := 7) (v := ?_) rfl (by kernel_rfl) (by kernel_rfl) (by kernel_rfl) (fun _ _ _ h => h) (Or.inl ⟨by rfl, ?_⟩) (by assumption) ?_
        rotate_left; · (intro w hSw; (try dsimp only at hSw); go_simp; try with_reducible rfl)
        try simp only [Act.put, List.getElem_toArray, List.getElem_cons_zero, List.getElem_cons_succ, List.setIfInBounds_toArray, List.set_cons_zero, List.set_cons_succ]
        refine wpAnyH_take (i := 8) (v := ?_) rfl (by kernel_rfl) (by kernel_rfl) (by kernel_rfl) (fun _ _ _ h => h) (Or.inl ⟨by rfl, ?_⟩) (by assumption) ?_
        rotate_left; · (intro w hSw; (try dsimp only at hSw); go_simp; try with_reducible rfl)
        try simp only [Act.put, List.getElem_toArray, List.getElem_cons_zero, List.getElem_cons_succ, List.setIfInBounds_toArray, List.set_cons_zero, List.set_cons_succ]
        refine wpAnyH_take (i := 9) (v := ?_) rfl (by kernel_rfl) (by kernel_rfl) (by kernel_rfl) (fun _ _ _ h => h) (Or.inl ⟨by rfl, ?_⟩) (by assumption) ?_
        rotate_left; · (intro w hSw; (try dsimp only at hSw); go_simp; try with_reducible rfl)
        try simp only [Act.put, List.getElem_toArray, List.getElem_cons_zero, List.getElem_cons_succ, List.setIfInBounds_toArray, List.set_cons_zero, List.set_cons_succ]
        refine wpAnyH_take (i := 10) (v := ?_) rfl (by kernel_rfl) (by kernel_rfl) (by kernel_rfl) (fun _ _ _ h => h) (Or.inl ⟨by rfl, ?_⟩) (by assumption) ?_
        rotate_left; · (intro w hSw; (try dsimp only at hSw); go_simp; try with_reducible rfl)
        try simp only [Act.put, List.getElem_toArray, List.getElem_cons_zero, List.getElem_cons_succ, List.setIfInBounds_toArray, List.set_cons_zero, List.set_cons_succ]
        refine wpAnyH_done (by kernel_rfl) ?_ _
        go_wp2
        go_roundg go
        case measure => omega
        case rel => exact ⟨k + 1, by omega, by go_num, hbx.trans (hHeld.1.mono zx)⟩
      | zero =>
        obtain rfl : k = al := by omega
        have b4 := b3.trans (hbx.mono z3)
        have G4 := Lib.hid ((hbx.block G (Array.getElem?_eq_some_iff.1 G3.out).1).trans G3.out)
        have HAV4 := Lib.hid (HAV3.out.below hbx)
        have CO := Lib.hid (C21.out (.slice dao devs.length dc) devs wr (HG.out.below b4) (HV.out.below b4) (HD.out.below b4) HOK.out)
        have hfo := HFW.out devs
        clear hbx G3 HAV3
        have a0 := cell_of_row _ _ 0 _ _ _ G4.out
        have a1 := cell_of_row _ _ 1 _ _ _ G4.out
        have a2 := cell_of_row _ _ 2 _ _ _ G4.out
        have a3 := cell_of_row _ _ 3 _ _ _ G4.out
        have a4 := cell_of_row _ _ 4 _ _ _ G4.out
        obtain ⟨io, hio⟩ : ∃ io : Bool, io = decide (sumR g hs devs = 0) := ⟨_, rfl⟩
        rw [← hio] at CO
        have hio2 : io = true → k ≤ devs.length := fun h => hfo (of_decide_eq_true (hio ▸ h))
        have HIO := Lib.hid hio2
        clear hio hfo hio2
        go_wp2_with fail
        refine CO.out.mono ?_
        rintro e w5 ⟨rfl, hb5⟩
        have HAV5 := Lib.hid (HAV4.out.below hb5)
        have hb45 := hb5
        have b5 := b4.trans (hb5.mono b4.size)
        have G5 := Lib.hid ((hb5.block G (Array.getElem?_eq_some_iff.1 G4.out).1).trans G4.out)
        clear a0 a1 a2 a3 a4
        have a0 := cell_of_row _ _ 0 _ _ _ G5.out
        have a1 := cell_of_row _ _ 1 _ _ _ G5.out
        have a2 := cell_of_row _ _ 2 _ _ _ G5.out
        have a3 := cell_of_row _ _ 3 _ _ _ G5.out
        have a4 := cell_of_row _ _ 4 _ _ _ G5.out

        have CGR := Lib.hid (C23.out w5 (HG.out.below b5) (HV.out.below b5) HOK.out)
        clear CO hb5 hb45 HAV4
        have z5 := b5.size
        have k9 : (io && decide ((devs.length : Int) < (k : Int))) = false := by
          cases io with
          | false => rfl
          | true =>
            have := HIO.out rfl
            simp
            omega
        have k8 : io = true → decide ((devs.length : Int) < (k : Int)) = false := fun h => by rw [h] at k9; simpa using k9
        have K8 := Lib.hid k8
        clear k9 k8
        cases io
        all_goals
          try have k7 := K8.out rfl
          try have k6 := HIO.out rfl
          try have k5 : ¬ (devs.length : Int) < (k : Int) := by omega
          try have k4 : ¬ devs.length < k := by omega
          go_wp2_with fail
          refine CGR.out.mono ?_
          rintro e w6 ⟨L, bv, out, hp, hsd, rfl, hbv, hol, hcase, hb6⟩
          have hgs : sumR g hs out = 0 := by
            rcases hcase with ⟨h, _⟩ | ⟨_, hall, rfl⟩
            · exact absurd h (by decide)
            · exact greedy_suff HOK.out hp hsd hall
          obtain ⟨ga, gc, rfl⟩ := hbv.val'
          have HBV := Lib.hid hbv
          have HAV6 := Lib.hid (HAV5.out.below hb6)
          have hge := HFW.out out hgs
          have b6 := b5.trans (hb6.mono b5.size)
          have G6 := Lib.hid ((hb6.block G (Array.getElem?_eq_some_iff.1 G5.out).1).trans G5.out)
          clear a0 a1 a2 a3 a4
          have a0 := cell_of_row _ _ 0 _ _ _ G6.out
          have a1 := cell_of_row _ _ 1 _ _ _ G6.out
          have a2 := cell_of_row _ _ 2 _ _ _ G6.out
          have a3 := cell_of_row _ _ 3 _ _ _ G6.out
          have a4 := cell_of_row _ _ 4 _ _ _ G6.out

          have CG2 := C21.out (.slice ga out.length gc) out w6 (HG.out.below b6) (HV.out.below b6) HBV.out HOK.out
          rw [hgs, decide_eq_true rfl] at CG2
          have CG2 := Lib.hid CG2
          clear CGR hbv hcase hb6 hgs hp hsd
          generalize out.length = ol at *
          go_wp2_with fail
          refine CG2.out.mono ?_
          rintro e w7 ⟨rfl, hb7⟩
          have HAV7 := Lib.hid (HAV6.out.below hb7)
          have b7 := b6.trans (hb7.mono b6.size)
          have G7 := Lib.hid ((hb7.block G (Array.getElem?_eq_some_iff.1 G6.out).1).trans G6.out)
          clear a0 a1 a2 a3 a4
          have a0 := cell_of_row _ _ 0 _ _ _ G7.out
          have a1 := cell_of_row _ _ 1 _ _ _ G7.out
          have a2 := cell_of_row _ _ 2 _ _ _ G7.out
          have a3 := cell_of_row _ _ 3 _ _ _ G7.out
          have a4 := cell_of_row _ _ 4 _ _ _ G7.out

          clear CG2 hb7
          have z7 := b7.size
          obtain ⟨w8, hw8⟩ : ∃ w8, w8 = w7.alloc (.cells #[] 3) := ⟨_, rfl⟩
          have hb8 : Below w7.heap.size w7 w8 := by rw [hw8]; exact (Below.refl _ _).alloc (Nat.le_refl _) _
          have o8 : OwnI w8 w7.heap.size (.slice (some ⟨w7.heap.size, 0, none⟩) 0 0) (List.replicate 0 3) := by rw [hw8]; exact Own.lit0 _ _ _ _ _ (Nat.le_refl _)
          have O8 := Lib.hid o8
          have HB8 := Lib.hid hb8
          have HW8 := Lib.hid hw8
          clear o8 hb8 hw8 a0 a1 a2 a3 a4
          go_wp2
          rw [← HW8.out]
          go_loopg [20, 21] hl (fun gk v20 v21 wx => ∃ j : Nat, j + gk = hl ∧ v21 = .int .i64 j ∧ OwnI wx w7.heap.size v20 (List.replicate j 3) ∧ Below w7.heap.size w7 wx)
          case atStart => exact ⟨0, by omega, rfl, O8.out, HB8.out⟩
          case round =>
            obtain ⟨j, hj, rfl, hown, hbj⟩ := hrel
            have HO := Lib.hid hown
            have zj := hbj.size
            clear hown
            cases gk with
            | succ gi =>
              have hjl : j < hl := by omega
              obtain ⟨v9, w9, r9, o9, B9, _⟩ := HO.out.append 3 (by rw [List.length_replicate]; omega) zj
              have O9 := Lib.hid o9
              clear o9
              go_wp2_with (at_builtin; refine wpList_append_run (by rfl) (.tmp 118) (.tmp 119) 24 (by rfl) _ (.slice (some ⟨wr.heap.size, 0, none⟩) 1 1) v9 w9 (by rfl) (by rfl) r9 ?_)
              go_roundg gi
              case measure => omega
              case rel => exact ⟨j + 1, by omega, by go_num, by rw [List.replicate_succ']; exact O9.out, hbj.trans B9⟩
            | zero =>
              obtain rfl : j = hl := by omega
              have b9 := b7.trans (hbj.mono z7)
              have hcv := HO.out.reads (by rw [List.length_replicate]; omega)
              obtain ⟨ra, rc, rfl⟩ := hcv.val'
              rw [List.length_replicate] at hcv ⊢
              have CC := Lib.hid (C24.out _ wr (HG.out.below b9) (HV.out.below b9) hcv HOK.out h6 trivial)
              have HAV9 := Lib.hid (HAV7.out.below hbj)
              have G9 := Lib.hid ((hbj.block G (Array.getElem?_eq_some_iff.1 G7.out).1).trans G7.out)
              have z9 := b9.size
              clear hcv
              have a0 := cell_of_row _ _ 0 _ _ _ G9.out
              have a1 := cell_of_row _ _ 1 _ _ _ G9.out
              have a2 := cell_of_row _ _ 2 _ _ _ G9.out
              have a3 := cell_of_row _ _ 3 _ _ _ G9.out
              have a4 := cell_of_row _ _ 4 _ _ _ G9.out
              go_wp2_with fail
              refine CC.out.mono ?_
              rintro e w10 ⟨cu, rfl, hcu, hb10⟩
              obtain ⟨qa, qc, rfl⟩ := hcu.val'
              rw [HAL.out] at hcu ⊢
              have HCU := Lib.hid hcu
              have HAV10 := Lib.hid (HAV9.out.below hb10)
              have b10 := b9.trans (hb10.mono z9)
              have z10 := b10.size
              clear hcu hb10 CC a0 a1 a2 a3 a4
              have kge : decide ((ol : Int) ≥ (k : Int)) = true := by simp; omega
              have kmul : IntKind.i64.wrap (3 * (k : Int)) = 3 * (k : Int) := wraps_i64 _ (by omega) (by omega)
              have keq : ((3 * (k : Int)) == 3 * (k : Int)) = true := by simp
              go_wp2_with fail
              refine (AW.out _).mono ?_
              rintro e w11 ⟨rfl, hb11⟩
              have hi := ints_any _ _ _ _ w11 (HCU.out.below hb11) (HAV10.out.below hb11)
              rw [decide_eq_true rfl] at hi
              have HI := Lib.hid hi
              have b11 := b10.trans (hb11.mono z10)
              clear hi hb11
              go_wp2_with fail
              refine HI.out.mono ?_
              rintro e w12 ⟨rfl, q, rfl⟩
              go_wp2
              go_ret
              exact ⟨rfl, below_drewN b11 _⟩
  · have hm0 : md = [] := by
      rw [HMD.out]
      unfold mdOf
      rw [hmo]
      rfl
    subst hm0
    rw [List.length_nil]
    rcases hfe with rfl | rfl
    all_goals
      clear HFE C20 C23
      go_wp2_with fail
      refine (AW.out _).mono ?_
      rintro e w8 ⟨rfl, hb8⟩
      go_wp2
      go_ret
      exact ⟨rfl, b2.trans (hb8.mono b2.size)⟩

end Go.Proofs.Ytapjgjjmlbhanaa
