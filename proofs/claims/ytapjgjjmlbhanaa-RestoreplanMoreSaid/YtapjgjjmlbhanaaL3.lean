/- Law More, walked. -/
import Derived.Test.YtapjgjjmlbhanaaN4
import Derived.Test.YtapjgjjmlbhanaaK2
namespace Go.Proofs.Ytapjgjjmlbhanaa
open Go.RowKit Go.Lib
set_option linter.unusedSimpArgs false

set_option maxRecDepth 100000 in
set_option maxHeartbeats 16000000 in
theorem lawMore_any (g : Gl) (v dv mv : Value) (d : Int) (hs : List Hd) (devs more : List Int) (w : World) (hg : GlAt w g) (hv : ReadsH w v hs) (hd : ReadsI w dv devs) (hm : ReadsI w mv more) :
    Calls Try.prog 9 #[g.v, v, dv, mv, .int .i64 d] w fun e w' => e = .returned (.bool true) ∧ Below w.heap.size w w' := by
  have c12 := few_any g v hs
  have c21 := fun dv devs => suffic_ok g v dv hs devs
  have c31 := gain_ok g v dv d hs devs
  have c36 := check_any g v hs
  obtain ⟨na, n1, nc, pa, n2, pc, sa, n3, sc, e1⟩ := hg.val
  obtain ⟨ao, n4, c4, rfl⟩ := hv.val
  obtain ⟨dao, dc, db, doff, rfl, hdl, hdm, hdcell⟩ := hd.at
  obtain ⟨mao, mc, mb, moff, rfl, hml, hmm, hmcell⟩ := hm.at
  rw [e1] at c12 c31 c36 ⊢
  simp only [e1] at c21
  have HG := Lib.hid hg
  have HV := Lib.hid hv
  have HD := Lib.hid hd
  have HM0 := Lib.hid hm
  have C12 := Lib.hid c12
  have C21 := Lib.hid c21
  have C31 := Lib.hid c31
  have C36 := Lib.hid c36
  have AW := Lib.hid awake_any
  clear hg hv hd hm hdcell hmcell c12 c21 c31 c36 e1
  have b0 : Below w.heap.size w (w.alloc (.cells #[.slice na n1 nc, .int .i64 g.thr, .bool g.idx, .slice pa n2 pc, .slice sa n3 sc] 26)) := (Below.refl _ _).alloc (Nat.le_refl _) _
  have g0 := heap_alloc_last w (.cells #[.slice na n1 nc, .int .i64 g.thr, .bool g.idx, .slice pa n2 pc, .slice sa n3 sc] 26)
  obtain ⟨G, hG⟩ : ∃ G, G = w.heap.size := ⟨_, rfl⟩
  have HGG := Lib.hid hG
  rw [← hG] at g0
  have G0 := Lib.hid g0
  clear g0 hG
  go_enter Try.func9, Try.ntmps9
  go_upto_region 1 with fail
  rw [← HGG.out]
  generalize w.alloc (Obj.cells #[.slice na n1 nc, .int .i64 g.thr, .bool g.idx, .slice pa n2 pc, .slice sa n3 sc] 26) = W at b0 G0 ⊢
  have a0 := cell_of_row _ _ 0 _ _ _ G0.out
  have a1 := cell_of_row _ _ 1 _ _ _ G0.out
  have a2 := cell_of_row _ _ 2 _ _ _ G0.out
  have a3 := cell_of_row _ _ 3 _ _ _ G0.out
  have a4 := cell_of_row _ _ 4 _ _ _ G0.out
  go_wp2_with fail
  refine (C12.out W (HG.out.below b0) (HV.out.below b0)).mono ?_
  rintro e w1 ⟨rfl, hb1⟩
  have b1 := b0.trans (hb1.mono b0.size)
  have G1 := Lib.hid ((hb1.block G (Array.getElem?_eq_some_iff.1 G0.out).1).trans G0.out)
  clear a0 a1 a2 a3 a4 G0 hb1 b0
  have z1 := b1.size
  by_cases hfew : fewB g hs = false
  · rw [hfew]
    go_wp2_with fail
    refine (AW.out _).mono ?_
    rintro e w2 ⟨rfl, hba⟩
    go_wp2
    go_ret
    exact ⟨rfl, b1.trans (hba.mono z1)⟩
  have hfew1 : fewB g hs = true := by simpa using hfew
  have hparts := few_parts hfew1
  rw [hfew1]
  have HPT := Lib.hid hparts
  clear hfew hfew1 hparts
  by_cases hl1 : 20 < devs.length
  · have k1 : decide ((devs.length : Int) > 20) = true := by simp; omega
    go_wp2_with fail
    refine (AW.out _).mono ?_
    rintro e w2 ⟨rfl, hba⟩
    go_wp2
    go_ret
    exact ⟨rfl, b1.trans (hba.mono z1)⟩
  have k1 : decide ((devs.length : Int) > 20) = false := by simp; omega
  by_cases hl2 : 20 < more.length
  · have k2 : decide ((more.length : Int) > 20) = true := by simp; omega
    go_wp2_with fail
    refine (AW.out _).mono ?_
    rintro e w2 ⟨rfl, hba⟩
    go_wp2
    go_ret
    exact ⟨rfl, b1.trans (hba.mono z1)⟩
  have k2 : decide ((more.length : Int) > 20) = false := by simp; omega
  have a0 := cell_of_row _ _ 0 _ _ _ G1.out
  have a1 := cell_of_row _ _ 1 _ _ _ G1.out
  have a2 := cell_of_row _ _ 2 _ _ _ G1.out
  have a3 := cell_of_row _ _ 3 _ _ _ G1.out
  have a4 := cell_of_row _ _ 4 _ _ _ G1.out
  have CK := Lib.hid (C36.out w1 (HG.out.below b1) (HV.out.below b1))
  go_wp2_with fail
  refine CK.out.mono ?_
  rintro e w2 ⟨rfl, hb2⟩
  have b2 := b1.trans (hb2.mono b1.size)
  have G2 := Lib.hid ((hb2.block G (Array.getElem?_eq_some_iff.1 G1.out).1).trans G1.out)
  have z2 := b2.size
  clear a0 a1 a2 a3 a4 hb2 CK
  by_cases hok : Ok g hs
  · rw [if_pos hok]
    have HOK := Lib.hid hok
    have k9 := sumR_anti hok (devs := devs) (es := devs ++ [d]) (fun x hx => List.mem_append_left _ hx)
    have k10 := sumR_anti hok (devs := devs) (es := more ++ devs) (fun x hx => List.mem_append_right _ hx)
    have k11 := sumR_bd hok (more ++ devs)
    have k12 : d ∈ devs → sumR g hs (devs ++ [d]) = sumR g hs devs := fun hdd => sumR_same hok fun x => by
      rw [List.mem_append, List.mem_singleton]
      constructor
      · exact .inl
      · rintro (h | rfl)
        · exact h
        · exact hdd
    have k13 := sumR_bd hok devs
    have k14 := sumR_bd hok (devs ++ [d])
    have K12 := Lib.hid k12
    clear hok k12
    have o0 : OwnI (w2.alloc (.cells #[] 3)) w2.heap.size (.slice (some ⟨w2.heap.size, 0, none⟩) 0 0) [] := Own.lit0 _ _ _ _ _ (Nat.le_refl _)
    have bA : Below w2.heap.size w2 (w2.alloc (.cells #[] 3)) := (Below.refl _ _).alloc (Nat.le_refl _) _
    have b2A := b2.trans (bA.mono z2)
    obtain ⟨v3, w3, r3, o1, o2, _⟩ := o0.appendR (HM0.out.below b2A) (by simp) (by omega) bA.size
    have b3 := b2A.trans (o2.mono z2)
    have bA3 := bA.trans o2
    obtain ⟨v4, w4, r4, o3, o4, _⟩ := o1.appendR (HD.out.below b3) (by simp; omega) (by omega) bA3.size
    have b4 := b3.trans (o4.mono z2)
    have bA4 := bA3.trans o4
    have G4 := Lib.hid ((bA4.block G (Array.getElem?_eq_some_iff.1 G2.out).1).trans G2.out)
    rw [List.nil_append] at o3
    have hr4 : ReadsI w4 v4 (more ++ devs) := o3.reads (by simp; omega)
    have HR4 := Lib.hid hr4
    obtain ⟨ra4, rc4, er4⟩ := hr4.val'
    rw [List.length_append] at er4
    obtain ⟨ra3, rc3, er3⟩ := o1.slice
    clear o0 bA o1 o2 o3 o4 hr4 bA3 bA4 b3 b2A
    subst er4
    subst er3
    have z4 := b4.size
    have CA := Lib.hid (C21.out (.slice dao devs.length dc) devs w4 (HG.out.below b4) (HV.out.below b4) (HD.out.below b4) HOK.out)
    have a0 := cell_of_row _ _ 0 _ _ _ G4.out
    have a1 := cell_of_row _ _ 1 _ _ _ G4.out
    have a2 := cell_of_row _ _ 2 _ _ _ G4.out
    have a3 := cell_of_row _ _ 3 _ _ _ G4.out
    have a4 := cell_of_row _ _ 4 _ _ _ G4.out
    go_wp2_with (first | (at_builtin; refine wpList_append_run (by rfl) (.tmp 39) (.tmp 40) 24 (by rfl) _ (.slice mao more.length mc) _ w3 (by rfl) (by rfl) r3 ?_) | (at_builtin; refine wpList_append_run (by rfl) (.tmp 41) (.tmp 42) 24 (by rfl) _ (.slice dao devs.length dc) _ w4 (by rfl) (by rfl) r4 ?_))
    refine CA.out.mono ?_
    rintro e w5 ⟨rfl, hb5⟩
    have r45 := HR4.out.below hb5
    have b5 := b4.trans (hb5.mono b4.size)
    have G5 := Lib.hid ((hb5.block G (Array.getElem?_eq_some_iff.1 G4.out).1).trans G4.out)
    have CB := Lib.hid (C21.out (.slice ra4 (more.length + devs.length) rc4) (more ++ devs) w5 (HG.out.below b5) (HV.out.below b5) r45 HOK.out)
    clear a0 a1 a2 a3 a4 hb5 CA r45 r3 r4
    have a0 := cell_of_row _ _ 0 _ _ _ G5.out
    have a1 := cell_of_row _ _ 1 _ _ _ G5.out
    have a2 := cell_of_row _ _ 2 _ _ _ G5.out
    have a3 := cell_of_row _ _ 3 _ _ _ G5.out
    have a4 := cell_of_row _ _ 4 _ _ _ G5.out
    go_wp2_with fail
    refine CB.out.mono ?_
    rintro e w6 ⟨rfl, hb6⟩
    have b6 := b5.trans (hb6.mono b5.size)
    have G6 := Lib.hid ((hb6.block G (Array.getElem?_eq_some_iff.1 G5.out).1).trans G5.out)
    have CC := Lib.hid (C31.out w6 (HG.out.below b6) (HV.out.below b6) (HD.out.below b6) HOK.out)
    clear a0 a1 a2 a3 a4 hb6 CB
    have a0 := cell_of_row _ _ 0 _ _ _ G6.out
    have a1 := cell_of_row _ _ 1 _ _ _ G6.out
    have a2 := cell_of_row _ _ 2 _ _ _ G6.out
    have a3 := cell_of_row _ _ 3 _ _ _ G6.out
    have a4 := cell_of_row _ _ 4 _ _ _ G6.out
    go_wp2_with fail
    refine CC.out.mono ?_
    rintro e w7 ⟨rfl, hb7⟩
    have b7 := b6.trans (hb7.mono b6.size)
    have C37 := contains_any (.slice dao devs.length dc) devs d w7 (HD.out.below b7)
    clear a0 a1 a2 a3 a4 hb7 CC
    obtain ⟨sa', hsa⟩ : ∃ sa', sa' = sumR g hs devs := ⟨_, rfl⟩
    obtain ⟨sb', hsb⟩ : ∃ sb', sb' = sumR g hs (more ++ devs) := ⟨_, rfl⟩
    obtain ⟨n, hn⟩ : ∃ n, n = sumR g hs devs - sumR g hs (devs ++ [d]) := ⟨_, rfl⟩
    have hn0 : d ∈ devs → n = 0 := fun h => by rw [hn, K12.out h]; omega
    have hn1 : 0 ≤ n := by omega
    rw [← hn, ← hsa, ← hsb]
    rw [← hsa] at k10 k13
    rw [← hsb] at k10 k11
    clear hn hsa hsb k9 k14
    have kn : decide (n ≥ 0) = true := decide_eq_true hn1
    have hab : decide (sa' = 0) = true → decide (sb' = 0) = true := fun h => by
      have := of_decide_eq_true h
      exact decide_eq_true (by omega)
    generalize decide (sa' = 0) = ba at *
    generalize decide (sb' = 0) = bb at *
    by_cases hdd : d ∈ devs
    · rw [decide_eq_true hdd] at C37
      obtain rfl : n = 0 := hn0 hdd
      have C37 := Lib.hid C37
      clear hdd hn0
      cases ba with
      | false =>
        clear hab
        go_wp2_with fail
        refine C37.out.mono ?_
        rintro e w8 ⟨rfl, rfl⟩
        go_wp2_with fail
        refine (AW.out _).mono ?_
        rintro e w9 ⟨rfl, hba⟩
        go_wp2
        go_ret
        exact ⟨rfl, b7.trans (hba.mono b7.size)⟩
      | true =>
        obtain rfl : bb = true := hab rfl
        clear hab
        go_wp2_with fail
        refine C37.out.mono ?_
        rintro e w8 ⟨rfl, rfl⟩
        go_wp2_with fail
        refine (AW.out _).mono ?_
        rintro e w9 ⟨rfl, hba⟩
        go_wp2
        go_ret
        exact ⟨rfl, b7.trans (hba.mono b7.size)⟩
    · rw [decide_eq_false hdd] at C37
      have C37 := Lib.hid C37
      clear hdd hn0
      cases ba with
      | false =>
        clear hab
        go_wp2_with fail
        refine C37.out.mono ?_
        rintro e w8 ⟨rfl, rfl⟩
        go_wp2_with fail
        refine (AW.out _).mono ?_
        rintro e w9 ⟨rfl, hba⟩
        go_wp2
        go_ret
        exact ⟨rfl, b7.trans (hba.mono b7.size)⟩
      | true =>
        obtain rfl : bb = true := hab rfl
        clear hab
        go_wp2_with fail
        refine C37.out.mono ?_
        rintro e w8 ⟨rfl, rfl⟩
        go_wp2_with fail
        refine (AW.out _).mono ?_
        rintro e w9 ⟨rfl, hba⟩
        go_wp2
        go_ret
        exact ⟨rfl, b7.trans (hba.mono b7.size)⟩
  · rw [if_neg hok]
    clear hok
    go_wp2_with fail
    refine (AW.out _).mono ?_
    rintro e w3 ⟨rfl, hba⟩
    go_wp2
    go_ret
    exact ⟨rfl, b2.trans (hba.mono z2)⟩

end Go.Proofs.Ytapjgjjmlbhanaa
