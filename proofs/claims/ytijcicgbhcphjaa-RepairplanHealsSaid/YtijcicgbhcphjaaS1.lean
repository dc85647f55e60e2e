/- The reference's Damaged. -/
import Derived.Test.YtijcicgbhcphjaaF1
import Derived.Test.YtijcicgbhcphjaaR1
namespace Go.Proofs.Ytijcicgbhcphjaa
open Go.RowKit Go.Lib Go.ChangeMaps
set_option linter.unusedSimpArgs false

set_option maxRecDepth 100000 in
set_option maxHeartbeats 8000000 in
theorem damaged_ref (v lv : Value) (V : Vp) (ls : List Int) (w : World) (hv : VwAt w v V) (hl : ReadsI w lv ls) :
    Calls Try.prog 22 #[v, lv] w fun e w' => Below w.heap.size w w' ∧ ((¬ Fits V ls ∧ e = .returned (.tuple #[.slice none 0 0, .int .i64 1])) ∨
      (Fits V ls ∧ ∃ u, e = .returned (.tuple #[u, .int .i64 0]) ∧ OwnP w' w.heap.size u (dmTo (goneB V.mem ls) V.held V.held.length))) := by
  have hA := fun o => (Below.refl w.heap.size w).alloc (Nat.le_refl _) o
  have CR := Lib.hid (fun o => fits_any v lv V ls (w.alloc o) (hv.below (hA o)) (hl.below (hA o)))
  have HA := Lib.hid hA
  have CT := Lib.hid (fun W d (hW : Below w.heap.size w W) => there_any _ _ V ls d W (hv.below hW) (hl.below hW))
  obtain ⟨mv, hv', rv, wv, rfl, hM, hH, hRm, hW⟩ := hv
  obtain ⟨ma, mc, _, _, rfl, -⟩ := hM.at
  obtain ⟨xa, xc, xb, xo, rfl, xl, xm, xcell⟩ := hH.at
  obtain ⟨ra, rc, _, _, rfl, -⟩ := hRm.at
  obtain ⟨wa, wc, _, _, rfl, -⟩ := hW.at
  obtain ⟨la, lc, _, _, rfl, -⟩ := hl.at
  have XC := Lib.hid xcell
  clear hA hl hM hH hRm hW xcell
  obtain ⟨nh, hnh⟩ : ∃ nh, nh = V.held.length := ⟨_, rfl⟩
  have HNH := Lib.hid hnh
  rw [← hnh] at CR CT xl xm ⊢
  clear hnh
  obtain ⟨ml, hml⟩ : ∃ ml, ml = V.mem.length := ⟨_, rfl⟩
  have HML := Lib.hid hml
  rw [← hml] at CR CT ⊢
  clear hml
  generalize ls.length = ll at *
  generalize V.room.length = rl at *
  generalize V.weight.length = wl at *
  have hb1 := HA.out (.cells #[.slice ma ml mc, .slice xa nh xc, .slice ra rl rc, .slice wa wl wc] 33)
  have hbx := heap_alloc_new w (.cells #[.slice ma ml mc, .slice xa nh xc, .slice ra rl rc, .slice wa wl wc] 33)
  go_enter Try.func22, Try.ntmps22
  go_wp2_with fail
  refine (CR.out _).mono ?_
  rintro e w3 ⟨rfl, hb3⟩
  have hbw := hb1.trans (hb3.mono hb1.size)
  have hbx3 := (hb3.block w.heap.size (by rw [World.size_alloc]; omega)).trans hbx
  clear hb1 hb3 hbx CR HA
  by_cases hfit : Fits V ls
  rotate_left
  · have HNO := Lib.hid hfit
    rw [decide_eq_false hfit]
    clear hfit
    go_wp2
    refine bodyPost_ret (results_tmp2 Try.results22 _ _ _) rfl ?_
    exact ⟨hbw, .inl ⟨HNO.out, rfl⟩⟩
  · have HFIT := Lib.hid hfit
    rw [decide_eq_true hfit]
    have h256 : nh ≤ 256 := by rw [HNH.out]; exact hfit.1.1.2
    have hsm := hfit.1.small.2.2.2.2
    have HSM := Lib.hid hsm
    have h16 := Lib.hid (show ∀ k, k < V.held.length → (V.held.getD k default).at_.length ≤ 16 from fun k hk => (hsm k hk).at_small.1)
    clear hfit hsm
    have g1 := cell_of_row w3 _ 1 _ _ _ hbx3
    have g1l := cell_lt g1
    go_wp2
    generalize hW4 : w3.alloc _ = W
    have hbW : Below w.heap.size w W := by subst hW4; exact hbw.alloc hbw.size _
    have hown0 : OwnP W w.heap.size (.slice (some ⟨w3.heap.size, 0, none⟩) 0 0) [] := by
      subst hW4
      exact Own.lit0 w3 w.heap.size 45 2 (pcCell []) hbw.size
    have hbx4 : W.heap[w.heap.size]? = some (.cells #[.slice ma ml mc, .slice xa nh xc, .slice ra rl rc, .slice wa wl wc] 33) := by
      subst hW4; exact (((Below.refl w3.heap.size w3).alloc (Nat.le_refl _) _).block w.heap.size (Array.getElem?_eq_some_iff.1 hbx3).1).trans hbx3
    clear hW4 g1 g1l hbx3
    go_loopw [19, 6] (fun v19 v6 wr => ∃ j : Nat, j ≤ nh ∧ v19 = .int .i64 j ∧ OwnP wr w.heap.size v6 (dmTo (goneB V.mem ls) V.held j) ∧ Below w.heap.size w wr ∧ wr.heap[w.heap.size]? = some (.cells #[.slice ma ml mc, .slice xa nh xc, .slice ra rl rc, .slice wa wl wc] 33)) (fun v19 _ _ => nh - (intOf v19).toNat)
    case atStart => exact ⟨0, Nat.zero_le _, rfl, hown0, hbW, hbx4⟩
    case round =>
      obtain ⟨j, hj, rfl, hown, hbel, hbr⟩ := hrel
      have HO := Lib.hid hown
      have zr := hbel.size
      clear hown hown0 hbW hbx4 hbw
      by_cases hlt : j < nh
      · have hjl : j < V.held.length := by rw [← HNH.out]; exact hlt
        obtain ⟨e1, e2, e3, e4, e5, e6, xr, av, e7, e8, hrr, hra⟩ := XC.out j hjl
        subst e1
        obtain ⟨qa, qc, _, _, rfl, -⟩ := hrr.at
        obtain ⟨aa, ac, ab, af, rfl, al, am, acell⟩ := hra.at
        have AC := Lib.hid acell
        have hok := HSM.out j hjl
        have A8 := Lib.hid (show ∀ x ∈ (V.held.getD j default).at_, x = -1 ∨ (0 ≤ x ∧ x < V.mem.length) from hok.2.2.2.2.2.2)
        have a16 := hok.at_small.1
        rw [← hbel.cell (p := ⟨xb, _, none⟩) (cell_lt e2)] at e2
        rw [← hbel.cell (p := ⟨xb, _, none⟩) (cell_lt e3)] at e3
        rw [← hbel.cell (p := ⟨xb, _, none⟩) (cell_lt e4)] at e4
        rw [← hbel.cell (p := ⟨xb, _, none⟩) (cell_lt e5)] at e5
        rw [← hbel.cell (p := ⟨xb, _, none⟩) (cell_lt e6)] at e6
        rw [← hbel.cell (p := ⟨xb, _, none⟩) (cell_lt e7)] at e7
        rw [← hbel.cell (p := ⟨xb, _, none⟩) (cell_lt e8)] at e8
        have hdl := dmTo_len (goneB V.mem ls) V.held h16.out j (by omega)
        have HST := Lib.hid (show dmTo (goneB V.mem ls) V.held (j + 1) = dmTo (goneB V.mem ls) V.held j ++ dmAt (goneB V.mem ls) (V.held.getD j default).id (V.held.getD j default).at_ (V.held.getD j default).at_.length from rfl)
        clear hrr hra acell hok hjl
        generalize dmTo (goneB V.mem ls) V.held j = ds at *
        generalize hy : V.held.getD j default = y at *
        obtain ⟨id, vault, block, data, total, refs, zs⟩ := y
        simp only at e2 e3 e4 e5 e6 a16 al am AC A8 HST e7 e8
        generalize refs.length = ql at *
        go_wp2
        generalize hWa : wr.alloc (.cells #[.string id, .int .i64 vault, .int .i64 block, .int .i64 data, .int .i64 total, .slice qa ql qc, .slice aa zs.length ac] 87) = Wa
        have hAa : Below wr.heap.size wr Wa := by subst hWa; exact (Below.refl _ _).alloc (Nat.le_refl _) _
        have hkb : Wa.heap[wr.heap.size]? = some (.cells #[.string id, .int .i64 vault, .int .i64 block, .int .i64 data, .int .i64 total, .slice qa ql qc, .slice aa zs.length ac] 87 (0, 0)) := by subst hWa; exact heap_alloc_new _ _
        have hbA0 := (hAa.block w.heap.size (Array.getElem?_eq_some_iff.1 hbr).1).trans hbr
        have HO2 := Lib.hid (show OwnP Wa w.heap.size u6 ds from Own.below HO.out hAa)
        have hbA := hbel.trans (hAa.mono hbel.size)
        clear hWa e2 e3 e4 e5 e6 e7 e8 HO hy hbr
        obtain ⟨wo, hwo⟩ : ∃ wo, wo = wr := ⟨_, rfl⟩
        subst hwo
        go_loopw [26, 6, 9, 10] (fun v26 v6 _ _ wi => ∃ i : Nat, i ≤ zs.length ∧ v26 = .int .i64 i ∧ OwnP wi w.heap.size v6 (ds ++ dmAt (goneB V.mem ls) id zs i) ∧ Below w.heap.size w wi ∧ wi.heap[w.heap.size]? = some (.cells #[.slice ma ml mc, .slice (some ⟨xb, xo, none⟩) nh xc, .slice ra rl rc, .slice wa wl wc] 33) ∧ wi.heap[wo.heap.size]? = some (.cells #[.string id, .int .i64 vault, .int .i64 block, .int .i64 data, .int .i64 total, .slice qa ql qc, .slice aa zs.length ac] 87 (0, 0))) (fun v26 _ _ _ _ => zs.length - (intOf v26).toNat)
        case atStart => exact ⟨0, Nat.zero_le _, rfl, by simpa [dmAt] using HO2.out, hbA, hbA0, hkb⟩
        case round =>
          obtain ⟨i, hi, rfl, hown, hb5, hbx, hkb⟩ := hrel
          have HOI := Lib.hid hown
          have HKB := Lib.hid hkb
          have HBX := Lib.hid hbx
          have zz := hb5.size
          have g0 := cell_of_row wr _ 0 _ _ _ hbx
          have g1 := cell_of_row wr _ 1 _ _ _ hbx
          have g2 := cell_of_row wr _ 2 _ _ _ hbx
          have g3 := cell_of_row wr _ 3 _ _ _ hbx
          clear hown hkb hbx
          by_cases hlti : i < zs.length
          · obtain ⟨d1, d2⟩ := AC.out i hlti
            subst d1
            have d3 := (hb5.cell (p := ⟨ab, _, none⟩) (cell_lt d2)).trans d2
            have hA8 := A8.out (zs.getD i 0) (by rw [getD_at _ _ _ hlti]; exact List.getElem_mem hlti)
            have hs1 := dmAt_succ (goneB V.mem ls) id zs i
            have HS1 := Lib.hid hs1
            have hl1 := dmAt_len (goneB V.mem ls) id zs i
            clear hs1 d2
            generalize zs.getD i 0 = x at *
            have hth := there_good (ls := ls) hA8
            by_cases hx0 : 0 ≤ x
            rotate_left
            · have hbad : badB (goneB V.mem ls) x = false := by unfold badB; simp; omega
              rw [if_neg (by simp [hbad]), List.append_nil] at HS1
              have hown2 : OwnP wr w.heap.size u6 (ds ++ dmAt (goneB V.mem ls) id zs (i + 1)) := by rw [HS1.out]; exact HOI.out
              have HOI2 := Lib.hid hown2
              have q1 : decide (0 ≤ x) = false := decide_eq_false hx0
              clear hown2 hbad hth hA8 hx0
              go_wp2
              go_roundw
              case rel => exact ⟨i + 1, by omega, by go_num, HOI2.out, hb5, HBX.out, HKB.out⟩
              case measure => simp [intOf]; omega
            have q1 : decide (0 ≤ x) = true := decide_eq_true hx0
            have CX := Lib.hid (CT.out wr x hb5)
            have hgb : goodB (goneB V.mem ls) x = !(badB (goneB V.mem ls) x) := by
              unfold goodB badB
              simp [hx0]
            rw [hth, hgb] at CX
            clear hth hA8 hgb
            cases hbad : badB (goneB V.mem ls) x with
            | false =>
              rw [hbad] at CX HS1
              rw [if_neg (by simp), List.append_nil] at HS1
              clear hbad
              go_wp2_with fail
              refine CX.out.mono ?_
              rintro e w4 ⟨rfl, hb4⟩
              have hbx4 := (hb4.block _ (Array.getElem?_eq_some_iff.1 HBX.out).1).trans HBX.out
              have hkb4 := (hb4.block _ (Array.getElem?_eq_some_iff.1 HKB.out).1).trans HKB.out
              have ho4 : OwnP w4 w.heap.size u6 (ds ++ dmAt (goneB V.mem ls) id zs (i + 1)) := by rw [HS1.out]; exact Own.below HOI.out hb4
              have HO4 := Lib.hid ho4
              have HB4 := Lib.hid hbx4
              have HK4 := Lib.hid hkb4
              clear ho4 hbx4 hkb4
              go_wp2
              go_roundw
              case rel => exact ⟨i + 1, by omega, by go_num, HO4.out, hb5.trans (hb4.mono zz), HB4.out, HK4.out⟩
              case measure => simp [intOf]; omega
            | true =>
              rw [hbad] at CX HS1
              rw [if_pos rfl] at HS1
              clear hbad
              go_wp2_with fail
              refine CX.out.mono ?_
              rintro e w4 ⟨rfl, hb4⟩
              have hbx4 := (hb4.block _ (Array.getElem?_eq_some_iff.1 HBX.out).1).trans HBX.out
              have hkb4 := (hb4.block _ (Array.getElem?_eq_some_iff.1 HKB.out).1).trans HKB.out
              have hbw4 := hb5.trans (hb4.mono zz)
              have ho4 := Own.below HOI.out hb4
              obtain ⟨v6, w6, r6, o6, b6, s6⟩ := OwnP.app ho4 ⟨id, i⟩ (by rw [List.length_append]; omega) hbw4.size
              rw [List.append_assoc, ← HS1.out] at o6
              have O6 := Lib.hid o6
              have hb7 := hbw4.trans b6
              have hk6 := (s6 wo.heap.size (Array.getElem?_eq_some_iff.1 hkb4).1 (own_ne ho4 hkb4 (by decide))).trans hkb4
              have HK6 := Lib.hid hk6
              have hx6 := (s6 w.heap.size (Array.getElem?_eq_some_iff.1 hbx4).1 (own_ne ho4 hbx4 (by decide))).trans hbx4
              have HX6 := Lib.hid hx6
              have k0 := cell_of_row w4 wo.heap.size 0 _ _ _ hkb4
              clear o6 hk6 hx6 s6 ho4 hbx4 hkb4
              go_wp2_with (at_builtin; refine wpList_append_run (by rfl) (.tmp 40) (.tmp 46) 53 (by rfl) _ (.slice (some ⟨w4.heap.size, 0, none⟩) 1 1) v6 w6 (by rfl) (by rfl) r6 ?_)
              go_roundw
              case rel => exact ⟨i + 1, by omega, by go_num, O6.out, hb7, HX6.out, HK6.out⟩
              case measure => simp [intOf]; omega
          · have hil : i = zs.length := by omega
            subst hil
            have ho2 := HOI.out
            rw [← HST.out] at ho2
            have HO3 := Lib.hid ho2
            clear ho2
            go_wp2
            go_roundw
            case rel => exact ⟨j + 1, by omega, by go_num, HO3.out, hb5, HBX.out⟩
            case measure => simp [intOf]; omega
      · have hjl : j = nh := by omega
        subst hjl
        go_wp2
        refine bodyPost_ret (results_tmp2 Try.results22 _ _ _) rfl ?_
        exact ⟨hbel, .inr ⟨HFIT.out, _, rfl, HO.out⟩⟩

end Go.Proofs.Ytijcicgbhcphjaa

/- The reference's Dead. -/
namespace Go.Proofs.Ytijcicgbhcphjaa
open Go.RowKit Go.Lib Go.ChangeMaps
set_option linter.unusedSimpArgs false

theorem bc {w w' : World} (hb : Below w.heap.size w w') {b o : Nat} {v : Value} (h : w.cell? ⟨b, o, none⟩ = some v) : w'.cell? ⟨b, o, none⟩ = some v := (hb.cell (p := ⟨b, o, none⟩) (cell_lt h)).trans h
theorem bb {w w' : World} (hb : Below w.heap.size w w') {b : Nat} {x : Obj} (h : w.heap[b]? = some x) : w'.heap[b]? = some x := (hb.block b (Array.getElem?_eq_some_iff.1 h).1).trans h

set_option maxRecDepth 100000 in
set_option maxHeartbeats 8000000 in
theorem dead_ref (v lv : Value) (V : Vp) (ls : List Int) (w : World) (hv : VwAt w v V) (hl : ReadsI w lv ls) :
    Calls Try.prog 24 #[v, lv] w fun e w' => Below w.heap.size w w' ∧ ((¬ Fits V ls ∧ e = .returned (.tuple #[.slice none 0 0, .int .i64 1])) ∨
      (Fits V ls ∧ ∃ u, e = .returned (.tuple #[u, .int .i64 0]) ∧ OwnSt w' w.heap.size u (deadTo V (goneB V.mem ls) V.held.length))) := by
  have hA := fun o => (Below.refl w.heap.size w).alloc (Nat.le_refl _) o
  have CR := Lib.hid (fun o => fits_any v lv V ls (w.alloc o) (hv.below (hA o)) (hl.below (hA o)))
  have HA := Lib.hid hA
  have CL := Lib.hid (fun (W : World) (h : Hp) (qa : Option Addr) (ql qc : Nat) (av : Value) (hW : Below w.heap.size w W) (ha0 : ReadsI W av h.at_) (hat : ∀ x ∈ h.at_, x = -1 ∨ (0 ≤ x ∧ x < V.mem.length)) (h16 : h.at_.length ≤ 16) =>
    left_ref _ _ V ls h qa ql qc av W (hv.below hW) (hl.below hW) ha0 hat h16)
  obtain ⟨mv, hv', rv, wv, rfl, hM, hH, hRm, hW⟩ := hv
  obtain ⟨ma, mc, _, _, rfl, -⟩ := hM.at
  obtain ⟨xa, xc, xb, xo, rfl, xl, xm, xcell⟩ := hH.at
  obtain ⟨ra, rc, _, _, rfl, -⟩ := hRm.at
  obtain ⟨wa, wc, _, _, rfl, -⟩ := hW.at
  obtain ⟨la, lc, _, _, rfl, -⟩ := hl.at
  have XC := Lib.hid xcell
  clear hA hl hM hH hRm hW xcell
  obtain ⟨nh, hnh⟩ : ∃ nh, nh = V.held.length := ⟨_, rfl⟩
  have HNH := Lib.hid hnh
  rw [← hnh] at CR CL xl xm ⊢
  clear hnh
  obtain ⟨ml, hml⟩ : ∃ ml, ml = V.mem.length := ⟨_, rfl⟩
  have HML := Lib.hid hml
  rw [← hml] at CR CL ⊢
  clear hml
  generalize ls.length = ll at *
  generalize V.room.length = rl at *
  generalize V.weight.length = wl at *
  obtain ⟨gone, hgone⟩ : ∃ gone, gone = goneB V.mem ls := ⟨_, rfl⟩
  rw [← hgone] at CL ⊢
  clear hgone
  have hb1 := HA.out (.cells #[.slice ma ml mc, .slice xa nh xc, .slice ra rl rc, .slice wa wl wc] 33)
  have hbx := heap_alloc_new w (.cells #[.slice ma ml mc, .slice xa nh xc, .slice ra rl rc, .slice wa wl wc] 33)
  go_enter Try.func24, Try.ntmps24
  go_wp2_with fail
  refine (CR.out _).mono ?_
  rintro e w3 ⟨rfl, hb3⟩
  have hbw := hb1.trans (hb3.mono hb1.size)
  have hbx3 := (hb3.block w.heap.size (by rw [World.size_alloc]; omega)).trans hbx
  clear hb1 hb3 hbx CR HA
  by_cases hfit : Fits V ls
  rotate_left
  · have HNO := Lib.hid hfit
    rw [decide_eq_false hfit]
    clear hfit
    go_wp2
    refine bodyPost_ret (results_tmp2 Try.results24 _ _ _) rfl ?_
    exact ⟨hbw, .inl ⟨HNO.out, rfl⟩⟩
  · have HFIT := Lib.hid hfit
    rw [decide_eq_true hfit]
    have h256 : nh ≤ 256 := by rw [HNH.out]; exact hfit.1.1.2
    have HSM := Lib.hid hfit.1.small.2.2.2.2
    clear hfit
    have g1 := cell_of_row w3 _ 1 _ _ _ hbx3
    have g1l := cell_lt g1
    go_wp2
    generalize hW4 : w3.alloc _ = W
    have hbW : Below w.heap.size w W := by subst hW4; exact hbw.alloc hbw.size _
    have hown0 : OwnSt W w.heap.size (.slice (some ⟨w3.heap.size, 0, none⟩) 0 0) [] := by
      subst hW4
      exact Own.lit0 w3 w.heap.size 9 1 (stCell []) hbw.size
    have hbx4 : W.heap[w.heap.size]? = some (.cells #[.slice ma ml mc, .slice xa nh xc, .slice ra rl rc, .slice wa wl wc] 33) := by
      subst hW4; exact (((Below.refl w3.heap.size w3).alloc (Nat.le_refl _) _).block w.heap.size (Array.getElem?_eq_some_iff.1 hbx3).1).trans hbx3
    clear hW4 g1 g1l hbx3
    go_loopw [17, 6, 8] (fun v17 v6 _ wr => ∃ j : Nat, j ≤ nh ∧ v17 = .int .i64 j ∧ OwnSt wr w.heap.size v6 (deadTo V gone j) ∧ Below w.heap.size w wr ∧ wr.heap[w.heap.size]? = some (.cells #[.slice ma ml mc, .slice xa nh xc, .slice ra rl rc, .slice wa wl wc] 33)) (fun v17 _ _ _ => nh - (intOf v17).toNat)
    case atStart => exact ⟨0, Nat.zero_le _, rfl, hown0, hbW, hbx4⟩
    case round =>
      obtain ⟨j, hj, rfl, hown, hbel, hbr⟩ := hrel
      have HO := Lib.hid hown
      have zr := hbel.size
      have hdl := deadTo_len V gone j
      clear hown hown0 hbW hbx4 hbw
      by_cases hlt : j < nh
      · have hjl : j < V.held.length := by rw [← HNH.out]; exact hlt
        obtain ⟨e1, e2, e3, e4, e5, e6, xr, av, e7, e8, hrr, hra⟩ := XC.out j hjl
        subst e1
        have HRA := Lib.hid (hra.below hbel)
        obtain ⟨qa, qc, _, _, rfl, -⟩ := hrr.at
        obtain ⟨ua, uc, _, _, rfl, -⟩ := hra.at
        rw [← hbel.cell (p := ⟨xb, _, none⟩) (cell_lt e2)] at e2
        rw [← hbel.cell (p := ⟨xb, _, none⟩) (cell_lt e3)] at e3
        rw [← hbel.cell (p := ⟨xb, _, none⟩) (cell_lt e4)] at e4
        rw [← hbel.cell (p := ⟨xb, _, none⟩) (cell_lt e5)] at e5
        rw [← hbel.cell (p := ⟨xb, _, none⟩) (cell_lt e6)] at e6
        rw [← hbel.cell (p := ⟨xb, _, none⟩) (cell_lt e7)] at e7
        rw [← hbel.cell (p := ⟨xb, _, none⟩) (cell_lt e8)] at e8
        have hok := HSM.out j hjl
        have a16 := hok.at_small.1
        have A8 := Lib.hid (show ∀ x ∈ (V.held.getD j default).at_, x = -1 ∨ (0 ≤ x ∧ x < ml) by rw [HML.out]; exact hok.2.2.2.2.2.2)
        have hsu : deadTo V gone (j + 1) = deadTo V gone j ++ if spareI V gone j < 0 then [(V.held.getD j default).id] else [] := rfl
        have hsp : spareI V gone j = ((leftI gone (V.held.getD j default).at_).length : Int) - (V.held.getD j default).data := rfl
        rw [hsp] at hsu
        have HSU := Lib.hid hsu
        have HCL := Lib.hid (fun W hW ha => CL.out W (V.held.getD j default) qa (V.held.getD j default).refs.length qc (.slice ua (V.held.getD j default).at_.length uc) hW ha A8.out a16)
        have hll := leftI_len gone (V.held.getD j default).at_
        clear hrr hra hsu hsp CL hok
        generalize deadTo V gone j = ds at *
        generalize V.held.getD j default = y at *
        obtain ⟨id, vault, block, data, total, refs, zs⟩ := y
        unfold Hp.v at HCL
        simp only at e2 e3 e4 e5 e6 e7 e8 a16 A8 HSU HCL hll HRA
        generalize refs.length = ql at *
        generalize hlz : leftI gone zs = lz at *
        have hAl : Below wr.heap.size wr (wr.alloc (.cells #[.string id, .int .i64 vault, .int .i64 block, .int .i64 data, .int .i64 total, .slice qa ql qc, .slice ua zs.length uc] 87)) := (Below.refl _ _).alloc (Nat.le_refl _) _
        have hk := heap_alloc_new wr (.cells #[.string id, .int .i64 vault, .int .i64 block, .int .i64 data, .int .i64 total, .slice qa ql qc, .slice ua zs.length uc] 87)
        have hbr' := bb hAl hbr
        have h3A := hbel.trans (hAl.mono zr)
        have hra' := HRA.out.below hAl
        go_upto_region 7 with fail
        generalize wr.alloc (.cells #[.string id, .int .i64 vault, .int .i64 block, .int .i64 data, .int .i64 total, .slice qa ql qc, .slice ua zs.length uc] 87) = X at *
        have m0 := cell_of_row _ wr.heap.size 0 _ _ _ hk
        have m1 := cell_of_row _ wr.heap.size 1 _ _ _ hk
        have m2 := cell_of_row _ wr.heap.size 2 _ _ _ hk
        have m3 := cell_of_row _ wr.heap.size 3 _ _ _ hk
        have m4 := cell_of_row _ wr.heap.size 4 _ _ _ hk
        have m5 := cell_of_row _ wr.heap.size 5 _ _ _ hk
        have m6 := cell_of_row _ wr.heap.size 6 _ _ _ hk
        have n0 := cell_of_row _ w.heap.size 0 _ _ _ hbr'
        have n1 := cell_of_row _ w.heap.size 1 _ _ _ hbr'
        have n2 := cell_of_row _ w.heap.size 2 _ _ _ hbr'
        have n3 := cell_of_row _ w.heap.size 3 _ _ _ hbr'
        have h3D := h3A.drew
        have HC1 := Lib.hid (HCL.out X.drew h3D (hra'.below (Below.refl _ _).drew))
        have HBR := Lib.hid (bb (Below.refl _ X).drew hbr')
        have HO2 := Lib.hid (Own.below (Own.below HO.out hAl) (Below.refl _ X).drew)
        clear hk hbr' hra' HCL HRA HO hAl e2 e3 e4 e5 e6 e7 e8 h3A
        have HSB0 : ∀ w' : World, Below (X).drew.heap.size (X).drew w' → (w'.cell? ⟨wr.heap.size, 0, none⟩ = some (.string id) ∧ w'.cell? ⟨wr.heap.size, 1, none⟩ = some (.int .i64 vault) ∧ w'.cell? ⟨wr.heap.size, 2, none⟩ = some (.int .i64 block) ∧ w'.cell? ⟨wr.heap.size, 3, none⟩ = some (.int .i64 data) ∧ w'.cell? ⟨wr.heap.size, 4, none⟩ = some (.int .i64 total) ∧ w'.cell? ⟨wr.heap.size, 5, none⟩ = some (.slice qa ql qc) ∧ w'.cell? ⟨wr.heap.size, 6, none⟩ = some (.slice ua zs.length uc) ∧ w'.cell? ⟨w.heap.size, 0, none⟩ = some (.slice ma ml mc) ∧ w'.cell? ⟨w.heap.size, 1, none⟩ = some (.slice (some ⟨xb, xo, none⟩) nh xc) ∧ w'.cell? ⟨w.heap.size, 2, none⟩ = some (.slice ra rl rc) ∧ w'.cell? ⟨w.heap.size, 3, none⟩ = some (.slice wa wl wc)) := fun w' hb => ⟨bc hb m0, bc hb m1, bc hb m2, bc hb m3, bc hb m4, bc hb m5, bc hb m6, bc hb n0, bc hb n1, bc hb n2, bc hb n3⟩
        refine wp_region_held_drew (S := fun w' => w'.cell? ⟨wr.heap.size, 0, none⟩ = some (.string id) ∧ w'.cell? ⟨wr.heap.size, 1, none⟩ = some (.int .i64 vault) ∧ w'.cell? ⟨wr.heap.size, 2, none⟩ = some (.int .i64 block) ∧ w'.cell? ⟨wr.heap.size, 3, none⟩ = some (.int .i64 data) ∧ w'.cell? ⟨wr.heap.size, 4, none⟩ = some (.int .i64 total) ∧ w'.cell? ⟨wr.heap.size, 5, none⟩ = some (.slice qa ql qc) ∧ w'.cell? ⟨wr.heap.size, 6, none⟩ = some (.slice ua zs.length uc) ∧ w'.cell? ⟨w.heap.size, 0, none⟩ = some (.slice ma ml mc) ∧ w'.cell? ⟨w.heap.size, 1, none⟩ = some (.slice (some ⟨xb, xo, none⟩) nh xc) ∧ w'.cell? ⟨w.heap.size, 2, none⟩ = some (.slice ra rl rc) ∧ w'.cell? ⟨w.heap.size, 3, none⟩ = some (.slice wa wl wc)) (by kernel_rfl) (HSB0 _ (Below.refl _ _)) (fun hHeld => ?_)
        have HSB := Lib.hid HSB0
        clear HSB0
        generalize (X).drew = Wd at *
        clear m0 m1 m2 m3 m4 m5 m6 n0 n1 n2 n3
        refine wpAnyH_take (i := 0) (v := ?_) rfl (by kernel_rfl) (by kernel_rfl) (by kernel_rfl) (fun _ _ _ h => h) (Or.inl ⟨by rfl, ?_⟩) (by assumption) ?_
        rotate_left; · (intro w hSw; (try dsimp only at hSw); go_simp; try with_reducible rfl)
        try simp only [Act.put, List.getElem_toArray, List.getElem_cons_zero, List.getElem_cons_succ, List.setIfInBounds_toArray, List.set_cons_zero, List.set_cons_succ]
        refine wpAnyH_take (i := 1) (v := ?_) rfl (by kernel_rfl) (by kernel_rfl) (by kernel_rfl) (fun _ _ _ h => h) (Or.inl ⟨by rfl, ?_⟩) (by assumption) ?_
        rotate_left; · (intro w hSw; (try dsimp only at hSw); go_simp; try with_reducible rfl)
        try simp only [Act.put, List.getElem_toArray, List.getElem_cons_zero, List.getElem_cons_succ, List.setIfInBounds_toArray, List.set_cons_zero, List.set_cons_succ]
        refine wpAnyH_take (i := 2) (v := ?_) rfl (by kernel_rfl) (by kernel_rfl) (by kernel_rfl) (fun _ _ _ h => h) (Or.inl ⟨by rfl, ?_⟩) (by assumption) ?_
        rotate_left; · (intro w hSw; (try dsimp only at hSw); go_simp; try with_reducible rfl)
        try simp only [Act.put, List.getElem_toArray, List.getElem_cons_zero, List.getElem_cons_succ, List.setIfInBounds_toArray, List.set_cons_zero, List.set_cons_succ]
        refine wpAnyH_take (i := 5) (v := ?_) rfl (by kernel_rfl) (by kernel_rfl) (by kernel_rfl) (fun _ _ _ h => h) (Or.inl ⟨by rfl, ?_⟩) (by assumption) ?_
        rotate_left; · (intro w hSw; (try dsimp only at hSw); go_simp; try with_reducible rfl)
        try simp only [Act.put, List.getElem_toArray, List.getElem_cons_zero, List.getElem_cons_succ, List.setIfInBounds_toArray, List.set_cons_zero, List.set_cons_succ]
        refine wpAnyH_take (i := 6) (v := ?_) rfl (by kernel_rfl) (by kernel_rfl) (by kernel_rfl) (fun _ _ _ h => h) (Or.inl ⟨by rfl, ?_⟩) (by assumption) ?_
        rotate_left; · (intro w hSw; (try dsimp only at hSw); go_simp; try with_reducible rfl)
        try simp only [Act.put, List.getElem_toArray, List.getElem_cons_zero, List.getElem_cons_succ, List.setIfInBounds_toArray, List.set_cons_zero, List.set_cons_succ]
        refine wpAnyH_take (i := 7) (v := ?_) rfl (by kernel_rfl) (by kernel_rfl) (by kernel_rfl) (fun _ _ _ h => h) (Or.inl ⟨by rfl, ?_⟩) (by assumption) ?_
        rotate_left; · (intro w hSw; (try dsimp only at hSw); go_simp; try with_reducible rfl)
        try simp only [Act.put, List.getElem_toArray, List.getElem_cons_zero, List.getElem_cons_succ, List.setIfInBounds_toArray, List.set_cons_zero, List.set_cons_succ]
        refine wpAnyH_ready (rs := [3]) (by kernel_rfl) (by simp) ?_
        refine AllReadyH.cons rfl (fun K hK => ?_) AllReadyH.nil
        go_simp
        refine HC1.out.mono ?_; rintro e w4 ⟨u4, rfl, o4, hb4⟩; obtain ⟨a4, c4, rfl⟩ := OwnI.slice o4
        go_wp2_with fail
        refine hK.out _ _ (HSB.out _ hb4) (fun hNew => ?_)
        clear hK K hHeld
        have hHeld := hNew
        clear hNew
        try simp only [Act.put, List.getElem_toArray, List.getElem_cons_zero, List.getElem_cons_succ, List.setIfInBounds_toArray, List.set_cons_zero, List.set_cons_succ]
        refine wpAnyH_take (i := 4) (v := ?_) rfl (by kernel_rfl) (by kernel_rfl) (by kernel_rfl) (fun _ _ _ h => h) (Or.inl ⟨by rfl, ?_⟩) (by assumption) ?_
        rotate_left; · (intro w hSw; (try dsimp only at hSw); go_simp; try with_reducible rfl)
        try simp only [Act.put, List.getElem_toArray, List.getElem_cons_zero, List.getElem_cons_succ, List.setIfInBounds_toArray, List.set_cons_zero, List.set_cons_succ]
        refine wpAnyH_take (i := 8) (v := ?_) rfl (by kernel_rfl) (by kernel_rfl) (by kernel_rfl) (fun _ _ _ h => h) (Or.inl ⟨by rfl, ?_⟩) (by assumption) ?_
        rotate_left; · (intro w hSw; (try dsimp only at hSw); go_simp; try with_reducible rfl)
        try simp only [Act.put, List.getElem_toArray, List.getElem_cons_zero, List.getElem_cons_succ, List.setIfInBounds_toArray, List.set_cons_zero, List.set_cons_succ]
        refine wpAnyH_done (by kernel_rfl) ?_ _
        have hb4w := h3D.trans (hb4.mono h3D.size)
        have hbx4 := bb hb4 HBR.out
        have ho4 : OwnSt w4 w.heap.size u6 ds := Own.below HO2.out hb4
        have k0 := (HSB.out _ hb4).1
        have HO4 := Lib.hid ho4
        have HB4 := Lib.hid hbx4
        clear hHeld o4 HSB HC1 HO2 HBR ho4 hbx4
        by_cases hsp : (lz.length : Int) < data
        · have q1 : decide ((lz.length : Int) < data) = true := decide_eq_true hsp
          rw [if_pos (by omega)] at HSU
          obtain ⟨v6, w6, r6, o6, b6, s6⟩ := OwnSt.app HO4.out id (by omega) hb4w.size
          rw [← HSU.out] at o6
          have HO6 := Lib.hid o6
          have HB6 := Lib.hid ((s6 w.heap.size (Array.getElem?_eq_some_iff.1 HB4.out).1 (own_ne HO4.out HB4.out (by decide))).trans HB4.out)
          obtain ⟨a6, l6, c6, rfl⟩ := Own.slice o6
          clear o6 s6 q1
          go_wp2_with (at_builtin; refine wpList_append_run (by rfl) (.tmp 30) (.tmp 34) 57 (by rfl) _ (.slice (some ⟨w4.heap.size, 0, none⟩) 1 1) (.slice a6 l6 c6) w6 (by rfl) (by rfl) r6 ?_)
          go_roundw
          case rel => exact ⟨j + 1, by omega, by go_num, HO6.out, hb4w.trans b6, HB6.out⟩
          case measure => simp [intOf]; omega
        · have q1 : decide ((lz.length : Int) < data) = false := decide_eq_false hsp
          rw [if_neg (by omega), List.append_nil] at HSU
          have ho5 : OwnSt w4 w.heap.size u6 (deadTo V gone (j + 1)) := by rw [HSU.out]; exact HO4.out
          have HO5 := Lib.hid ho5
          clear ho5 q1
          go_wp2
          go_roundw
          case rel => exact ⟨j + 1, by omega, by go_num, HO5.out, hb4w, HB4.out⟩
          case measure => simp [intOf]; omega
      · have hjn : j = nh := by omega
        subst hjn
        go_wp2
        refine bodyPost_ret (results_tmp2 Try.results24 _ _ _) rfl ?_
        exact ⟨hbel, .inr ⟨HFIT.out, _, rfl, HO.out⟩⟩

end Go.Proofs.Ytijcicgbhcphjaa

/- The reference's Least. -/
namespace Go.Proofs.Ytijcicgbhcphjaa
open Go.RowKit Go.Lib Go.ChangeMaps
set_option linter.unusedSimpArgs false

set_option maxRecDepth 100000 in
set_option maxHeartbeats 8000000 in
theorem least_ref (v lv : Value) (V : Vp) (ls : List Int) (w : World) (hv : VwAt w v V) (hl : ReadsI w lv ls) :
    Calls Try.prog 26 #[v, lv] w fun e w' => e = .returned (if Fits V ls then .tuple #[.int .i64 (leastI V (goneB V.mem ls)), .int .i64 0] else .tuple #[.int .i64 0, .int .i64 1]) ∧ Below w.heap.size w w' := by
  have hA := fun o => (Below.refl w.heap.size w).alloc (Nat.le_refl _) o
  have CR := Lib.hid (fun o => fits_any v lv V ls (w.alloc o) (hv.below (hA o)) (hl.below (hA o)))
  have HA := Lib.hid hA
  have CL := Lib.hid (fun (W : World) (h : Hp) (qa : Option Addr) (ql qc : Nat) (av : Value) (hW : Below w.heap.size w W) (ha0 : ReadsI W av h.at_) (hat : ∀ x ∈ h.at_, x = -1 ∨ (0 ≤ x ∧ x < V.mem.length)) (h16 : h.at_.length ≤ 16) =>
    left_ref _ _ V ls h qa ql qc av W (hv.below hW) (hl.below hW) ha0 hat h16)
  obtain ⟨mv, hv', rv, wv, rfl, hM, hH, hRm, hW⟩ := hv
  obtain ⟨ma, mc, _, _, rfl, -⟩ := hM.at
  obtain ⟨xa, xc, xb, xo, rfl, xl, xm, xcell⟩ := hH.at
  obtain ⟨ra, rc, _, _, rfl, -⟩ := hRm.at
  obtain ⟨wa, wc, _, _, rfl, -⟩ := hW.at
  obtain ⟨la, lc, _, _, rfl, -⟩ := hl.at
  have XC := Lib.hid xcell
  clear hA hl hM hH hRm hW xcell
  obtain ⟨nh, hnh⟩ : ∃ nh, nh = V.held.length := ⟨_, rfl⟩
  have HNH := Lib.hid hnh
  rw [← hnh] at CR CL xl xm ⊢
  clear hnh
  obtain ⟨ml, hml⟩ : ∃ ml, ml = V.mem.length := ⟨_, rfl⟩
  have HML := Lib.hid hml
  rw [← hml] at CR CL ⊢
  clear hml
  generalize ls.length = ll at *
  generalize V.room.length = rl at *
  generalize V.weight.length = wl at *
  obtain ⟨R, hR⟩ : ∃ R, R = (if Fits V ls then Value.tuple #[.int .i64 (leastI V (goneB V.mem ls)), .int .i64 0] else .tuple #[.int .i64 0, .int .i64 1]) := ⟨_, rfl⟩
  rw [← hR]
  have HR := Lib.hid hR
  clear hR
  obtain ⟨gone, hgone⟩ : ∃ gone, gone = goneB V.mem ls := ⟨_, rfl⟩
  rw [← hgone] at CL HR
  clear hgone
  have hb1 := HA.out (.cells #[.slice ma ml mc, .slice xa nh xc, .slice ra rl rc, .slice wa wl wc] 33)
  have hbx := heap_alloc_new w (.cells #[.slice ma ml mc, .slice xa nh xc, .slice ra rl rc, .slice wa wl wc] 33)
  go_enter Try.func26, Try.ntmps26
  go_wp2_with fail
  refine (CR.out _).mono ?_
  rintro e w3 ⟨rfl, hb3⟩
  have hbw := hb1.trans (hb3.mono hb1.size)
  have hbx3 := (hb3.block w.heap.size (by rw [World.size_alloc]; omega)).trans hbx
  clear hb1 hb3 hbx CR HA
  by_cases hfit : Fits V ls
  rotate_left
  · have HNO := Lib.hid hfit
    rw [decide_eq_false hfit]
    clear hfit
    go_wp2
    refine bodyPost_ret (results_tmp2 Try.results26 _ _ _) rfl ?_
    exact ⟨by rw [HR.out, if_neg HNO.out]; rfl, hbw⟩
  · have HFIT := Lib.hid hfit
    rw [decide_eq_true hfit]
    have h256 : nh ≤ 256 := by rw [HNH.out]; exact hfit.1.1.2
    have HSM := Lib.hid hfit.1.small.2.2.2.2
    clear hfit
    have g1 := cell_of_row w3 _ 1 _ _ _ hbx3
    have g1l := cell_lt g1
    clear g1l
    have HB3 := Lib.hid hbx3
    clear hbx3
    go_wp2
    go_loopw [16, 6, 8] (fun v16 v6 _ wr => ∃ j : Nat, j ≤ nh ∧ v16 = .int .i64 j ∧ v6 = .int .i64 (leastTo V gone j) ∧ Below w.heap.size w wr ∧ wr.heap[w.heap.size]? = some (.cells #[.slice ma ml mc, .slice xa nh xc, .slice ra rl rc, .slice wa wl wc] 33)) (fun v16 _ _ _ => nh - (intOf v16).toNat)
    case atStart => exact ⟨0, Nat.zero_le _, rfl, rfl, hbw, HB3.out⟩
    case round =>
      obtain ⟨j, hj, rfl, rfl, hbel, hbr⟩ := hrel
      have zr := hbel.size
      clear hbw g1
      by_cases hlt : j < nh
      · have hjl : j < V.held.length := by rw [← HNH.out]; exact hlt
        obtain ⟨e1, e2, e3, e4, e5, e6, xr, av, e7, e8, hrr, hra⟩ := XC.out j hjl
        subst e1
        have HRA := Lib.hid (hra.below hbel)
        obtain ⟨qa, qc, _, _, rfl, -⟩ := hrr.at
        obtain ⟨ua, uc, _, _, rfl, -⟩ := hra.at
        rw [← hbel.cell (p := ⟨xb, _, none⟩) (cell_lt e2)] at e2
        rw [← hbel.cell (p := ⟨xb, _, none⟩) (cell_lt e3)] at e3
        rw [← hbel.cell (p := ⟨xb, _, none⟩) (cell_lt e4)] at e4
        rw [← hbel.cell (p := ⟨xb, _, none⟩) (cell_lt e5)] at e5
        rw [← hbel.cell (p := ⟨xb, _, none⟩) (cell_lt e6)] at e6
        rw [← hbel.cell (p := ⟨xb, _, none⟩) (cell_lt e7)] at e7
        rw [← hbel.cell (p := ⟨xb, _, none⟩) (cell_lt e8)] at e8
        have hok := HSM.out j hjl
        have a16 := hok.at_small.1
        have A8 := Lib.hid (show ∀ x ∈ (V.held.getD j default).at_, x = -1 ∨ (0 ≤ x ∧ x < ml) by rw [HML.out]; exact hok.2.2.2.2.2.2)
        have hsu : leastTo V gone (j + 1) = if spareI V gone j < leastTo V gone j then spareI V gone j else leastTo V gone j := rfl
        have hdt := hok.2.1
        have hsp : spareI V gone j = ((leftI gone (V.held.getD j default).at_).length : Int) - (V.held.getD j default).data := rfl
        rw [hsp] at hsu
        have HSU := Lib.hid hsu
        have HCL := Lib.hid (fun W hW ha => CL.out W (V.held.getD j default) qa (V.held.getD j default).refs.length qc (.slice ua (V.held.getD j default).at_.length uc) hW ha A8.out a16)
        have hll := leftI_len gone (V.held.getD j default).at_
        clear hrr hra hsu hsp CL hok
        generalize leastTo V gone j = le at *
        generalize V.held.getD j default = y at *
        obtain ⟨id, vault, block, data, total, refs, zs⟩ := y
        unfold Hp.v at HCL
        simp only at e2 e3 e4 e5 e6 e7 e8 a16 A8 HSU HCL hll HRA hdt
        generalize refs.length = ql at *
        generalize hlz : leftI gone zs = lz at *
        have hAl : Below wr.heap.size wr (wr.alloc (.cells #[.string id, .int .i64 vault, .int .i64 block, .int .i64 data, .int .i64 total, .slice qa ql qc, .slice ua zs.length uc] 87)) := (Below.refl _ _).alloc (Nat.le_refl _) _
        have hk := heap_alloc_new wr (.cells #[.string id, .int .i64 vault, .int .i64 block, .int .i64 data, .int .i64 total, .slice qa ql qc, .slice ua zs.length uc] 87)
        have hbr' := bb hAl hbr
        have h3A := hbel.trans (hAl.mono zr)
        have hra' := HRA.out.below hAl
        go_upto_region 7 with fail
        generalize wr.alloc (.cells #[.string id, .int .i64 vault, .int .i64 block, .int .i64 data, .int .i64 total, .slice qa ql qc, .slice ua zs.length uc] 87) = X at *
        have m0 := cell_of_row _ wr.heap.size 0 _ _ _ hk
        have m1 := cell_of_row _ wr.heap.size 1 _ _ _ hk
        have m2 := cell_of_row _ wr.heap.size 2 _ _ _ hk
        have m3 := cell_of_row _ wr.heap.size 3 _ _ _ hk
        have m4 := cell_of_row _ wr.heap.size 4 _ _ _ hk
        have m5 := cell_of_row _ wr.heap.size 5 _ _ _ hk
        have m6 := cell_of_row _ wr.heap.size 6 _ _ _ hk
        have n0 := cell_of_row _ w.heap.size 0 _ _ _ hbr'
        have n1 := cell_of_row _ w.heap.size 1 _ _ _ hbr'
        have n2 := cell_of_row _ w.heap.size 2 _ _ _ hbr'
        have n3 := cell_of_row _ w.heap.size 3 _ _ _ hbr'
        have h3D := h3A.drew
        have HC1 := Lib.hid (HCL.out X.drew h3D (hra'.below (Below.refl _ _).drew))
        have HBR := Lib.hid (bb (Below.refl _ X).drew hbr')
        clear hk hbr' hra' HCL HRA hAl e2 e3 e4 e5 e6 e7 e8 h3A
        have HSB0 : ∀ w' : World, Below (X).drew.heap.size (X).drew w' → (w'.cell? ⟨wr.heap.size, 0, none⟩ = some (.string id) ∧ w'.cell? ⟨wr.heap.size, 1, none⟩ = some (.int .i64 vault) ∧ w'.cell? ⟨wr.heap.size, 2, none⟩ = some (.int .i64 block) ∧ w'.cell? ⟨wr.heap.size, 3, none⟩ = some (.int .i64 data) ∧ w'.cell? ⟨wr.heap.size, 4, none⟩ = some (.int .i64 total) ∧ w'.cell? ⟨wr.heap.size, 5, none⟩ = some (.slice qa ql qc) ∧ w'.cell? ⟨wr.heap.size, 6, none⟩ = some (.slice ua zs.length uc) ∧ w'.cell? ⟨w.heap.size, 0, none⟩ = some (.slice ma ml mc) ∧ w'.cell? ⟨w.heap.size, 1, none⟩ = some (.slice (some ⟨xb, xo, none⟩) nh xc) ∧ w'.cell? ⟨w.heap.size, 2, none⟩ = some (.slice ra rl rc) ∧ w'.cell? ⟨w.heap.size, 3, none⟩ = some (.slice wa wl wc)) := fun w' hb => ⟨bc hb m0, bc hb m1, bc hb m2, bc hb m3, bc hb m4, bc hb m5, bc hb m6, bc hb n0, bc hb n1, bc hb n2, bc hb n3⟩
        refine wp_region_held_drew (S := fun w' => w'.cell? ⟨wr.heap.size, 0, none⟩ = some (.string id) ∧ w'.cell? ⟨wr.heap.size, 1, none⟩ = some (.int .i64 vault) ∧ w'.cell? ⟨wr.heap.size, 2, none⟩ = some (.int .i64 block) ∧ w'.cell? ⟨wr.heap.size, 3, none⟩ = some (.int .i64 data) ∧ w'.cell? ⟨wr.heap.size, 4, none⟩ = some (.int .i64 total) ∧ w'.cell? ⟨wr.heap.size, 5, none⟩ = some (.slice qa ql qc) ∧ w'.cell? ⟨wr.heap.size, 6, none⟩ = some (.slice ua zs.length uc) ∧ w'.cell? ⟨w.heap.size, 0, none⟩ = some (.slice ma ml mc) ∧ w'.cell? ⟨w.heap.size, 1, none⟩ = some (.slice (some ⟨xb, xo, none⟩) nh xc) ∧ w'.cell? ⟨w.heap.size, 2, none⟩ = some (.slice ra rl rc) ∧ w'.cell? ⟨w.heap.size, 3, none⟩ = some (.slice wa wl wc)) (by kernel_rfl) (HSB0 _ (Below.refl _ _)) (fun hHeld => ?_)
        have HSB := Lib.hid HSB0
        clear HSB0
        generalize (X).drew = Wd at *
        clear m0 m1 m2 m3 m4 m5 m6 n0 n1 n2 n3
        have q1 : IntKind.i64.wrap ((lz.length : Int) - data) = lz.length - data := by rw [IntKind.wrap_i64]; omega
        refine wpAnyH_take (i := 0) (v := ?_) rfl (by kernel_rfl) (by kernel_rfl) (by kernel_rfl) (fun _ _ _ h => h) (Or.inl ⟨by rfl, ?_⟩) (by assumption) ?_
        rotate_left; · (intro w hSw; (try dsimp only at hSw); go_simp; try with_reducible rfl)
        try simp only [Act.put, List.getElem_toArray, List.getElem_cons_zero, List.getElem_cons_succ, List.setIfInBounds_toArray, List.set_cons_zero, List.set_cons_succ]
        refine wpAnyH_take (i := 1) (v := ?_) rfl (by kernel_rfl) (by kernel_rfl) (by kernel_rfl) (fun _ _ _ h => h) (Or.inl ⟨by rfl, ?_⟩) (by assumption) ?_
        rotate_left; · (intro w hSw; (try dsimp only at hSw); go_simp; try with_reducible rfl)
        try simp only [Act.put, List.getElem_toArray, List.getElem_cons_zero, List.getElem_cons_succ, List.setIfInBounds_toArray, List.set_cons_zero, List.set_cons_succ]
        refine wpAnyH_take (i := 2) (v := ?_) rfl (by kernel_rfl) (by kernel_rfl) (by kernel_rfl) (fun _ _ _ h => h) (Or.inl ⟨by rfl, ?_⟩) (by assumption) ?_
        rotate_left; · (intro w hSw; (try dsimp only at hSw); go_simp; try with_reducible rfl)
        try simp only [Act.put, List.getElem_toArray, List.getElem_cons_zero, List.getElem_cons_succ, List.setIfInBounds_toArray, List.set_cons_zero, List.set_cons_succ]
        refine wpAnyH_take (i := 3) (v := ?_) rfl (by kernel_rfl) (by kernel_rfl) (by kernel_rfl) (fun _ _ _ h => h) (Or.inl ⟨by rfl, ?_⟩) (by assumption) ?_
        rotate_left; · (intro w hSw; (try dsimp only at hSw); go_simp; try with_reducible rfl)
        try simp only [Act.put, List.getElem_toArray, List.getElem_cons_zero, List.getElem_cons_succ, List.setIfInBounds_toArray, List.set_cons_zero, List.set_cons_succ]
        refine wpAnyH_take (i := 6) (v := ?_) rfl (by kernel_rfl) (by kernel_rfl) (by kernel_rfl) (fun _ _ _ h => h) (Or.inl ⟨by rfl, ?_⟩) (by assumption) ?_
        rotate_left; · (intro w hSw; (try dsimp only at hSw); go_simp; try with_reducible rfl)
        try simp only [Act.put, List.getElem_toArray, List.getElem_cons_zero, List.getElem_cons_succ, List.setIfInBounds_toArray, List.set_cons_zero, List.set_cons_succ]
        refine wpAnyH_take (i := 7) (v := ?_) rfl (by kernel_rfl) (by kernel_rfl) (by kernel_rfl) (fun _ _ _ h => h) (Or.inl ⟨by rfl, ?_⟩) (by assumption) ?_
        rotate_left; · (intro w hSw; (try dsimp only at hSw); go_simp; try with_reducible rfl)
        try simp only [Act.put, List.getElem_toArray, List.getElem_cons_zero, List.getElem_cons_succ, List.setIfInBounds_toArray, List.set_cons_zero, List.set_cons_succ]
        refine wpAnyH_take (i := 8) (v := ?_) rfl (by kernel_rfl) (by kernel_rfl) (by kernel_rfl) (fun _ _ _ h => h) (Or.inl ⟨by rfl, ?_⟩) (by assumption) ?_
        rotate_left; · (intro w hSw; (try dsimp only at hSw); go_simp; try with_reducible rfl)
        try simp only [Act.put, List.getElem_toArray, List.getElem_cons_zero, List.getElem_cons_succ, List.setIfInBounds_toArray, List.set_cons_zero, List.set_cons_succ]
        refine wpAnyH_ready (rs := [4]) (by kernel_rfl) (by simp) ?_
        refine AllReadyH.cons rfl (fun K hK => ?_) AllReadyH.nil
        go_simp
        refine HC1.out.mono ?_; rintro e w4 ⟨u4, rfl, o4, hb4⟩; obtain ⟨a4, c4, rfl⟩ := OwnI.slice o4
        go_wp2_with fail
        refine hK.out _ _ (HSB.out _ hb4) (fun hNew => ?_)
        clear hK K hHeld
        have hHeld := hNew
        clear hNew
        try simp only [Act.put, List.getElem_toArray, List.getElem_cons_zero, List.getElem_cons_succ, List.setIfInBounds_toArray, List.set_cons_zero, List.set_cons_succ]
        refine wpAnyH_take (i := 5) (v := ?_) rfl (by kernel_rfl) (by kernel_rfl) (by kernel_rfl) (fun _ _ _ h => h) (Or.inl ⟨by rfl, ?_⟩) (by assumption) ?_
        rotate_left; · (intro w hSw; (try dsimp only at hSw); go_simp; try with_reducible rfl)
        try simp only [Act.put, List.getElem_toArray, List.getElem_cons_zero, List.getElem_cons_succ, List.setIfInBounds_toArray, List.set_cons_zero, List.set_cons_succ]
        refine wpAnyH_take (i := 9) (v := ?_) rfl (by kernel_rfl) (by kernel_rfl) (by kernel_rfl) (fun _ _ _ h => h) (Or.inl ⟨by rfl, ?_⟩) (by assumption) ?_
        rotate_left; · (intro w hSw; (try dsimp only at hSw); go_simp; try with_reducible rfl)
        try simp only [Act.put, List.getElem_toArray, List.getElem_cons_zero, List.getElem_cons_succ, List.setIfInBounds_toArray, List.set_cons_zero, List.set_cons_succ]
        refine wpAnyH_take (i := 10) (v := ?_) rfl (by kernel_rfl) (by kernel_rfl) (by kernel_rfl) (fun _ _ _ h => h) (Or.inl ⟨by rfl, ?_⟩) (by assumption) ?_
        rotate_left; · (intro w hSw; (try dsimp only at hSw); go_simp; try with_reducible rfl)
        try simp only [Act.put, List.getElem_toArray, List.getElem_cons_zero, List.getElem_cons_succ, List.setIfInBounds_toArray, List.set_cons_zero, List.set_cons_succ]
        refine wpAnyH_take (i := 11) (v := ?_) rfl (by kernel_rfl) (by kernel_rfl) (by kernel_rfl) (fun _ _ _ h => h) (Or.inl ⟨by rfl, ?_⟩) (by assumption) ?_
        rotate_left; · (intro w hSw; (try dsimp only at hSw); go_simp; try with_reducible rfl)
        try simp only [Act.put, List.getElem_toArray, List.getElem_cons_zero, List.getElem_cons_succ, List.setIfInBounds_toArray, List.set_cons_zero, List.set_cons_succ]
        refine wpAnyH_done (by kernel_rfl) ?_ _
        have hb4w := h3D.trans (hb4.mono h3D.size)
        have HB4 := Lib.hid (bb hb4 HBR.out)
        clear hHeld o4 HSB HC1 HBR
        go_wp2
        go_roundw
        case rel => exact ⟨j + 1, by omega, by go_num, by first | rw [HSU.out] | (rw [HSU.out, q1]), hb4w, HB4.out⟩
        case measure => simp [intOf]; omega
      · have hjn : j = nh := by omega
        subst hjn
        go_wp2
        refine bodyPost_ret (results_tmp2 Try.results26 _ _ _) rfl ?_
        exact ⟨by rw [HR.out, if_pos HFIT.out]; unfold leastI; rw [← HNH.out]; rfl, hbel⟩

end Go.Proofs.Ytijcicgbhcphjaa
