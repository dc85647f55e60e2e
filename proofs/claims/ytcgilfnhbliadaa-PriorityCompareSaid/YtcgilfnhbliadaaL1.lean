/- The laws Compare and Total, walked. -/
import Derived.Test.YtcgilfnhbliadaaE1
namespace Go.Proofs.Ytcgilfnhbliadaa
open Go.RowKit Go.Lib Go.ChangeMaps
set_option linter.unusedSimpArgs false

theorem old_alloc {w : World} {b : Nat} {x : Obj} (o : Obj) (h : w.heap[b]? = some x) : (w.alloc o).heap[b]? = some x := bb (sb0 o) h

set_option maxRecDepth 100000 in
set_option maxHeartbeats 8000000 in
theorem law_compare (ta tb : Tk) (w : World) : Calls Try.prog 3 #[ta.v, tb.v] w fun e w' => e = .returned (.bool true) ∧ Below w.heap.size w w' := by
  have CA := Lib.hid (fun W => awake_any W)
  have VA := Lib.hid (fun W => validLaw_any ta W)
  have VB := Lib.hid (fun W => validLaw_any tb W)
  have PA := Lib.hid (fun W => plain_any ta W)
  have PB := Lib.hid (fun W => plain_any tb W)
  have C1 := Lib.hid (fun W (ha : TOk ta) (hb : TOk tb) => compare_any ta tb W ha hb)
  have C2 := Lib.hid (fun W (ha : TOk ta) (hb : TOk tb) => compare_ref ta tb W ha hb)
  obtain ⟨x, hx⟩ : ∃ x, x = cmpT ta tb := ⟨_, rfl⟩
  rw [← hx] at C1 C2
  obtain ⟨ga, hga⟩ : ∃ g, g = decide (TOk ta) := ⟨_, rfl⟩
  obtain ⟨gb, hgb⟩ : ∃ g, g = decide (TOk tb) := ⟨_, rfl⟩
  rw [← hga] at VA
  rw [← hgb] at VB
  have GA := Lib.hid (show ga = true → TOk ta from fun h => of_decide_eq_true (hga ▸ h))
  have GB := Lib.hid (show gb = true → TOk tb from fun h => of_decide_eq_true (hgb ▸ h))
  clear hx hga hgb
  obtain ⟨ast, aix, asz, asp, anum, aden, aday⟩ := ta
  obtain ⟨bst, bix, bsz, bsp, bnum, bden, bday⟩ := tb
  unfold Tk.v at *
  simp only at VA VB PA PB C1 C2 ⊢
  have hA : Below w.heap.size w ((w.alloc (.cells #[.string ast, .int .i64 aix, .int .i64 asz, .int .i64 asp, .int .i64 anum, .int .i64 aden, .int .i64 aday] 27)).alloc (.cells #[.string bst, .int .i64 bix, .int .i64 bsz, .int .i64 bsp, .int .i64 bnum, .int .i64 bden, .int .i64 bday] 27)) := by (repeat' (first | (with_reducible exact Below.refl _ _) | (with_reducible assumption) | (with_reducible refine Below.alloc ?_ ?_ _) | (with_reducible refine Below.drew ?_) | (with_reducible refine below_drewN ?_ _) | (with_reducible refine Below.setCell ?_ ?_ _) | (with_reducible refine below_step ?_ (by with_reducible assumption) ?_) | go_size))
  have hx : ((w.alloc (.cells #[.string ast, .int .i64 aix, .int .i64 asz, .int .i64 asp, .int .i64 anum, .int .i64 aden, .int .i64 aday] 27)).alloc (.cells #[.string bst, .int .i64 bix, .int .i64 bsz, .int .i64 bsp, .int .i64 bnum, .int .i64 bden, .int .i64 bday] 27)).heap[w.heap.size]? = some (.cells #[.string ast, .int .i64 aix, .int .i64 asz, .int .i64 asp, .int .i64 anum, .int .i64 aden, .int .i64 aday] 27) := old_alloc _ (heap_alloc_new w _)
  have hy : ((w.alloc (.cells #[.string ast, .int .i64 aix, .int .i64 asz, .int .i64 asp, .int .i64 anum, .int .i64 aden, .int .i64 aday] 27)).alloc (.cells #[.string bst, .int .i64 bix, .int .i64 bsz, .int .i64 bsp, .int .i64 bnum, .int .i64 bden, .int .i64 bday] 27)).heap[w.heap.size + 1]? = some (.cells #[.string bst, .int .i64 bix, .int .i64 bsz, .int .i64 bsp, .int .i64 bnum, .int .i64 bden, .int .i64 bday] 27) := by
    have := heap_alloc_new (w.alloc (.cells #[.string ast, .int .i64 aix, .int .i64 asz, .int .i64 asp, .int .i64 anum, .int .i64 aden, .int .i64 aday] 27)) (.cells #[.string bst, .int .i64 bix, .int .i64 bsz, .int .i64 bsp, .int .i64 bnum, .int .i64 bden, .int .i64 bday] 27)
    rw [World.size_alloc] at this
    exact this
  have HX := Lib.hid hx
  have HY := Lib.hid hy
  clear hx hy
  go_enter Try.func3, Try.ntmps3
  go_wp2_with fail
  refine (CA.out _).mono ?_
  rintro e w1 ⟨rfl, hb1⟩
  have hx1 := bb hb1 HX.out
  have hy1 := bb hb1 HY.out
  have hbw1 := hA.trans (hb1.mono hA.size)
  have a0 := cell_of_row w1 _ 0 _ _ _ hx1
  have a1 := cell_of_row w1 _ 1 _ _ _ hx1
  have a2 := cell_of_row w1 _ 2 _ _ _ hx1
  have a3 := cell_of_row w1 _ 3 _ _ _ hx1
  have a4 := cell_of_row w1 _ 4 _ _ _ hx1
  have a5 := cell_of_row w1 _ 5 _ _ _ hx1
  have a6 := cell_of_row w1 _ 6 _ _ _ hx1
  have HX := Lib.hid hx1
  have HY := Lib.hid hy1
  clear hb1 hA hx1 hy1
  go_wp2_with fail
  refine (VA.out _).mono ?_
  rintro e w2 ⟨rfl, hb2⟩
  have hbw2 := hbw1.trans (hb2.mono hbw1.size)
  clear a0 a1 a2 a3 a4 a5 a6
  cases ga with
  | false =>
    clear HX HY
    go_wp2_with fail
    refine (CA.out _).mono ?_
    rintro e w3 ⟨rfl, hb3⟩
    go_wp2
    go_ret
    exact ⟨rfl, hbw2.trans (hb3.mono hbw2.size)⟩
  | true =>
  have hx2 := bb hb2 HX.out
  have hy2 := bb hb2 HY.out
  have b0 := cell_of_row w2 _ 0 _ _ _ hy2
  have b1 := cell_of_row w2 _ 1 _ _ _ hy2
  have b2 := cell_of_row w2 _ 2 _ _ _ hy2
  have b3 := cell_of_row w2 _ 3 _ _ _ hy2
  have b4 := cell_of_row w2 _ 4 _ _ _ hy2
  have b5 := cell_of_row w2 _ 5 _ _ _ hy2
  have b6 := cell_of_row w2 _ 6 _ _ _ hy2
  have HX := Lib.hid hx2
  have HY := Lib.hid hy2
  clear hx2 hy2 hb2 hbw1
  go_wp2_with fail
  refine (VB.out _).mono ?_
  rintro e w3 ⟨rfl, hb3⟩
  have hbw3 := hbw2.trans (hb3.mono hbw2.size)
  clear b0 b1 b2 b3 b4 b5 b6
  cases gb with
  | false =>
    clear HX HY
    go_wp2_with fail
    refine (CA.out _).mono ?_
    rintro e w4 ⟨rfl, hb4⟩
    go_wp2
    go_ret
    exact ⟨rfl, hbw3.trans (hb4.mono hbw3.size)⟩
  | true =>
  have hx3 := bb hb3 HX.out
  have hy3 := bb hb3 HY.out
  have a0 := cell_of_row w3 _ 0 _ _ _ hx3
  have a1 := cell_of_row w3 _ 1 _ _ _ hx3
  have a2 := cell_of_row w3 _ 2 _ _ _ hx3
  have a3 := cell_of_row w3 _ 3 _ _ _ hx3
  have a4 := cell_of_row w3 _ 4 _ _ _ hx3
  have a5 := cell_of_row w3 _ 5 _ _ _ hx3
  have a6 := cell_of_row w3 _ 6 _ _ _ hx3
  have b0 := cell_of_row w3 _ 0 _ _ _ hy3
  have b1 := cell_of_row w3 _ 1 _ _ _ hy3
  have b2 := cell_of_row w3 _ 2 _ _ _ hy3
  have b3 := cell_of_row w3 _ 3 _ _ _ hy3
  have b4 := cell_of_row w3 _ 4 _ _ _ hy3
  have b5 := cell_of_row w3 _ 5 _ _ _ hy3
  have b6 := cell_of_row w3 _ 6 _ _ _ hy3
  clear hb3 hx3 hy3 HX HY hbw2
  have HBD := Lib.hid hbw3.drew
  go_upto_region 3 with fail
  have HSB0 : ∀ w' : World, Below (w3).drew.heap.size (w3).drew w' → (w'.cell? ⟨w.heap.size, 0, none⟩ = some (.string ast) ∧ w'.cell? ⟨w.heap.size, 1, none⟩ = some (.int .i64 aix) ∧ w'.cell? ⟨w.heap.size, 2, none⟩ = some (.int .i64 asz) ∧ w'.cell? ⟨w.heap.size, 3, none⟩ = some (.int .i64 asp) ∧ w'.cell? ⟨w.heap.size, 4, none⟩ = some (.int .i64 anum) ∧ w'.cell? ⟨w.heap.size, 5, none⟩ = some (.int .i64 aden) ∧ w'.cell? ⟨w.heap.size, 6, none⟩ = some (.int .i64 aday) ∧ w'.cell? ⟨w.heap.size + 1, 0, none⟩ = some (.string bst) ∧ w'.cell? ⟨w.heap.size + 1, 1, none⟩ = some (.int .i64 bix) ∧ w'.cell? ⟨w.heap.size + 1, 2, none⟩ = some (.int .i64 bsz) ∧ w'.cell? ⟨w.heap.size + 1, 3, none⟩ = some (.int .i64 bsp) ∧ w'.cell? ⟨w.heap.size + 1, 4, none⟩ = some (.int .i64 bnum) ∧ w'.cell? ⟨w.heap.size + 1, 5, none⟩ = some (.int .i64 bden) ∧ w'.cell? ⟨w.heap.size + 1, 6, none⟩ = some (.int .i64 bday)) := fun w' hb => ⟨bc hb a0, bc hb a1, bc hb a2, bc hb a3, bc hb a4, bc hb a5, bc hb a6, bc hb b0, bc hb b1, bc hb b2, bc hb b3, bc hb b4, bc hb b5, bc hb b6⟩
  refine wp_region_held_drew (S := fun w' => w'.cell? ⟨w.heap.size, 0, none⟩ = some (.string ast) ∧ w'.cell? ⟨w.heap.size, 1, none⟩ = some (.int .i64 aix) ∧ w'.cell? ⟨w.heap.size, 2, none⟩ = some (.int .i64 asz) ∧ w'.cell? ⟨w.heap.size, 3, none⟩ = some (.int .i64 asp) ∧ w'.cell? ⟨w.heap.size, 4, none⟩ = some (.int .i64 anum) ∧ w'.cell? ⟨w.heap.size, 5, none⟩ = some (.int .i64 aden) ∧ w'.cell? ⟨w.heap.size, 6, none⟩ = some (.int .i64 aday) ∧ w'.cell? ⟨w.heap.size + 1, 0, none⟩ = some (.string bst) ∧ w'.cell? ⟨w.heap.size + 1, 1, none⟩ = some (.int .i64 bix) ∧ w'.cell? ⟨w.heap.size + 1, 2, none⟩ = some (.int .i64 bsz) ∧ w'.cell? ⟨w.heap.size + 1, 3, none⟩ = some (.int .i64 bsp) ∧ w'.cell? ⟨w.heap.size + 1, 4, none⟩ = some (.int .i64 bnum) ∧ w'.cell? ⟨w.heap.size + 1, 5, none⟩ = some (.int .i64 bden) ∧ w'.cell? ⟨w.heap.size + 1, 6, none⟩ = some (.int .i64 bday)) (by kernel_rfl) (HSB0 _ (Below.refl _ _)) (fun hHeld => ?_)
  have HSB := Lib.hid HSB0
  clear HSB0
  generalize (w3).drew = Wd at *
  clear a0 a1 a2 a3 a4 a5 a6 b0 b1 b2 b3 b4 b5 b6
  refine wpAnyH_take (i := 0) (v := ?_) rfl (by kernel_rfl) (by kernel_rfl) (by kernel_rfl) (fun _ _ _ h => h) (Or.inl ⟨by rfl, ?_⟩) (by assumption) ?_
  rotate_left; · (intro w hSw; (try dsimp only at hSw); go_simp; try with_reducible rfl)
  try simp only [Act.put, List.getElem_toArray, List.getElem_cons_zero, List.getElem_cons_succ, List.setIfInBounds_toArray, List.set_cons_zero, List.set_cons_succ]
  refine wpAnyH_take (i := 1) (v := ?_) rfl (by kernel_rfl) (by kernel_rfl) (by kernel_rfl) (fun _ _ _ h => h) (Or.inl ⟨by rfl, ?_⟩) (by assumption) ?_
  rotate_left; · (intro w hSw; (try dsimp only at hSw); go_simp; try with_reducible rfl)
  try simp only [Act.put, List.getElem_toArray, List.getElem_cons_zero, List.getElem_cons_succ, List.setIfInBounds_toArray, List.set_cons_zero, List.set_cons_succ]
  refine wpAnyH_take (i := 3) (v := ?_) rfl (by kernel_rfl) (by kernel_rfl) (by kernel_rfl) (fun _ _ _ h => h) (Or.inl ⟨by rfl, ?_⟩) (by assumption) ?_
  rotate_left; · (intro w hSw; (try dsimp only at hSw); go_simp; try with_reducible rfl)
  try simp only [Act.put, List.getElem_toArray, List.getElem_cons_zero, List.getElem_cons_succ, List.setIfInBounds_toArray, List.set_cons_zero, List.set_cons_succ]
  refine wpAnyH_take (i := 5) (v := ?_) rfl (by kernel_rfl) (by kernel_rfl) (by kernel_rfl) (fun _ _ _ h => h) (Or.inl ⟨by rfl, ?_⟩) (by assumption) ?_
  rotate_left; · (intro w hSw; (try dsimp only at hSw); go_simp; try with_reducible rfl)
  try simp only [Act.put, List.getElem_toArray, List.getElem_cons_zero, List.getElem_cons_succ, List.setIfInBounds_toArray, List.set_cons_zero, List.set_cons_succ]
  refine wpAnyH_ready (rs := [2]) (by kernel_rfl) (by simp) ?_
  refine AllReadyH.cons rfl (fun K hK => ?_) AllReadyH.nil
  go_simp
  refine (C1.out _ (GA.out (by simp)) (GB.out (by simp))).mono ?_; rintro e w4 ⟨rfl, hb4⟩
  go_wp2_with fail
  refine hK.out _ _ (HSB.out _ hb4) (fun hNew => ?_)
  clear hK K hHeld
  have hHeld := hNew
  clear hNew
  try simp only [Act.put, List.getElem_toArray, List.getElem_cons_zero, List.getElem_cons_succ, List.setIfInBounds_toArray, List.set_cons_zero, List.set_cons_succ]
  refine wpAnyH_ready (rs := [4]) (by kernel_rfl) (by simp) ?_
  refine AllReadyH.cons rfl (fun K hK => ?_) AllReadyH.nil
  go_simp
  refine (PA.out _).mono ?_; rintro e w5 ⟨rfl, hb5⟩
  go_wp2_with fail
  refine hK.out _ _ (HSB.out _ (hb4.trans (hb5.mono hb4.size))) (fun hNew => ?_)
  clear hK K hHeld
  have hHeld := hNew
  clear hNew
  try simp only [Act.put, List.getElem_toArray, List.getElem_cons_zero, List.getElem_cons_succ, List.setIfInBounds_toArray, List.set_cons_zero, List.set_cons_succ]
  refine wpAnyH_ready (rs := [6]) (by kernel_rfl) (by simp) ?_
  refine AllReadyH.cons rfl (fun K hK => ?_) AllReadyH.nil
  go_simp
  refine (PB.out _).mono ?_; rintro e w6 ⟨rfl, hb6⟩
  go_wp2_with fail
  refine hK.out _ _ (HSB.out _ (hb4.trans ((hb5.trans (hb6.mono hb5.size)).mono hb4.size))) (fun hNew => ?_)
  clear hK K hHeld
  have hHeld := hNew
  clear hNew
  try simp only [Act.put, List.getElem_toArray, List.getElem_cons_zero, List.getElem_cons_succ, List.setIfInBounds_toArray, List.set_cons_zero, List.set_cons_succ]
  refine wpAnyH_ready (rs := [7]) (by kernel_rfl) (by simp) ?_
  refine AllReadyH.cons rfl (fun K hK => ?_) AllReadyH.nil
  go_simp
  refine (C2.out _ (GA.out (by simp)) (GB.out (by simp))).mono ?_; rintro e w7 ⟨rfl, hb7⟩
  go_wp2_with fail
  refine hK.out _ _ (HSB.out _ (hb4.trans ((hb5.trans ((hb6.trans (hb7.mono hb6.size)).mono hb5.size)).mono hb4.size))) (fun hNew => ?_)
  clear hK K hHeld
  have hHeld := hNew
  clear hNew
  try simp only [Act.put, List.getElem_toArray, List.getElem_cons_zero, List.getElem_cons_succ, List.setIfInBounds_toArray, List.set_cons_zero, List.set_cons_succ]
  refine wpAnyH_take (i := 8) (v := ?_) rfl (by kernel_rfl) (by kernel_rfl) (by kernel_rfl) (fun _ _ _ h => h) (Or.inl ⟨by rfl, ?_⟩) (by assumption) ?_
  rotate_left; · (intro w hSw; (try dsimp only at hSw); go_simp; try with_reducible rfl)
  try simp only [Act.put, List.getElem_toArray, List.getElem_cons_zero, List.getElem_cons_succ, List.setIfInBounds_toArray, List.set_cons_zero, List.set_cons_succ]
  refine wpAnyH_take (i := 9) (v := ?_) rfl (by kernel_rfl) (by kernel_rfl) (by kernel_rfl) (fun _ _ _ h => h) (Or.inl ⟨by rfl, ?_⟩) (by assumption) ?_
  rotate_left; · (intro w hSw; (try dsimp only at hSw); go_simp; try with_reducible rfl)
  try simp only [Act.put, List.getElem_toArray, List.getElem_cons_zero, List.getElem_cons_succ, List.setIfInBounds_toArray, List.set_cons_zero, List.set_cons_succ]
  refine wpAnyH_done (by kernel_rfl) ?_ _
  have hb8 := hb4.trans ((hb5.trans ((hb6.trans (hb7.mono hb6.size)).mono hb5.size)).mono hb4.size)
  have HB := Lib.hid (HBD.out.trans (hb8.mono HBD.out.size))
  clear hHeld HSB hb4 hb5 hb6 hb7 hb8
  go_wp2
  go_ret
  exact ⟨by simp, HB.out⟩

set_option maxRecDepth 100000 in
set_option maxHeartbeats 16000000 in
theorem law_total (ta tb tc : Tk) (w : World) : Calls Try.prog 4 #[ta.v, tb.v, tc.v] w fun e w' => e = .returned (.bool true) ∧ Below w.heap.size w w' := by
  have CA := Lib.hid (fun W => awake_any W)
  have VA := Lib.hid (fun W => validLaw_any ta W)
  have VB := Lib.hid (fun W => validLaw_any tb W)
  have VC := Lib.hid (fun W => validLaw_any tc W)
  have C1 := Lib.hid (fun W (ha : TOk ta) (hb : TOk tb) => compare_any ta tb W ha hb)
  have C2 := Lib.hid (fun W (hb : TOk tb) (hc : TOk tc) => compare_any tb tc W hb hc)
  have C3 := Lib.hid (fun W (ha : TOk ta) (hc : TOk tc) => compare_any ta tc W ha hc)
  have C4 := Lib.hid (fun W (hb : TOk tb) (ha : TOk ta) => compare_any tb ta W hb ha)
  have HT := Lib.hid (fun (ha : TOk ta) (hb : TOk tb) (hc : TOk tc) => total_plain ha hb hc)
  have HQ := fun W => eqIn27 ta tb W
  obtain ⟨q, hq⟩ : ∃ q, q = decide (ta = tb) := ⟨_, rfl⟩
  rw [← hq] at HQ
  obtain ⟨x, hx⟩ : ∃ x, x = cmpT ta tb := ⟨_, rfl⟩
  obtain ⟨y, hy⟩ : ∃ x, x = cmpT tb tc := ⟨_, rfl⟩
  obtain ⟨z, hz⟩ : ∃ x, x = cmpT ta tc := ⟨_, rfl⟩
  obtain ⟨v, hv⟩ : ∃ x, x = cmpT tb ta := ⟨_, rfl⟩
  rw [← hx] at C1
  rw [← hy] at C2
  rw [← hz] at C3
  rw [← hv] at C4
  rw [← hx, ← hy, ← hz, ← hv] at HT
  have HT := Lib.hid (show TOk ta → TOk tb → TOk tc → v = -x ∧ q = decide (x = 0) ∧ (-1 ≤ x ∧ x ≤ 1) ∧ (0 < x ∨ 0 < y ∨ z < 0 ∨ (z = 0 ∧ x = 0 ∧ y = 0)) from fun ha hb hc => by
    obtain ⟨h1, h2, h3, h4⟩ := HT.out ha hb hc
    exact ⟨by omega, by rw [hq]; exact decide_eq_decide.2 h2.symm, h3, h4⟩)
  obtain ⟨ga, hga⟩ : ∃ g, g = decide (TOk ta) := ⟨_, rfl⟩
  obtain ⟨gb, hgb⟩ : ∃ g, g = decide (TOk tb) := ⟨_, rfl⟩
  obtain ⟨gc, hgc⟩ : ∃ g, g = decide (TOk tc) := ⟨_, rfl⟩
  rw [← hga] at VA
  rw [← hgb] at VB
  rw [← hgc] at VC
  have GA := Lib.hid (show ga = true → TOk ta from fun h => of_decide_eq_true (hga ▸ h))
  have GB := Lib.hid (show gb = true → TOk tb from fun h => of_decide_eq_true (hgb ▸ h))
  have GC := Lib.hid (show gc = true → TOk tc from fun h => of_decide_eq_true (hgc ▸ h))
  clear hq hx hy hz hv hga hgb hgc
  obtain ⟨ast, aix, asz, asp, anum, aden, aday⟩ := ta
  obtain ⟨bst, bix, bsz, bsp, bnum, bden, bday⟩ := tb
  obtain ⟨cst, cix, csz, csp, cnum, cden, cday⟩ := tc
  unfold Tk.v at *
  simp only at VA VB VC C1 C2 C3 C4 HQ ⊢
  have HQ := Lib.hid HQ
  have hA : Below w.heap.size w (((w.alloc (.cells #[.string ast, .int .i64 aix, .int .i64 asz, .int .i64 asp, .int .i64 anum, .int .i64 aden, .int .i64 aday] 27)).alloc (.cells #[.string bst, .int .i64 bix, .int .i64 bsz, .int .i64 bsp, .int .i64 bnum, .int .i64 bden, .int .i64 bday] 27)).alloc (.cells #[.string cst, .int .i64 cix, .int .i64 csz, .int .i64 csp, .int .i64 cnum, .int .i64 cden, .int .i64 cday] 27)) := by (repeat' (first | (with_reducible exact Below.refl _ _) | (with_reducible assumption) | (with_reducible refine Below.alloc ?_ ?_ _) | (with_reducible refine Below.drew ?_) | (with_reducible refine below_drewN ?_ _) | (with_reducible refine Below.setCell ?_ ?_ _) | (with_reducible refine below_step ?_ (by with_reducible assumption) ?_) | go_size))
  have hx : (((w.alloc (.cells #[.string ast, .int .i64 aix, .int .i64 asz, .int .i64 asp, .int .i64 anum, .int .i64 aden, .int .i64 aday] 27)).alloc (.cells #[.string bst, .int .i64 bix, .int .i64 bsz, .int .i64 bsp, .int .i64 bnum, .int .i64 bden, .int .i64 bday] 27)).alloc (.cells #[.string cst, .int .i64 cix, .int .i64 csz, .int .i64 csp, .int .i64 cnum, .int .i64 cden, .int .i64 cday] 27)).heap[w.heap.size]? = some (.cells #[.string ast, .int .i64 aix, .int .i64 asz, .int .i64 asp, .int .i64 anum, .int .i64 aden, .int .i64 aday] 27) := old_alloc _ (old_alloc _ (heap_alloc_new w _))
  have hy : (((w.alloc (.cells #[.string ast, .int .i64 aix, .int .i64 asz, .int .i64 asp, .int .i64 anum, .int .i64 aden, .int .i64 aday] 27)).alloc (.cells #[.string bst, .int .i64 bix, .int .i64 bsz, .int .i64 bsp, .int .i64 bnum, .int .i64 bden, .int .i64 bday] 27)).alloc (.cells #[.string cst, .int .i64 cix, .int .i64 csz, .int .i64 csp, .int .i64 cnum, .int .i64 cden, .int .i64 cday] 27)).heap[w.heap.size + 1]? = some (.cells #[.string bst, .int .i64 bix, .int .i64 bsz, .int .i64 bsp, .int .i64 bnum, .int .i64 bden, .int .i64 bday] 27) := by
    have := heap_alloc_new (w.alloc (.cells #[.string ast, .int .i64 aix, .int .i64 asz, .int .i64 asp, .int .i64 anum, .int .i64 aden, .int .i64 aday] 27)) (.cells #[.string bst, .int .i64 bix, .int .i64 bsz, .int .i64 bsp, .int .i64 bnum, .int .i64 bden, .int .i64 bday] 27)
    rw [World.size_alloc] at this
    exact old_alloc _ this
  have hz : (((w.alloc (.cells #[.string ast, .int .i64 aix, .int .i64 asz, .int .i64 asp, .int .i64 anum, .int .i64 aden, .int .i64 aday] 27)).alloc (.cells #[.string bst, .int .i64 bix, .int .i64 bsz, .int .i64 bsp, .int .i64 bnum, .int .i64 bden, .int .i64 bday] 27)).alloc (.cells #[.string cst, .int .i64 cix, .int .i64 csz, .int .i64 csp, .int .i64 cnum, .int .i64 cden, .int .i64 cday] 27)).heap[w.heap.size + 1 + 1]? = some (.cells #[.string cst, .int .i64 cix, .int .i64 csz, .int .i64 csp, .int .i64 cnum, .int .i64 cden, .int .i64 cday] 27) := by
    have := heap_alloc_new ((w.alloc (.cells #[.string ast, .int .i64 aix, .int .i64 asz, .int .i64 asp, .int .i64 anum, .int .i64 aden, .int .i64 aday] 27)).alloc (.cells #[.string bst, .int .i64 bix, .int .i64 bsz, .int .i64 bsp, .int .i64 bnum, .int .i64 bden, .int .i64 bday] 27)) (.cells #[.string cst, .int .i64 cix, .int .i64 csz, .int .i64 csp, .int .i64 cnum, .int .i64 cden, .int .i64 cday] 27)
    rw [World.size_alloc, World.size_alloc] at this
    exact this
  have HX := Lib.hid hx
  have HY := Lib.hid hy
  have HZ := Lib.hid hz
  clear hx hy hz
  go_enter Try.func4, Try.ntmps4
  go_wp2_with fail
  refine (CA.out _).mono ?_
  rintro e w1 ⟨rfl, hb1⟩
  have hbw1 := hA.trans (hb1.mono hA.size)
  have HX := Lib.hid (bb hb1 HX.out)
  have HY := Lib.hid (bb hb1 HY.out)
  have HZ := Lib.hid (bb hb1 HZ.out)
  clear hb1 hA
  have a0 := cell_of_row w1 _ 0 _ _ _ HX.out
  have a1 := cell_of_row w1 _ 1 _ _ _ HX.out
  have a2 := cell_of_row w1 _ 2 _ _ _ HX.out
  have a3 := cell_of_row w1 _ 3 _ _ _ HX.out
  have a4 := cell_of_row w1 _ 4 _ _ _ HX.out
  have a5 := cell_of_row w1 _ 5 _ _ _ HX.out
  have a6 := cell_of_row w1 _ 6 _ _ _ HX.out
  go_wp2_with fail
  refine (VA.out _).mono ?_
  rintro e w2 ⟨rfl, hbq⟩
  have hbw2 := hbw1.trans (hbq.mono hbw1.size)
  have HX := Lib.hid (bb hbq HX.out)
  have HY := Lib.hid (bb hbq HY.out)
  have HZ := Lib.hid (bb hbq HZ.out)
  clear hbq a0 a1 a2 a3 a4 a5 a6
  cases ga with
  | false =>
    clear HX HY HZ
    go_wp2_with fail
    refine (CA.out _).mono ?_
    rintro e wz ⟨rfl, hbz⟩
    go_wp2
    go_ret
    exact ⟨rfl, hbw2.trans (hbz.mono hbw2.size)⟩
  | true =>
  have b0 := cell_of_row w2 _ 0 _ _ _ HY.out
  have b1 := cell_of_row w2 _ 1 _ _ _ HY.out
  have b2 := cell_of_row w2 _ 2 _ _ _ HY.out
  have b3 := cell_of_row w2 _ 3 _ _ _ HY.out
  have b4 := cell_of_row w2 _ 4 _ _ _ HY.out
  have b5 := cell_of_row w2 _ 5 _ _ _ HY.out
  have b6 := cell_of_row w2 _ 6 _ _ _ HY.out
  go_wp2_with fail
  refine (VB.out _).mono ?_
  rintro e w3 ⟨rfl, hbq⟩
  have hbw3 := hbw2.trans (hbq.mono hbw2.size)
  have HX := Lib.hid (bb hbq HX.out)
  have HY := Lib.hid (bb hbq HY.out)
  have HZ := Lib.hid (bb hbq HZ.out)
  clear hbq b0 b1 b2 b3 b4 b5 b6
  cases gb with
  | false =>
    clear HX HY HZ
    go_wp2_with fail
    refine (CA.out _).mono ?_
    rintro e wz ⟨rfl, hbz⟩
    go_wp2
    go_ret
    exact ⟨rfl, hbw3.trans (hbz.mono hbw3.size)⟩
  | true =>
  have c0 := cell_of_row w3 _ 0 _ _ _ HZ.out
  have c1 := cell_of_row w3 _ 1 _ _ _ HZ.out
  have c2 := cell_of_row w3 _ 2 _ _ _ HZ.out
  have c3 := cell_of_row w3 _ 3 _ _ _ HZ.out
  have c4 := cell_of_row w3 _ 4 _ _ _ HZ.out
  have c5 := cell_of_row w3 _ 5 _ _ _ HZ.out
  have c6 := cell_of_row w3 _ 6 _ _ _ HZ.out
  go_wp2_with fail
  refine (VC.out _).mono ?_
  rintro e w4 ⟨rfl, hbq⟩
  have hbw4 := hbw3.trans (hbq.mono hbw3.size)
  have HX := Lib.hid (bb hbq HX.out)
  have HY := Lib.hid (bb hbq HY.out)
  have HZ := Lib.hid (bb hbq HZ.out)
  clear hbq c0 c1 c2 c3 c4 c5 c6
  cases gc with
  | false =>
    clear HX HY HZ
    go_wp2_with fail
    refine (CA.out _).mono ?_
    rintro e wz ⟨rfl, hbz⟩
    go_wp2
    go_ret
    exact ⟨rfl, hbw4.trans (hbz.mono hbw4.size)⟩
  | true =>
  obtain ⟨rfl, hq, hr, htot⟩ := HT.out (GA.out (by simp)) (GB.out (by simp)) (GC.out (by simp))
  have HTOT := Lib.hid htot
  have HHQ := Lib.hid hq
  clear HT htot hq
  have a0 := cell_of_row w4 _ 0 _ _ _ HX.out
  have a1 := cell_of_row w4 _ 1 _ _ _ HX.out
  have a2 := cell_of_row w4 _ 2 _ _ _ HX.out
  have a3 := cell_of_row w4 _ 3 _ _ _ HX.out
  have a4 := cell_of_row w4 _ 4 _ _ _ HX.out
  have a5 := cell_of_row w4 _ 5 _ _ _ HX.out
  have a6 := cell_of_row w4 _ 6 _ _ _ HX.out
  have b0 := cell_of_row w4 _ 0 _ _ _ HY.out
  have b1 := cell_of_row w4 _ 1 _ _ _ HY.out
  have b2 := cell_of_row w4 _ 2 _ _ _ HY.out
  have b3 := cell_of_row w4 _ 3 _ _ _ HY.out
  have b4 := cell_of_row w4 _ 4 _ _ _ HY.out
  have b5 := cell_of_row w4 _ 5 _ _ _ HY.out
  have b6 := cell_of_row w4 _ 6 _ _ _ HY.out
  have c0 := cell_of_row w4 _ 0 _ _ _ HZ.out
  have c1 := cell_of_row w4 _ 1 _ _ _ HZ.out
  have c2 := cell_of_row w4 _ 2 _ _ _ HZ.out
  have c3 := cell_of_row w4 _ 3 _ _ _ HZ.out
  have c4 := cell_of_row w4 _ 4 _ _ _ HZ.out
  have c5 := cell_of_row w4 _ 5 _ _ _ HZ.out
  have c6 := cell_of_row w4 _ 6 _ _ _ HZ.out
  have HBD := Lib.hid hbw4.drew
  have HX := Lib.hid (show w4.drew.heap[w.heap.size]? = _ from HX.out)
  have HY := Lib.hid (show w4.drew.heap[w.heap.size + 1]? = _ from HY.out)
  clear hbw4 HZ
  go_upto_region 3 with fail
  have HSB0 : ∀ w' : World, Below (w4).drew.heap.size (w4).drew w' → (w'.cell? ⟨w.heap.size, 0, none⟩ = some (.string ast) ∧ w'.cell? ⟨w.heap.size, 1, none⟩ = some (.int .i64 aix) ∧ w'.cell? ⟨w.heap.size, 2, none⟩ = some (.int .i64 asz) ∧ w'.cell? ⟨w.heap.size, 3, none⟩ = some (.int .i64 asp) ∧ w'.cell? ⟨w.heap.size, 4, none⟩ = some (.int .i64 anum) ∧ w'.cell? ⟨w.heap.size, 5, none⟩ = some (.int .i64 aden) ∧ w'.cell? ⟨w.heap.size, 6, none⟩ = some (.int .i64 aday) ∧ w'.cell? ⟨w.heap.size + 1, 0, none⟩ = some (.string bst) ∧ w'.cell? ⟨w.heap.size + 1, 1, none⟩ = some (.int .i64 bix) ∧ w'.cell? ⟨w.heap.size + 1, 2, none⟩ = some (.int .i64 bsz) ∧ w'.cell? ⟨w.heap.size + 1, 3, none⟩ = some (.int .i64 bsp) ∧ w'.cell? ⟨w.heap.size + 1, 4, none⟩ = some (.int .i64 bnum) ∧ w'.cell? ⟨w.heap.size + 1, 5, none⟩ = some (.int .i64 bden) ∧ w'.cell? ⟨w.heap.size + 1, 6, none⟩ = some (.int .i64 bday) ∧ w'.cell? ⟨w.heap.size + 1 + 1, 0, none⟩ = some (.string cst) ∧ w'.cell? ⟨w.heap.size + 1 + 1, 1, none⟩ = some (.int .i64 cix) ∧ w'.cell? ⟨w.heap.size + 1 + 1, 2, none⟩ = some (.int .i64 csz) ∧ w'.cell? ⟨w.heap.size + 1 + 1, 3, none⟩ = some (.int .i64 csp) ∧ w'.cell? ⟨w.heap.size + 1 + 1, 4, none⟩ = some (.int .i64 cnum) ∧ w'.cell? ⟨w.heap.size + 1 + 1, 5, none⟩ = some (.int .i64 cden) ∧ w'.cell? ⟨w.heap.size + 1 + 1, 6, none⟩ = some (.int .i64 cday)) := fun w' hb => ⟨bc hb a0, bc hb a1, bc hb a2, bc hb a3, bc hb a4, bc hb a5, bc hb a6, bc hb b0, bc hb b1, bc hb b2, bc hb b3, bc hb b4, bc hb b5, bc hb b6, bc hb c0, bc hb c1, bc hb c2, bc hb c3, bc hb c4, bc hb c5, bc hb c6⟩
  refine wp_region_held_drew (S := fun w' => w'.cell? ⟨w.heap.size, 0, none⟩ = some (.string ast) ∧ w'.cell? ⟨w.heap.size, 1, none⟩ = some (.int .i64 aix) ∧ w'.cell? ⟨w.heap.size, 2, none⟩ = some (.int .i64 asz) ∧ w'.cell? ⟨w.heap.size, 3, none⟩ = some (.int .i64 asp) ∧ w'.cell? ⟨w.heap.size, 4, none⟩ = some (.int .i64 anum) ∧ w'.cell? ⟨w.heap.size, 5, none⟩ = some (.int .i64 aden) ∧ w'.cell? ⟨w.heap.size, 6, none⟩ = some (.int .i64 aday) ∧ w'.cell? ⟨w.heap.size + 1, 0, none⟩ = some (.string bst) ∧ w'.cell? ⟨w.heap.size + 1, 1, none⟩ = some (.int .i64 bix) ∧ w'.cell? ⟨w.heap.size + 1, 2, none⟩ = some (.int .i64 bsz) ∧ w'.cell? ⟨w.heap.size + 1, 3, none⟩ = some (.int .i64 bsp) ∧ w'.cell? ⟨w.heap.size + 1, 4, none⟩ = some (.int .i64 bnum) ∧ w'.cell? ⟨w.heap.size + 1, 5, none⟩ = some (.int .i64 bden) ∧ w'.cell? ⟨w.heap.size + 1, 6, none⟩ = some (.int .i64 bday) ∧ w'.cell? ⟨w.heap.size + 1 + 1, 0, none⟩ = some (.string cst) ∧ w'.cell? ⟨w.heap.size + 1 + 1, 1, none⟩ = some (.int .i64 cix) ∧ w'.cell? ⟨w.heap.size + 1 + 1, 2, none⟩ = some (.int .i64 csz) ∧ w'.cell? ⟨w.heap.size + 1 + 1, 3, none⟩ = some (.int .i64 csp) ∧ w'.cell? ⟨w.heap.size + 1 + 1, 4, none⟩ = some (.int .i64 cnum) ∧ w'.cell? ⟨w.heap.size + 1 + 1, 5, none⟩ = some (.int .i64 cden) ∧ w'.cell? ⟨w.heap.size + 1 + 1, 6, none⟩ = some (.int .i64 cday)) (by kernel_rfl) (HSB0 _ (Below.refl _ _)) (fun hHeld => ?_)
  have HSB := Lib.hid HSB0
  clear HSB0
  generalize (w4).drew = Wd at *
  clear a0 a1 a2 a3 a4 a5 a6 b0 b1 b2 b3 b4 b5 b6 c0 c1 c2 c3 c4 c5 c6
  refine wpAnyH_take (i := 0) (v := ?_) rfl (by kernel_rfl) (by kernel_rfl) (by kernel_rfl) (fun _ _ _ h => h) (Or.inl ⟨by rfl, ?_⟩) (by assumption) ?_
  rotate_left; · (intro w hSw; (try dsimp only at hSw); go_simp; try with_reducible rfl)
  try simp only [Act.put, List.getElem_toArray, List.getElem_cons_zero, List.getElem_cons_succ, List.setIfInBounds_toArray, List.set_cons_zero, List.set_cons_succ]
  refine wpAnyH_take (i := 1) (v := ?_) rfl (by kernel_rfl) (by kernel_rfl) (by kernel_rfl) (fun _ _ _ h => h) (Or.inl ⟨by rfl, ?_⟩) (by assumption) ?_
  rotate_left; · (intro w hSw; (try dsimp only at hSw); go_simp; try with_reducible rfl)
  try simp only [Act.put, List.getElem_toArray, List.getElem_cons_zero, List.getElem_cons_succ, List.setIfInBounds_toArray, List.set_cons_zero, List.set_cons_succ]
  refine wpAnyH_take (i := 3) (v := ?_) rfl (by kernel_rfl) (by kernel_rfl) (by kernel_rfl) (fun _ _ _ h => h) (Or.inl ⟨by rfl, ?_⟩) (by assumption) ?_
  rotate_left; · (intro w hSw; (try dsimp only at hSw); go_simp; try with_reducible rfl)
  try simp only [Act.put, List.getElem_toArray, List.getElem_cons_zero, List.getElem_cons_succ, List.setIfInBounds_toArray, List.set_cons_zero, List.set_cons_succ]
  refine wpAnyH_take (i := 4) (v := ?_) rfl (by kernel_rfl) (by kernel_rfl) (by kernel_rfl) (fun _ _ _ h => h) (Or.inl ⟨by rfl, ?_⟩) (by assumption) ?_
  rotate_left; · (intro w hSw; (try dsimp only at hSw); go_simp; try with_reducible rfl)
  try simp only [Act.put, List.getElem_toArray, List.getElem_cons_zero, List.getElem_cons_succ, List.setIfInBounds_toArray, List.set_cons_zero, List.set_cons_succ]
  refine wpAnyH_take (i := 6) (v := ?_) rfl (by kernel_rfl) (by kernel_rfl) (by kernel_rfl) (fun _ _ _ h => h) (Or.inl ⟨by rfl, ?_⟩) (by assumption) ?_
  rotate_left; · (intro w hSw; (try dsimp only at hSw); go_simp; try with_reducible rfl)
  try simp only [Act.put, List.getElem_toArray, List.getElem_cons_zero, List.getElem_cons_succ, List.setIfInBounds_toArray, List.set_cons_zero, List.set_cons_succ]
  refine wpAnyH_take (i := 7) (v := ?_) rfl (by kernel_rfl) (by kernel_rfl) (by kernel_rfl) (fun _ _ _ h => h) (Or.inl ⟨by rfl, ?_⟩) (by assumption) ?_
  rotate_left; · (intro w hSw; (try dsimp only at hSw); go_simp; try with_reducible rfl)
  try simp only [Act.put, List.getElem_toArray, List.getElem_cons_zero, List.getElem_cons_succ, List.setIfInBounds_toArray, List.set_cons_zero, List.set_cons_succ]
  refine wpAnyH_ready (rs := [2]) (by kernel_rfl) (by simp) ?_
  refine AllReadyH.cons rfl (fun K hK => ?_) AllReadyH.nil
  go_simp
  refine (C1.out _ (GA.out (by simp)) (GB.out (by simp))).mono ?_; rintro e w5 ⟨rfl, hb5⟩
  go_wp2_with fail
  refine hK.out _ _ (HSB.out _ hb5) (fun hNew => ?_)
  clear hK K hHeld
  have hHeld := hNew
  clear hNew
  try simp only [Act.put, List.getElem_toArray, List.getElem_cons_zero, List.getElem_cons_succ, List.setIfInBounds_toArray, List.set_cons_zero, List.set_cons_succ]
  refine wpAnyH_ready (rs := [5]) (by kernel_rfl) (by simp) ?_
  refine AllReadyH.cons rfl (fun K hK => ?_) AllReadyH.nil
  go_simp
  refine (C2.out _ (GB.out (by simp)) (GC.out (by simp))).mono ?_; rintro e w6 ⟨rfl, hb6⟩
  go_wp2_with fail
  refine hK.out _ _ (HSB.out _ (hb5.trans (hb6.mono hb5.size))) (fun hNew => ?_)
  clear hK K hHeld
  have hHeld := hNew
  clear hNew
  try simp only [Act.put, List.getElem_toArray, List.getElem_cons_zero, List.getElem_cons_succ, List.setIfInBounds_toArray, List.set_cons_zero, List.set_cons_succ]
  refine wpAnyH_ready (rs := [8]) (by kernel_rfl) (by simp) ?_
  refine AllReadyH.cons rfl (fun K hK => ?_) AllReadyH.nil
  go_simp
  refine (C3.out _ (GA.out (by simp)) (GC.out (by simp))).mono ?_; rintro e w7 ⟨rfl, hb7⟩
  go_wp2_with fail
  refine hK.out _ _ (HSB.out _ (hb5.trans ((hb6.trans (hb7.mono hb6.size)).mono hb5.size))) (fun hNew => ?_)
  clear hK K hHeld
  have hHeld := hNew
  clear hNew
  try simp only [Act.put, List.getElem_toArray, List.getElem_cons_zero, List.getElem_cons_succ, List.setIfInBounds_toArray, List.set_cons_zero, List.set_cons_succ]
  refine wpAnyH_take (i := 9) (v := ?_) rfl (by kernel_rfl) (by kernel_rfl) (by kernel_rfl) (fun _ _ _ h => h) (Or.inl ⟨by rfl, ?_⟩) (by assumption) ?_
  rotate_left; · (intro w hSw; (try dsimp only at hSw); go_simp; try with_reducible rfl)
  try simp only [Act.put, List.getElem_toArray, List.getElem_cons_zero, List.getElem_cons_succ, List.setIfInBounds_toArray, List.set_cons_zero, List.set_cons_succ]
  refine wpAnyH_take (i := 10) (v := ?_) rfl (by kernel_rfl) (by kernel_rfl) (by kernel_rfl) (fun _ _ _ h => h) (Or.inl ⟨by rfl, ?_⟩) (by assumption) ?_
  rotate_left; · (intro w hSw; (try dsimp only at hSw); go_simp; try with_reducible rfl)
  try simp only [Act.put, List.getElem_toArray, List.getElem_cons_zero, List.getElem_cons_succ, List.setIfInBounds_toArray, List.set_cons_zero, List.set_cons_succ]
  refine wpAnyH_take (i := 11) (v := ?_) rfl (by kernel_rfl) (by kernel_rfl) (by kernel_rfl) (fun _ _ _ h => h) (Or.inl ⟨by rfl, ?_⟩) (by assumption) ?_
  rotate_left; · (intro w hSw; (try dsimp only at hSw); go_simp; try with_reducible rfl)
  try simp only [Act.put, List.getElem_toArray, List.getElem_cons_zero, List.getElem_cons_succ, List.setIfInBounds_toArray, List.set_cons_zero, List.set_cons_succ]
  refine wpAnyH_done (by kernel_rfl) ?_ _
  have hb8 := hb5.trans ((hb6.trans (hb7.mono hb6.size)).mono hb5.size)
  have HB := Lib.hid (HBD.out.trans (hb8.mono HBD.out.size))
  have hx7 := bb hb8 HX.out
  have hy7 := bb hb8 HY.out
  have a0 := cell_of_row w7 _ 0 _ _ _ hx7
  have a1 := cell_of_row w7 _ 1 _ _ _ hx7
  have a2 := cell_of_row w7 _ 2 _ _ _ hx7
  have a3 := cell_of_row w7 _ 3 _ _ _ hx7
  have a4 := cell_of_row w7 _ 4 _ _ _ hx7
  have a5 := cell_of_row w7 _ 5 _ _ _ hx7
  have a6 := cell_of_row w7 _ 6 _ _ _ hx7
  have b0 := cell_of_row w7 _ 0 _ _ _ hy7
  have b1 := cell_of_row w7 _ 1 _ _ _ hy7
  have b2 := cell_of_row w7 _ 2 _ _ _ hy7
  have b3 := cell_of_row w7 _ 3 _ _ _ hy7
  have b4 := cell_of_row w7 _ 4 _ _ _ hy7
  have b5 := cell_of_row w7 _ 5 _ _ _ hy7
  have b6 := cell_of_row w7 _ 6 _ _ _ hy7
  have HX := Lib.hid hx7
  have HY := Lib.hid hy7
  clear hHeld HSB hb5 hb6 hb7 hb8 hx7 hy7 HBD
  go_wp2_with fail
  refine (C4.out _ (GB.out (by simp)) (GA.out (by simp))).mono ?_
  rintro e w8 ⟨rfl, hb8⟩
  have hx8 := bb hb8 HX.out
  have hy8 := bb hb8 HY.out
  have HB8 := Lib.hid (HB.out.trans (hb8.mono HB.out.size))
  clear a0 a1 a2 a3 a4 a5 a6 b0 b1 b2 b3 b4 b5 b6 hb8 HX HY HB
  have a0 := cell_of_row w8 _ 0 _ _ _ hx8
  have a1 := cell_of_row w8 _ 1 _ _ _ hx8
  have a2 := cell_of_row w8 _ 2 _ _ _ hx8
  have a3 := cell_of_row w8 _ 3 _ _ _ hx8
  have a4 := cell_of_row w8 _ 4 _ _ _ hx8
  have a5 := cell_of_row w8 _ 5 _ _ _ hx8
  have a6 := cell_of_row w8 _ 6 _ _ _ hx8
  have b0 := cell_of_row w8 _ 0 _ _ _ hy8
  have b1 := cell_of_row w8 _ 1 _ _ _ hy8
  have b2 := cell_of_row w8 _ 2 _ _ _ hy8
  have b3 := cell_of_row w8 _ 3 _ _ _ hy8
  have b4 := cell_of_row w8 _ 4 _ _ _ hy8
  have b5 := cell_of_row w8 _ 5 _ _ _ hy8
  have b6 := cell_of_row w8 _ 6 _ _ _ hy8
  clear hx8 hy8 C1 C2 C3 C4 VA VB VC CA GA GB GC
  have hqq := HQ.out
  rcases (show x = -1 ∨ x = 0 ∨ x = 1 by omega) with rfl | rfl | rfl
  · obtain rfl : q = false := by rw [HHQ.out]; rfl
    clear HHQ HQ hr
    go_wp2
    all_goals go_ret
    all_goals exact ⟨by have := HTOT.out; first | (simp; done) | (simp; omega), HB8.out⟩
  · obtain rfl : q = true := by rw [HHQ.out]; rfl
    clear HHQ HQ hr
    go_wp2
    all_goals go_ret
    all_goals exact ⟨by have := HTOT.out; first | (simp; done) | (simp; omega), HB8.out⟩
  · obtain rfl : q = false := by rw [HHQ.out]; rfl
    clear HHQ HQ hr
    go_wp2
    all_goals go_ret
    all_goals exact ⟨by have := HTOT.out; simp, HB8.out⟩

end Go.Proofs.Ytcgilfnhbliadaa
