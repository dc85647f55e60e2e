/- The law Valid, walked. -/
import Derived.Test.YtijcicgbhcphjaaK3
namespace Go.Proofs.Ytijcicgbhcphjaa
open Go.RowKit Go.Lib Go.ChangeMaps
set_option linter.unusedSimpArgs false

theorem nil_jobs (w : World) : ReadsJ w (.slice none 0 0) [] := ⟨[], rfl, ⟨none, 0, rfl, Nat.le_refl _, by show 0 ≤ _; omega, fun h => absurd h (by show ¬ 0 < 0; omega)⟩, fun i hi => by simp at hi⟩
theorem nil_ints (w : World) : ReadsI w (.slice none 0 0) [] := ⟨none, 0, rfl, Nat.le_refl _, by show 0 ≤ _; omega, fun h => absurd h (by show ¬ 0 < 0; omega)⟩

set_option maxRecDepth 100000 in
set_option maxHeartbeats 4000000 in
theorem law_valid (v : Value) (V : Vp) (w : World) (hv : VwAt w v V) :
    Calls Try.prog 3 #[v] w fun e w' => e = .returned (.bool true) ∧ Below w.heap.size w w' := by
  have HV := Lib.hid hv
  obtain ⟨ma, mc, ha, hc, ra, rl, rc, wa, wl, wc, rfl⟩ := hv.val
  clear hv
  obtain ⟨ml, hml⟩ : ∃ ml, ml = V.mem.length := ⟨_, rfl⟩
  obtain ⟨nh, hnh⟩ : ∃ nh, nh = V.held.length := ⟨_, rfl⟩
  have HNH := Lib.hid hnh
  rw [← hml, ← hnh] at HV ⊢
  clear hml hnh
  have CA := Lib.hid (fun W => awake_any W)
  have hA : Below w.heap.size w (w.alloc (.cells #[.slice ma ml mc, .slice ha nh hc, .slice ra rl rc, .slice wa wl wc] 26)) := (Below.refl _ _).alloc (Nat.le_refl _) _
  have hbx := heap_alloc_new w (.cells #[.slice ma ml mc, .slice ha nh hc, .slice ra rl rc, .slice wa wl wc] 26)
  go_enter Try.func3, Try.ntmps3
  go_wp2_with fail
  refine (CA.out _).mono ?_
  rintro e w1 ⟨rfl, hb1⟩
  have hbw1 := hA.trans (hb1.mono hA.size)
  have hbx1 := (hb1.block w.heap.size (by rw [World.size_alloc]; omega)).trans hbx
  have d0 := cell_of_row w1 _ 0 _ _ _ hbx1
  have d1 := cell_of_row w1 _ 1 _ _ _ hbx1
  have d2 := cell_of_row w1 _ 2 _ _ _ hbx1
  have d3 := cell_of_row w1 _ 3 _ _ _ hbx1
  have CS := Lib.hid (small_any _ (.slice none 0 0) (.slice none 0 0) V [] [] w1 (HV.out.below hbw1) (nil_ints _) (nil_jobs _))
  clear hb1 hA hbx
  by_cases hsm : Small V [] []
  rotate_left
  · rw [decide_eq_false hsm] at CS
    clear hsm
    go_wp2_with fail
    refine CS.out.mono ?_
    rintro e w2 ⟨rfl, hb2⟩
    go_wp2_with fail
    refine (CA.out _).mono ?_
    rintro e w3 ⟨rfl, hb3⟩
    go_wp2
    go_ret
    exact ⟨rfl, hbw1.trans ((hb2.trans (hb3.mono hb2.size)).mono hbw1.size)⟩
  · rw [decide_eq_true hsm] at CS
    have hh : V.held.length ≤ 1000 := by have := hsm.2.1; omega
    have HH := Lib.hid hh
    clear hsm hh
    go_wp2_with fail
    refine CS.out.mono ?_
    rintro e w2 ⟨rfl, hb2⟩
    have hbw2 := hbw1.trans (hb2.mono hbw1.size)
    have hbx2 := (hb2.block w.heap.size (Array.getElem?_eq_some_iff.1 hbx1).1).trans hbx1
    have hb0 : Below w.heap.size w w2.drew := hbw2.drew
    have hbx3 : w2.drew.heap[w.heap.size]? = some (.cells #[.slice ma ml mc, .slice ha nh hc, .slice ra rl rc, .slice wa wl wc] 26) := hbx2
    clear d0 d1 d2 d3 hbx1 hbw1 hb2 CS hbx2 hbw2
    have hsb : ∀ w', Below w2.drew.heap.size w2.drew w' → w'.cell? ⟨w.heap.size, 0, none⟩ = some (.slice ma ml mc) ∧ w'.cell? ⟨w.heap.size, 1, none⟩ = some (.slice ha nh hc) ∧ w'.cell? ⟨w.heap.size, 2, none⟩ = some (.slice ra rl rc) ∧ w'.cell? ⟨w.heap.size, 3, none⟩ = some (.slice wa wl wc) := fun w' hb => by
      have hk := (hb.block w.heap.size (Array.getElem?_eq_some_iff.1 hbx3).1).trans hbx3
      exact ⟨cell_of_row _ _ 0 _ _ _ hk, cell_of_row _ _ 1 _ _ _ hk, cell_of_row _ _ 2 _ _ _ hk, cell_of_row _ _ 3 _ _ _ hk⟩
    have hs0 := hsb _ (Below.refl _ _)
    have HSB := Lib.hid hsb
    have HVW := Lib.hid (fun W (h : Below w2.drew.heap.size w2.drew W) => HV.out.below (hb0.trans (h.mono hb0.size)))
    have CV := Lib.hid (fun W h => valid_any _ V W (HVW.out W h))
    have CP := Lib.hid (fun W h => plain_any _ V W (HVW.out W h) HH.out)
    have CR := Lib.hid (fun W u (h : VwAt W u V) => valid_ref u V W h)
    clear hsb hbx3 HV HVW
    go_upto_region 3 with fail
    refine wp_region_held_drew (S := fun w' => w'.cell? ⟨w.heap.size, 0, none⟩ = some (.slice ma ml mc) ∧ w'.cell? ⟨w.heap.size, 1, none⟩ = some (.slice ha nh hc) ∧ w'.cell? ⟨w.heap.size, 2, none⟩ = some (.slice ra rl rc) ∧ w'.cell? ⟨w.heap.size, 3, none⟩ = some (.slice wa wl wc)) (by kernel_rfl) hs0 (fun hHeld => ?_)
    generalize w2.drew = W at *
    clear hs0
    refine wpAnyH_take (i := 0) (v := ?_) rfl (by kernel_rfl) (by kernel_rfl) (by kernel_rfl) (fun _ _ _ h => h) (Or.inl ⟨by rfl, ?_⟩) (by assumption) ?_
    rotate_left; · (intro w hSw; (try dsimp only at hSw); go_simp; try with_reducible rfl)
    try simp only [Act.put, List.getElem_toArray, List.getElem_cons_zero, List.getElem_cons_succ, List.setIfInBounds_toArray, List.set_cons_zero, List.set_cons_succ]
    refine wpAnyH_take (i := 2) (v := ?_) rfl (by kernel_rfl) (by kernel_rfl) (by kernel_rfl) (fun _ _ _ h => h) (Or.inl ⟨by rfl, ?_⟩) (by assumption) ?_
    rotate_left; · (intro w hSw; (try dsimp only at hSw); go_simp; try with_reducible rfl)
    try simp only [Act.put, List.getElem_toArray, List.getElem_cons_zero, List.getElem_cons_succ, List.setIfInBounds_toArray, List.set_cons_zero, List.set_cons_succ]
    refine wpAnyH_ready (rs := [1]) (by kernel_rfl) (by simp) ?_
    refine AllReadyH.cons rfl (fun K hK => ?_) AllReadyH.nil
    go_simp
    refine (CV.out W (Below.refl _ _)).mono ?_
    rintro e w3 ⟨rfl, hb3⟩
    go_wp2_with fail
    have hSw3 := HSB.out _ hb3
    refine hK.out _ _ hSw3 (fun hNew => ?_)
    clear hK K hNew
    (try clear hHeld)
    have hHeld := hSw3
    try simp only [Act.put, List.getElem_toArray, List.getElem_cons_zero, List.getElem_cons_succ, List.setIfInBounds_toArray, List.set_cons_zero, List.set_cons_succ]
    refine wpAnyH_ready (rs := [3]) (by kernel_rfl) (by simp) ?_
    refine AllReadyH.cons rfl (fun K hK => ?_) AllReadyH.nil
    go_simp
    refine (CP.out w3 hb3).mono ?_
    rintro e w4 ⟨u, rfl, hu, hb4⟩
    have hb34 := hb3.trans (hb4.mono hb3.size)
    have HU := Lib.hid hu
    obtain ⟨_, _, _, _, _, _, _, _, _, _, rfl⟩ := hu.val
    clear hu
    go_wp2_with fail
    have hSw4 := HSB.out _ hb34
    refine hK.out _ _ hSw4 (fun hNew => ?_)
    clear hK K hNew
    (try clear hHeld)
    have hHeld := hSw4
    try simp only [Act.put, List.getElem_toArray, List.getElem_cons_zero, List.getElem_cons_succ, List.setIfInBounds_toArray, List.set_cons_zero, List.set_cons_succ]
    refine wpAnyH_ready (rs := [4]) (by kernel_rfl) (by simp) ?_
    refine AllReadyH.cons rfl (fun K hK => ?_) AllReadyH.nil
    go_simp
    refine (CR.out w4 _ HU.out).mono ?_
    rintro e w5 ⟨rfl, hb5⟩
    have hb35 := hb34.trans (hb5.mono hb34.size)
    go_wp2_with fail
    have hSw5 := HSB.out _ hb35
    refine hK.out _ _ hSw5 (fun hNew => ?_)
    clear hK K hNew
    (try clear hHeld)
    have hHeld := hSw5
    try simp only [Act.put, List.getElem_toArray, List.getElem_cons_zero, List.getElem_cons_succ, List.setIfInBounds_toArray, List.set_cons_zero, List.set_cons_succ]
    have hbF := hb0.trans (hb35.mono hb0.size)
    refine wpAnyH_take (i := 5) (v := ?_) rfl (by kernel_rfl) (by kernel_rfl) (by kernel_rfl) (fun _ _ _ h => h) (Or.inl ⟨by rfl, ?_⟩) (by assumption) ?_
    rotate_left; · (intro w hSw; (try dsimp only at hSw); go_simp; try with_reducible rfl)
    try simp only [Act.put, List.getElem_toArray, List.getElem_cons_zero, List.getElem_cons_succ, List.setIfInBounds_toArray, List.set_cons_zero, List.set_cons_succ]
    refine wpAnyH_take (i := 6) (v := ?_) rfl (by kernel_rfl) (by kernel_rfl) (by kernel_rfl) (fun _ _ _ h => h) (Or.inl ⟨by rfl, ?_⟩) (by assumption) ?_
    rotate_left; · (intro w hSw; (try dsimp only at hSw); go_simp; try with_reducible rfl)
    try simp only [Act.put, List.getElem_toArray, List.getElem_cons_zero, List.getElem_cons_succ, List.setIfInBounds_toArray, List.set_cons_zero, List.set_cons_succ]
    refine wpAnyH_done (by kernel_rfl) ?_ _
    go_wp2
    go_ret
    exact ⟨by simp, hbF⟩

end Go.Proofs.Ytijcicgbhcphjaa
