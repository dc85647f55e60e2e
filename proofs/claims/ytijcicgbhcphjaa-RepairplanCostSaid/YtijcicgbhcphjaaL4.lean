/- The law Cost, walked. -/
import Derived.Test.YtijcicgbhcphjaaQ3
namespace Go.Proofs.Ytijcicgbhcphjaa
open Go.RowKit Go.Lib Go.ChangeMaps
set_option linter.unusedSimpArgs false

theorem costR_form (V : Vp) (js : List Jp) : ∃ a b c, costR V js = .tuple #[.int .i64 a, .int .i64 b, .int .i64 c] := by
  unfold costR
  split
  · unfold costV
    split
    · exact ⟨_, _, _, rfl⟩
    · exact ⟨_, _, _, rfl⟩
  · exact ⟨_, _, _, rfl⟩

set_option maxRecDepth 100000 in
set_option maxHeartbeats 8000000 in
theorem law_cost (v jv : Value) (V : Vp) (js : List Jp) (w : World) (hv : VwAt w v V) (hj : ReadsJ w jv js) :
    Calls Try.prog 9 #[v, jv] w fun e w' => e = .returned (.bool true) ∧ Below w.heap.size w w' := by
  have HV := Lib.hid hv
  have HJ := Lib.hid hj
  obtain ⟨ma, mc, ha, hc, ra, rl, rc, wa, wl, wc, rfl⟩ := hv.val
  obtain ⟨ja, jc, _, _, rfl, -⟩ := hj.at
  clear hv hj
  obtain ⟨ml, hml⟩ : ∃ ml, ml = V.mem.length := ⟨_, rfl⟩
  obtain ⟨nh, hnh⟩ : ∃ nh, nh = V.held.length := ⟨_, rfl⟩
  rw [← hml, ← hnh] at HV ⊢
  clear hml hnh
  obtain ⟨jl, hjl⟩ : ∃ jl, jl = js.length := ⟨_, rfl⟩
  rw [← hjl] at HJ ⊢
  clear hjl
  have CA := Lib.hid (fun W => awake_any W)
  have hA : Below w.heap.size w (w.alloc (.cells #[.slice ma ml mc, .slice ha nh hc, .slice ra rl rc, .slice wa wl wc] 26)) := (Below.refl _ _).alloc (Nat.le_refl _) _
  have hbx := heap_alloc_new w (.cells #[.slice ma ml mc, .slice ha nh hc, .slice ra rl rc, .slice wa wl wc] 26)
  go_enter Try.func9, Try.ntmps9
  go_wp2_with fail
  refine (CA.out _).mono ?_
  rintro e w1 ⟨rfl, hb1⟩
  have hbw1 := hA.trans (hb1.mono hA.size)
  have hbx1 := (hb1.block w.heap.size (by rw [World.size_alloc]; omega)).trans hbx
  have hlt1 := (Array.getElem?_eq_some_iff.1 hbx1).1
  have d0 := cell_of_row w1 _ 0 _ _ _ hbx1
  have d1 := cell_of_row w1 _ 1 _ _ _ hbx1
  have d2 := cell_of_row w1 _ 2 _ _ _ hbx1
  have d3 := cell_of_row w1 _ 3 _ _ _ hbx1
  have CS := Lib.hid (small_any _ (.slice none 0 0) _ V [] js w1 (HV.out.below hbw1) (nil_ints _) (HJ.out.below hbw1))
  clear hb1 hA hbx hbx1
  by_cases hsm : Small V [] js
  rotate_left
  · rw [decide_eq_false hsm] at CS
    clear hsm
    go_wp2_with fail
    refine CS.out.mono ?_
    rintro e w2 ⟨rfl, hb2⟩
    go_wp2_with fail
    refine (CA.out _).mono ?_
    rintro e w3 ⟨rfl, hb3⟩
    go_wp2
    go_ret
    exact ⟨rfl, hbw1.trans ((hb2.trans (hb3.mono hb2.size)).mono hbw1.size)⟩
  rw [decide_eq_true hsm] at CS
  have HREF := Lib.hid (show ∀ x ∈ V.held, x.refs.length ≤ 1000 from fun x hx => by have := (hsm.2.2.2.2.2.2.1 x hx).2.1; omega)
  have HN := Lib.hid (show V.held.length ≤ 1000 by have := hsm.2.1; omega)
  have HJN := Lib.hid (show js.length ≤ 1000 by have := hsm.2.2.2.2.2.1; omega)
  clear hsm
  go_wp2_with fail
  refine CS.out.mono ?_
  rintro e w2 ⟨rfl, hb2⟩
  have hbw2 := hbw1.trans (hb2.mono hbw1.size)
  have d0 := (hb2.cell (p := ⟨w.heap.size, 0, none⟩) hlt1).trans d0
  have d1 := (hb2.cell (p := ⟨w.heap.size, 1, none⟩) hlt1).trans d1
  have d2 := (hb2.cell (p := ⟨w.heap.size, 2, none⟩) hlt1).trans d2
  have d3 := (hb2.cell (p := ⟨w.heap.size, 3, none⟩) hlt1).trans d3
  have hlt2 := cell_lt d0
  have CC := Lib.hid (cost_any _ _ V js w2 (HV.out.below hbw2) (HJ.out.below hbw2) HREF.out HJN.out)
  obtain ⟨x, y, z, hform⟩ := costR_form V js
  rw [hform] at CC
  have HF := Lib.hid hform
  clear CS hform
  go_wp2_with fail
  refine CC.out.mono ?_
  rintro e w3 ⟨rfl, hb3⟩
  have hbw3 := hbw2.trans (hb3.mono hbw2.size)
  have d0 := (hb3.cell (p := ⟨w.heap.size, 0, none⟩) hlt2).trans d0
  have d1 := (hb3.cell (p := ⟨w.heap.size, 1, none⟩) hlt2).trans d1
  have d2 := (hb3.cell (p := ⟨w.heap.size, 2, none⟩) hlt2).trans d2
  have d3 := (hb3.cell (p := ⟨w.heap.size, 3, none⟩) hlt2).trans d3
  have CPl := Lib.hid (plain_any _ V w3 (HV.out.below hbw3) HN.out)
  clear CC
  go_wp2_with fail
  refine CPl.out.mono ?_
  rintro e w4 ⟨u, rfl, hu, hb4⟩
  have hbw4 := hbw3.trans (hb4.mono hbw3.size)
  have HU := Lib.hid hu
  obtain ⟨_, _, _, _, _, _, _, _, _, _, rfl⟩ := hu.val
  have CAl := Lib.hid (all_any _ js w4 (HJ.out.below hbw4) HJN.out)
  clear CPl hu d0 d1 d2 d3
  go_wp2_with fail
  refine CAl.out.mono ?_
  rintro e w5 ⟨j2, rfl, hj2, hb5⟩
  have hbw5 := hbw4.trans (hb5.mono hbw4.size)
  have CR := Lib.hid (cost_ref _ j2 V js w5 (HU.out.below hb5) hj2 HJN.out)
  obtain ⟨_, _, _, _, rfl, -⟩ := hj2.at
  rw [HF.out] at CR
  clear CAl hj2
  go_wp2_with fail
  refine CR.out.mono ?_
  rintro e w6 ⟨rfl, hb6⟩
  go_wp2
  go_ret
  exact ⟨by simp, hbw5.trans (hb6.mono hbw5.size)⟩

end Go.Proofs.Ytijcicgbhcphjaa
