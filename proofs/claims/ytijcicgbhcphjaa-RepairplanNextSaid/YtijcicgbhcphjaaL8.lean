/- The law Next, walked. -/
import Derived.Test.YtijcicgbhcphjaaW1
import Derived.Test.YtijcicgbhcphjaaL2
namespace Go.Proofs.Ytijcicgbhcphjaa
open Go.RowKit Go.Lib Go.ChangeMaps
set_option linter.unusedSimpArgs false

set_option maxRecDepth 100000 in
set_option maxHeartbeats 16000000 in
theorem law_next (v lv jv : Value) (V : Vp) (ls : List Int) (js : List Jp) (a b : Int) (w : World) (hv : VwAt w v V) (hl : ReadsI w lv ls) (hj : ReadsJ w jv js) :
    Calls Try.prog 10 #[v, lv, jv, .int .i64 a, .int .i64 b] w fun e w' => e = .returned (.bool true) ∧ Below w.heap.size w w' := by
  have HV := Lib.hid hv
  have HL := Lib.hid hl
  have HJ := Lib.hid hj
  obtain ⟨ma, mc, ha, hc, ra, rl, rc, wa, wl, wc, rfl⟩ := hv.val
  obtain ⟨la, lc, _, _, rfl, -⟩ := hl.at
  obtain ⟨ja, jc, _, _, rfl, -⟩ := hj.at
  clear hv hl hj
  obtain ⟨ml, hml⟩ : ∃ ml, ml = V.mem.length := ⟨_, rfl⟩
  obtain ⟨nh, hnh⟩ : ∃ nh, nh = V.held.length := ⟨_, rfl⟩
  rw [← hml, ← hnh] at HV ⊢
  clear hml hnh
  obtain ⟨ll, hll⟩ : ∃ ll, ll = ls.length := ⟨_, rfl⟩
  rw [← hll] at HL ⊢
  clear hll
  obtain ⟨jl, hjl⟩ : ∃ jl, jl = js.length := ⟨_, rfl⟩
  rw [← hjl] at HJ ⊢
  clear hjl
  have CA := Lib.hid (fun W => awake_any W)
  have hA : Below w.heap.size w (w.alloc (.cells #[.slice ma ml mc, .slice ha nh hc, .slice ra rl rc, .slice wa wl wc] 26)) := (Below.refl _ _).alloc (Nat.le_refl _) _
  have hbx := heap_alloc_new w (.cells #[.slice ma ml mc, .slice ha nh hc, .slice ra rl rc, .slice wa wl wc] 26)
  go_enter Try.func10, Try.ntmps10
  go_wp2_with fail
  refine (CA.out _).mono ?_
  rintro e w1 ⟨rfl, hb1⟩
  have hbw1 := hA.trans (hb1.mono hA.size)
  have hbx1 := bb hb1 hbx
  have d0 : w1.cell? ⟨w.heap.size, 0, none⟩ = some (.slice ma ml mc) := cell_of_row w1 _ 0 _ _ _ hbx1
  have d1 : w1.cell? ⟨w.heap.size, 1, none⟩ = some (.slice ha nh hc) := cell_of_row w1 _ 1 _ _ _ hbx1
  have d2 : w1.cell? ⟨w.heap.size, 2, none⟩ = some (.slice ra rl rc) := cell_of_row w1 _ 2 _ _ _ hbx1
  have d3 : w1.cell? ⟨w.heap.size, 3, none⟩ = some (.slice wa wl wc) := cell_of_row w1 _ 3 _ _ _ hbx1
  have CS := Lib.hid (small_any _ _ _ V ls js w1 (HV.out.below hbw1) (HL.out.below hbw1) (HJ.out.below hbw1))
  clear hb1 hA hbx hbx1
  by_cases hsm : Small V ls js
  rotate_left
  · rw [decide_eq_false hsm] at CS
    clear hsm
    go_wp2_with fail
    refine CS.out.mono ?_
    rintro e w2 ⟨rfl, hb2⟩
    go_wp2_with fail
    refine (CA.out _).mono ?_
    rintro e w3 ⟨rfl, hb3⟩
    go_wp2
    go_ret
    exact ⟨rfl, hbw1.trans ((hb2.trans (hb3.mono hb2.size)).mono hbw1.size)⟩
  rw [decide_eq_true hsm] at CS
  have HREF := Lib.hid (Small.refs hsm)
  have HN := Lib.hid (show V.held.length ≤ 1000 by have := hsm.2.1; omega)
  have HJN := Lib.hid (show js.length ≤ 1000 by have := hsm.2.2.2.2.2.1; omega)
  have HFR := Lib.hid (show ∀ j ∈ js, j.from_.length ≤ 1000 from fun j hj => by have := (hsm.2.2.2.2.2.2.2 j hj).1; omega)
  clear hsm
  obtain ⟨c, fs, hcp⟩ : ∃ (c : Int) (fs : List Jp), (NxOk V ls a b ∧ c = 0 ∧ fs = js.filter (nextB V ls a b)) ∨ (¬ NxOk V ls a b ∧ c = 1 ∧ fs = []) := by
    by_cases h : NxOk V ls a b
    · exact ⟨_, _, .inl ⟨h, rfl, rfl⟩⟩
    · exact ⟨_, _, .inr ⟨h, rfl, rfl⟩⟩
  have hjl : fs.length ≤ 1000 ∧ ∀ j ∈ fs, j.from_.length ≤ 1000 := by
    rcases hcp with ⟨_, _, rfl⟩ | ⟨_, _, rfl⟩
    · exact ⟨Nat.le_trans (List.length_filter_le _ _) HJN.out, fun j hj => HFR.out j (List.mem_filter.1 hj).1⟩
    · exact ⟨by simp, fun j hj => by simp at hj⟩
  have HJL := Lib.hid hjl
  have f1 : ∀ (W w' : World) (e : Ending), (¬ NxOk V ls a b ∧ e = .returned (.tuple #[.slice none 0 0, .int .i64 1])) ∨ (NxOk V ls a b ∧ ∃ u, e = .returned (.tuple #[u, .int .i64 0]) ∧ OwnJ w' W.heap.size u (js.filter (nextB V ls a b))) →
      ∃ u, e = .returned (.tuple #[u, .int .i64 c]) ∧ ReadsJ w' u fs := fun W w' e h => by
    rcases hcp with ⟨hf, rfl, rfl⟩ | ⟨hf, rfl, rfl⟩
    · rcases h with ⟨h, _⟩ | ⟨_, u, h, ho⟩
      · exact absurd hf h
      · exact ⟨u, h, ho.reads (by have := HJL.out.1; omega) (fun j hj => by have := HJL.out.2 j hj; omega)⟩
    · rcases h with ⟨_, h⟩ | ⟨h, _⟩
      · exact ⟨_, h, nil_jobs _⟩
      · exact absurd h hf
  have f2 : ∀ (w' : World) (e : Ending), (¬ NxOk V ls a b ∧ e = .returned (.tuple #[.slice none 0 0, .int .i64 1])) ∨ (NxOk V ls a b ∧ ∃ u, e = .returned (.tuple #[u, .int .i64 0]) ∧ ReadsJ w' u (js.filter (nextB V ls a b))) →
      ∃ u, e = .returned (.tuple #[u, .int .i64 c]) ∧ ReadsJ w' u fs := fun w' e h => by
    rcases hcp with ⟨hf, rfl, rfl⟩ | ⟨hf, rfl, rfl⟩
    · rcases h with ⟨h, _⟩ | ⟨_, u, h, ho⟩
      · exact absurd hf h
      · exact ⟨u, h, ho⟩
    · rcases h with ⟨_, h⟩ | ⟨h, _⟩
      · exact ⟨_, h, nil_jobs _⟩
      · exact absurd h hf
  have CD1 := Lib.hid (fun W (h : Below w.heap.size w W) => (next_any _ _ _ V ls js a b W (HV.out.below h) (HL.out.below h) (HJ.out.below h) HREF.out HJN.out HFR.out).mono fun e w' hh => (show Below W.heap.size W w' ∧ ∃ u, e = .returned (.tuple #[u, .int .i64 c]) ∧ ReadsJ w' u fs from ⟨hh.1, f1 W w' e hh.2⟩))
  have CD2 := Lib.hid (fun W (u jv2 : Value) (hu : VwAt W u V) (hj2 : ReadsJ W jv2 js) (h : Below w.heap.size w W) => (next_ref _ _ _ V ls js a b W hu (HL.out.below h) hj2 HJN.out HFR.out).mono fun e w' hh => (show Below W.heap.size W w' ∧ ∃ u, e = .returned (.tuple #[u, .int .i64 c]) ∧ ReadsJ w' u fs from ⟨hh.1, f2 w' e hh.2⟩))
  have CPL := Lib.hid (fun W (h : Below w.heap.size w W) => plain_any _ V W (HV.out.below h) HN.out)
  have CAL := Lib.hid (fun W (h : Below w.heap.size w W) => all_any _ js W (HJ.out.below h) HJN.out)
  clear f1 f2 hcp hjl
  go_wp2_with fail
  refine CS.out.mono ?_
  rintro e w2 ⟨rfl, hb2⟩
  have d0 := bc hb2 d0
  have d1 := bc hb2 d1
  have d2 := bc hb2 d2
  have d3 := bc hb2 d3
  have hbw2 := hbw1.trans (hb2.mono hbw1.size)
  clear CS hb2 hbw1
  go_wp2_with fail
  refine (CD1.out _ hbw2).mono ?_
  rintro e w3 ⟨hb3, u3, rfl, hj3⟩
  have d0 := bc hb3 d0
  have d1 := bc hb3 d1
  have d2 := bc hb3 d2
  have d3 := bc hb3 d3
  have hbw3 := hbw2.trans (hb3.mono hbw2.size)
  have HJ3 := Lib.hid hj3
  clear CD1 hb3 hbw2 hj3
  go_wp2_with fail
  refine (CPL.out _ hbw3).mono ?_
  rintro e w4 ⟨p4, rfl, hp4, hb4⟩
  have hbw4 := hbw3.trans (hb4.mono hbw3.size)
  have HJ4 := Lib.hid (HJ3.out.below hb4)
  clear hb4 hbw3 d0 d1 d2 d3 HJ3
  go_wp2_with fail
  refine (CAL.out _ hbw4).mono ?_
  rintro e w5 ⟨j5, rfl, hj5, hb5⟩
  have hbw5 := hbw4.trans (hb5.mono hbw4.size)
  have HJ5 := Lib.hid (HJ4.out.below hb5)
  have hp5 := hp4.below hb5
  clear hb5 hbw4 hp4 HJ4
  go_wp2_with fail
  refine (CD2.out _ _ _ hp5 hj5 hbw5).mono ?_
  rintro e w6 ⟨hb6, u6, rfl, hj6⟩
  have hbw6 := hbw5.trans (hb6.mono hbw5.size)
  have CSS := Lib.hid (same_same _ _ fs w6 (HJ5.out.below hb6) hj6)
  clear hb6 hbw5 hp5 CD2 hj6 hj5 HJ5
  go_wp2_with fail
  refine CSS.out.mono ?_
  rintro e w7 ⟨rfl, hb7⟩
  go_wp2
  go_ret
  exact ⟨rfl, hbw6.trans (hb7.mono hbw6.size)⟩

end Go.Proofs.Ytijcicgbhcphjaa
