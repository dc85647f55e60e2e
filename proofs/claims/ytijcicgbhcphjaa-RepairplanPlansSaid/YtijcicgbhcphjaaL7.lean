/- The law Plans, walked. -/
import Derived.Test.YtijcicgbhcphjaaT9
import Derived.Test.YtijcicgbhcphjaaU1
import Derived.Test.YtijcicgbhcphjaaL2
namespace Go.Proofs.Ytijcicgbhcphjaa
open Go.RowKit Go.Lib Go.ChangeMaps
set_option linter.unusedSimpArgs false

set_option maxRecDepth 100000 in
set_option maxHeartbeats 16000000 in
theorem law_plans (v lv : Value) (V : Vp) (ls : List Int) (w : World) (hv : VwAt w v V) (hl : ReadsI w lv ls) :
    Calls Try.prog 4 #[v, lv] w fun e w' => e = .returned (.bool true) ∧ Below w.heap.size w w' := by
  have HV := Lib.hid hv
  have HL := Lib.hid hl
  obtain ⟨ma, mc, ha, hc, ra, rl, rc, wa, wl, wc, rfl⟩ := hv.val
  obtain ⟨la, lc, _, _, rfl, -⟩ := hl.at
  clear hv hl
  obtain ⟨ml, hml⟩ : ∃ ml, ml = V.mem.length := ⟨_, rfl⟩
  obtain ⟨nh, hnh⟩ : ∃ nh, nh = V.held.length := ⟨_, rfl⟩
  rw [← hml, ← hnh] at HV ⊢
  clear hml hnh
  obtain ⟨ll, hll⟩ : ∃ ll, ll = ls.length := ⟨_, rfl⟩
  rw [← hll] at HL ⊢
  clear hll
  have CA := Lib.hid (fun W => awake_any W)
  have hA : Below w.heap.size w (w.alloc (.cells #[.slice ma ml mc, .slice ha nh hc, .slice ra rl rc, .slice wa wl wc] 26)) := (Below.refl _ _).alloc (Nat.le_refl _) _
  have hbx := heap_alloc_new w (.cells #[.slice ma ml mc, .slice ha nh hc, .slice ra rl rc, .slice wa wl wc] 26)
  go_enter Try.func4, Try.ntmps4
  go_wp2_with fail
  refine (CA.out _).mono ?_
  rintro e w1 ⟨rfl, hb1⟩
  have hbw1 := hA.trans (hb1.mono hA.size)
  have hbx1 := bb hb1 hbx
  have d0 := cell_of_row w1 _ 0 _ _ _ hbx1
  have d1 := cell_of_row w1 _ 1 _ _ _ hbx1
  have d2 := cell_of_row w1 _ 2 _ _ _ hbx1
  have d3 := cell_of_row w1 _ 3 _ _ _ hbx1
  have CS := Lib.hid (small_any _ _ (.slice none 0 0) V ls [] w1 (HV.out.below hbw1) (HL.out.below hbw1) (nil_jobs _))
  clear hb1 hA hbx hbx1
  by_cases hsm : Small V ls []
  rotate_left
  · rw [decide_eq_false hsm] at CS
    clear hsm
    go_wp2_with fail
    refine CS.out.mono ?_
    rintro e w2 ⟨rfl, hb2⟩
    go_wp2_with fail
    refine (CA.out _).mono ?_
    rintro e w3 ⟨rfl, hb3⟩
    go_wp2
    go_ret
    exact ⟨rfl, hbw1.trans ((hb2.trans (hb3.mono hb2.size)).mono hbw1.size)⟩
  rw [decide_eq_true hsm] at CS
  have HREF := Lib.hid (Small.refs hsm)
  have HH6 := Lib.hid (show V.held.length ≤ 6 from hsm.2.1)
  clear hsm
  obtain ⟨c, js, hcp⟩ : ∃ (c : Int) (js : List Jp), (Fits V ls ∧ c = 0 ∧ js = (planR V (goneB V.mem ls)).2) ∨ (¬ Fits V ls ∧ c = 1 ∧ js = []) := by
    by_cases h : Fits V ls
    · exact ⟨_, _, .inl ⟨h, rfl, rfl⟩⟩
    · exact ⟨_, _, .inr ⟨h, rfl, rfl⟩⟩
  have hjl : js.length ≤ 4096 ∧ ∀ j ∈ js, j.from_.length ≤ 1000000 := by
    rcases hcp with ⟨h, _, rfl⟩ | ⟨_, _, rfl⟩
    · refine ⟨planR_len _ h.1, fun j hj => ?_⟩
      have := (pjob_facts h.1 ((planR_all (goneB V.mem ls) h.1).2.2.2 j hj)).2.1
      omega
    · exact ⟨by simp, fun j hj => by simp at hj⟩
  have HJL := Lib.hid hjl
  have f1 : ∀ (W w' : World) (e : Ending), (¬ Fits V ls ∧ e = .returned (.tuple #[.slice none 0 0, .int .i64 1])) ∨ (Fits V ls ∧ ∃ u, e = .returned (.tuple #[u, .int .i64 0]) ∧ OwnJ w' W.heap.size u (planR V (goneB V.mem ls)).2) →
      ∃ u, e = .returned (.tuple #[u, .int .i64 c]) ∧ ReadsJ w' u js := fun W w' e h => by
    rcases hcp with ⟨hf, rfl, rfl⟩ | ⟨hf, rfl, rfl⟩
    · rcases h with ⟨h, _⟩ | ⟨_, u, h, ho⟩
      · exact absurd hf h
      · exact ⟨u, h, ho.reads (by have := HJL.out.1; omega) HJL.out.2⟩
    · rcases h with ⟨_, h⟩ | ⟨h, _⟩
      · exact ⟨_, h, nil_jobs _⟩
      · exact absurd h hf
  have f2 : ∀ (W w' : World) (e : Ending), (¬ Fits V ls ∧ e = .returned (.tuple #[.slice none 0 0, .int .i64 1])) ∨ (Fits V ls ∧ ∃ u, e = .returned (.tuple #[u, .int .i64 0]) ∧ OwnJ7 w' W.heap.size u (planR V (goneB V.mem ls)).2) →
      ∃ u, e = .returned (.tuple #[u, .int .i64 c]) ∧ ReadsJ w' u js := fun W w' e h => by
    rcases hcp with ⟨hf, rfl, rfl⟩ | ⟨hf, rfl, rfl⟩
    · rcases h with ⟨h, _⟩ | ⟨_, u, h, ho⟩
      · exact absurd hf h
      · exact ⟨u, h, ho.reads (by have := HJL.out.1; omega) HJL.out.2⟩
    · rcases h with ⟨_, h⟩ | ⟨h, _⟩
      · exact ⟨_, h, nil_jobs _⟩
      · exact absurd h hf
  have CD1 := Lib.hid (fun W (h : Below w.heap.size w W) => (plan_any _ _ V ls W (HV.out.below h) (HL.out.below h) HREF.out).mono fun e w' hh => (show Below W.heap.size W w' ∧ ∃ u, e = .returned (.tuple #[u, .int .i64 c]) ∧ ReadsJ w' u js from ⟨hh.1, f1 W w' e hh.2⟩))
  have CD2 := Lib.hid (fun W (u : Value) (hu : VwAt W u V) (h : Below w.heap.size w W) => (plan_ref _ _ V ls W hu (HL.out.below h)).mono fun e w' hh => (show Below W.heap.size W w' ∧ ∃ u, e = .returned (.tuple #[u, .int .i64 c]) ∧ ReadsJ w' u js from ⟨hh.1, f2 W w' e hh.2⟩))
  have CPL := Lib.hid (fun W (h : Below w.heap.size w W) => plain_any _ V W (HV.out.below h) (by have := HH6.out; omega))
  clear f1 f2 hcp hjl
  go_wp2_with fail
  refine CS.out.mono ?_
  rintro e w2 ⟨rfl, hb2⟩
  have d0 := bc hb2 d0
  have d1 := bc hb2 d1
  have d2 := bc hb2 d2
  have d3 := bc hb2 d3
  have hbw2 := hbw1.trans (hb2.mono hbw1.size)
  clear CS hb2 hbw1
  go_wp2_with fail
  refine (CD1.out _ hbw2).mono ?_
  rintro e w3 ⟨hb3, u3, rfl, hj3⟩
  have d0 := bc hb3 d0
  have d1 := bc hb3 d1
  have d2 := bc hb3 d2
  have d3 := bc hb3 d3
  have hbw3 := hbw2.trans (hb3.mono hbw2.size)
  have HJ3 := Lib.hid hj3
  clear CD1 hb3 hbw2 hj3
  go_wp2_with fail
  refine (CPL.out _ hbw3).mono ?_
  rintro e w4 ⟨p4, rfl, hp4, hb4⟩
  have hbw4 := hbw3.trans (hb4.mono hbw3.size)
  have HJ4 := Lib.hid (HJ3.out.below hb4)
  clear hb4 hbw3 d0 d1 d2 d3 HJ3
  go_wp2_with fail
  refine (CD2.out _ _ hp4 hbw4).mono ?_
  rintro e w5 ⟨hb5, u5, rfl, hj5⟩
  have hbw5 := hbw4.trans (hb5.mono hbw4.size)
  have CSS := Lib.hid (same_same _ _ js w5 (HJ4.out.below hb5) hj5)
  clear hb5 hbw4 hp4 CD2 hj5 HJ4
  go_wp2_with fail
  refine CSS.out.mono ?_
  rintro e w6 ⟨rfl, hb6⟩
  go_wp2
  go_ret
  exact ⟨rfl, hbw5.trans (hb6.mono hbw5.size)⟩

end Go.Proofs.Ytijcicgbhcphjaa
