/- The law Apply, walked. -/
import Derived.Test.YtijcicgbhcphjaaT7
import Derived.Test.YtijcicgbhcphjaaL2
namespace Go.Proofs.Ytijcicgbhcphjaa
open Go.RowKit Go.Lib Go.ChangeMaps
set_option linter.unusedSimpArgs false

theorem zeroV_at (w : World) : VwAt w zeroV ⟨[], [], [], []⟩ := by
  have h0 : ∀ (k : Nat) (f : Nat → Nat → Value), RowAt w (.slice none 0 0) k 0 f := fun k f => ⟨none, 0, rfl, Nat.le_refl _, by omega, fun h => absurd h (by omega)⟩
  exact ⟨_, _, _, _, rfl, h0 _ _, ⟨[], rfl, h0 _ _, fun i hi => by simp at hi⟩, h0 _ _, h0 _ _⟩

set_option maxRecDepth 100000 in
set_option maxHeartbeats 16000000 in
theorem law_apply (v lv jv : Value) (V : Vp) (ls : List Int) (js : List Jp) (w : World) (hv : VwAt w v V) (hl : ReadsI w lv ls) (hj : ReadsJ w jv js) :
    Calls Try.prog 7 #[v, lv, jv] w fun e w' => e = .returned (.bool true) ∧ Below w.heap.size w w' := by
  have HV := Lib.hid hv
  have HL := Lib.hid hl
  have HJ := Lib.hid hj
  obtain ⟨ma, mc, ha, hc, ra, rl, rc, wa, wl, wc, rfl⟩ := hv.val
  obtain ⟨la, lc, _, _, rfl, -⟩ := hl.at
  obtain ⟨ja, jc, _, _, rfl, -⟩ := hj.at
  clear hv hl hj
  obtain ⟨ml, hml⟩ : ∃ ml, ml = V.mem.length := ⟨_, rfl⟩
  obtain ⟨nh, hnh⟩ : ∃ nh, nh = V.held.length := ⟨_, rfl⟩
  rw [← hml, ← hnh] at HV ⊢
  clear hml hnh
  obtain ⟨ll, hll⟩ : ∃ ll, ll = ls.length := ⟨_, rfl⟩
  rw [← hll] at HL ⊢
  clear hll
  obtain ⟨jl, hjl⟩ : ∃ jl, jl = js.length := ⟨_, rfl⟩
  rw [← hjl] at HJ ⊢
  clear hjl
  have CA := Lib.hid (fun W => awake_any W)
  have hA : Below w.heap.size w (w.alloc (.cells #[.slice ma ml mc, .slice ha nh hc, .slice ra rl rc, .slice wa wl wc] 26)) := (Below.refl _ _).alloc (Nat.le_refl _) _
  have hbx := heap_alloc_new w (.cells #[.slice ma ml mc, .slice ha nh hc, .slice ra rl rc, .slice wa wl wc] 26)
  go_enter Try.func7, Try.ntmps7
  go_wp2_with fail
  refine (CA.out _).mono ?_
  rintro e w1 ⟨rfl, hb1⟩
  have hbw1 := hA.trans (hb1.mono hA.size)
  have hbx1 := bb hb1 hbx
  have HB1 := Lib.hid hbx1
  have d0 := cell_of_row w1 _ 0 _ _ _ hbx1
  have d1 := cell_of_row w1 _ 1 _ _ _ hbx1
  have d2 := cell_of_row w1 _ 2 _ _ _ hbx1
  have d3 := cell_of_row w1 _ 3 _ _ _ hbx1
  have CS := Lib.hid (small_any _ _ _ V ls js w1 (HV.out.below hbw1) (HL.out.below hbw1) (HJ.out.below hbw1))
  clear hb1 hA hbx hbx1
  by_cases hsm : Small V ls js
  rotate_left
  · rw [decide_eq_false hsm] at CS
    clear hsm
    go_wp2_with fail
    refine CS.out.mono ?_
    rintro e w2 ⟨rfl, hb2⟩
    go_wp2_with fail
    refine (CA.out _).mono ?_
    rintro e w3 ⟨rfl, hb3⟩
    go_wp2
    go_ret
    exact ⟨rfl, hbw1.trans ((hb2.trans (hb3.mono hb2.size)).mono hbw1.size)⟩
  rw [decide_eq_true hsm] at CS
  have HREF := Lib.hid (Small.refs hsm)
  have HSM := Lib.hid hsm
  clear hsm
  obtain ⟨c, VR, hcp⟩ : ∃ (c : Int) (VR : Vp), (¬ Fits V ls ∧ c = 1 ∧ VR = ⟨[], [], [], []⟩ ∧ checkB V ls js = false) ∨ (Fits V ls ∧ doAllP (goneB V.mem ls) V js = none ∧ c = 6 ∧ VR = ⟨[], [], [], []⟩ ∧ checkB V ls js = false) ∨
      (Fits V ls ∧ ∃ V', doAllP (goneB V.mem ls) V js = some V' ∧ c = 0 ∧ VR = cleanV (goneB V.mem ls) V' ∧ checkB V ls js = true) := by
    by_cases h : Fits V ls
    · cases hd : doAllP (goneB V.mem ls) V js with
      | none => exact ⟨_, _, .inr (.inl ⟨h, rfl, rfl, rfl, by unfold checkB; rw [hd]; simp⟩)⟩
      | some V' => exact ⟨_, _, .inr (.inr ⟨h, V', rfl, rfl, rfl, by unfold checkB; rw [hd, decide_eq_true h]; rfl⟩)⟩
    · exact ⟨_, _, .inl ⟨h, rfl, rfl, check_bad h⟩⟩
  have hchk : checkB V ls js = (c == 0) := by
    rcases hcp with ⟨_, rfl, _, h⟩ | ⟨_, _, rfl, _, h⟩ | ⟨_, V', _, rfl, _, h⟩ <;> rw [h] <;> rfl
  have f1 : ∀ (w' : World) (e : Ending), ((¬ Fits V ls ∧ e = .returned (.tuple #[zeroV, .int .i64 1])) ∨ (Fits V ls ∧ doAllP (goneB V.mem ls) V js = none ∧ e = .returned (.tuple #[zeroV, .int .i64 6])) ∨
      (Fits V ls ∧ ∃ V' u, doAllP (goneB V.mem ls) V js = some V' ∧ e = .returned (.tuple #[u, .int .i64 0]) ∧ VwAt w' u (cleanV (goneB V.mem ls) V'))) → ∃ u, e = .returned (.tuple #[u, .int .i64 c]) ∧ VwAt w' u VR := fun w' e h => by
    rcases hcp with ⟨hf, rfl, rfl, _⟩ | ⟨hf, hd, rfl, rfl, _⟩ | ⟨hf, V', hd, rfl, rfl, _⟩
    · rcases h with ⟨_, h⟩ | ⟨h, _⟩ | ⟨h, _⟩
      · exact ⟨_, h, zeroV_at _⟩
      · exact absurd h hf
      · exact absurd h hf
    · rcases h with ⟨h, _⟩ | ⟨_, _, h⟩ | ⟨_, V', u, h, _⟩
      · exact absurd hf h
      · exact ⟨_, h, zeroV_at _⟩
      · rw [hd] at h; cases h
    · rcases h with ⟨h, _⟩ | ⟨_, h, _⟩ | ⟨_, V2, u, h, h1, h2⟩
      · exact absurd hf h
      · rw [hd] at h; cases h
      · rw [hd] at h; cases h; exact ⟨u, h1, h2⟩
  have CY := Lib.hid (fun W (h : Below w.heap.size w W) => (apply_any _ _ _ V ls js W (HV.out.below h) (HL.out.below h) (HJ.out.below h) HREF.out).mono fun e w' hh => (show Below W.heap.size W w' ∧ ∃ u, e = .returned (.tuple #[u, .int .i64 c]) ∧ VwAt w' u VR from ⟨hh.1, f1 w' e hh.2⟩))
  have CZ := Lib.hid (fun W (u j : Value) (hu : VwAt W u V) (hj : ReadsJ W j js) (h : Below w.heap.size w W) => (Apply_ref u _ j V ls js W hu (HL.out.below h) hj).mono fun e w' hh => (show Below W.heap.size W w' ∧ ∃ u, e = .returned (.tuple #[u, .int .i64 c]) ∧ VwAt w' u VR from ⟨hh.1, f1 w' e hh.2⟩))
  have CPL := Lib.hid (fun W (h : Below w.heap.size w W) => plain_any _ V W (HV.out.below h) (by have := HSM.out.2.1; omega))
  have CAL := Lib.hid (fun W (h : Below w.heap.size w W) => all_any _ js W (HJ.out.below h) (by have := HSM.out.2.2.2.2.2.1; omega))
  have CC := Lib.hid (fun W (h : Below w.heap.size w W) => check_any _ _ _ V ls js W (HV.out.below h) (HL.out.below h) (HJ.out.below h) HREF.out)
  rw [hchk] at CC
  clear f1 hcp hchk
  go_wp2_with fail
  refine CS.out.mono ?_
  rintro e w2 ⟨rfl, hb2⟩
  have HB2 := Lib.hid (bb hb2 HB1.out)
  have d0 := bc hb2 d0
  have d1 := bc hb2 d1
  have d2 := bc hb2 d2
  have d3 := bc hb2 d3
  have hbw2 := hbw1.trans (hb2.mono hbw1.size)
  clear CS hb2 hbw1
  go_wp2_with fail
  refine (CY.out _ hbw2).mono ?_
  rintro e w3 ⟨hb3, u3, rfl, hu3⟩
  have HB3 := Lib.hid (bb hb3 HB2.out)
  have hbw3 := hbw2.trans (hb3.mono hbw2.size)
  have HU3 := Lib.hid hu3
  obtain ⟨xa1, xc1, xa2, xc2, xa3, xl3, xc3, xa4, xl4, xc4, rfl⟩ := hu3.val
  obtain ⟨vl1, hv1⟩ : ∃ vl1, vl1 = VR.mem.length := ⟨_, rfl⟩
  obtain ⟨vl2, hv2⟩ : ∃ vl2, vl2 = VR.held.length := ⟨_, rfl⟩
  rw [← hv1, ← hv2] at HU3 ⊢
  have HV1 := Lib.hid hv1
  have HV2 := Lib.hid hv2
  clear hu3 d0 d1 d2 d3 hb3 hbw2 hv1 hv2
  have hAl := sbell (w := w3) (.cells #[.slice xa1 vl1 xc1, .slice xa2 vl2 xc2, .slice xa3 xl3 xc3, .slice xa4 xl4 xc4] 26)
  have hbw4 := hbw3.trans (hAl.mono hbw3.size)
  have hk7 := heap_alloc_new w3 (.cells #[.slice xa1 vl1 xc1, .slice xa2 vl2 xc2, .slice xa3 xl3 xc3, .slice xa4 xl4 xc4] 26)
  have HB4 := Lib.hid (bb hAl HB3.out)
  have HU4 := Lib.hid (HU3.out.below hAl)
  have HK7 := Lib.hid hk7
  have d0 := cell_of_row w3 _ 0 _ _ _ HB3.out
  have d1 := cell_of_row w3 _ 1 _ _ _ HB3.out
  have d2 := cell_of_row w3 _ 2 _ _ _ HB3.out
  have d3 := cell_of_row w3 _ 3 _ _ _ HB3.out
  have dlt := cell_lt d0
  clear hAl hk7
  go_wp2_with fail
  generalize w3.alloc (.cells #[.slice xa1 vl1 xc1, .slice xa2 vl2 xc2, .slice xa3 xl3 xc3, .slice xa4 xl4 xc4] 26) = W4 at *
  refine (CPL.out _ hbw4).mono ?_
  rintro e w5 ⟨p5, rfl, hp5, hb5⟩
  have hbw5 := hbw4.trans (hb5.mono hbw4.size)
  have HB5 := Lib.hid (bb hb5 HB4.out)
  have HK75 := Lib.hid (bb hb5 HK7.out)
  have HU5 := Lib.hid (HU4.out.below hb5)
  have HP5 := Lib.hid hp5
  clear d0 d1 d2 d3 dlt hb5 hp5 hbw4 HB3 HB4 HK7 HU4
  go_wp2_with fail
  refine (CAL.out _ hbw5).mono ?_
  rintro e w6 ⟨a6, rfl, ha6, hb6⟩
  have hbw6 := hbw5.trans (hb6.mono hbw5.size)
  have HB6 := Lib.hid (bb hb6 HB5.out)
  have HK76 := Lib.hid (bb hb6 HK75.out)
  have HU6 := Lib.hid (HU5.out.below hb6)
  have CZ1 := Lib.hid (CZ.out w6 p5 a6 (HP5.out.below hb6) ha6 hbw6)
  clear hb6 ha6 hbw5 HB5 HK75 HU5
  go_wp2_with fail
  refine CZ1.out.mono ?_
  rintro e w7 ⟨hb7, u7, rfl, hu7⟩
  have hbw7 := hbw6.trans (hb7.mono hbw6.size)
  have HB7 := Lib.hid (bb hb7 HB6.out)
  have HK77 := Lib.hid (bb hb7 HK76.out)
  have HU7 := Lib.hid (HU6.out.below hb7)
  have HUR := Lib.hid hu7
  obtain ⟨ya1, yc1, ya2, yc2, ya3, yl3, yc3, ya4, yl4, yc4, rfl⟩ := hu7.val
  rw [← HV1.out, ← HV2.out] at HUR ⊢
  clear hb7 hu7 hbw6 HB6 HK76 HU6 CZ1 CZ
  have hAl := sbell (w := w7) (.cells #[.slice ya1 vl1 yc1, .slice ya2 vl2 yc2, .slice ya3 yl3 yc3, .slice ya4 yl4 yc4] 33)
  have hbw8 := hbw7.trans (hAl.mono hbw7.size)
  have CSV := Lib.hid (view_same _ _ VR _ (HU7.out.below hAl) (HUR.out.below hAl))
  have HB8 := Lib.hid (bb hAl HB7.out)
  have d0 := cell_of_row w7 _ 0 _ _ _ HK77.out
  have d1 := cell_of_row w7 _ 1 _ _ _ HK77.out
  have d2 := cell_of_row w7 _ 2 _ _ _ HK77.out
  have d3 := cell_of_row w7 _ 3 _ _ _ HK77.out
  have dlt := cell_lt d0
  clear hAl
  go_wp2_with fail
  refine CSV.out.mono ?_
  rintro e w9 ⟨rfl, hb9⟩
  have hbw9 := hbw8.trans (hb9.mono hbw8.size)
  have HB9 := Lib.hid (bb hb9 HB8.out)
  clear d0 d1 d2 d3 dlt CSV hb9 hbw8 HB8
  have d0 := cell_of_row w9 _ 0 _ _ _ HB9.out
  have d1 := cell_of_row w9 _ 1 _ _ _ HB9.out
  have d2 := cell_of_row w9 _ 2 _ _ _ HB9.out
  have d3 := cell_of_row w9 _ 3 _ _ _ HB9.out
  go_wp2_with fail
  refine (CC.out _ hbw9).mono ?_
  rintro e w10 ⟨rfl, hb10⟩
  go_wp2
  go_ret
  exact ⟨rfl, hbw9.trans (hb10.mono hbw9.size)⟩

end Go.Proofs.Ytijcicgbhcphjaa
