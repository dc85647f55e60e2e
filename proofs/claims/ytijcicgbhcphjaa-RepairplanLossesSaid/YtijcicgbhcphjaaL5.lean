/- The law Losses, walked. -/
import Derived.Test.YtijcicgbhcphjaaS1
import Derived.Test.YtijcicgbhcphjaaS3
import Derived.Test.YtijcicgbhcphjaaL2
namespace Go.Proofs.Ytijcicgbhcphjaa
open Go.RowKit Go.Lib Go.ChangeMaps
set_option linter.unusedSimpArgs false

set_option maxRecDepth 100000 in
set_option maxHeartbeats 16000000 in
theorem law_losses (v lv : Value) (V : Vp) (ls : List Int) (w : World) (hv : VwAt w v V) (hl : ReadsI w lv ls) :
    Calls Try.prog 6 #[v, lv] w fun e w' => e = .returned (.bool true) ∧ Below w.heap.size w w' := by
  have HV := Lib.hid hv
  have HL := Lib.hid hl
  obtain ⟨ma, mc, ha, hc, ra, rl, rc, wa, wl, wc, rfl⟩ := hv.val
  obtain ⟨la, lc, _, _, rfl, -⟩ := hl.at
  clear hv hl
  obtain ⟨ml, hml⟩ : ∃ ml, ml = V.mem.length := ⟨_, rfl⟩
  obtain ⟨nh, hnh⟩ : ∃ nh, nh = V.held.length := ⟨_, rfl⟩
  rw [← hml, ← hnh] at HV ⊢
  have HNH := Lib.hid hnh
  clear hml hnh
  obtain ⟨ll, hll⟩ : ∃ ll, ll = ls.length := ⟨_, rfl⟩
  rw [← hll] at HL ⊢
  clear hll
  have CA := Lib.hid (fun W => awake_any W)
  have hA : Below w.heap.size w (w.alloc (.cells #[.slice ma ml mc, .slice ha nh hc, .slice ra rl rc, .slice wa wl wc] 26)) := (Below.refl _ _).alloc (Nat.le_refl _) _
  have hbx := heap_alloc_new w (.cells #[.slice ma ml mc, .slice ha nh hc, .slice ra rl rc, .slice wa wl wc] 26)
  go_enter Try.func6, Try.ntmps6
  go_wp2_with fail
  refine (CA.out _).mono ?_
  rintro e w1 ⟨rfl, hb1⟩
  have hbw1 := hA.trans (hb1.mono hA.size)
  have hbx1 := bb hb1 hbx
  have d0 := cell_of_row w1 _ 0 _ _ _ hbx1
  have d1 := cell_of_row w1 _ 1 _ _ _ hbx1
  have d2 := cell_of_row w1 _ 2 _ _ _ hbx1
  have d3 := cell_of_row w1 _ 3 _ _ _ hbx1
  have CS := Lib.hid (small_any _ _ (.slice none 0 0) V ls [] w1 (HV.out.below hbw1) (HL.out.below hbw1) (nil_jobs _))
  clear hb1 hA hbx hbx1
  by_cases hsm : Small V ls []
  rotate_left
  · rw [decide_eq_false hsm] at CS
    clear hsm
    go_wp2_with fail
    refine CS.out.mono ?_
    rintro e w2 ⟨rfl, hb2⟩
    go_wp2_with fail
    refine (CA.out _).mono ?_
    rintro e w3 ⟨rfl, hb3⟩
    go_wp2
    go_ret
    exact ⟨rfl, hbw1.trans ((hb2.trans (hb3.mono hb2.size)).mono hbw1.size)⟩
  rw [decide_eq_true hsm] at CS
  have HREF := Lib.hid (Small.refs hsm)
  have hh6 : V.held.length ≤ 6 := hsm.2.1
  have HH6 := Lib.hid hh6
  clear hsm hh6
  obtain ⟨c, ps, ss, n, hcp⟩ : ∃ (c : Int) (ps : List Pc) (ss : List ByteArray) (n : Int), (Fits V ls ∧ c = 0 ∧ ps = dmTo (goneB V.mem ls) V.held V.held.length ∧ ss = deadTo V (goneB V.mem ls) V.held.length ∧ n = leastI V (goneB V.mem ls)) ∨ (¬ Fits V ls ∧ c = 1 ∧ ps = [] ∧ ss = [] ∧ n = 0) := by
    by_cases h : Fits V ls
    · exact ⟨_, _, _, _, .inl ⟨h, rfl, rfl, rfl, rfl⟩⟩
    · exact ⟨_, _, _, _, .inr ⟨h, rfl, rfl, rfl, rfl⟩⟩
  have hpl : ps.length ≤ 4096 ∧ ss.length ≤ 6 := by
    rcases hcp with ⟨h, _, rfl, rfl, _⟩ | ⟨_, _, rfl, rfl, _⟩
    · have hsm := h.1.small.2.2.2.2
      have h1 := dmTo_len (goneB V.mem ls) V.held (fun k hk => (hsm k hk).at_small.1) V.held.length (Nat.le_refl _)
      have h2 := deadTo_len V (goneB V.mem ls) V.held.length
      have h3 := HH6.out
      omega
    · simp
  have f1 : ∀ (W w' : World) (e : Ending), (¬ Fits V ls ∧ e = .returned (.tuple #[.slice none 0 0, .int .i64 1])) ∨ (Fits V ls ∧ ∃ u, e = .returned (.tuple #[u, .int .i64 0]) ∧ OwnP w' W.heap.size u (dmTo (goneB V.mem ls) V.held V.held.length)) →
      ∃ u, e = .returned (.tuple #[u, .int .i64 c]) ∧ OwnP w' W.heap.size u ps := fun W w' e h => by
    rcases hcp with ⟨hf, rfl, rfl, _⟩ | ⟨hf, rfl, rfl, _⟩
    · rcases h with ⟨h, _⟩ | ⟨_, h⟩
      · exact absurd hf h
      · exact h
    · rcases h with ⟨_, h⟩ | ⟨h, _⟩
      · exact ⟨_, h, Own.nil _ _ _ _ _⟩
      · exact absurd h hf
  have f2 : ∀ (W w' : World) (e : Ending), (¬ Fits V ls ∧ e = .returned (.tuple #[.slice none 0 0, .int .i64 1])) ∨ (Fits V ls ∧ ∃ u, e = .returned (.tuple #[u, .int .i64 0]) ∧ OwnSt w' W.heap.size u (deadTo V (goneB V.mem ls) V.held.length)) →
      ∃ u, e = .returned (.tuple #[u, .int .i64 c]) ∧ OwnSt w' W.heap.size u ss := fun W w' e h => by
    rcases hcp with ⟨hf, rfl, _, rfl, _⟩ | ⟨hf, rfl, _, rfl, _⟩
    · rcases h with ⟨h, _⟩ | ⟨_, h⟩
      · exact absurd hf h
      · exact h
    · rcases h with ⟨_, h⟩ | ⟨h, _⟩
      · exact ⟨_, h, Own.nil _ _ _ _ _⟩
      · exact absurd h hf
  have f3 : (if Fits V ls then Value.tuple #[.int .i64 (leastI V (goneB V.mem ls)), .int .i64 0] else .tuple #[.int .i64 0, .int .i64 1]) = .tuple #[.int .i64 n, .int .i64 c] := by
    rcases hcp with ⟨hf, rfl, _, _, rfl⟩ | ⟨hf, rfl, _, _, rfl⟩
    · rw [if_pos hf]
    · rw [if_neg hf]
  have CD1 := Lib.hid (fun W (h : Below w.heap.size w W) => (damaged_any _ _ V ls W (HV.out.below h) (HL.out.below h) HREF.out).mono fun e w' hh => (show Below W.heap.size W w' ∧ ∃ u, e = .returned (.tuple #[u, .int .i64 c]) ∧ OwnP w' W.heap.size u ps from ⟨hh.1, f1 W w' e hh.2⟩))
  have CD2 := Lib.hid (fun W (u : Value) (hu : VwAt W u V) (h : Below w.heap.size w W) => (damaged_ref _ _ V ls W hu (HL.out.below h)).mono fun e w' hh => (show Below W.heap.size W w' ∧ ∃ u, e = .returned (.tuple #[u, .int .i64 c]) ∧ OwnP w' W.heap.size u ps from ⟨hh.1, f1 W w' e hh.2⟩))
  have CE1 := Lib.hid (fun W (h : Below w.heap.size w W) => (dead_any _ _ V ls W (HV.out.below h) (HL.out.below h) HREF.out).mono fun e w' hh => (show Below W.heap.size W w' ∧ ∃ u, e = .returned (.tuple #[u, .int .i64 c]) ∧ OwnSt w' W.heap.size u ss from ⟨hh.1, f2 W w' e hh.2⟩))
  have CE2 := Lib.hid (fun W (u : Value) (hu : VwAt W u V) (h : Below w.heap.size w W) => (dead_ref _ _ V ls W hu (HL.out.below h)).mono fun e w' hh => (show Below W.heap.size W w' ∧ ∃ u, e = .returned (.tuple #[u, .int .i64 c]) ∧ OwnSt w' W.heap.size u ss from ⟨hh.1, f2 W w' e hh.2⟩))
  have CL1 := Lib.hid (fun W (h : Below w.heap.size w W) => (least_any _ _ V ls W (HV.out.below h) (HL.out.below h) HREF.out).mono fun e w' hh => (show e = .returned (.tuple #[.int .i64 n, .int .i64 c]) ∧ Below W.heap.size W w' from ⟨by rw [hh.1, f3], hh.2⟩))
  have CL2 := Lib.hid (fun W (u : Value) (hu : VwAt W u V) (h : Below w.heap.size w W) => (least_ref _ _ V ls W hu (HL.out.below h)).mono fun e w' hh => (show e = .returned (.tuple #[.int .i64 n, .int .i64 c]) ∧ Below W.heap.size W w' from ⟨by rw [hh.1, f3], hh.2⟩))
  have CPL := Lib.hid (fun W (h : Below w.heap.size w W) => plain_any _ V W (HV.out.below h) (by have := HH6.out; omega))
  clear f1 f2 f3 hcp
  go_wp2_with fail
  refine CS.out.mono ?_
  rintro e w2 ⟨rfl, hb2⟩
  have d0 := bc hb2 d0
  have d1 := bc hb2 d1
  have d2 := bc hb2 d2
  have d3 := bc hb2 d3
  have hbw2 := hbw1.trans (hb2.mono hbw1.size)
  clear CS hb2 hbw1
  go_wp2_with fail
  refine (CD1.out _ hbw2).mono ?_
  rintro e w3 ⟨hb3, u1, rfl, o1⟩
  have d0 := bc hb3 d0
  have d1 := bc hb3 d1
  have d2 := bc hb3 d2
  have d3 := bc hb3 d3
  have hbw3 := hbw2.trans (hb3.mono hbw2.size)
  have HO1 := Lib.hid (Own.row o1 (by omega))
  clear CD1 hb3 hbw2 o1
  go_wp2_with fail
  refine (CPL.out _ hbw3).mono ?_
  rintro e w4 ⟨p4, rfl, hp4, hb4⟩
  have d0 := bc hb4 d0
  have d1 := bc hb4 d1
  have d2 := bc hb4 d2
  have d3 := bc hb4 d3
  have hbw4 := hbw3.trans (hb4.mono hbw3.size)
  have HO1 := Lib.hid (RowAt.below HO1.out hb4)
  clear hb4 hbw3
  go_wp2_with fail
  refine (CD2.out _ _ hp4 hbw4).mono ?_
  rintro e w5 ⟨hb5, u2, rfl, o2⟩
  have d0 := bc hb5 d0
  have d1 := bc hb5 d1
  have d2 := bc hb5 d2
  have d3 := bc hb5 d3
  have hbw5 := hbw4.trans (hb5.mono hbw4.size)
  have HO1 := Lib.hid (RowAt.below HO1.out hb5)
  have HO2 := Lib.hid (Own.row o2 (by omega))
  clear hb5 hbw4 o2 hp4 CD2
  go_wp2_with fail
  refine (CE1.out _ hbw5).mono ?_
  rintro e w6 ⟨hb6, u3, rfl, o3⟩
  have d0 := bc hb6 d0
  have d1 := bc hb6 d1
  have d2 := bc hb6 d2
  have d3 := bc hb6 d3
  have hbw6 := hbw5.trans (hb6.mono hbw5.size)
  have HO1 := Lib.hid (RowAt.below HO1.out hb6)
  have HO2 := Lib.hid (RowAt.below HO2.out hb6)
  have HO3 := Lib.hid (Own.row o3 (by omega))
  clear hb6 hbw5 o3 CE1
  go_wp2_with fail
  refine (CPL.out _ hbw6).mono ?_
  rintro e w7 ⟨p7, rfl, hp7, hb7⟩
  have d0 := bc hb7 d0
  have d1 := bc hb7 d1
  have d2 := bc hb7 d2
  have d3 := bc hb7 d3
  have hbw7 := hbw6.trans (hb7.mono hbw6.size)
  have HO1 := Lib.hid (RowAt.below HO1.out hb7)
  have HO2 := Lib.hid (RowAt.below HO2.out hb7)
  have HO3 := Lib.hid (RowAt.below HO3.out hb7)
  clear hb7 hbw6
  go_wp2_with fail
  refine (CE2.out _ _ hp7 hbw7).mono ?_
  rintro e w8 ⟨hb8, u4, rfl, o4⟩
  have d0 := bc hb8 d0
  have d1 := bc hb8 d1
  have d2 := bc hb8 d2
  have d3 := bc hb8 d3
  have hbw8 := hbw7.trans (hb8.mono hbw7.size)
  have HO1 := Lib.hid (RowAt.below HO1.out hb8)
  have HO2 := Lib.hid (RowAt.below HO2.out hb8)
  have HO3 := Lib.hid (RowAt.below HO3.out hb8)
  have HO4 := Lib.hid (Own.row o4 (by omega))
  clear hb8 hbw7 o4 hp7 CE2
  go_wp2_with fail
  refine (CL1.out _ hbw8).mono ?_
  rintro e w9 ⟨rfl, hb9⟩
  have d0 := bc hb9 d0
  have d1 := bc hb9 d1
  have d2 := bc hb9 d2
  have d3 := bc hb9 d3
  have hbw9 := hbw8.trans (hb9.mono hbw8.size)
  have HO1 := Lib.hid (RowAt.below HO1.out hb9)
  have HO2 := Lib.hid (RowAt.below HO2.out hb9)
  have HO3 := Lib.hid (RowAt.below HO3.out hb9)
  have HO4 := Lib.hid (RowAt.below HO4.out hb9)
  clear hb9 hbw8 CL1
  go_wp2_with fail
  refine (CPL.out _ hbw9).mono ?_
  rintro e w10 ⟨p10, rfl, hp10, hb10⟩
  have hbw10 := hbw9.trans (hb10.mono hbw9.size)
  have HO1 := Lib.hid (RowAt.below HO1.out hb10)
  have HO2 := Lib.hid (RowAt.below HO2.out hb10)
  have HO3 := Lib.hid (RowAt.below HO3.out hb10)
  have HO4 := Lib.hid (RowAt.below HO4.out hb10)
  clear hb10 hbw9 d0 d1 d2 d3
  go_wp2_with fail
  refine (CL2.out _ _ hp10 hbw10).mono ?_
  rintro e w11 ⟨rfl, hb11⟩
  have hbw11 := hbw10.trans (hb11.mono hbw10.size)
  have r1 := RowAt.below HO1.out hb11
  have r2 := RowAt.below HO2.out hb11
  have r3 := RowAt.below HO3.out hb11
  have r4 := RowAt.below HO4.out hb11
  obtain ⟨x1, y1, b1, g1, rfl, -, -, h1⟩ := r1.at
  obtain ⟨x2, y2, b2, g2, rfl, -, -, h2⟩ := r2.at
  obtain ⟨x3, y3, b3, g3, rfl, -, -, h3⟩ := r3.at
  obtain ⟨x4, y4, b4, g4, rfl, -, -, h4⟩ := r4.at
  have H1 := Lib.hid h1
  have H2 := Lib.hid h2
  have H3 := Lib.hid h3
  have H4 := Lib.hid h4
  obtain ⟨hp1, hp2⟩ := hpl
  clear r1 r2 r3 r4 h1 h2 h3 h4 HO1 HO2 HO3 HO4 hb11 hbw10 hp10 CL2
  go_wp2
  go_loopw [101, 17] (fun v101 _ wr => ∃ i : Nat, i ≤ ps.length ∧ v101 = .int .i64 i ∧ Below w11.heap.size w11 wr) (fun v101 _ _ => ps.length - (intOf v101).toNat)
  case atStart => exact ⟨0, Nat.zero_le _, rfl, Below.refl _ _⟩
  case round =>
    obtain ⟨i, hi, rfl, hbr⟩ := hrel
    by_cases hlt : i < ps.length
    · obtain ⟨rfl, f1⟩ := H1.out i hlt
      obtain ⟨rfl, f2⟩ := H2.out i hlt
      have a0 := bc hbr (f1 0 (by omega))
      have a1 := bc hbr (f1 1 (by omega))
      have c0 := bc hbr (f2 0 (by omega))
      have c1 := bc hbr (f2 1 (by omega))
      simp only [pcCell, Nat.add_zero] at a0 a1 c0 c1
      clear f1 f2
      generalize (ps.getD i default).st = st at *
      generalize (ps.getD i default).ix = ix at *
      go_wp2
      go_quiet (fail)
      go_wp2
      go_roundw
      case rel => exact ⟨i + 1, by omega, by go_num, below_drewN hbr _⟩
      case measure => simp [intOf]; omega
    · have hil : i = ps.length := by omega
      subst hil
      have hbw12 := hbw11.trans (hbr.mono hbw11.size)
      have H5 := Lib.hid (fun k (hk : k < ss.length) => (show _ ∧ wr.cell? ⟨b3, g3 + k * 1 + 0, none⟩ = _ from ⟨(H3.out k hk).1, bc hbr ((H3.out k hk).2 0 (by omega))⟩))
      have H6 := Lib.hid (fun k (hk : k < ss.length) => (show _ ∧ wr.cell? ⟨b4, g4 + k * 1 + 0, none⟩ = _ from ⟨(H4.out k hk).1, bc hbr ((H4.out k hk).2 0 (by omega))⟩))
      clear H1 H2 H3 H4 hbr hbw11
      obtain ⟨wo, hwo⟩ : ∃ wo, wo = wr := ⟨_, rfl⟩
      subst hwo
      go_wp2
      go_loopw [116, 18] (fun v116 _ wi => ∃ i : Nat, i ≤ ss.length ∧ v116 = .int .i64 i ∧ Below wo.heap.size wo wi) (fun v116 _ _ => ss.length - (intOf v116).toNat)
      case atStart => exact ⟨0, Nat.zero_le _, rfl, Below.refl _ _⟩
      case round =>
        obtain ⟨i, hi, rfl, hbr⟩ := hrel
        by_cases hlt : i < ss.length
        · obtain ⟨rfl, f1⟩ := H5.out i hlt
          obtain ⟨rfl, f2⟩ := H6.out i hlt
          have a0 := bc hbr f1
          have c0 := bc hbr f2
          simp only [stCell, Nat.add_zero, Nat.mul_one] at a0 c0
          clear f1 f2
          generalize ss.getD i ByteArray.empty = st at *
          go_wp2
          go_quiet (fail)
          go_wp2
          go_roundw
          case rel => exact ⟨i + 1, by omega, by go_num, below_drewN hbr _⟩
          case measure => simp [intOf]; omega
        · have hil : i = ss.length := by omega
          subst hil
          go_wp2
          go_ret
          exact ⟨rfl, hbw12.trans (hbr.mono hbw12.size)⟩

end Go.Proofs.Ytijcicgbhcphjaa
