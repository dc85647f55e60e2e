/- The laws Order and Cut, walked. -/
import Derived.Test.YtcgilfnhbliadaaE1
namespace Go.Proofs.Ytcgilfnhbliadaa
open Go.RowKit Go.Lib Go.ChangeMaps
set_option linter.unusedSimpArgs false

set_option maxRecDepth 100000 in
set_option maxHeartbeats 8000000 in
theorem law_order (v : Value) (ts : List Tk) (w : World) (hv : ReadsT w v ts) : Calls Try.prog 7 #[v] w fun e w' => e = .returned (.bool true) ∧ Below w.heap.size w w' := by
  have HV := Lib.hid hv
  obtain ⟨ja, jc, _, _, rfl, -⟩ := hv.at
  clear hv
  have CA := Lib.hid (fun W => awake_any W)
  have CF := Lib.hid (fun W (h : Below w.heap.size w W) => few_any _ _ _ (reads_one (HV.out.below h)))
  go_enter Try.func7, Try.ntmps7
  go_wp2_with fail
  refine (CA.out _).mono ?_
  rintro e w1 ⟨rfl, hb1⟩
  have CF1 := Lib.hid (CF.out w1 hb1)
  clear CF
  go_wp2_with fail
  refine CF1.out.mono ?_
  rintro e w2 ⟨rfl, hb2⟩
  have hbw := hb1.trans (((sb0 _).trans (hb2.mono (sb0 _).size)).mono hb1.size)
  clear CF1
  by_cases hf : FewL [(Value.slice ja ts.length jc, ts)]
  rotate_left
  · rw [decide_eq_false hf]
    clear hf hb1 hb2
    go_wp2_with fail
    refine (CA.out _).mono ?_
    rintro e w3 ⟨rfl, hb3⟩
    go_wp2
    go_ret
    exact ⟨rfl, hbw.trans (hb3.mono hbw.size)⟩
  rw [decide_eq_true hf]
  have hn : ts.length ≤ 20 := ((fewL_one _ _).1 hf).1
  clear hf hb1 hb2
  have CO := Lib.hid (Order_any _ ts w2 (HV.out.below hbw) (by omega))
  go_wp2_with fail
  refine CO.out.mono ?_
  rintro e w3 ⟨hb3, hcase⟩
  have hbw3 := hbw.trans (hb3.mono hbw.size)
  have CL := Lib.hid (all_any _ ts w3 (HV.out.below hbw3) (by omega))
  clear CO hb3 hbw
  have hcase : ∃ (u : Value) (us : List Tk) (er : Int), e = .returned (.tuple #[u, .int .i64 er]) ∧ ReadsT w3 u us ∧ ((¬ AllOk ts ∧ us = [] ∧ er = 1) ∨ (AllOk ts ∧ us = orderP ts ∧ er = 0)) := by
    rcases hcase with ⟨h, rfl⟩ | ⟨h, u, rfl, hr⟩
    · exact ⟨_, [], 1, rfl, ReadsT.nil _, .inl ⟨h, rfl, rfl⟩⟩
    · exact ⟨_, _, 0, rfl, hr, .inr ⟨h, rfl, rfl⟩⟩
  obtain ⟨u, us, er, rfl, hr, hcase⟩ := hcase
  have HR := Lib.hid hr
  have HC := Lib.hid hcase
  obtain ⟨ua, uc, _, _, rfl, -⟩ := hr.at
  clear hr hcase
  go_wp2_with fail
  refine CL.out.mono ?_
  rintro e w4 ⟨v4, rfl, ho4, hb4⟩
  have hbw4 := hbw3.trans (hb4.mono hbw3.size)
  have CR := Lib.hid (Order_ref _ ts w4 (ho4.reads (by omega)) (by omega))
  have HR4 := Lib.hid (HR.out.below hb4)
  obtain ⟨a4, c4, rfl⟩ := ho4.slice
  clear CL HR hb4 ho4 hbw3
  go_wp2_with fail
  refine CR.out.mono ?_
  rintro e w5 ⟨hb5, hcase⟩
  have hbw5 := hbw4.trans (hb5.mono hbw4.size)
  have hcase : ∃ (u : Value), e = .returned (.tuple #[u, .int .i64 er]) ∧ ReadsT w5 u us := by
    rcases hcase with ⟨h, rfl⟩ | ⟨h, u, rfl, hr⟩
    · rcases HC.out with ⟨_, rfl, rfl⟩ | ⟨h2, _⟩
      · exact ⟨_, rfl, ReadsT.nil _⟩
      · exact absurd h2 h
    · rcases HC.out with ⟨h2, _⟩ | ⟨_, rfl, rfl⟩
      · exact absurd h h2
      · exact ⟨_, rfl, hr⟩
  obtain ⟨v5, rfl, hr5⟩ := hcase
  have CS := Lib.hid (same_same _ _ us w5 (HR4.out.below hb5) hr5)
  obtain ⟨a5, c5, _, _, rfl, -⟩ := hr5.at
  clear CR HC HR4 hb5 hr5 hbw4
  go_wp2_with fail
  refine CS.out.mono ?_
  rintro e w6 ⟨rfl, hb6⟩
  go_wp2
  go_ret
  exact ⟨by simp, hbw5.trans (hb6.mono hbw5.size)⟩

set_option maxRecDepth 100000 in
set_option maxHeartbeats 8000000 in
theorem law_cut (v : Value) (ts : List Tk) (b : Int) (w : World) (hv : ReadsT w v ts) (hb : b ≤ 9223372036854775807) : Calls Try.prog 5 #[v, .int .i64 b] w fun e w' => e = .returned (.bool true) ∧ Below w.heap.size w w' := by
  have HV := Lib.hid hv
  obtain ⟨ja, jc, _, _, rfl, -⟩ := hv.at
  clear hv
  have HBB := Lib.hid hb
  have CA := Lib.hid (fun W => awake_any W)
  have CF := Lib.hid (fun W (h : Below w.heap.size w W) => few_any _ _ _ (reads_one (HV.out.below h)))
  clear hb
  go_enter Try.func5, Try.ntmps5
  go_wp2_with fail
  refine (CA.out _).mono ?_
  rintro e w1 ⟨rfl, hb1⟩
  have CF1 := Lib.hid (CF.out w1 hb1)
  clear CF
  go_wp2_with fail
  refine CF1.out.mono ?_
  rintro e w2 ⟨rfl, hb2⟩
  have hbw := hb1.trans (((sb0 _).trans (hb2.mono (sb0 _).size)).mono hb1.size)
  clear CF1
  by_cases hf : FewL [(Value.slice ja ts.length jc, ts)]
  rotate_left
  · rw [decide_eq_false hf]
    clear hf hb1 hb2
    go_wp2_with fail
    refine (CA.out _).mono ?_
    rintro e w3 ⟨rfl, hb3⟩
    go_wp2
    go_ret
    exact ⟨rfl, hbw.trans (hb3.mono hbw.size)⟩
  rw [decide_eq_true hf]
  have hn : ts.length ≤ 20 := ((fewL_one _ _).1 hf).1
  clear hf hb1 hb2
  have CO := Lib.hid (Cut_any _ ts b w2 (HV.out.below hbw) (by omega) HBB.out)
  go_wp2_with fail
  refine CO.out.mono ?_
  rintro e w3 ⟨hb3, hcase⟩
  have hbw3 := hbw.trans (hb3.mono hbw.size)
  have CL := Lib.hid (all_any _ ts w3 (HV.out.below hbw3) (by omega))
  clear CO hb3 hbw
  have hcase : ∃ (u : Value) (us : List Tk) (n er : Int), e = .returned (.tuple #[u, .int .i64 n, .int .i64 er]) ∧ ReadsT w3 u us ∧ ((¬ (AllOk ts ∧ 0 ≤ b) ∧ us = [] ∧ n = 0 ∧ er = 1) ∨ ((AllOk ts ∧ 0 ≤ b) ∧ us = cutP (orderP ts) b ∧ n = sumP (cutP (orderP ts) b) ∧ er = 0)) := by
    rcases hcase with ⟨h, rfl⟩ | ⟨h, u, rfl, hr⟩
    · exact ⟨_, [], 0, 1, rfl, ReadsT.nil _, .inl ⟨h, rfl, rfl, rfl⟩⟩
    · exact ⟨_, _, _, 0, rfl, hr, .inr ⟨h, rfl, rfl, rfl⟩⟩
  obtain ⟨u, us, n, er, rfl, hr, hcase⟩ := hcase
  have HR := Lib.hid hr
  have HC := Lib.hid hcase
  obtain ⟨ua, uc, _, _, rfl, -⟩ := hr.at
  clear hr hcase
  go_wp2_with fail
  refine CL.out.mono ?_
  rintro e w4 ⟨v4, rfl, ho4, hb4⟩
  have hbw4 := hbw3.trans (hb4.mono hbw3.size)
  have CR := Lib.hid (Cut_ref _ ts b w4 (ho4.reads (by omega)) (by omega) HBB.out)
  have HR4 := Lib.hid (HR.out.below hb4)
  obtain ⟨a4, c4, rfl⟩ := ho4.slice
  clear CL HR hb4 ho4 hbw3
  go_wp2_with fail
  refine CR.out.mono ?_
  rintro e w5 ⟨hb5, hcase⟩
  have hbw5 := hbw4.trans (hb5.mono hbw4.size)
  have hcase : ∃ (u : Value), e = .returned (.tuple #[u, .int .i64 n, .int .i64 er]) ∧ ReadsT w5 u us := by
    rcases hcase with ⟨h, rfl⟩ | ⟨h, u, rfl, hr⟩
    · rcases HC.out with ⟨_, rfl, rfl, rfl⟩ | ⟨h2, _⟩
      · exact ⟨_, rfl, ReadsT.nil _⟩
      · exact absurd h2 h
    · rcases HC.out with ⟨h2, _⟩ | ⟨_, rfl, rfl, rfl⟩
      · exact absurd h h2
      · exact ⟨_, rfl, hr⟩
  obtain ⟨v5, rfl, hr5⟩ := hcase
  have CS := Lib.hid (same_same _ _ us w5 (HR4.out.below hb5) hr5)
  obtain ⟨a5, c5, _, _, rfl, -⟩ := hr5.at
  clear CR HC HR4 hb5 hr5 hbw4
  go_wp2_with fail
  refine CS.out.mono ?_
  rintro e w6 ⟨rfl, hb6⟩
  go_wp2
  go_ret
  exact ⟨by simp, hbw5.trans (hb6.mono hbw5.size)⟩

end Go.Proofs.Ytcgilfnhbliadaa
