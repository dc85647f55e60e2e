/- gives. -/
import Derived.Test.YtijcicgbhcphjaaV1
namespace Go.Proofs.Ytijcicgbhcphjaa
open Go.RowKit Go.Lib Go.ChangeMaps
set_option linter.unusedSimpArgs false

set_option maxRecDepth 100000 in
set_option maxHeartbeats 8000000 in
theorem gives_any {lo hi p : Nat} {V : Vp} {gone : Nat → Bool} (d : Nat) (j : Jp) (fv : Value) (w : World) (hst : StAt w lo hi p V gone) (hfv : ReadsI w fv j.from_) (hd : d < V.mem.length) :
    Calls Try.prog 61 #[.pointer (some ⟨p, 0, none⟩), .int .i64 d, j.v fv] w fun e w' => e = .returned (.bool (givesB V gone d j)) ∧ Below w.heap.size w w' := by
  have hok := hst.2.1
  obtain ⟨mv, hv, rv, wv, gv, mp, c0, c1, c2, c3, c4, c5, hM, hH, hR, hW, hG, hmp⟩ := hst.at
  obtain ⟨ha, hc, hb, ho, rfl, hl, hm, hcell⟩ := hH.at
  obtain ⟨ga, gc, gb, go, rfl, gl, gm, gcell⟩ := hG.at
  obtain ⟨fa, fc, _, _, rfl, -⟩ := hfv.at
  obtain ⟨rfl, g2⟩ := gcell d hd
  have g3 := g2 0 (by omega)
  simp only [Nat.mul_one, Nat.add_zero] at g3
  have HFV := Lib.hid hfv
  have HC := Lib.hid hcell
  have HSM := Lib.hid hok.small.2.2.2.2
  have plt := cell_lt c0
  obtain ⟨⟨st, ix⟩, fs, dst, size⟩ := j
  obtain ⟨r, hr⟩ : ∃ r, r = givesB V gone d ⟨⟨st, ix⟩, fs, dst, size⟩ := ⟨_, rfl⟩
  rw [← hr]
  have HR := Lib.hid hr
  unfold Jp.v
  simp only at HFV ⊢
  clear hr hcell gcell hM hH hR hW hG c0 c2 c3 hfv hst hok g2
  obtain ⟨fl, hfl⟩ : ∃ fl, fl = fs.length := ⟨_, rfl⟩
  rw [← hfl] at HFV ⊢
  clear hfl
  obtain ⟨W0, hW0⟩ : ∃ W0, W0 = (w.alloc (.cells #[.string st, .int .i64 ix, .slice fa fl fc, .int .i64 dst, .int .i64 size] 47)).drew := ⟨_, rfl⟩
  have hA : Below w.heap.size w W0 := by rw [hW0]; exact ((Below.refl w.heap.size w).alloc (Nat.le_refl _) _).drew
  have hkj : W0.heap[w.heap.size]? = some (.cells #[.string st, .int .i64 ix, .slice fa fl fc, .int .i64 dst, .int .i64 size] 47 (0, 0)) := by rw [hW0]; exact heap_alloc_new _ _
  have m0 := cell_of_row _ w.heap.size 0 _ _ _ hkj
  have m2 := cell_of_row _ w.heap.size 2 _ _ _ hkj
  have p0 := bc hA c1
  have p4 := bc hA c4
  have p5 := bc hA c5
  have gd := bc hA g3
  have hlk := lookPlaceT (bb hA hmp) st
  clear hmp hkj
  go_enter Try.func61, Try.ntmps61
  go_upto_region 1 with fail
  cases hf : findP V.held st with
  | none =>
    rw [hf] at hlk
    obtain rfl : r = false := by rw [HR.out]; unfold givesB helpB; rw [hf]; simp
    clear hf
    have q5 : W0.cell? ⟨p, 5, none⟩ = some (.map (some mp)) ∧ (Instr.lookup 94 (.map (some mp)) (.string st) true).run Try.prog W0 = .ok (.tuple #[.int .i64 0, .bool false]) W0 ∧ W0.cell? ⟨w.heap.size, 0, none⟩ = some (.string st) := ⟨p5, hlk, m0⟩
    rw [hW0] at q5
    refine wp_region_held_drew (S := fun w' => w'.cell? ⟨p, 5, none⟩ = some (.map (some mp)) ∧ (Instr.lookup 94 (.map (some mp)) (.string st) true).run Try.prog w' = .ok (.tuple #[.int .i64 0, .bool false]) w' ∧ w'.cell? ⟨w.heap.size, 0, none⟩ = some (.string st)) (by kernel_rfl) q5 (fun hHeld => ?_)
    rw [← hW0] at *
    refine wpAnyH_take (i := 0) (v := ?_) rfl (by kernel_rfl) (by kernel_rfl) (by kernel_rfl) (fun _ _ _ h => h) (Or.inl ⟨by rfl, ?_⟩) (by assumption) ?_
    rotate_left; · (intro w hSw; (try dsimp only at hSw); go_simp; try with_reducible rfl)
    try simp only [Act.put, List.getElem_toArray, List.getElem_cons_zero, List.getElem_cons_succ, List.setIfInBounds_toArray, List.set_cons_zero, List.set_cons_succ]
    refine wpAnyH_take (i := 1) (v := ?_) rfl (by kernel_rfl) (by kernel_rfl) (by kernel_rfl) (fun _ _ _ h => h) (Or.inl ⟨by rfl, ?_⟩) (by assumption) ?_
    rotate_left; · (intro w hSw; (try dsimp only at hSw); go_simp; try with_reducible rfl)
    try simp only [Act.put, List.getElem_toArray, List.getElem_cons_zero, List.getElem_cons_succ, List.setIfInBounds_toArray, List.set_cons_zero, List.set_cons_succ]
    refine wpAnyH_take (i := 2) (v := ?_) rfl (by kernel_rfl) (by kernel_rfl) (by kernel_rfl) (fun _ _ _ h => h) (Or.inl ⟨by rfl, ?_⟩) (by assumption) ?_
    rotate_left; · (intro w hSw; (try dsimp only at hSw); go_simp; try with_reducible rfl)
    try simp only [Act.put, List.getElem_toArray, List.getElem_cons_zero, List.getElem_cons_succ, List.setIfInBounds_toArray, List.set_cons_zero, List.set_cons_succ]
    refine wpAnyH_take (i := 3) (v := ?_) rfl (by kernel_rfl) (by kernel_rfl) (by kernel_rfl) (fun _ _ _ h => h) (Or.inl ⟨by rfl, ?_⟩) (by assumption) ?_
    rotate_left; · (intro w hSw; (try dsimp only at hSw); go_simp; try with_reducible rfl)
    try simp only [Act.put, List.getElem_toArray, List.getElem_cons_zero, List.getElem_cons_succ, List.setIfInBounds_toArray, List.set_cons_zero, List.set_cons_succ]
    refine wpAnyH_take (i := 4) (v := ?_) rfl (by kernel_rfl) (by kernel_rfl) (by kernel_rfl) (fun _ _ _ h => h) (Or.inl ⟨by rfl, ?_⟩) (by assumption) ?_
    rotate_left; · (intro w hSw; (try dsimp only at hSw); go_simp; try with_reducible rfl)
    try simp only [Act.put, List.getElem_toArray, List.getElem_cons_zero, List.getElem_cons_succ, List.setIfInBounds_toArray, List.set_cons_zero, List.set_cons_succ]
    refine wpAnyH_take (i := 5) (v := ?_) rfl (by kernel_rfl) (by kernel_rfl) (by kernel_rfl) (fun _ _ _ h => h) (Or.inl ⟨by rfl, ?_⟩) (by assumption) ?_
    rotate_left; · (intro w hSw; (try dsimp only at hSw); go_simp; try with_reducible rfl)
    try simp only [Act.put, List.getElem_toArray, List.getElem_cons_zero, List.getElem_cons_succ, List.setIfInBounds_toArray, List.set_cons_zero, List.set_cons_succ]
    refine wpAnyH_take (i := 6) (v := ?_) rfl (by kernel_rfl) (by kernel_rfl) (by kernel_rfl) (fun _ _ _ h => h) (Or.inl ⟨by rfl, ?_⟩) (by assumption) ?_
    rotate_left; · (intro w hSw; (try dsimp only at hSw); go_simp; try with_reducible rfl)
    try simp only [Act.put, List.getElem_toArray, List.getElem_cons_zero, List.getElem_cons_succ, List.setIfInBounds_toArray, List.set_cons_zero, List.set_cons_succ]
    refine wpAnyH_take (i := 7) (v := ?_) rfl (by kernel_rfl) (by kernel_rfl) (by kernel_rfl) (fun _ _ _ h => h) (Or.inl ⟨by rfl, ?_⟩) (by assumption) ?_
    rotate_left; · (intro w hSw; (try dsimp only at hSw); go_simp; try with_reducible rfl)
    try simp only [Act.put, List.getElem_toArray, List.getElem_cons_zero, List.getElem_cons_succ, List.setIfInBounds_toArray, List.set_cons_zero, List.set_cons_succ]
    refine wpAnyH_take (i := 8) (v := ?_) rfl (by kernel_rfl) (by kernel_rfl) (by kernel_rfl) (fun _ _ _ h => h) (Or.inl ⟨by rfl, ?_⟩) (by assumption) ?_
    rotate_left; · (intro w hSw; (try dsimp only at hSw); go_simp; try with_reducible rfl)
    try simp only [Act.put, List.getElem_toArray, List.getElem_cons_zero, List.getElem_cons_succ, List.setIfInBounds_toArray, List.set_cons_zero, List.set_cons_succ]
    refine wpAnyH_take (i := 9) (v := ?_) rfl (by kernel_rfl) (by kernel_rfl) (by kernel_rfl) (fun _ _ _ h => h) (Or.inl ⟨by rfl, ?_⟩) (by assumption) ?_
    rotate_left; · (intro w hSw; (try dsimp only at hSw); go_simp; try with_reducible rfl)
    try simp only [Act.put, List.getElem_toArray, List.getElem_cons_zero, List.getElem_cons_succ, List.setIfInBounds_toArray, List.set_cons_zero, List.set_cons_succ]
    refine wpAnyH_take (i := 10) (v := ?_) rfl (by kernel_rfl) (by kernel_rfl) (by kernel_rfl) (fun _ _ _ h => h) (Or.inl ⟨by rfl, ?_⟩) (by assumption) ?_
    rotate_left; · (intro w hSw; (try dsimp only at hSw); go_simp; try with_reducible rfl)
    try simp only [Act.put, List.getElem_toArray, List.getElem_cons_zero, List.getElem_cons_succ, List.setIfInBounds_toArray, List.set_cons_zero, List.set_cons_succ]
    refine wpAnyH_take (i := 11) (v := ?_) rfl (by kernel_rfl) (by kernel_rfl) (by kernel_rfl) (fun _ _ _ h => h) (Or.inl ⟨by rfl, ?_⟩) (by assumption) ?_
    rotate_left; · (intro w hSw; (try dsimp only at hSw); go_simp; try with_reducible rfl)
    try simp only [Act.put, List.getElem_toArray, List.getElem_cons_zero, List.getElem_cons_succ, List.setIfInBounds_toArray, List.set_cons_zero, List.set_cons_succ]
    refine wpAnyH_take (i := 12) (v := ?_) rfl (by kernel_rfl) (by kernel_rfl) (by kernel_rfl) (fun _ _ _ h => h) (Or.inl ⟨by rfl, ?_⟩) (by assumption) ?_
    rotate_left; · (intro w hSw; (try dsimp only at hSw); go_simp; try with_reducible rfl)
    try simp only [Act.put, List.getElem_toArray, List.getElem_cons_zero, List.getElem_cons_succ, List.setIfInBounds_toArray, List.set_cons_zero, List.set_cons_succ]
    refine wpAnyH_done (by kernel_rfl) ?_ _
    go_wp2
    go_ret
    exact ⟨rfl, hA⟩
  | some k =>
    rw [hf] at hlk
    obtain ⟨hk, hid⟩ := findP_some hf
    have hsm := HSM.out k hk
    have hat : AtOk V.mem.length (V.held.getD k default).at_ := hsm.2.2.2.2.2
    have hrr : r = (!gone d && decide (0 ≤ idxI (d : Int) (V.held.getD k default).at_ ∧ idxI (d : Int) (V.held.getD k default).at_ ∈ fs)) := by
      rw [HR.out]
      unfold givesB helpB
      rw [hf]
      simp only
      rw [decide_eq_decide.2 (help_idx (fs := fs) hat (show (0 : Int) ≤ d by omega))]
    obtain ⟨rfl, e2, e3, e4, e5, e6, xr, av, e7, e8, hxr, hra⟩ := HC.out k hk
    have b8 := bc hA e8
    have CI := Lib.hid (index_any av _ (d : Int) W0 (hra.below hA))
    obtain ⟨ua, uc, _, _, rfl, -⟩ := hra.at
    have hig := idxI_ge (d : Int) (V.held.getD k default).at_
    clear hf hid hxr hra e2 e3 e4 e5 e6 e7 e8
    generalize idxI (d : Int) (V.held.getD k default).at_ = i at *
    generalize (V.held.getD k default).at_.length = ul at *
    generalize gone d = gd0 at *
    have q5 : W0.cell? ⟨p, 5, none⟩ = some (.map (some mp)) ∧ (Instr.lookup 94 (.map (some mp)) (.string st) true).run Try.prog W0 = .ok (.tuple #[.int .i64 k, .bool true]) W0 ∧ W0.cell? ⟨w.heap.size, 0, none⟩ = some (.string st) := ⟨p5, hlk, m0⟩
    rw [hW0] at q5
    refine wp_region_held_drew (S := fun w' => w'.cell? ⟨p, 5, none⟩ = some (.map (some mp)) ∧ (Instr.lookup 94 (.map (some mp)) (.string st) true).run Try.prog w' = .ok (.tuple #[.int .i64 k, .bool true]) w' ∧ w'.cell? ⟨w.heap.size, 0, none⟩ = some (.string st)) (by kernel_rfl) q5 (fun hHeld => ?_)
    rw [← hW0] at *
    refine wpAnyH_take (i := 0) (v := ?_) rfl (by kernel_rfl) (by kernel_rfl) (by kernel_rfl) (fun _ _ _ h => h) (Or.inl ⟨by rfl, ?_⟩) (by assumption) ?_
    rotate_left; · (intro w hSw; (try dsimp only at hSw); go_simp; try with_reducible rfl)
    try simp only [Act.put, List.getElem_toArray, List.getElem_cons_zero, List.getElem_cons_succ, List.setIfInBounds_toArray, List.set_cons_zero, List.set_cons_succ]
    refine wpAnyH_take (i := 1) (v := ?_) rfl (by kernel_rfl) (by kernel_rfl) (by kernel_rfl) (fun _ _ _ h => h) (Or.inl ⟨by rfl, ?_⟩) (by assumption) ?_
    rotate_left; · (intro w hSw; (try dsimp only at hSw); go_simp; try with_reducible rfl)
    try simp only [Act.put, List.getElem_toArray, List.getElem_cons_zero, List.getElem_cons_succ, List.setIfInBounds_toArray, List.set_cons_zero, List.set_cons_succ]
    refine wpAnyH_take (i := 2) (v := ?_) rfl (by kernel_rfl) (by kernel_rfl) (by kernel_rfl) (fun _ _ _ h => h) (Or.inl ⟨by rfl, ?_⟩) (by assumption) ?_
    rotate_left; · (intro w hSw; (try dsimp only at hSw); go_simp; try with_reducible rfl)
    try simp only [Act.put, List.getElem_toArray, List.getElem_cons_zero, List.getElem_cons_succ, List.setIfInBounds_toArray, List.set_cons_zero, List.set_cons_succ]
    refine wpAnyH_take (i := 3) (v := ?_) rfl (by kernel_rfl) (by kernel_rfl) (by kernel_rfl) (fun _ _ _ h => h) (Or.inl ⟨by rfl, ?_⟩) (by assumption) ?_
    rotate_left; · (intro w hSw; (try dsimp only at hSw); go_simp; try with_reducible rfl)
    try simp only [Act.put, List.getElem_toArray, List.getElem_cons_zero, List.getElem_cons_succ, List.setIfInBounds_toArray, List.set_cons_zero, List.set_cons_succ]
    refine wpAnyH_take (i := 4) (v := ?_) rfl (by kernel_rfl) (by kernel_rfl) (by kernel_rfl) (fun _ _ _ h => h) (Or.inl ⟨by rfl, ?_⟩) (by assumption) ?_
    rotate_left; · (intro w hSw; (try dsimp only at hSw); go_simp; try with_reducible rfl)
    try simp only [Act.put, List.getElem_toArray, List.getElem_cons_zero, List.getElem_cons_succ, List.setIfInBounds_toArray, List.set_cons_zero, List.set_cons_succ]
    refine wpAnyH_take (i := 5) (v := ?_) rfl (by kernel_rfl) (by kernel_rfl) (by kernel_rfl) (fun _ _ _ h => h) (Or.inl ⟨by rfl, ?_⟩) (by assumption) ?_
    rotate_left; · (intro w hSw; (try dsimp only at hSw); go_simp; try with_reducible rfl)
    try simp only [Act.put, List.getElem_toArray, List.getElem_cons_zero, List.getElem_cons_succ, List.setIfInBounds_toArray, List.set_cons_zero, List.set_cons_succ]
    refine wpAnyH_take (i := 6) (v := ?_) rfl (by kernel_rfl) (by kernel_rfl) (by kernel_rfl) (fun _ _ _ h => h) (Or.inl ⟨by rfl, ?_⟩) (by assumption) ?_
    rotate_left; · (intro w hSw; (try dsimp only at hSw); go_simp; try with_reducible rfl)
    try simp only [Act.put, List.getElem_toArray, List.getElem_cons_zero, List.getElem_cons_succ, List.setIfInBounds_toArray, List.set_cons_zero, List.set_cons_succ]
    refine wpAnyH_take (i := 7) (v := ?_) rfl (by kernel_rfl) (by kernel_rfl) (by kernel_rfl) (fun _ _ _ h => h) (Or.inl ⟨by rfl, ?_⟩) (by assumption) ?_
    rotate_left; · (intro w hSw; (try dsimp only at hSw); go_simp; try with_reducible rfl)
    try simp only [Act.put, List.getElem_toArray, List.getElem_cons_zero, List.getElem_cons_succ, List.setIfInBounds_toArray, List.set_cons_zero, List.set_cons_succ]
    refine wpAnyH_take (i := 8) (v := ?_) rfl (by kernel_rfl) (by kernel_rfl) (by kernel_rfl) (fun _ _ _ h => h) (Or.inl ⟨by rfl, ?_⟩) (by assumption) ?_
    rotate_left; · (intro w hSw; (try dsimp only at hSw); go_simp; try with_reducible rfl)
    try simp only [Act.put, List.getElem_toArray, List.getElem_cons_zero, List.getElem_cons_succ, List.setIfInBounds_toArray, List.set_cons_zero, List.set_cons_succ]
    refine wpAnyH_take (i := 9) (v := ?_) rfl (by kernel_rfl) (by kernel_rfl) (by kernel_rfl) (fun _ _ _ h => h) (Or.inl ⟨by rfl, ?_⟩) (by assumption) ?_
    rotate_left; · (intro w hSw; (try dsimp only at hSw); go_simp; try with_reducible rfl)
    try simp only [Act.put, List.getElem_toArray, List.getElem_cons_zero, List.getElem_cons_succ, List.setIfInBounds_toArray, List.set_cons_zero, List.set_cons_succ]
    refine wpAnyH_take (i := 10) (v := ?_) rfl (by kernel_rfl) (by kernel_rfl) (by kernel_rfl) (fun _ _ _ h => h) (Or.inl ⟨by rfl, ?_⟩) (by assumption) ?_
    rotate_left; · (intro w hSw; (try dsimp only at hSw); go_simp; try with_reducible rfl)
    try simp only [Act.put, List.getElem_toArray, List.getElem_cons_zero, List.getElem_cons_succ, List.setIfInBounds_toArray, List.set_cons_zero, List.set_cons_succ]
    refine wpAnyH_take (i := 11) (v := ?_) rfl (by kernel_rfl) (by kernel_rfl) (by kernel_rfl) (fun _ _ _ h => h) (Or.inl ⟨by rfl, ?_⟩) (by assumption) ?_
    rotate_left; · (intro w hSw; (try dsimp only at hSw); go_simp; try with_reducible rfl)
    try simp only [Act.put, List.getElem_toArray, List.getElem_cons_zero, List.getElem_cons_succ, List.setIfInBounds_toArray, List.set_cons_zero, List.set_cons_succ]
    refine wpAnyH_take (i := 12) (v := ?_) rfl (by kernel_rfl) (by kernel_rfl) (by kernel_rfl) (fun _ _ _ h => h) (Or.inl ⟨by rfl, ?_⟩) (by assumption) ?_
    rotate_left; · (intro w hSw; (try dsimp only at hSw); go_simp; try with_reducible rfl)
    try simp only [Act.put, List.getElem_toArray, List.getElem_cons_zero, List.getElem_cons_succ, List.setIfInBounds_toArray, List.set_cons_zero, List.set_cons_succ]
    refine wpAnyH_done (by kernel_rfl) ?_ _
    clear hHeld p5 hlk m0 q5
    have HRR := Lib.hid hrr
    clear hrr
    cases gd0 with
    | true =>
      obtain rfl : r = false := by rw [HRR.out]; simp
      go_wp2
      go_ret
      exact ⟨rfl, hA⟩
    | false =>
      go_wp2_with fail
      refine CI.out.mono ?_
      rintro e w3 ⟨rfl, rfl⟩
      by_cases hi0 : 0 ≤ i
      · have q1 : decide (0 ≤ i) = true := decide_eq_true hi0
        have CCN := Lib.hid (contains_any _ _ i W0 (HFV.out.below hA))
        have hr2 : r = decide (i ∈ fs) := by rw [HRR.out]; simp [hi0]
        rw [← hr2] at CCN
        clear hr2 hi0
        go_wp2_with fail
        refine CCN.out.mono ?_
        rintro e w4 ⟨rfl, rfl⟩
        go_wp2
        go_ret
        exact ⟨rfl, hA⟩
      · have q1 : decide (0 ≤ i) = false := decide_eq_false hi0
        obtain rfl : r = false := by rw [HRR.out]; simp [hi0]
        clear hi0
        go_wp2
        go_ret
        exact ⟨rfl, hA⟩

end Go.Proofs.Ytijcicgbhcphjaa
