/- SameJob, same: jobs that are alike. -/
import Derived.Test.YtijcicgbhcphjaaT7
namespace Go.Proofs.Ytijcicgbhcphjaa
open Go.RowKit Go.Lib Go.ChangeMaps
set_option linter.unusedSimpArgs false

set_option maxRecDepth 100000 in
set_option maxHeartbeats 8000000 in
theorem samejob_same (fv gv : Value) (j : Jp) (w : World) (hf : ReadsI w fv j.from_) (hg : ReadsI w gv j.from_) :
    Calls Try.prog 54 #[j.v fv, j.v gv] w fun e w' => e = .returned (.bool true) ∧ Below w.heap.size w w' := by
  have CI := Lib.hid (fun W (h : Below w.heap.size w W) => ints_same _ _ j.from_ W (hf.below h) (hg.below h))
  obtain ⟨fa, fc, _, _, rfl, -⟩ := hf.at
  obtain ⟨ga, gc, _, _, rfl, -⟩ := hg.at
  obtain ⟨⟨st, ix⟩, fs, dst, size⟩ := j
  unfold Jp.v
  simp only at CI ⊢
  clear hf hg
  generalize fs.length = fl at *
  have hb0 : Below w.heap.size w ((w.alloc (.cells #[.string st, .int .i64 ix, .slice fa fl fc, .int .i64 dst, .int .i64 size] 107)).alloc (.cells #[.string st, .int .i64 ix, .slice ga fl gc, .int .i64 dst, .int .i64 size] 107)) := by (repeat' (first | (with_reducible exact Below.refl _ _) | (with_reducible assumption) | (with_reducible refine Below.alloc ?_ ?_ _) | (with_reducible refine Below.drew ?_) | (with_reducible refine below_drewN ?_ _) | (with_reducible refine Below.setCell ?_ ?_ _) | (with_reducible refine below_step ?_ (by with_reducible assumption) ?_) | go_size))
  go_enter Try.func54, Try.ntmps54
  go_wp2_with fail
  refine (CI.out _ hb0).mono ?_
  rintro e w1 ⟨rfl, hb1⟩
  go_wp2
  go_ret
  exact ⟨rfl, hb0.trans (hb1.mono hb0.size)⟩

set_option maxRecDepth 100000 in
set_option maxHeartbeats 8000000 in
theorem same_same (u v : Value) (js : List Jp) (w : World) (hu : ReadsJ w u js) (hv : ReadsJ w v js) :
    Calls Try.prog 19 #[u, v] w fun e w' => e = .returned (.bool true) ∧ Below w.heap.size w w' := by
  obtain ⟨ua, uc, ub, uo, rfl, -, um, ucell⟩ := hu.at
  obtain ⟨va, vc, vb, vo, rfl, -, -, vcell⟩ := hv.at
  have UC := Lib.hid ucell
  have VC := Lib.hid vcell
  clear ucell vcell hu hv
  go_enter Try.func19, Try.ntmps19
  go_wp2
  go_loopw [13, 5] (fun v13 _ wr => ∃ i : Nat, i ≤ js.length ∧ v13 = .int .i64 i ∧ Below w.heap.size w wr) (fun v13 _ _ => js.length - (intOf v13).toNat)
  case atStart => exact ⟨0, Nat.zero_le _, rfl, Below.refl _ _⟩
  case round =>
    obtain ⟨i, hi, rfl, hbr⟩ := hrel
    by_cases hlt : i < js.length
    · obtain ⟨rfl, e0, e1, fv, e2, e3, e4, hfv⟩ := UC.out i hlt
      obtain ⟨rfl, f0, f1, gv, f2, f3, f4, hgv⟩ := VC.out i hlt
      have e0 := bc hbr e0
      have e1 := bc hbr e1
      have e2 := bc hbr e2
      have e3 := bc hbr e3
      have e4 := bc hbr e4
      have f0 := bc hbr f0
      have f1 := bc hbr f1
      have f2 := bc hbr f2
      have f3 := bc hbr f3
      have f4 := bc hbr f4
      have CS := Lib.hid (fun W (h : Below w.heap.size w W) => samejob_same fv gv (js.getD i default) W (hfv.below h) (hgv.below h))
      obtain ⟨fa, fc, _, _, rfl, -⟩ := hfv.at
      obtain ⟨ga, gc, _, _, rfl, -⟩ := hgv.at
      have CJ := Lib.hid (fun W => job_any (js.getD i default) fa (js.getD i default).from_.length fc W)
      unfold Jp.v at CS CJ
      clear hfv hgv
      generalize js.getD i default = y at *
      obtain ⟨⟨st, ix⟩, fs, dst, size⟩ := y
      simp only at e0 e1 e2 e3 e4 f0 f1 f2 f3 f4 CS CJ
      generalize fs.length = fl at *
      go_upto_region 6 with fail
      have hbd : Below w.heap.size w wr.drew := hbr.drew
      have HSB0 : ∀ w' : World, Below (wr).drew.heap.size (wr).drew w' → (w'.cell? ⟨ub, uo + i * 5, none⟩ = some (.string st) ∧ w'.cell? ⟨ub, uo + i * 5 + 1, none⟩ = some (.int .i64 ix) ∧ w'.cell? ⟨ub, uo + i * 5 + 2, none⟩ = some (.slice fa fl fc) ∧ w'.cell? ⟨ub, uo + i * 5 + 3, none⟩ = some (.int .i64 dst) ∧ w'.cell? ⟨ub, uo + i * 5 + 4, none⟩ = some (.int .i64 size) ∧ w'.cell? ⟨vb, vo + i * 5, none⟩ = some (.string st) ∧ w'.cell? ⟨vb, vo + i * 5 + 1, none⟩ = some (.int .i64 ix) ∧ w'.cell? ⟨vb, vo + i * 5 + 2, none⟩ = some (.slice ga fl gc) ∧ w'.cell? ⟨vb, vo + i * 5 + 3, none⟩ = some (.int .i64 dst) ∧ w'.cell? ⟨vb, vo + i * 5 + 4, none⟩ = some (.int .i64 size)) := fun w' hb => ⟨bc hb e0, bc hb e1, bc hb e2, bc hb e3, bc hb e4, bc hb f0, bc hb f1, bc hb f2, bc hb f3, bc hb f4⟩
      refine wp_region_held_drew (S := fun w' => w'.cell? ⟨ub, uo + i * 5, none⟩ = some (.string st) ∧ w'.cell? ⟨ub, uo + i * 5 + 1, none⟩ = some (.int .i64 ix) ∧ w'.cell? ⟨ub, uo + i * 5 + 2, none⟩ = some (.slice fa fl fc) ∧ w'.cell? ⟨ub, uo + i * 5 + 3, none⟩ = some (.int .i64 dst) ∧ w'.cell? ⟨ub, uo + i * 5 + 4, none⟩ = some (.int .i64 size) ∧ w'.cell? ⟨vb, vo + i * 5, none⟩ = some (.string st) ∧ w'.cell? ⟨vb, vo + i * 5 + 1, none⟩ = some (.int .i64 ix) ∧ w'.cell? ⟨vb, vo + i * 5 + 2, none⟩ = some (.slice ga fl gc) ∧ w'.cell? ⟨vb, vo + i * 5 + 3, none⟩ = some (.int .i64 dst) ∧ w'.cell? ⟨vb, vo + i * 5 + 4, none⟩ = some (.int .i64 size)) (by kernel_rfl) (HSB0 _ (Below.refl _ _)) (fun hHeld => ?_)
      have HSB := Lib.hid HSB0
      clear HSB0
      generalize (wr).drew = Wd at *
      clear e0 e1 e2 e3 e4 f0 f1 f2 f3 f4
      refine wpAnyH_take (i := 0) (v := ?_) rfl (by kernel_rfl) (by kernel_rfl) (by kernel_rfl) (fun _ _ _ h => h) (Or.inl ⟨by rfl, ?_⟩) (by assumption) ?_
      rotate_left; · (intro w hSw; (try dsimp only at hSw); go_simp; try with_reducible rfl)
      try simp only [Act.put, List.getElem_toArray, List.getElem_cons_zero, List.getElem_cons_succ, List.setIfInBounds_toArray, List.set_cons_zero, List.set_cons_succ]
      refine wpAnyH_take (i := 1) (v := ?_) rfl (by kernel_rfl) (by kernel_rfl) (by kernel_rfl) (fun _ _ _ h => h) (Or.inl ⟨by rfl, ?_⟩) (by assumption) ?_
      rotate_left; · (intro w hSw; (try dsimp only at hSw); go_simp; try with_reducible rfl)
      try simp only [Act.put, List.getElem_toArray, List.getElem_cons_zero, List.getElem_cons_succ, List.setIfInBounds_toArray, List.set_cons_zero, List.set_cons_succ]
      refine wpAnyH_take (i := 2) (v := ?_) rfl (by kernel_rfl) (by kernel_rfl) (by kernel_rfl) (fun _ _ _ h => h) (Or.inl ⟨by rfl, ?_⟩) (by assumption) ?_
      rotate_left; · (intro w hSw; (try dsimp only at hSw); go_simp; try with_reducible rfl)
      try simp only [Act.put, List.getElem_toArray, List.getElem_cons_zero, List.getElem_cons_succ, List.setIfInBounds_toArray, List.set_cons_zero, List.set_cons_succ]
      refine wpAnyH_take (i := 3) (v := ?_) rfl (by kernel_rfl) (by kernel_rfl) (by kernel_rfl) (fun _ _ _ h => h) (Or.inl ⟨by rfl, ?_⟩) (by assumption) ?_
      rotate_left; · (intro w hSw; (try dsimp only at hSw); go_simp; try with_reducible rfl)
      try simp only [Act.put, List.getElem_toArray, List.getElem_cons_zero, List.getElem_cons_succ, List.setIfInBounds_toArray, List.set_cons_zero, List.set_cons_succ]
      refine wpAnyH_take (i := 5) (v := ?_) rfl (by kernel_rfl) (by kernel_rfl) (by kernel_rfl) (fun _ _ _ h => h) (Or.inl ⟨by rfl, ?_⟩) (by assumption) ?_
      rotate_left; · (intro w hSw; (try dsimp only at hSw); go_simp; try with_reducible rfl)
      try simp only [Act.put, List.getElem_toArray, List.getElem_cons_zero, List.getElem_cons_succ, List.setIfInBounds_toArray, List.set_cons_zero, List.set_cons_succ]
      refine wpAnyH_take (i := 6) (v := ?_) rfl (by kernel_rfl) (by kernel_rfl) (by kernel_rfl) (fun _ _ _ h => h) (Or.inl ⟨by rfl, ?_⟩) (by assumption) ?_
      rotate_left; · (intro w hSw; (try dsimp only at hSw); go_simp; try with_reducible rfl)
      try simp only [Act.put, List.getElem_toArray, List.getElem_cons_zero, List.getElem_cons_succ, List.setIfInBounds_toArray, List.set_cons_zero, List.set_cons_succ]
      refine wpAnyH_take (i := 7) (v := ?_) rfl (by kernel_rfl) (by kernel_rfl) (by kernel_rfl) (fun _ _ _ h => h) (Or.inl ⟨by rfl, ?_⟩) (by assumption) ?_
      rotate_left; · (intro w hSw; (try dsimp only at hSw); go_simp; try with_reducible rfl)
      try simp only [Act.put, List.getElem_toArray, List.getElem_cons_zero, List.getElem_cons_succ, List.setIfInBounds_toArray, List.set_cons_zero, List.set_cons_succ]
      refine wpAnyH_take (i := 8) (v := ?_) rfl (by kernel_rfl) (by kernel_rfl) (by kernel_rfl) (fun _ _ _ h => h) (Or.inl ⟨by rfl, ?_⟩) (by assumption) ?_
      rotate_left; · (intro w hSw; (try dsimp only at hSw); go_simp; try with_reducible rfl)
      try simp only [Act.put, List.getElem_toArray, List.getElem_cons_zero, List.getElem_cons_succ, List.setIfInBounds_toArray, List.set_cons_zero, List.set_cons_succ]
      refine wpAnyH_ready (rs := [4]) (by kernel_rfl) (by simp) ?_
      refine AllReadyH.cons rfl (fun K hK => ?_) AllReadyH.nil
      go_simp
      refine (CJ.out _).mono ?_; rintro e w4 ⟨rfl, hb4⟩
      go_wp2_with fail
      refine hK.out _ _ (HSB.out _ hb4) (fun hNew => ?_)
      clear hK K hHeld
      have hHeld := hNew
      clear hNew
      try simp only [Act.put, List.getElem_toArray, List.getElem_cons_zero, List.getElem_cons_succ, List.setIfInBounds_toArray, List.set_cons_zero, List.set_cons_succ]
      refine wpAnyH_ready (rs := [9]) (by kernel_rfl) (by simp) ?_
      refine AllReadyH.cons rfl (fun K hK => ?_) AllReadyH.nil
      go_simp
      refine (CS.out _ (hbd.trans (hb4.mono hbd.size))).mono ?_; rintro e w5 ⟨rfl, hb5⟩
      go_wp2_with fail
      refine hK.out _ _ (HSB.out _ (hb4.trans (hb5.mono hb4.size))) (fun hNew => ?_)
      clear hK K hHeld
      have hHeld := hNew
      clear hNew
      try simp only [Act.put, List.getElem_toArray, List.getElem_cons_zero, List.getElem_cons_succ, List.setIfInBounds_toArray, List.set_cons_zero, List.set_cons_succ]
      refine wpAnyH_take (i := 10) (v := ?_) rfl (by kernel_rfl) (by kernel_rfl) (by kernel_rfl) (fun _ _ _ h => h) (Or.inl ⟨by rfl, ?_⟩) (by assumption) ?_
      rotate_left; · (intro w hSw; (try dsimp only at hSw); go_simp; try with_reducible rfl)
      try simp only [Act.put, List.getElem_toArray, List.getElem_cons_zero, List.getElem_cons_succ, List.setIfInBounds_toArray, List.set_cons_zero, List.set_cons_succ]
      refine wpAnyH_done (by kernel_rfl) ?_ _
      have hb45 := hb4.trans (hb5.mono hb4.size)
      have hbw5 := hbd.trans (hb45.mono hbd.size)
      clear hHeld HSB CS CJ
      go_wp2
      go_roundw
      case rel => exact ⟨i + 1, by omega, by go_num, hbw5⟩
      case measure => simp [intOf]; omega
    · have hil : i = js.length := by omega
      subst hil
      go_wp2
      go_ret
      exact ⟨rfl, hbr⟩

end Go.Proofs.Ytijcicgbhcphjaa
