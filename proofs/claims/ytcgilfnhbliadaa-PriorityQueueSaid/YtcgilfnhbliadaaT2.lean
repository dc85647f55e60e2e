/- Put, Remove, Len. -/
import Derived.Test.YtcgilfnhbliadaaT1
import Derived.Deep.RegionHeld3
import Derived.Laws.Cover3
namespace Go.Proofs.Ytcgilfnhbliadaa
open Go.RowKit Go.Lib Go.ChangeMaps
set_option linter.unusedSimpArgs false

theorem gb_of {w W : World} (h : Below w.heap.size w W) (r : Option Nat) : w.grownBy W r := ⟨h.os, h.tape, h.output, h.size, fun k hk _ => h.block k hk⟩
theorem gb_set {w W : World} {m : Nat} (h : w.grownBy W (some m)) (o : Obj) : w.grownBy (setBlock W m o) (some m) :=
  ⟨h.os, h.tape, h.output, by rw [setBlock_size]; exact h.size, fun k hk hne => by rw [setBlock_off _ _ (fun e => hne (by rw [e]))]; exact h.block k hk hne⟩
theorem gb_below {w W W' : World} {m : Nat} (h : w.grownBy W (some m)) (hb : Below w.heap.size W W') : w.grownBy W' (some m) :=
  ⟨hb.os.trans h.os, hb.tape.trans h.tape, hb.output.trans h.output, Nat.le_trans h.size hb.size, fun k hk hne => (hb.block k hk).trans (h.block k hk hne)⟩
theorem gb_trans {w W W' : World} {m : Nat} (h : w.grownBy W (some m)) (hb : W.grownBy W' (some m)) : w.grownBy W' (some m) :=
  ⟨hb.os.trans h.os, hb.tape.trans h.tape, hb.output.trans h.output, Nat.le_trans h.size hb.size, fun k hk hne => (hb.block k (Nat.lt_of_lt_of_le hk h.size) hne).trans (h.block k hk hne)⟩
/-- What lies below the map's block stands. -/
theorem gb_to_below {w W : World} {m B : Nat} (h : w.grownBy W (some m)) (hB : B ≤ m) (hw : B ≤ w.heap.size) : Below B w W :=
  ⟨h.os, h.tape, h.output, h.size, fun k hk => h.block k (by omega) (by simp; omega)⟩
theorem cell_setBlock {w : World} {m b o : Nat} (h : b ≠ m) (x : Obj) : (setBlock w m x).cell? ⟨b, o, none⟩ = w.cell? ⟨b, o, none⟩ := by
  unfold World.cell?
  rw [setBlock_off _ _ h]
theorem eq_map (m : Nat) (w : World) : (binOp .eql 82 (.map (some m)) (.map none)).run Try.prog w = .ok (.bool false) w := by
  simp [binOp, run_equal_map_nil w 82 23 27 (some m) Try.underlying82]

set_option maxRecDepth 100000 in
set_option maxHeartbeats 8000000 in
theorem Put_any (b m : Nat) (S : List Tk) (t : Tk) (w : World) (hq : QAt w b m S) :
    Calls Try.prog 28 #[.pointer (some ⟨b, 0, none⟩), t.v] w fun e w' => (TOk t ∧ e = .returned (.int .i64 0) ∧ QAt w' b m (delS t.pc S ++ [t]) ∧ w.grownBy w' (some m)) ∨ (¬ TOk t ∧ e = .returned (.int .i64 1) ∧ Below w.heap.size w w') := by
  have HQ := Lib.hid hq
  have CV := Lib.hid (fun W => valid_any t W)
  have hblt := (Array.getElem?_eq_some_iff.1 hq.1).1
  have hne := hq.ne
  have hmlt : m < w.heap.size := by obtain ⟨_, _, _, h2, _⟩ := hq; exact (Array.getElem?_eq_some_iff.1 h2).1
  obtain ⟨r, hr⟩ : ∃ r, r = decide (TOk t) := ⟨_, rfl⟩
  rw [← hr] at CV
  have HR := Lib.hid hr
  have HPUT := Lib.hid (fun W (h : QAt W b m S) => h.put t)
  have heq := eq_map m
  clear hq hr
  obtain ⟨tt, htt⟩ : ∃ tt, tt = t := ⟨_, rfl⟩
  have HTT := Lib.hid htt
  rw [← htt] at HR ⊢
  clear htt
  obtain ⟨tst, tix, tsz, tsp, tnum, tden, tday⟩ := t
  unfold Tk.pc Pc.v Tk.v at HPUT
  unfold Tk.v at CV
  simp only at CV HPUT
  rw [HTT.out]
  unfold Tk.v
  simp only
  have hA : Below w.heap.size w (w.alloc (.cells #[.string tst, .int .i64 tix, .int .i64 tsz, .int .i64 tsp, .int .i64 tnum, .int .i64 tden, .int .i64 tday] 27)) := sb0 _
  have HX := Lib.hid (heap_alloc_new w (.cells #[.string tst, .int .i64 tix, .int .i64 tsz, .int .i64 tsp, .int .i64 tnum, .int .i64 tden, .int .i64 tday] 27))
  go_enter Try.func28, Try.ntmps28
  go_wp2_with fail
  refine (CV.out _).mono ?_
  rintro e w1 ⟨rfl, hb1⟩
  have hbw := hA.trans (hb1.mono hA.size)
  have HBW := Lib.hid hbw
  cases r with
  | false =>
    go_wp2
    go_ret
    exact .inr ⟨by rw [← HTT.out]; exact of_decide_eq_false HR.out.symm, rfl, HBW.out⟩
  | true =>
  have hx1 := bb hb1 HX.out
  have HX1 := Lib.hid hx1
  have HQ1 := Lib.hid (HQ.out.below hbw)
  have c0 : w1.cell? ⟨b, 0, none⟩ = some (.map (some m)) := cell_of_row w1 _ 0 _ _ _ HQ1.out.1
  obtain ⟨N, hN⟩ : ∃ N, N = w.heap.size := ⟨_, rfl⟩
  have HN := Lib.hid hN
  have hNm : N ≠ m := by omega
  rw [← hN] at HX1
  clear hb1 hbw hA hx1 CV hN
  go_upto_region 5 with fail
  try rw [← HN.out]
  have d0 := cell_of_row w1 _ 0 _ _ _ HX1.out
  have d1 := cell_of_row w1 _ 1 _ _ _ HX1.out
  have d2 := cell_of_row w1 _ 2 _ _ _ HX1.out
  have d3 := cell_of_row w1 _ 3 _ _ _ HX1.out
  have d4 := cell_of_row w1 _ 4 _ _ _ HX1.out
  have d5 := cell_of_row w1 _ 5 _ _ _ HX1.out
  have d6 := cell_of_row w1 _ 6 _ _ _ HX1.out
  obtain ⟨o, hrun, hq2⟩ := HPUT.out _ (HQ1.out.below (Below.refl _ w1).drew)
  have HQ2 := Lib.hid hq2
  have HBD := Lib.hid (HBW.out.drew)
  have HSB0 : ∀ w' : World, Below (w1).drew.heap.size (w1).drew w' → (w'.cell? ⟨b, 0, none⟩ = some (.map (some m)) ∧ w'.cell? ⟨N, 0, none⟩ = some (.string tst) ∧ w'.cell? ⟨N, 1, none⟩ = some (.int .i64 tix) ∧ w'.cell? ⟨N, 2, none⟩ = some (.int .i64 tsz) ∧ w'.cell? ⟨N, 3, none⟩ = some (.int .i64 tsp) ∧ w'.cell? ⟨N, 4, none⟩ = some (.int .i64 tnum) ∧ w'.cell? ⟨N, 5, none⟩ = some (.int .i64 tden) ∧ w'.cell? ⟨N, 6, none⟩ = some (.int .i64 tday)) := fun w' hb => ⟨bc hb c0, bc hb d0, bc hb d1, bc hb d2, bc hb d3, bc hb d4, bc hb d5, bc hb d6⟩
  refine wp_region_held_drew (S := fun w' => w'.cell? ⟨b, 0, none⟩ = some (.map (some m)) ∧ w'.cell? ⟨N, 0, none⟩ = some (.string tst) ∧ w'.cell? ⟨N, 1, none⟩ = some (.int .i64 tix) ∧ w'.cell? ⟨N, 2, none⟩ = some (.int .i64 tsz) ∧ w'.cell? ⟨N, 3, none⟩ = some (.int .i64 tsp) ∧ w'.cell? ⟨N, 4, none⟩ = some (.int .i64 tnum) ∧ w'.cell? ⟨N, 5, none⟩ = some (.int .i64 tden) ∧ w'.cell? ⟨N, 6, none⟩ = some (.int .i64 tday)) (by kernel_rfl) (HSB0 _ (Below.refl _ _)) (fun hHeld => ?_)
  have HSB := Lib.hid HSB0
  clear HSB0
  generalize (w1).drew = Wd at *
  clear c0 d0 d1 d2 d3 d4 d5 d6 hq2
  refine wpAnyH_take (i := 0) (v := ?_) rfl (by kernel_rfl) (by kernel_rfl) (by kernel_rfl) (fun _ _ _ h => h) (Or.inl ⟨by rfl, ?_⟩) (by assumption) ?_
  rotate_left; · (intro w hSw; (try dsimp only at hSw); go_simp; try with_reducible rfl)
  try simp only [Act.put, List.getElem_toArray, List.getElem_cons_zero, List.getElem_cons_succ, List.setIfInBounds_toArray, List.set_cons_zero, List.set_cons_succ]
  refine wpAnyH_take (i := 1) (v := ?_) rfl (by kernel_rfl) (by kernel_rfl) (by kernel_rfl) (fun _ _ _ h => h) (Or.inl ⟨by rfl, ?_⟩) (by assumption) ?_
  rotate_left; · (intro w hSw; (try dsimp only at hSw); go_simp; try with_reducible rfl)
  try simp only [Act.put, List.getElem_toArray, List.getElem_cons_zero, List.getElem_cons_succ, List.setIfInBounds_toArray, List.set_cons_zero, List.set_cons_succ]
  refine wpAnyH_take (i := 2) (v := ?_) rfl (by kernel_rfl) (by kernel_rfl) (by kernel_rfl) (fun _ _ _ h => h) (Or.inl ⟨by rfl, ?_⟩) (by assumption) ?_
  rotate_left; · (intro w hSw; (try dsimp only at hSw); go_simp; try with_reducible rfl)
  try simp only [Act.put, List.getElem_toArray, List.getElem_cons_zero, List.getElem_cons_succ, List.setIfInBounds_toArray, List.set_cons_zero, List.set_cons_succ]
  refine wpAnyH_take (i := 3) (v := ?_) rfl (by kernel_rfl) (by kernel_rfl) (by kernel_rfl) (fun _ _ _ h => h) (Or.inl ⟨by rfl, ?_⟩) (by assumption) ?_
  rotate_left; · (intro w hSw; (try dsimp only at hSw); go_simp; try with_reducible rfl)
  try simp only [Act.put, List.getElem_toArray, List.getElem_cons_zero, List.getElem_cons_succ, List.setIfInBounds_toArray, List.set_cons_zero, List.set_cons_succ]
  refine wpAnyH_take (i := 4) (v := ?_) rfl (by kernel_rfl) (by kernel_rfl) (by kernel_rfl) (fun _ _ _ h => h) (Or.inl ⟨by rfl, ?_⟩) (by assumption) ?_
  rotate_left; · (intro w hSw; (try dsimp only at hSw); go_simp; try with_reducible rfl)
  try simp only [Act.put, List.getElem_toArray, List.getElem_cons_zero, List.getElem_cons_succ, List.setIfInBounds_toArray, List.set_cons_zero, List.set_cons_succ]
  refine wpAnyH_take (i := 5) (v := ?_) rfl (by kernel_rfl) (by kernel_rfl) (by kernel_rfl) (fun _ _ _ h => h) (Or.inl ⟨by rfl, ?_⟩) (by assumption) ?_
  rotate_left; · (intro w hSw; (try dsimp only at hSw); go_simp; try with_reducible rfl)
  try simp only [Act.put, List.getElem_toArray, List.getElem_cons_zero, List.getElem_cons_succ, List.setIfInBounds_toArray, List.set_cons_zero, List.set_cons_succ]
  refine wpAnyH_take (i := 6) (v := ?_) rfl (by kernel_rfl) (by kernel_rfl) (by kernel_rfl) (fun _ _ _ h => h) (Or.inl ⟨by rfl, ?_⟩) (by assumption) ?_
  rotate_left; · (intro w hSw; (try dsimp only at hSw); go_simp; try with_reducible rfl)
  try simp only [Act.put, List.getElem_toArray, List.getElem_cons_zero, List.getElem_cons_succ, List.setIfInBounds_toArray, List.set_cons_zero, List.set_cons_succ]
  refine wpAnyH_ready (rs := [7]) (by kernel_rfl) (by simp) ?_
  refine AllReadyH.cons rfl (fun K hK => ?_) AllReadyH.nil
  go_simp
  refine hK.out _ _ (by obtain ⟨x, y0, y1, y2, y3, y4, y5, y6⟩ := HSB.out _ (Below.refl _ _); exact ⟨(cell_setBlock hne _).trans x, (cell_setBlock hNm _).trans y0, (cell_setBlock hNm _).trans y1, (cell_setBlock hNm _).trans y2, (cell_setBlock hNm _).trans y3, (cell_setBlock hNm _).trans y4, (cell_setBlock hNm _).trans y5, (cell_setBlock hNm _).trans y6⟩) (fun hNew => ?_)
  clear hK K hHeld
  have hHeld := hNew
  clear hNew
  try simp only [Act.put, List.getElem_toArray, List.getElem_cons_zero, List.getElem_cons_succ, List.setIfInBounds_toArray, List.set_cons_zero, List.set_cons_succ]
  refine wpAnyH_done (by kernel_rfl) ?_ _
  clear hHeld HSB hrun
  go_wp2
  go_ret
  exact .inl ⟨by rw [← HTT.out]; exact of_decide_eq_true HR.out.symm, rfl, HQ2.out, gb_set (gb_of HBD.out _) _⟩

end Go.Proofs.Ytcgilfnhbliadaa
