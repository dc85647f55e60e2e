/- The example of the chapter; New; awake. -/
import Derived.Test.YtcgilfnhbliadaaD2
import Derived.Laws.BytesArg
namespace Go.Proofs.Ytcgilfnhbliadaa
open Go.RowKit Go.Lib Go.ChangeMaps
set_option linter.unusedSimpArgs false

def nm (x : UInt8) : ByteArray := ⟨#[x, 0, 0, 0, 0, 0, 0, 0, 0, 0, 0, 0, 0, 0, 0, 0, 0, 0, 0, 0, 0, 0, 0, 0, 0, 0, 0, 0, 0, 0, 0, 0]⟩
def eT (x : UInt8) (size spare : Int) : Tk := ⟨nm x, 0, size, spare, 1, 2, 0⟩
def eL : List Tk := [eT 1 60 0, eT 2 50 1, eT 3 40 2]
theorem e_ok : AllOk eL := by decide +kernel
theorem e_cut : cutP (orderP eL) 100 = [eT 1 60 0, eT 3 40 2] := by decide +kernel
theorem e_sum : sumP (cutP (orderP eL) 100) = 100 := by decide +kernel
theorem e_cmp : cmpT (eT 9 1 (-1)) (eT 1 1 0) = -1 := by decide +kernel
theorem e_ok9 : TOk (eT 9 1 (-1)) := by decide +kernel
theorem e_ok1 : TOk (eT 1 1 0) := by decide +kernel

theorem mk_name (w : World) (x : UInt8) : ∃ w', (Instr.makeSlice 92 (.int .i64 32) (.int .i64 32)).run Try.prog w = .ok (.slice (some ⟨w.heap.size, 0, none⟩) 32 32) w' ∧ w'.cell? ⟨w.heap.size, 0, none⟩ = some (.int .u8 0) ∧ w'.frozen? ⟨w.heap.size, 0, none⟩ = false ∧
    (convert 92 9 (.slice (some ⟨w.heap.size, 0, none⟩) 32 32)).run Try.prog (w'.setCell ⟨w.heap.size, 0, none⟩ (.int .u8 x.toNat)) = .ok (.string (nm x)) (w'.setCell ⟨w.heap.size, 0, none⟩ (.int .u8 x.toNat)) ∧ Below w.heap.size w w' := by
  have hi : (Try.prog.info? 5).map (fun i => (i.zero, i.size, i.bytes)) = some (some (.int .u8 0), 1, 1) := by kernel_rfl
  obtain ⟨i, h1, h2, h3, h4⟩ := info_parts hi
  obtain ⟨w', r, o, g⟩ := run_makeSlice_full (P := Try.prog) w w.heap.size 92 5 i (.int .u8 0) 1 Try.underlying92 h1 h2 h3 .i64 .i64 32 (by omega) (by rw [h4]; omega) (by unfold maxLen; omega) (Nat.le_refl _)
  have c0 : w'.cell? ⟨w.heap.size, 0, none⟩ = some (.int .u8 0) := by
    rw [o.cellAt 0 (by omega)]
    simp [madeCells, Value.cells]
  refine ⟨w', r, c0, o.frozenAt _, ?_, ⟨g.os, g.tape, g.output, g.size, fun b hb => g.block b hb (by simp)⟩⟩
  have o2 := (o.stored 0 (.int .u8 x.toNat)).1
  have hc : ∀ i, i < 32 → (w'.setCell ⟨w.heap.size, 0, none⟩ (.int .u8 x.toNat)).cell? ⟨w.heap.size, 0 + i, none⟩ = some (.int .u8 (((x.toNat : Int) :: List.replicate 31 (0 : Int)).getD i 0)) := fun i hi => by
    rw [Nat.zero_add, o2.cellAt i (by omega)]
    match i with
    | 0 => simp [madeCells, Value.cells]
    | k + 1 =>
      have e : ((x.toNat : Int) :: List.replicate 31 (0 : Int)).getD (k + 1) 0 = 0 := by simp only [List.getD, List.getElem?_cons_succ, List.getElem?_replicate, if_pos (show k < 31 by omega)]; rfl
      rw [e]
      simp [madeCells, Value.cells, hi]
      rw [Nat.mod_one]
      rfl
  have := run_convert_bytes_arg (P := Try.prog) (w'.setCell ⟨w.heap.size, 0, none⟩ (.int .u8 x.toNat)) 92 5 Try.underlying92 Try.underlying5 w.heap.size 0 32 32 ((x.toNat : Int) :: List.replicate 31 0) (by simp) hc 9 Try.underlying9
  have e : strOfNums ((x.toNat : Int) :: List.replicate 31 0) = nm x := by
    unfold strOfNums nm
    rw [List.map_cons, Int.toNat_natCast, UInt8.ofNat_toNat]
    rfl
  rw [this, e]
set_option maxHeartbeats 1000000 in
theorem name_any (x : UInt8) (w : World) : Calls Try.prog 45 #[.int .u8 x.toNat] w fun e w' => e = .returned (.string (nm x)) ∧ Below w.heap.size w w' := by
  obtain ⟨w1, r1, c0, f0, r2, hb⟩ := mk_name w x
  have hb2 := below_setCell hb (Nat.le_refl _) (i := 0) (.int .u8 x.toNat)
  go_enter Try.func45, Try.ntmps45
  go_wp2
  go_ret
  exact ⟨rfl, hb2⟩
set_option maxHeartbeats 1000000 in
theorem task_any (x : UInt8) (size spare : Int) (w : World) : Calls Try.prog 34 #[.int .u8 x.toNat, .int .i64 size, .int .i64 spare] w fun e w' => e = .returned (eT x size spare).v ∧ Below w.heap.size w w' := by
  have CN := Lib.hid (fun W => name_any x W)
  unfold eT Tk.v
  simp only
  have hA : Below w.heap.size w (w.alloc (.cells #[.string ⟨#[]⟩, .int .i64 0, .int .i64 0, .int .i64 0, .int .i64 0, .int .i64 0, .int .i64 0] 27)) := (Below.refl _ _).alloc (Nat.le_refl _) _
  have hx := heap_alloc_new w (.cells #[.string ⟨#[]⟩, .int .i64 0, .int .i64 0, .int .i64 0, .int .i64 0, .int .i64 0, .int .i64 0] 27)
  have HX := Lib.hid hx
  generalize nm x = s at *
  go_enter Try.func34, Try.ntmps34
  go_wp2_with fail
  refine (CN.out _).mono ?_
  rintro e w1 ⟨rfl, hb1⟩
  have hx1 := bb hb1 HX.out
  have hbw := hA.trans (hb1.mono hA.size)
  have d0 := cell_of_row w1 _ 0 _ _ _ hx1
  have d1 := cell_of_row w1 _ 1 _ _ _ hx1
  have d2 := cell_of_row w1 _ 2 _ _ _ hx1
  have d3 := cell_of_row w1 _ 3 _ _ _ hx1
  have d4 := cell_of_row w1 _ 4 _ _ _ hx1
  have d5 := cell_of_row w1 _ 5 _ _ _ hx1
  have d6 := cell_of_row w1 _ 6 _ _ _ hx1
  have f0 := frozen_of_row w1 _ 0 _ _ hx1
  have f1 := frozen_of_row w1 _ 1 _ _ hx1
  have f2 := frozen_of_row w1 _ 2 _ _ hx1
  have f3 := frozen_of_row w1 _ 3 _ _ hx1
  have f4 := frozen_of_row w1 _ 4 _ _ hx1
  have f5 := frozen_of_row w1 _ 5 _ _ hx1
  have f6 := frozen_of_row w1 _ 6 _ _ hx1
  have HX1 := Lib.hid hx1
  clear hx hx1 hb1 hA CN
  have h7 : (((((((w1.setCell ⟨w.heap.size, 0, none⟩ (.string s)).setCell ⟨w.heap.size, 1, none⟩ (.int .i64 0)).setCell ⟨w.heap.size, 2, none⟩ (.int .i64 size)).setCell ⟨w.heap.size, 3, none⟩ (.int .i64 spare)).setCell ⟨w.heap.size, 4, none⟩ (.int .i64 1)).setCell ⟨w.heap.size, 5, none⟩ (.int .i64 2)).setCell ⟨w.heap.size, 6, none⟩ (.int .i64 0)).heap[w.heap.size]? = some (.cells #[.string s, .int .i64 0, .int .i64 size, .int .i64 spare, .int .i64 1, .int .i64 2, .int .i64 0] 27) :=
    setCell_block (setCell_block (setCell_block (setCell_block (setCell_block (setCell_block (setCell_block HX1.out _) _) _) _) _) _) _
  have H7 := Lib.hid h7
  clear h7
  go_wp2
  refine bodyPost_ret (results_cell_row (P := Try.prog) Try.results34 _ _ w.heap.size 27 _ (0, 0) _ (by rfl) H7.out Try.underlying27 rfl (by kernel_rfl)) rfl ?_
  exact ⟨rfl, below_setCell (below_setCell (below_setCell (below_setCell (below_setCell (below_setCell (below_setCell hbw (Nat.le_refl _) _) (Nat.le_refl _) _) (Nat.le_refl _) _) (Nat.le_refl _) _) (Nat.le_refl _) _) (Nat.le_refl _) _) (Nat.le_refl _) _⟩

set_option maxHeartbeats 1000000 in
theorem New_any (w : World) : Calls Try.prog 27 #[] w fun e w' => e = .returned (.pointer (some ⟨w.heap.size + 1, 0, none⟩)) ∧ w' = (w.alloc (.map #[] 0)).alloc (.cells #[.map (some w.heap.size)] 84) := by
  have hmm := @run_makeMap Try.prog
  go_enter Try.func27, Try.ntmps27
  go_wp2
  go_ret
  exact ⟨by simp [World.size_alloc], rfl⟩

set_option maxRecDepth 100000 in
set_option maxHeartbeats 8000000 in
theorem awake_any (w : World) : Calls Try.prog 12 #[] w fun e w' => e = .returned (.bool true) ∧ Below w.heap.size w w' := by
  have T1 := Lib.hid (fun W => task_any 1 60 0 W)
  have T2 := Lib.hid (fun W => task_any 2 50 1 W)
  have T3 := Lib.hid (fun W => task_any 3 40 2 W)
  have T4 := Lib.hid (fun W => task_any 9 1 (-1) W)
  have T5 := Lib.hid (fun W => task_any 1 1 0 W)
  have CC := Lib.hid (fun W v (h : ReadsT W v eL) => Cut_any v eL 100 W h (by decide) (by omega))
  rw [e_cut] at CC
  have CE := Lib.hid (show sumP [eT 1 60 0, eT 3 40 2] = 100 from by decide +kernel)
  rw [CE.out] at CC
  have CP := Lib.hid (fun W => compare_any (eT 9 1 (-1)) (eT 1 1 0) W e_ok9 e_ok1)
  rw [e_cmp] at CP
  have CN := Lib.hid (fun W => New_any W)
  have HOK := Lib.hid (show AllOk eL ∧ (0 : Int) ≤ 100 from ⟨e_ok, by omega⟩)
  have HRD := Lib.hid (fun (W : World) => (⟨_, 3, rfl, Nat.le_refl _, by show 3 ≤ _; omega, fun _ => ⟨W.heap.size, 0, rfl, fun i j hi hj => by
    rw [show 0 + i * 7 + j = i * 7 + j by omega, cell_of_row _ _ _ _ _ _ (heap_alloc_new W (.cells #[.string (nm 1), .int .i64 0, .int .i64 60, .int .i64 0, .int .i64 1, .int .i64 2, .int .i64 0, .string (nm 2), .int .i64 0, .int .i64 50, .int .i64 1, .int .i64 1, .int .i64 2, .int .i64 0, .string (nm 3), .int .i64 0, .int .i64 40, .int .i64 2, .int .i64 1, .int .i64 2, .int .i64 0] 27))]
    have hi3 : i < 3 := hi
    rcases (show i = 0 ∨ i = 1 ∨ i = 2 by omega) with rfl | rfl | rfl <;> rcases (show j = 0 ∨ j = 1 ∨ j = 2 ∨ j = 3 ∨ j = 4 ∨ j = 5 ∨ j = 6 by omega) with rfl | rfl | rfl | rfl | rfl | rfl | rfl <;> rfl⟩⟩ : ReadsT (W.alloc (.cells #[.string (nm 1), .int .i64 0, .int .i64 60, .int .i64 0, .int .i64 1, .int .i64 2, .int .i64 0, .string (nm 2), .int .i64 0, .int .i64 50, .int .i64 1, .int .i64 1, .int .i64 2, .int .i64 0, .string (nm 3), .int .i64 0, .int .i64 40, .int .i64 2, .int .i64 1, .int .i64 2, .int .i64 0] 27)) (.slice (some ⟨W.heap.size, 0, none⟩) 3 3) eL))
  have HS := Lib.hid (show ∀ (W : World) (v : Value), ReadsT W v [eT 1 60 0, eT 3 40 2] → ∃ b off c, v = .slice (some ⟨b, off, none⟩) 2 c ∧ W.cell? ⟨b, off + 2, none⟩ = some (.int .i64 60) ∧ W.cell? ⟨b, off + 7 + 2, none⟩ = some (.int .i64 40) from fun W v h => by
    obtain ⟨ao, c, b, off, rfl, h1, h2, h3⟩ := h.at
    obtain ⟨rfl, _, _, k2, _⟩ := h3 0 (by simp)
    obtain ⟨_, _, _, m2, _⟩ := h3 1 (by simp)
    refine ⟨b, off, c, rfl, ?_, ?_⟩
    · rw [show off + 2 = off + 0 * 7 + 2 by omega, k2]; rfl
    · rw [show off + 7 + 2 = off + 1 * 7 + 2 by omega, m2]; rfl)
  unfold eT Tk.v at T1 T2 T3 T4 T5 CP
  simp only at T1 T2 T3 T4 T5 CP
  have n1 : ((1 : UInt8).toNat : Int) = 1 := rfl
  have n2 : ((2 : UInt8).toNat : Int) = 2 := rfl
  have n3 : ((3 : UInt8).toNat : Int) = 3 := rfl
  have n9 : ((9 : UInt8).toNat : Int) = 9 := rfl
  rw [n1] at T1 T5
  rw [n2] at T2
  rw [n3] at T3
  rw [n9] at T4
  generalize nm 1 = s1 at *
  generalize nm 2 = s2 at *
  generalize nm 3 = s3 at *
  generalize nm 9 = s9 at *
  clear n1 n2 n3 n9
  generalize hel : eL = el at *
  generalize hrs : [eT 1 60 0, eT 3 40 2] = rs at *
  clear hel hrs
  go_enter Try.func12, Try.ntmps12
  go_wp2_with fail
  refine (T1.out _).mono ?_
  rintro e w1 ⟨rfl, hb1⟩
  go_wp2_with fail
  refine (T2.out _).mono ?_
  rintro e w2 ⟨rfl, hb2⟩
  go_wp2_with fail
  refine (T3.out _).mono ?_
  rintro e w3 ⟨rfl, hb3⟩
  have hbw := hb1.trans ((hb2.trans (hb3.mono hb2.size)).mono hb1.size)
  clear hb1 hb2 hb3 T1 T2 T3
  go_wp2_with fail
  refine (CC.out _ _ (HRD.out w3)).mono ?_
  rintro e w4 ⟨hb4, hcase⟩
  rcases hcase with ⟨hno, _⟩ | ⟨_, u, rfl, hr⟩
  · exact absurd HOK.out hno
  have hbw4 := hbw.trans (((sb0 _).trans (hb4.mono (sb0 _).size)).mono hbw.size)
  obtain ⟨b, off, c, rfl, x0, x1⟩ := HS.out _ _ hr
  clear CC HRD HS hr hb4 hbw
  go_wp2_with fail
  refine (T4.out _).mono ?_
  rintro e w5 ⟨rfl, hb5⟩
  go_wp2_with fail
  refine (T5.out _).mono ?_
  rintro e w6 ⟨rfl, hb6⟩
  go_wp2_with fail
  refine (CP.out _).mono ?_
  rintro e w7 ⟨rfl, hb7⟩
  go_wp2_with fail
  refine (CN.out _).mono ?_
  rintro e w8 ⟨rfl, rfl⟩
  have hb8 := hb5.trans ((hb6.trans (hb7.mono hb6.size)).mono hb5.size)
  have hb9 := hbw4.trans (hb8.mono hbw4.size)
  have z9 := hb9.size
  go_wp2
  go_ret
  exact ⟨rfl, (hb9.alloc z9 _).alloc (by rw [World.size_alloc]; omega) _⟩

end Go.Proofs.Ytcgilfnhbliadaa
