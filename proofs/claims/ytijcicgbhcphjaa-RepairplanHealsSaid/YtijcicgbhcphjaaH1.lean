/- The example of the chapter, plain. -/
import Derived.Test.YtijcicgbhcphjaaG3
import Derived.Laws.BytesArg
namespace Go.Proofs.Ytijcicgbhcphjaa
open Go.RowKit Go.Lib Go.ChangeMaps
set_option linter.unusedSimpArgs false

def eId : ByteArray := ⟨#[0, 0, 0, 0, 0, 0, 0, 0, 0, 0, 0, 0, 0, 0, 0, 0, 0, 0, 0, 0, 0, 0, 0, 0, 0, 0, 0, 0, 0, 0, 0, 0]⟩
def eMs : List Mem := [⟨0, ⟨#[]⟩, ⟨#[]⟩, 0, false⟩, ⟨1, ⟨#[]⟩, ⟨#[]⟩, 0, false⟩, ⟨2, ⟨#[]⟩, ⟨#[]⟩, 0, false⟩]
def eV : Vp := ⟨eMs, [⟨eId, 0, 64, 1, 3, [], [0, 1, -1]⟩], [100, 100, 100], [1, 5, 3]⟩
def eJ : Jp := ⟨⟨eId, 1⟩, [0], 2, 64⟩
theorem e_fits : Fits eV [1] := by decide +kernel
theorem e_dam : dmTo (goneB eV.mem [1]) eV.held eV.held.length = [⟨eId, 1⟩] := by decide +kernel
theorem e_least : leastI eV (goneB eV.mem [1]) = 0 := by decide +kernel
theorem e_plan : (planR eV (goneB eV.mem [1])).2 = [eJ] := by decide +kernel
theorem e_check : checkB eV [1] [eJ] = true := by decide +kernel

end Go.Proofs.Ytijcicgbhcphjaa

/- awake. -/
namespace Go.Proofs.Ytijcicgbhcphjaa
open Go.RowKit Go.Lib Go.ChangeMaps
set_option linter.unusedSimpArgs false

theorem mk_id (w : World) : ∃ w', (Instr.makeSlice 82 (.int .i64 32) (.int .i64 32)).run Try.prog w = .ok (.slice (some ⟨w.heap.size, 0, none⟩) 32 32) w' ∧ (convert 82 9 (.slice (some ⟨w.heap.size, 0, none⟩) 32 32)).run Try.prog w' = .ok (.string eId) w' ∧ Below w.heap.size w w' := by
  have hi : (Try.prog.info? 5).map (fun i => (i.zero, i.size, i.bytes)) = some (some (.int .u8 0), 1, 1) := by kernel_rfl
  obtain ⟨i, h1, h2, h3, h4⟩ := info_parts hi
  obtain ⟨w', r, o, g⟩ := run_makeSlice_full (P := Try.prog) w w.heap.size 82 5 i (.int .u8 0) 1 Try.underlying82 h1 h2 h3 .i64 .i64 32 (by omega) (by rw [h4]; omega) (by unfold maxLen; omega) (Nat.le_refl _)
  refine ⟨w', r, ?_, ⟨g.os, g.tape, g.output, g.size, fun b hb => g.block b hb (by simp)⟩⟩
  have hc : ∀ i, i < 32 → w'.cell? ⟨w.heap.size, 0 + i, none⟩ = some (.int .u8 ((List.replicate 32 (0 : Int)).getD i 0)) := fun i hi => by
    rw [Nat.zero_add, o.cellAt i (by omega)]
    have e : (List.replicate 32 (0 : Int)).getD i 0 = 0 := by simp only [List.getD, List.getElem?_replicate, if_pos hi]; rfl
    rw [e]
    simp [madeCells, Value.cells, hi]
    rw [Nat.mod_one]
    rfl
  have := run_convert_bytes_arg (P := Try.prog) w' 82 5 Try.underlying82 Try.underlying5 w.heap.size 0 32 32 (List.replicate 32 0) (by simp) hc 9 Try.underlying9
  rw [this]
  congr 2

theorem e_world (w1 : World) : ∃ W, W = ((((((w1.alloc (.cells #[.int .i64 0, .string ⟨#[]⟩, .string ⟨#[]⟩, .int .i64 0, .bool false, .int .i64 1, .string ⟨#[]⟩, .string ⟨#[]⟩, .int .i64 0, .bool false, .int .i64 2, .string ⟨#[]⟩, .string ⟨#[]⟩, .int .i64 0, .bool false] 81)).alloc (.cells #[.int .i64 0, .int .i64 1, .int .i64 (-1)] 3)).alloc (.cells #[.string eId, .int .i64 0, .int .i64 64, .int .i64 1, .int .i64 3, .slice none 0 0, .slice (some ⟨w1.heap.size + 1, 0, none⟩) 3 3] 52)).alloc (.cells #[.int .i64 100, .int .i64 100, .int .i64 100] 3)).alloc (.cells #[.int .i64 1, .int .i64 5, .int .i64 3] 3)).alloc (.cells #[.slice (some ⟨w1.heap.size, 0, none⟩) 3 3, .slice (some ⟨w1.heap.size + 1 + 1, 0, none⟩) 1 1, .slice (some ⟨w1.heap.size + 1 + 1 + 1, 0, none⟩) 3 3, .slice (some ⟨w1.heap.size + 1 + 1 + 1 + 1, 0, none⟩) 3 3] 26)) ∧ VwAt W (.agg #[.slice (some ⟨w1.heap.size, 0, none⟩) 3 3, .slice (some ⟨w1.heap.size + 1 + 1, 0, none⟩) 1 1, .slice (some ⟨w1.heap.size + 1 + 1 + 1, 0, none⟩) 3 3, .slice (some ⟨w1.heap.size + 1 + 1 + 1 + 1, 0, none⟩) 3 3]) eV ∧
    W.heap[w1.heap.size + 1 + 1 + 1 + 1 + 1]? = some (.cells #[.slice (some ⟨w1.heap.size, 0, none⟩) 3 3, .slice (some ⟨w1.heap.size + 1 + 1, 0, none⟩) 1 1, .slice (some ⟨w1.heap.size + 1 + 1 + 1, 0, none⟩) 3 3, .slice (some ⟨w1.heap.size + 1 + 1 + 1 + 1, 0, none⟩) 3 3] 26 (0, 0)) ∧ Below w1.heap.size w1 W ∧ W.heap.size = w1.heap.size + 1 + 1 + 1 + 1 + 1 + 1 := by
  refine ⟨_, rfl, ?_, ?_, ?_, ?_⟩
  · generalize hW : ((((((w1.alloc (.cells #[.int .i64 0, .string ⟨#[]⟩, .string ⟨#[]⟩, .int .i64 0, .bool false, .int .i64 1, .string ⟨#[]⟩, .string ⟨#[]⟩, .int .i64 0, .bool false, .int .i64 2, .string ⟨#[]⟩, .string ⟨#[]⟩, .int .i64 0, .bool false] 81)).alloc (.cells #[.int .i64 0, .int .i64 1, .int .i64 (-1)] 3)).alloc (.cells #[.string eId, .int .i64 0, .int .i64 64, .int .i64 1, .int .i64 3, .slice none 0 0, .slice (some ⟨w1.heap.size + 1, 0, none⟩) 3 3] 52)).alloc (.cells #[.int .i64 100, .int .i64 100, .int .i64 100] 3)).alloc (.cells #[.int .i64 1, .int .i64 5, .int .i64 3] 3)).alloc (.cells #[.slice (some ⟨w1.heap.size, 0, none⟩) 3 3, .slice (some ⟨w1.heap.size + 1 + 1, 0, none⟩) 1 1, .slice (some ⟨w1.heap.size + 1 + 1 + 1, 0, none⟩) 3 3, .slice (some ⟨w1.heap.size + 1 + 1 + 1 + 1, 0, none⟩) 3 3] 26)) = W
    have h0 : W.heap[w1.heap.size]? = some (.cells #[.int .i64 0, .string ⟨#[]⟩, .string ⟨#[]⟩, .int .i64 0, .bool false, .int .i64 1, .string ⟨#[]⟩, .string ⟨#[]⟩, .int .i64 0, .bool false, .int .i64 2, .string ⟨#[]⟩, .string ⟨#[]⟩, .int .i64 0, .bool false] 81) := by subst hW; show ((((((w1.heap.push _).push _).push _).push _).push _).push _)[_]? = _; simp only [Array.getElem?_push, Array.size_push]; repeat (first | rw [if_pos trivial] | rw [if_pos (by omega)] | rw [if_neg (by omega)])
    have h1 : W.heap[w1.heap.size + 1]? = some (.cells #[.int .i64 0, .int .i64 1, .int .i64 (-1)] 3) := by subst hW; show ((((((w1.heap.push _).push _).push _).push _).push _).push _)[_]? = _; simp only [Array.getElem?_push, Array.size_push]; repeat (first | rw [if_pos trivial] | rw [if_pos (by omega)] | rw [if_neg (by omega)])
    have h2 : W.heap[w1.heap.size + 1 + 1]? = some (.cells #[.string eId, .int .i64 0, .int .i64 64, .int .i64 1, .int .i64 3, .slice none 0 0, .slice (some ⟨w1.heap.size + 1, 0, none⟩) 3 3] 52) := by subst hW; show ((((((w1.heap.push _).push _).push _).push _).push _).push _)[_]? = _; simp only [Array.getElem?_push, Array.size_push]; repeat (first | rw [if_pos trivial] | rw [if_pos (by omega)] | rw [if_neg (by omega)])
    have h3 : W.heap[w1.heap.size + 1 + 1 + 1]? = some (.cells #[.int .i64 100, .int .i64 100, .int .i64 100] 3) := by subst hW; show ((((((w1.heap.push _).push _).push _).push _).push _).push _)[_]? = _; simp only [Array.getElem?_push, Array.size_push]; repeat (first | rw [if_pos trivial] | rw [if_pos (by omega)] | rw [if_neg (by omega)])
    have h4 : W.heap[w1.heap.size + 1 + 1 + 1 + 1]? = some (.cells #[.int .i64 1, .int .i64 5, .int .i64 3] 3) := by subst hW; show ((((((w1.heap.push _).push _).push _).push _).push _).push _)[_]? = _; simp only [Array.getElem?_push, Array.size_push]; repeat (first | rw [if_pos trivial] | rw [if_pos (by omega)] | rw [if_neg (by omega)])
    refine ⟨_, _, _, _, rfl, ⟨_, _, rfl, by show 3 ≤ 3; omega, by show 3 ≤ _; omega, fun _ => ⟨_, 0, rfl, fun i j hi hj => ?_⟩⟩, ⟨[(.slice none 0 0, .slice (some ⟨w1.heap.size + 1, 0, none⟩) 3 3)], rfl, ⟨_, _, rfl, by show 1 ≤ 1; omega, by show 1 ≤ _; omega, fun _ => ⟨_, 0, rfl, fun i j hi hj => ?_⟩⟩, fun i hi => ?_⟩,
      ⟨_, _, rfl, by show 3 ≤ 3; omega, by show 3 ≤ _; omega, fun _ => ⟨_, 0, rfl, fun i j hi hj => ?_⟩⟩, ⟨_, _, rfl, by show 3 ≤ 3; omega, by show 3 ≤ _; omega, fun _ => ⟨_, 0, rfl, fun i j hi hj => ?_⟩⟩⟩
    · rw [cell_of_row _ _ _ _ _ _ h0]
      have hi3 : i < 3 := hi
      rcases (show i = 0 ∨ i = 1 ∨ i = 2 by omega) with rfl | rfl | rfl <;> rcases (show j = 0 ∨ j = 1 ∨ j = 2 ∨ j = 3 ∨ j = 4 by omega) with rfl | rfl | rfl | rfl | rfl <;> rfl
    · rw [cell_of_row _ _ _ _ _ _ h2]
      have hi3 : i < 1 := hi
      have hi0 : i = 0 := by omega
      subst hi0
      rcases (show j = 0 ∨ j = 1 ∨ j = 2 ∨ j = 3 ∨ j = 4 ∨ j = 5 ∨ j = 6 by omega) with rfl | rfl | rfl | rfl | rfl | rfl | rfl <;> rfl
    · have hi3 : i < 1 := hi
      have hi0 : i = 0 := by omega
      subst hi0
      refine ⟨⟨_, _, rfl, Nat.le_refl _, by show 0 ≤ _; omega, fun h => absurd h (by show ¬ 0 < 0; omega)⟩, ⟨_, _, rfl, by show 3 ≤ 3; omega, by show 3 ≤ _; omega, fun _ => ⟨_, 0, rfl, fun i j hi hj => ?_⟩⟩⟩
      rw [cell_of_row _ _ _ _ _ _ h1]
      have hi3 : i < 3 := hi
      have hj0 : j = 0 := by omega
      subst hj0
      rcases (show i = 0 ∨ i = 1 ∨ i = 2 by omega) with rfl | rfl | rfl <;> rfl
    · rw [cell_of_row _ _ _ _ _ _ h3]
      have hi3 : i < 3 := hi
      have hj0 : j = 0 := by omega
      subst hj0
      rcases (show i = 0 ∨ i = 1 ∨ i = 2 by omega) with rfl | rfl | rfl <;> rfl
    · rw [cell_of_row _ _ _ _ _ _ h4]
      have hi3 : i < 3 := hi
      have hj0 : j = 0 := by omega
      subst hj0
      rcases (show i = 0 ∨ i = 1 ∨ i = 2 by omega) with rfl | rfl | rfl <;> rfl
  · show ((((((w1.heap.push _).push _).push _).push _).push _).push _)[_]? = _; simp only [Array.getElem?_push, Array.size_push]; repeat (first | rw [if_pos trivial] | rw [if_pos (by omega)] | rw [if_neg (by omega)])
  · (repeat' (first | (with_reducible exact Below.refl _ _) | (with_reducible assumption) | (with_reducible refine Below.alloc ?_ ?_ _) | (with_reducible refine Below.drew ?_) | (with_reducible refine below_drewN ?_ _) | (with_reducible refine Below.setCell ?_ ?_ _) | (with_reducible refine below_step ?_ (by with_reducible assumption) ?_) | go_size))
  · simp

theorem lost_reads (w : World) : ReadsI (w.alloc (.cells #[.int .i64 1] 3)) (.slice (some ⟨w.heap.size, 0, none⟩) 1 1) [1] := by
  refine ⟨_, _, rfl, Nat.le_refl _, by show 1 ≤ _; omega, fun _ => ⟨_, 0, rfl, fun i j hi hj => ?_⟩⟩
  rw [cell_of_row _ _ _ _ _ _ (heap_alloc_new _ _)]
  have hi1 : i < 1 := hi
  have hi0 : i = 0 := by omega
  have hj0 : j = 0 := by omega
  subst hi0; subst hj0
  rfl

set_option maxRecDepth 100000 in
set_option maxHeartbeats 8000000 in
theorem awake_any (w : World) :
    Calls Try.prog 12 #[] w fun e w' => e = .returned (.bool true) ∧ Below w.heap.size w w' := by
  obtain ⟨w1, r1, r2, hb1⟩ := mk_id w
  obtain ⟨W, hW, hv, hbox, hb2, hz⟩ := e_world w1
  have HW := Lib.hid hW
  have HV := Lib.hid hv
  have hbW := hb1.trans (hb2.mono hb1.size)
  have hrf : ∀ h ∈ eV.held, h.refs.length ≤ 1000 := by decide
  have CD := Lib.hid (fun W2 (h : Below W.heap.size W W2) lv hl => damaged_any _ lv eV [1] W2 (HV.out.below h) hl hrf)
  have CL := Lib.hid (fun W2 (h : Below W.heap.size W W2) lv hl => least_any _ lv eV [1] W2 (HV.out.below h) hl hrf)
  have CP := Lib.hid (fun W2 (h : Below W.heap.size W W2) lv hl => plan_any _ lv eV [1] W2 (HV.out.below h) hl hrf)
  have CC := Lib.hid (fun W2 (h : Below W.heap.size W W2) lv hl jv hj => check_any _ lv jv eV [1] [eJ] W2 (HV.out.below h) hl hj hrf)
  clear hW hv hb2
  go_enter Try.func12, Try.ntmps12
  have hzb : w1.heap.size + 1 + 1 + 1 + 1 + 1 < W.heap.size := by omega
  have d0 := cell_of_row W _ 0 _ _ _ hbox
  have d1 := cell_of_row W _ 1 _ _ _ hbox
  have d2 := cell_of_row W _ 2 _ _ _ hbox
  have d3 := cell_of_row W _ 3 _ _ _ hbox
  go_wp2_with fail
  rw [← HW.out]
  have hl0 : ReadsI (W.alloc (.cells #[.int .i64 1] 3)) (.slice (some ⟨w1.heap.size + 1 + 1 + 1 + 1 + 1 + 1, 0, none⟩) 1 1) [1] := by rw [← hz]; exact lost_reads W
  refine (CD.out _ ((Below.refl _ _).alloc (Nat.le_refl _) _) _ hl0).mono ?_
  rintro e w3 ⟨hb3, hcase⟩
  rcases hcase with ⟨hno, _⟩ | ⟨_, u, rfl, hu⟩
  · exact absurd e_fits hno
  rw [e_dam] at hu
  have hA0 : Below W.heap.size W (W.alloc (.cells #[.int .i64 1] 3)) := (Below.refl _ _).alloc (Nat.le_refl _) _
  have hb_w3 : Below W.heap.size W w3 := hA0.trans (hb3.mono hA0.size)
  clear hb3 hl0
  have d0_w3 := (hb_w3.cell (p := ⟨_, 0, none⟩) hzb).trans d0
  have d1_w3 := (hb_w3.cell (p := ⟨_, 1, none⟩) hzb).trans d1
  have d2_w3 := (hb_w3.cell (p := ⟨_, 2, none⟩) hzb).trans d2
  have d3_w3 := (hb_w3.cell (p := ⟨_, 3, none⟩) hzb).trans d3
  obtain ⟨ua, uc, hue, _, _, hucell⟩ := Own.row hu (by decide)
  obtain ⟨ub, uo, hua, hucl⟩ := hucell (by decide)
  subst hue
  subst hua
  have x1 : w3.cell? ⟨ub, uo + 1, none⟩ = some (.int .i64 1) := hucl 0 1 (by decide) (by decide)
  clear hu hucell hucl
  go_wp2_with fail
  refine (CL.out _ (hb_w3.alloc hb_w3.size _) _ (lost_reads w3)).mono ?_
  rintro e w4 ⟨rfl, hb4⟩
  rw [if_pos e_fits, e_least]
  have hA3 := fun o => (Below.refl w3.heap.size w3).alloc (Nat.le_refl _) o
  have h34 : Below w3.heap.size w3 w4 := (hA3 _).trans (hb4.mono (hA3 _).size)
  have hb_w4 := hb_w3.trans (h34.mono hb_w3.size)
  have x1_4 := (h34.cell (p := ⟨ub, _, none⟩) (cell_lt x1)).trans x1
  clear hb4 hA3 d0_w3 d1_w3 d2_w3 d3_w3 h34
  have d0_w4 := (hb_w4.cell (p := ⟨_, 0, none⟩) hzb).trans d0
  have d1_w4 := (hb_w4.cell (p := ⟨_, 1, none⟩) hzb).trans d1
  have d2_w4 := (hb_w4.cell (p := ⟨_, 2, none⟩) hzb).trans d2
  have d3_w4 := (hb_w4.cell (p := ⟨_, 3, none⟩) hzb).trans d3
  go_wp2_with fail
  refine (CP.out _ (hb_w4.alloc hb_w4.size _) _ (lost_reads w4)).mono ?_
  rintro e w5 ⟨hb5, hcase⟩
  rcases hcase with ⟨hno, _⟩ | ⟨_, v, rfl, hv5⟩
  · exact absurd e_fits hno
  rw [e_plan] at hv5
  have hA4 := fun o => (Below.refl w4.heap.size w4).alloc (Nat.le_refl _) o
  have h45 : Below w4.heap.size w4 w5 := (hA4 _).trans (hb5.mono (hA4 _).size)
  have hb_w5 := hb_w4.trans (h45.mono hb_w4.size)
  have x1_5 := (h45.cell (p := ⟨ub, _, none⟩) (cell_lt x1_4)).trans x1_4
  clear hb5 hA4 d0_w4 d1_w4 d2_w4 d3_w4 h45 x1 x1_4
  have d0_w5 := (hb_w5.cell (p := ⟨_, 0, none⟩) hzb).trans d0
  have d1_w5 := (hb_w5.cell (p := ⟨_, 1, none⟩) hzb).trans d1
  have d2_w5 := (hb_w5.cell (p := ⟨_, 2, none⟩) hzb).trans d2
  have d3_w5 := (hb_w5.cell (p := ⟨_, 3, none⟩) hzb).trans d3
  have hrj : ReadsJ w5 v [eJ] := hv5.reads (by decide) (by decide)
  have HRJ := Lib.hid hrj
  obtain ⟨ja, jc, jb, jo, rfl, _, _, jcell⟩ := hrj.at
  obtain ⟨je, j0, j1, fv, j2, j3, j4, hfv⟩ := jcell 0 (by decide)
  subst je
  obtain ⟨fa, fc, fb, fo, rfl, _, _, fcell⟩ := hfv.at
  obtain ⟨fe, f0⟩ := fcell 0 (by decide)
  subst fe
  have j1 : w5.cell? ⟨jb, jo + 1, none⟩ = some (.int .i64 1) := by simpa [eJ] using j1
  have j2 : w5.cell? ⟨jb, jo + 2, none⟩ = some (.slice (some ⟨fb, fo, none⟩) 1 fc) := by simpa [eJ] using j2
  have j3 : w5.cell? ⟨jb, jo + 3, none⟩ = some (.int .i64 2) := by simpa [eJ] using j3
  have f0 : w5.cell? ⟨fb, fo, none⟩ = some (.int .i64 0) := by simpa [eJ] using f0
  clear hv5 hrj jcell j0 j4 hfv fcell
  go_wp2_with fail
  refine (CC.out _ (hb_w5.alloc hb_w5.size _) _ (lost_reads w5) _ (HRJ.out.below ((Below.refl _ _).alloc (Nat.le_refl _) _))).mono ?_
  rintro e w6 ⟨rfl, hb6⟩
  rw [e_check]
  have hA5 := fun o => (Below.refl w5.heap.size w5).alloc (Nat.le_refl _) o
  have hb_w6 := hb_w5.trans (((hA5 _).trans (hb6.mono (hA5 _).size)).mono hb_w5.size)
  go_wp2
  go_ret
  exact ⟨rfl, hbW.trans (hb_w6.mono hbW.size)⟩

end Go.Proofs.Ytijcicgbhcphjaa
