/- The examples of the chapter ('awake'). -/
import Derived.Test.YtednejckcdiebaaA
namespace Go.Proofs.Ytednejckcdiebaa
open Go.RowKit Go.Lib Go.ChangeMaps

/-- The days of the examples. -/
def exDay : List Int := [0, 0, 8, 40]
def exMet : Nat → Days
  | 0 => fun _ _ => []
  | j + 1 => meet (exMet j) 0 1 (exDay.getD j 0)
def exNew : Nat → Int
  | 0 => -1
  | j + 1 => exDay.getD j 0

theorem ex_met : exMet 4 0 1 = [0, 8, 40] := by decide
theorem ex_rate : (win (exMet 4 (min 0 1) (max 0 1)) (40 - 32 + 1) 40).length = 1 := by decide
theorem ex_weight : heft (win (exMet 4 (min 0 1) (max 0 1)) (40 - 168 + 1) 40) 40 = 1146880 := by decide
theorem ex_count : (exMet 4 (min 0 1) (max 0 1)).length = 3 := by decide

theorem rise_none : Rise (-1) (fun _ _ => []) := ⟨by simp, by simp, by simp, by omega⟩

theorem ex_days (j : Nat) (h : j < 4) : exNew j ≤ exDay.getD j 0 ∧ 0 ≤ exDay.getD j 0 ∧ exDay.getD j 0 ≤ 999999 := by
  match j, h with
  | 0, _ => decide
  | 1, _ => decide
  | 2, _ => decide
  | 3, _ => decide

set_option maxHeartbeats 2000000 in
theorem awake_any (w : World) : Calls Try.prog 14 #[] w fun e w' => e = .returned (.bool true) ∧ Below w.heap.size w w' := by
  have cN := new_ok 2 w (by omega) (by omega)
  have CN := Lib.hid cN
  clear cN
  go_enter Try.func14, Try.ntmps14
  go_wp2_with fail
  refine CN.out.mono ?_
  rintro e w1 ⟨rfl, hb, hk⟩
  have z1 := hb.size
  have hk1 := hk.tight
  obtain ⟨k, hkk⟩ : ∃ k, k = w.heap.size + 1 := ⟨_, rfl⟩
  rw [← hkk] at hk1 ⊢
  have HK := Lib.hid hk1
  clear hk1 hk hkk
  go_wp2_with fail
  generalize hW : w1.alloc (Obj.cells #[Value.int IntKind.i64 0, Value.int IntKind.i64 0, Value.int IntKind.i64 8, Value.int IntKind.i64 40] 3) = W
  have bW : Below w1.heap.size w1 W := by rw [← hW]; exact (Below.refl _ _).alloc (Nat.le_refl _) _
  have sW : W.heap[w1.heap.size]? = some (.cells #[.int .i64 0, .int .i64 0, .int .i64 8, .int .i64 40] 3 (0, 0)) := by
    rw [← hW]
    show (w1.heap.push _)[_]? = _
    rw [Array.getElem?_push, if_pos rfl]
  generalize hsb : w1.heap.size = sb at sW
  have SL := Lib.hid sW
  have BW := Lib.hid (HK.out.below bW)
  have HW := Lib.hid hW
  have HSB := Lib.hid hsb
  have bWw : Below w.heap.size w W := hb.trans (bW.mono z1)
  have zW := bWw.size
  have sblt : sb < W.heap.size := (Array.getElem?_eq_some_iff.1 sW).1
  clear hW sW hsb bW HK CN
  go_loopw [23] (fun v23 wr => ∃ j : Nat, j ≤ 4 ∧ v23 = .int .i64 j ∧ wr.heap[sb]? = some (.cells #[.int .i64 0, .int .i64 0, .int .i64 8, .int .i64 40] 3 (0, 0)) ∧ Below w.heap.size w wr ∧
      ∃ F, IsBook wr F k 2 (exNew j) (exMet j) ∧ Rise (exNew j) (exMet j) ∧ ¬ F sb ∧ ∀ b, F b → w.heap.size ≤ b) (fun v23 _ => 4 - (intOf v23).toNat)
  case atStart => exact ⟨0, by omega, rfl, SL.out, bWw, _, BW.out, rise_none, fun h => by have := HSB.out; omega, fun b h => h.1⟩
  case round =>
    obtain ⟨j, hj, rfl, hs, hbel, F, hB, hR, hn, hF⟩ := hrel
    by_cases hlt : j < 4
    · have hc : wr.cell? ⟨sb, j, none⟩ = some (.int .i64 (exDay.getD j 0)) := by
        rw [cell_of_block hs]
        match j, hlt with
        | 0, _ => rfl
        | 1, _ => rfl
        | 2, _ => rfl
        | 3, _ => rfl
      obtain ⟨e1, e2, e3⟩ := ex_days j hlt
      have cM := meet_ok F k 2 (exNew j) (exMet j) wr hB hR 1 0 (exDay.getD j 0) ⟨by omega, by omega, by omega, by omega, by omega, e2, e3⟩ e1
      have HR := Lib.hid (rise_meet hR 0 1 (exDay.getD j 0) e1 e2 e3)
      have eM : meet (exMet j) (min 1 0) (max 1 0) (exDay.getD j 0) = exMet (j + 1) := rfl
      have eM' : meet (exMet j) 0 1 (exDay.getD j 0) = exMet (j + 1) := rfl
      have eN : exNew (j + 1) = exDay.getD j 0 := rfl
      rw [eM] at cM
      rw [eM', ← eN] at HR
      rw [← eN] at cM hc
      obtain ⟨dd, hdd⟩ : ∃ dd, dd = exNew (j + 1) := ⟨_, rfl⟩
      rw [← hdd] at cM hc HR
      have HD := Lib.hid hdd
      have slt : sb < wr.heap.size := (Array.getElem?_eq_some_iff.1 hs).1
      have CM := Lib.hid cM
      have HS := Lib.hid hs
      clear cM hs hB hR eM eM' eN e1 e2 e3 hdd
      go_wp2_with fail
      refine CM.out.mono ?_
      rintro e w2 ⟨rfl, F2, hB2, hU⟩
      have HB2 := Lib.hid hB2
      clear hB2
      have zr := hbel.size
      have hb2 := hU.below (B := w.heap.size) zr hF
      go_wp2
      go_roundw
      case rel => exact ⟨j + 1, by omega, by go_num, by rw [hU.keep sb slt hn]; exact HS.out, hbel.trans hb2, F2, by rw [← HD.out]; exact HB2.out, by rw [← HD.out]; exact HR.out, fun h => by rcases hU.grow sb h with h | h; exact hn h; omega, hU.low zr hF⟩
      case measure => simp [intOf]; omega
    · obtain rfl : j = 4 := by omega
      have zr := hbel.size
      have cR := fun w h => Rate_ok F k 2 (exNew 4) (exMet 4) w h hR 0 1 40 (by unfold Fit; omega)
      have cW := fun w h => Weight_ok F k 2 (exNew 4) (exMet 4) w h hR 0 1 40 (by unfold Fit; omega)
      have cC := fun w h => count_any F k 2 (exNew 4) (exMet 4) w h 0 1
      rw [ex_rate] at cR
      rw [ex_weight] at cW
      rw [ex_count] at cC
      have eF : fracV ((1 : Nat) : Int) 32 = .agg #[.int .i64 1, .int .i64 32] := by
        have e1 : Int.gcd ((1 : Nat) : Int) 32 = 1 := by decide
        unfold fracV
        rw [e1]
        rfl
      rw [eF] at cR
      have CR := Lib.hid cR
      have CW := Lib.hid cW
      have CC := Lib.hid cC
      have HB := Lib.hid hB
      clear cR cW cC hB hR eF
      go_wp2_with fail
      refine (CR.out _ (HB.out.below (by (repeat' (first | (with_reducible exact Below.refl _ _) | (with_reducible assumption) | (with_reducible refine Below.alloc ?_ ?_ _) | (with_reducible refine Below.drew ?_) | (with_reducible refine below_drewN ?_ _) | (with_reducible refine Below.setCell ?_ ?_ _) | (with_reducible refine below_step ?_ (by with_reducible assumption) ?_) | go_size))))).mono ?_
      rintro e w2 ⟨rfl, hb2⟩
      have z2 := hb2.size
      obtain ⟨q2, f2⟩ := bcell hb2
      go_wp2_with fail
      refine (CW.out _ ((HB.out.below hb2).below (by (repeat' (first | (with_reducible exact Below.refl _ _) | (with_reducible assumption) | (with_reducible refine Below.alloc ?_ ?_ _) | (with_reducible refine Below.drew ?_) | (with_reducible refine below_drewN ?_ _) | (with_reducible refine Below.setCell ?_ ?_ _) | (with_reducible refine below_step ?_ (by with_reducible assumption) ?_) | go_size))))).mono ?_
      rintro e w3 ⟨rfl, hb3⟩
      have z3 := hb3.size
      obtain ⟨q3, f3⟩ := bcell hb3
      have y3 : w2.heap.size < w3.heap.size := by simp at z3; omega
      go_wp2_with fail
      refine (reduced_neg 4 6 _ (by omega) (by omega) (by omega) (by omega)).mono ?_
      rintro e w4 ⟨rfl, hb4⟩
      have z4 := hb4.size
      obtain ⟨q4, f4⟩ := bcell hb4
      have y4 : w2.heap.size < w4.heap.size := by omega
      have e46 : Int.gcd 4 6 = 2 := by decide
      rw [e46]
      have e42 : (4 : Int).tdiv ((2 : Nat) : Int) = 2 := by decide
      have e62 : (6 : Int) / ((2 : Nat) : Int) = 3 := by decide
      rw [e42, e62]
      clear e46 e42 e62
      go_wp2_with fail
      refine (CC.out _ ((((HB.out.below hb2).below (by (repeat' (first | (with_reducible exact Below.refl _ _) | (with_reducible assumption) | (with_reducible refine Below.alloc ?_ ?_ _) | (with_reducible refine Below.drew ?_) | (with_reducible refine below_drewN ?_ _) | (with_reducible refine Below.setCell ?_ ?_ _) | (with_reducible refine below_step ?_ (by with_reducible assumption) ?_) | go_size)))).below hb4).below (by (repeat' (first | (with_reducible exact Below.refl _ _) | (with_reducible assumption) | (with_reducible refine Below.alloc ?_ ?_ _) | (with_reducible refine Below.drew ?_) | (with_reducible refine below_drewN ?_ _) | (with_reducible refine Below.setCell ?_ ?_ _) | (with_reducible refine below_step ?_ (by with_reducible assumption) ?_) | go_size))))).mono ?_
      rintro e w5 ⟨rfl, hb5⟩
      have z5 := hb5.size
      obtain ⟨q5, f5⟩ := bcell hb5
      go_wp2
      go_ret
      refine ⟨rfl, ?_⟩
      (repeat' (first | (with_reducible exact Below.refl _ _) | (with_reducible assumption) | (with_reducible refine Below.alloc ?_ ?_ _) | (with_reducible refine Below.drew ?_) | (with_reducible refine below_drewN ?_ _) | (with_reducible refine Below.setCell ?_ ?_ _) | (with_reducible refine below_step ?_ (by with_reducible assumption) ?_) | go_size))

end Go.Proofs.Ytednejckcdiebaa
