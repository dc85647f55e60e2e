/- plain. -/
import Derived.Test.YtijcicgbhcphjaaH1
namespace Go.Proofs.Ytijcicgbhcphjaa
open Go.RowKit Go.Lib Go.ChangeMaps
set_option linter.unusedSimpArgs false

theorem info87 : (Try.prog.info? 87).map (fun i => (i.zero, i.size, i.bytes)) = some (some (.agg #[.string ⟨#[]⟩, .int .i64 0, .int .i64 0, .int .i64 0, .int .i64 0, .slice none 0 0, .slice none 0 0]), 7, 96) := by kernel_rfl

set_option maxRecDepth 100000 in
set_option maxHeartbeats 4000000 in
theorem plain_any (v : Value) (V : Vp) (w : World) (hv : VwAt w v V) (hh : V.held.length ≤ 1000) :
    Calls Try.prog 16 #[v] w fun e w' => ∃ u, e = .returned u ∧ VwAt w' u V ∧ Below w.heap.size w w' := by
  obtain ⟨mv, hv, rv, wv, rfl, hM, hH, hR, hW⟩ := hv
  obtain ⟨ma, mc, _, _, rfl, -⟩ := hM.at
  obtain ⟨xs, hxl, hxr, hxs⟩ := hH
  obtain ⟨ha, hc, hb, ho, rfl, hl, hm, hcell⟩ := hxr.at
  obtain ⟨ra, rc, _, _, rfl, -⟩ := hR.at
  obtain ⟨wa, wc, _, _, rfl, -⟩ := hW.at
  have HC := Lib.hid hcell
  have HM := Lib.hid hM
  have HR := Lib.hid hR
  have HW := Lib.hid hW
  have HXS := Lib.hid hxs
  have hxs1 : ∀ i, i < V.held.length → ∃ a1 c1 a2 c2, xsR xs i = .slice a1 (V.held.getD i default).refs.length c1 ∧ xsA xs i = .slice a2 (V.held.getD i default).at_.length c2 := fun i hi => by
    obtain ⟨a1, c1, _, _, e1, _⟩ := (hxs i hi).1.at
    obtain ⟨a2, c2, _, _, e2, _⟩ := (hxs i hi).2.at
    exact ⟨a1, c1, a2, c2, e1, e2⟩
  have HX1 := Lib.hid hxs1
  clear hcell hM hR hW hxs hxr hxs1
  go_enter Try.func16, Try.ntmps16
  obtain ⟨nh, hnh⟩ : ∃ nh, nh = V.held.length := ⟨_, rfl⟩
  have HNH := Lib.hid hnh
  rw [← hnh] at hl hh ⊢
  clear hnh
  generalize V.mem.length = ml at *
  generalize V.room.length = rl at *
  generalize V.weight.length = wl at *
  go_wp2
  generalize hWW : (((w.alloc _).alloc _).alloc _) = W
  have hbW : Below w.heap.size w W := by subst hWW; (repeat' (first | (with_reducible exact Below.refl _ _) | (with_reducible assumption) | (with_reducible refine Below.alloc ?_ ?_ _) | (with_reducible refine Below.drew ?_) | (with_reducible refine below_drewN ?_ _) | (with_reducible refine Below.setCell ?_ ?_ _) | (with_reducible refine below_step ?_ (by with_reducible assumption) ?_) | go_size))
  have hb1 : W.heap[w.heap.size + 1]? = some (.cells #[.slice none 0 0, .slice none 0 0, .slice none 0 0, .slice none 0 0] 33 (0, 0)) := by
    subst hWW; show (((w.heap.push _).push _).push _)[_]? = _; simp only [Array.getElem?_push, Array.size_push]; repeat (first | rw [if_pos trivial] | rw [if_pos (by omega)] | rw [if_neg (by omega)])
  have hb2 : W.heap[w.heap.size + 1 + 1]? = some (.cells #[.slice ma ml mc, .slice none 0 0, .slice ra rl rc, .slice wa wl wc] 33 (0, 0)) := by
    subst hWW; show (((w.heap.push _).push _).push _)[_]? = _; simp only [Array.getElem?_push, Array.size_push]; repeat (first | rw [if_pos trivial] | rw [if_pos (by omega)] | rw [if_neg (by omega)])
  have hzW : W.heap.size = w.heap.size + 3 := by subst hWW; simp
  clear hWW
  go_loopw [16, 5] (fun v16 _ wr => ∃ (j : Nat) (hv : Value), j ≤ nh ∧ v16 = .int .i64 j ∧ Below w.heap.size w wr ∧ w.heap.size + 3 ≤ wr.heap.size ∧ Own wr (w.heap.size + 3) 87 hv 7 j (hpCell V.held xs) ∧
    wr.heap[w.heap.size + 1]? = some (.cells #[.slice none 0 0, .slice none 0 0, .slice none 0 0, .slice none 0 0] 33 (0, 0)) ∧ wr.heap[w.heap.size + 1 + 1]? = some (.cells #[.slice ma ml mc, hv, .slice ra rl rc, .slice wa wl wc] 33 (0, 0))) (fun v16 _ _ => nh - (intOf v16).toNat)
  case atStart => exact ⟨0, _, Nat.zero_le _, rfl, hbW, by omega, Own.nil _ _ _ _ _, hb1, hb2⟩
  case round =>
    obtain ⟨j, hv, hj, rfl, hbel, hz, hown, hb1, hb2⟩ := hrel
    clear hbW hzW
    have HB1 := Lib.hid hb1
    have HB2 := Lib.hid hb2
    have HO := Lib.hid hown
    have zr := hbel.size
    by_cases hlt : j < nh
    · have hjl : j < V.held.length := by rw [← HNH.out]; exact hlt
      obtain ⟨e1, e2⟩ := HC.out j hjl
      subst e1
      obtain ⟨a1, c1, a2, c2, q1, q2⟩ := HX1.out j hjl
      have d0 := e2 0 (by omega)
      have d1 := e2 1 (by omega)
      have d2 := e2 2 (by omega)
      have d3 := e2 3 (by omega)
      have d4 := e2 4 (by omega)
      have d5 : w.cell? ⟨hb, ho + j * 7 + 5, none⟩ = some (.slice a1 (V.held.getD j default).refs.length c1) := (e2 5 (by omega)).trans (congrArg some q1)
      have d6 : w.cell? ⟨hb, ho + j * 7 + 6, none⟩ = some (.slice a2 (V.held.getD j default).at_.length c2) := (e2 6 (by omega)).trans (congrArg some q2)
      simp only [hpCell, Nat.add_zero] at d0 d1 d2 d3 d4
      rw [← hbel.cell (p := ⟨hb, _, none⟩) (cell_lt d0)] at d0
      rw [← hbel.cell (p := ⟨hb, _, none⟩) (cell_lt d1)] at d1
      rw [← hbel.cell (p := ⟨hb, _, none⟩) (cell_lt d2)] at d2
      rw [← hbel.cell (p := ⟨hb, _, none⟩) (cell_lt d3)] at d3
      rw [← hbel.cell (p := ⟨hb, _, none⟩) (cell_lt d4)] at d4
      rw [← hbel.cell (p := ⟨hb, _, none⟩) (cell_lt d5)] at d5
      rw [← hbel.cell (p := ⟨hb, _, none⟩) (cell_lt d6)] at d6
      have hY : ∀ q, q < 7 → ([.string (V.held.getD j default).id, .int .i64 (V.held.getD j default).vault, .int .i64 (V.held.getD j default).block, .int .i64 (V.held.getD j default).data, .int .i64 (V.held.getD j default).total, .slice a1 (V.held.getD j default).refs.length c1, .slice a2 (V.held.getD j default).at_.length c2] : List Value)[q]? = some (hpCell V.held xs j q) := fun q hq => by
        match q, hq with
        | 0, _ => rfl
        | 1, _ => rfl
        | 2, _ => rfl
        | 3, _ => rfl
        | 4, _ => rfl
        | 5, _ => exact congrArg some q1.symm
        | 6, _ => exact congrArg some q2.symm
      have hA := fun o => (Below.refl wr.heap.size wr).alloc (Nat.le_refl _) o
      have hap := fun o => Own.append (V := wr.alloc o) (t := 31) (e := 87) Try.underlying31 info87 rfl (by omega) (by omega) (HO.out.below (hA o)) 31 _ rfl hY (by
        intro u hu
        simp at hu
        rcases hu with rfl | rfl | rfl | rfl | rfl | rfl | rfl <;> rfl) (by omega) (by rw [World.size_alloc]; omega)
      have HAP := Lib.hid hap
      obtain ⟨hva, hvl, hvc, rfl⟩ := Own.slice hown
      have s1 := cell_of_row wr _ 1 _ _ _ hb2
      have hlt2 : w.heap.size + 1 + 1 < wr.heap.size := by omega
      clear e2 hY hap hown hb1 hb2 hA
      generalize V.held.getD j default = y at *
      obtain ⟨id, vault, block, data, total, refs, at_⟩ := y
      simp only at d0 d1 d2 d3 d4 d5 d6 HAP q1 q2
      generalize refs.length = ql at *
      generalize at_.length = al at *
      obtain ⟨v6, w6, r6, o6, b6, s6, -⟩ := HAP.out (.cells #[.string id, .int .i64 vault, .int .i64 block, .int .i64 data, .int .i64 total, .slice a1 ql c1, .slice a2 al c2] 52)
      have hA := (Below.refl wr.heap.size wr).alloc (Nat.le_refl _) (.cells #[.string id, .int .i64 vault, .int .i64 block, .int .i64 data, .int .i64 total, .slice a1 ql c1, .slice a2 al c2] 52)
      have hk2 := (s6 (w.heap.size + 1 + 1) (by rw [World.size_alloc]; omega) (own_ne (HO.out.below hA) ((hA.block _ (by omega)).trans HB2.out) (by decide))).trans ((hA.block _ (by omega)).trans HB2.out)
      have hk1 := (s6 (w.heap.size + 1) (by rw [World.size_alloc]; omega) (own_ne (HO.out.below hA) ((hA.block _ (by omega)).trans HB1.out) (by decide))).trans ((hA.block _ (by omega)).trans HB1.out)
      have t1 := cell_of_row w6 _ 1 _ _ _ hk2
      have fz := frozen_of_row w6 (w.heap.size + 1 + 1) 1 _ _ hk2
      have hb6 := (hbel.trans (hA.mono zr)).trans (b6.mono (show w.heap.size ≤ w.heap.size + 3 by omega))
      have hz6 : w.heap.size + 3 ≤ w6.heap.size := by have := b6.size; rw [World.size_alloc] at this; omega
      have HK1 := Lib.hid ((setCell_other w6 (b := w.heap.size + 1 + 1) (i := 1) v6 (show w.heap.size + 1 ≠ w.heap.size + 1 + 1 by omega)).trans hk1)
      have HK2 := Lib.hid (setCell_block (i := 1) hk2 v6)
      have HO6 := Lib.hid (Own.same (w' := w6.setCell ⟨w.heap.size + 1 + 1, 1, none⟩ v6) o6 fun g hg => setCell_other w6 v6 (fun e => own_ne o6 hk2 (by decide) (e ▸ hg)))
      obtain ⟨v6a, v6l, v6c, rfl⟩ := Own.slice o6
      clear o6 s6 hk1 hk2 b6 hA HO HAP HB1 HB2 q1 q2
      go_wp2_with (at_builtin; refine wpList_append_run (by rfl) (.tmp 21) (.tmp 27) 31 (by rfl) _ (.slice (some ⟨wr.heap.size + 1, 0, none⟩) 1 1) (.slice v6a v6l v6c) w6 (by rfl) (by rfl) (by rw [World.size_alloc] at r6; exact r6) ?_)
      go_roundw
      case rel => exact ⟨j + 1, _, by omega, by go_num, Below.setCell hb6 (by show w.heap.size ≤ w.heap.size + 1 + 1; omega) _, by rw [setCell_size]; exact hz6, HO6.out, HK1.out, HK2.out⟩
      case measure => simp [intOf]; omega
    · have hjl : j = nh := by omega
      subst hjl
      obtain ⟨hva, hvl, hvc, rfl⟩ := Own.slice hown
      have c0 := cell_of_row wr _ 0 _ _ _ hb2
      have c1 := cell_of_row wr _ 1 _ _ _ hb2
      have c2 := cell_of_row wr _ 2 _ _ _ hb2
      have c3 := cell_of_row wr _ 3 _ _ _ hb2
      have r0 := cell_of_row wr _ 0 _ _ _ hb1
      have r1 := cell_of_row wr _ 1 _ _ _ hb1
      have r2 := cell_of_row wr _ 2 _ _ _ hb1
      have r3 := cell_of_row wr _ 3 _ _ _ hb1
      have f0 := frozen_of_row wr (w.heap.size + 1) 0 _ _ hb1
      have f1 := frozen_of_row wr (w.heap.size + 1) 1 _ _ hb1
      have f2 := frozen_of_row wr (w.heap.size + 1) 2 _ _ hb1
      have f3 := frozen_of_row wr (w.heap.size + 1) 3 _ _ hb1
      obtain ⟨y1, y2, y3⟩ := four_set hb1 (.slice ma ml mc) (.slice hva hvl hvc) (.slice ra rl rc) (.slice wa wl wc)
      have hbF := y3 w.heap.size w (by omega) hbel
      have hoF := HO.out.same fun q hq => y2 q (fun e => own_ne HO.out hb1 (by decide) (e ▸ hq))
      have HOF := Lib.hid hoF
      have HBF := Lib.hid hbF
      have HY1 := Lib.hid y1
      clear y1 y2 y3 hoF hbF hown hb2
      go_wp2
      refine bodyPost_ret (results_cell_row (P := Try.prog) Try.results16 _ _ (w.heap.size + 1) 33 _ (0, 0) _ (by rfl) HY1.out Try.underlying33 rfl (by kernel_rfl)) rfl ?_
      refine ⟨_, rfl, ⟨_, _, _, _, rfl, HM.out.below HBF.out, ⟨xs, hxl, ?_, fun i hi => ⟨(HXS.out i hi).1.below HBF.out, (HXS.out i hi).2.below HBF.out⟩⟩, HR.out.below HBF.out, HW.out.below HBF.out⟩, HBF.out⟩
      have h9 := Own.row HOF.out (by omega)
      rw [HNH.out] at h9
      exact h9

end Go.Proofs.Ytijcicgbhcphjaa

/- small. -/
namespace Go.Proofs.Ytijcicgbhcphjaa
open Go.RowKit Go.Lib Go.ChangeMaps
set_option linter.unusedSimpArgs false

def SmH (h : Hp) : Prop := h.at_.length ≤ 20 ∧ h.refs.length ≤ 8 ∧ h.id.size ≤ 64
instance (h : Hp) : Decidable (SmH h) := inferInstanceAs (Decidable (_ ∧ _))
def SmJ (j : Jp) : Prop := j.from_.length ≤ 20 ∧ j.pc.st.size ≤ 64
instance (j : Jp) : Decidable (SmJ j) := inferInstanceAs (Decidable (_ ∧ _))
/-- A view that is small. -/
def Small (V : Vp) (ls : List Int) (js : List Jp) : Prop := V.mem.length ≤ 20 ∧ V.held.length ≤ 6 ∧ V.room.length ≤ 20 ∧ V.weight.length ≤ 20 ∧ ls.length ≤ 20 ∧ js.length ≤ 12 ∧ (∀ h ∈ V.held, SmH h) ∧ ∀ j ∈ js, SmJ j
instance (V : Vp) (ls : List Int) (js : List Jp) : Decidable (Small V ls js) := inferInstanceAs (Decidable (_ ∧ _))
theorem all_snoc {α : Type} (P : α → Prop) (xs : List α) (j : Nat) (h : j < xs.length) : (∀ x ∈ xs.take (j + 1), P x) ↔ (∀ x ∈ xs.take j, P x) ∧ P xs[j] := by
  rw [List.take_succ_eq_append_getElem h]
  constructor
  · exact fun hh => ⟨fun x hx => hh x (List.mem_append_left _ hx), hh _ (List.mem_append_right _ (List.mem_singleton.2 rfl))⟩
  · rintro ⟨h1, h2⟩ x hx
    rcases List.mem_append.1 hx with hx | hx
    · exact h1 x hx
    · simp at hx; subst hx; exact h2

set_option maxRecDepth 100000 in
set_option maxHeartbeats 8000000 in
theorem small_any (v lv jv : Value) (V : Vp) (ls : List Int) (js : List Jp) (w : World) (hv : VwAt w v V) (hl : ReadsI w lv ls) (hj : ReadsJ w jv js) :
    Calls Try.prog 13 #[v, lv, jv] w fun e w' => e = .returned (.bool (decide (Small V ls js))) ∧ Below w.heap.size w w' := by
  obtain ⟨mv, hv, rv, wv, rfl, hM, hH, hR, hW⟩ := hv
  obtain ⟨ma, mc, _, _, rfl, -⟩ := hM.at
  obtain ⟨ha, hc, hb, ho, rfl, hl1, hm1, hcell⟩ := hH.at
  obtain ⟨ra, rc, _, _, rfl, -⟩ := hR.at
  obtain ⟨wa, wc, _, _, rfl, -⟩ := hW.at
  obtain ⟨la, lc, _, _, rfl, -⟩ := hl.at
  obtain ⟨ja, jc, jb, jo, rfl, jl1, jm1, jcell⟩ := hj.at
  have HC := Lib.hid hcell
  have JC := Lib.hid jcell
  clear hcell jcell hM hH hR hW hl hj
  obtain ⟨r, hr⟩ : ∃ r, r = decide (Small V ls js) := ⟨_, rfl⟩
  rw [← hr]
  have hno : ¬ (V.mem.length ≤ 20 ∧ V.held.length ≤ 6 ∧ V.room.length ≤ 20 ∧ V.weight.length ≤ 20 ∧ ls.length ≤ 20 ∧ js.length ≤ 12 ∧ (∀ h ∈ V.held, SmH h) ∧ ∀ j ∈ js, SmJ j) → r = false := fun h => by rw [hr]; exact decide_eq_false h
  have hyes : (V.mem.length ≤ 20 ∧ V.held.length ≤ 6 ∧ V.room.length ≤ 20 ∧ V.weight.length ≤ 20 ∧ ls.length ≤ 20 ∧ js.length ≤ 12 ∧ (∀ h ∈ V.held, SmH h) ∧ ∀ j ∈ js, SmJ j) → r = true := fun h => by rw [hr]; exact decide_eq_true h
  obtain ⟨ms, hms⟩ : ∃ n, n = V.mem.length := ⟨_, rfl⟩
  obtain ⟨hs, hhs⟩ : ∃ n, n = V.held.length := ⟨_, rfl⟩
  obtain ⟨jl, hjl⟩ : ∃ n, n = js.length := ⟨_, rfl⟩
  have HHS := Lib.hid hhs
  have HJL := Lib.hid hjl
  rw [← hms] at hno hyes ⊢
  rw [← hhs] at hno hyes hl1 ⊢
  rw [← hjl] at hno hyes jl1 ⊢
  clear hms hhs hjl hr
  generalize V.room.length = rs at *
  generalize V.weight.length = ws at *
  generalize ls.length = ll at *
  have HNO := Lib.hid hno
  have HYES := Lib.hid hyes
  clear hno hyes
  go_enter Try.func13, Try.ntmps13
  by_cases a0 : ms ≤ 20
  rotate_left
  · obtain rfl := HNO.out fun h => a0 (h.1)
    have q0 : decide (20 < (ms : Int)) = true := decide_eq_true (by omega)
    clear a0
    go_wp2
    go_ret
    exact ⟨rfl, by (repeat' (first | (with_reducible exact Below.refl _ _) | (with_reducible assumption) | (with_reducible refine Below.alloc ?_ ?_ _) | (with_reducible refine Below.drew ?_) | (with_reducible refine below_drewN ?_ _) | (with_reducible refine Below.setCell ?_ ?_ _) | (with_reducible refine below_step ?_ (by with_reducible assumption) ?_) | go_size))⟩
  have q0 : decide (20 < (ms : Int)) = false := decide_eq_false (by omega)
  by_cases a1 : hs ≤ 6
  rotate_left
  · obtain rfl := HNO.out fun h => a1 (h.2.1)
    have q1 : decide (6 < (hs : Int)) = true := decide_eq_true (by omega)
    clear a1
    go_wp2
    go_ret
    exact ⟨rfl, by (repeat' (first | (with_reducible exact Below.refl _ _) | (with_reducible assumption) | (with_reducible refine Below.alloc ?_ ?_ _) | (with_reducible refine Below.drew ?_) | (with_reducible refine below_drewN ?_ _) | (with_reducible refine Below.setCell ?_ ?_ _) | (with_reducible refine below_step ?_ (by with_reducible assumption) ?_) | go_size))⟩
  have q1 : decide (6 < (hs : Int)) = false := decide_eq_false (by omega)
  by_cases a2 : rs ≤ 20
  rotate_left
  · obtain rfl := HNO.out fun h => a2 (h.2.2.1)
    have q2 : decide (20 < (rs : Int)) = true := decide_eq_true (by omega)
    clear a2
    go_wp2
    go_ret
    exact ⟨rfl, by (repeat' (first | (with_reducible exact Below.refl _ _) | (with_reducible assumption) | (with_reducible refine Below.alloc ?_ ?_ _) | (with_reducible refine Below.drew ?_) | (with_reducible refine below_drewN ?_ _) | (with_reducible refine Below.setCell ?_ ?_ _) | (with_reducible refine below_step ?_ (by with_reducible assumption) ?_) | go_size))⟩
  have q2 : decide (20 < (rs : Int)) = false := decide_eq_false (by omega)
  by_cases a3 : ws ≤ 20
  rotate_left
  · obtain rfl := HNO.out fun h => a3 (h.2.2.2.1)
    have q3 : decide (20 < (ws : Int)) = true := decide_eq_true (by omega)
    clear a3
    go_wp2
    go_ret
    exact ⟨rfl, by (repeat' (first | (with_reducible exact Below.refl _ _) | (with_reducible assumption) | (with_reducible refine Below.alloc ?_ ?_ _) | (with_reducible refine Below.drew ?_) | (with_reducible refine below_drewN ?_ _) | (with_reducible refine Below.setCell ?_ ?_ _) | (with_reducible refine below_step ?_ (by with_reducible assumption) ?_) | go_size))⟩
  have q3 : decide (20 < (ws : Int)) = false := decide_eq_false (by omega)
  by_cases a4 : ll ≤ 20
  rotate_left
  · obtain rfl := HNO.out fun h => a4 (h.2.2.2.2.1)
    have q4 : decide (20 < (ll : Int)) = true := decide_eq_true (by omega)
    clear a4
    go_wp2
    go_ret
    exact ⟨rfl, by (repeat' (first | (with_reducible exact Below.refl _ _) | (with_reducible assumption) | (with_reducible refine Below.alloc ?_ ?_ _) | (with_reducible refine Below.drew ?_) | (with_reducible refine below_drewN ?_ _) | (with_reducible refine Below.setCell ?_ ?_ _) | (with_reducible refine below_step ?_ (by with_reducible assumption) ?_) | go_size))⟩
  have q4 : decide (20 < (ll : Int)) = false := decide_eq_false (by omega)
  by_cases a5 : jl ≤ 12
  rotate_left
  · obtain rfl := HNO.out fun h => a5 (h.2.2.2.2.2.1)
    have q5 : decide (12 < (jl : Int)) = true := decide_eq_true (by omega)
    clear a5
    go_wp2
    go_ret
    exact ⟨rfl, by (repeat' (first | (with_reducible exact Below.refl _ _) | (with_reducible assumption) | (with_reducible refine Below.alloc ?_ ?_ _) | (with_reducible refine Below.drew ?_) | (with_reducible refine below_drewN ?_ _) | (with_reducible refine Below.setCell ?_ ?_ _) | (with_reducible refine below_step ?_ (by with_reducible assumption) ?_) | go_size))⟩
  have q5 : decide (12 < (jl : Int)) = false := decide_eq_false (by omega)
  have hb0 : Below w.heap.size w (w.alloc (.cells #[.slice ma ms mc, .slice ha hs hc, .slice ra rs rc, .slice wa ws wc] 26)) := (Below.refl _ _).alloc (Nat.le_refl _) _
  go_wp2
  clear q0 q1 q2 q3 q4 q5
  go_loopw [46, 8] (fun v46 _ wr => ∃ j : Nat, j ≤ hs ∧ v46 = .int .i64 j ∧ (∀ h ∈ V.held.take j, SmH h) ∧ Below w.heap.size w wr) (fun v46 _ _ => hs - (intOf v46).toNat)
  case atStart => exact ⟨0, Nat.zero_le _, rfl, by simp, hb0⟩
  case round =>
    obtain ⟨j, hj, rfl, hall, hbel⟩ := hrel
    have HA := Lib.hid hall
    have zr := hbel.size
    clear hall hb0
    by_cases hlt : j < hs
    · have hjl : j < V.held.length := by rw [← HHS.out]; exact hlt
      obtain ⟨e1, e2, e3, e4, e5, e6, xr, av, e7, e8, hrr, hra⟩ := HC.out j hjl
      subst e1
      obtain ⟨qa, qc, _, _, rfl, -⟩ := hrr.at
      obtain ⟨ua, uc, _, _, rfl, -⟩ := hra.at
      have hs1 := all_snoc SmH V.held j hjl
      rw [← getD_at V.held j default hjl] at hs1
      have HS1 := Lib.hid hs1
      have hbad : ¬ SmH (V.held.getD j default) → r = false := fun h => HNO.out fun hh => h (hh.2.2.2.2.2.2.1 _ (by rw [getD_at _ _ _ hjl]; exact List.getElem_mem hjl))
      have HBAD0 := Lib.hid hbad
      clear hrr hra hs1 hbad
      rw [← hbel.cell (p := ⟨hb, _, none⟩) (cell_lt e2)] at e2
      rw [← hbel.cell (p := ⟨hb, _, none⟩) (cell_lt e3)] at e3
      rw [← hbel.cell (p := ⟨hb, _, none⟩) (cell_lt e4)] at e4
      rw [← hbel.cell (p := ⟨hb, _, none⟩) (cell_lt e5)] at e5
      rw [← hbel.cell (p := ⟨hb, _, none⟩) (cell_lt e6)] at e6
      rw [← hbel.cell (p := ⟨hb, _, none⟩) (cell_lt e7)] at e7
      rw [← hbel.cell (p := ⟨hb, _, none⟩) (cell_lt e8)] at e8
      generalize V.held.getD j default = y at *
      obtain ⟨id, vault, block, data, total, refs, at_⟩ := y
      simp only at e2 e3 e4 e5 e6
      have HSM := Lib.hid (show SmH ⟨id, vault, block, data, total, refs, at_⟩ ↔ (at_.length ≤ 20 ∧ refs.length ≤ 8 ∧ id.size ≤ 64) from Iff.rfl)
      have HBAD := Lib.hid (show ¬ (at_.length ≤ 20 ∧ refs.length ≤ 8 ∧ id.size ≤ 64) → r = false from fun h => HBAD0.out fun hh => h (HSM.out.1 hh))
      clear HBAD0
      generalize refs.length = ql at *
      generalize at_.length = ul at *
      by_cases b0 : ul ≤ 20
      rotate_left
      · obtain rfl := HBAD.out fun h => b0 (h.1)
        have p0 : decide (20 < (ul : Int)) = true := decide_eq_true (by omega)
        clear b0
        go_wp2
        go_ret
        exact ⟨rfl, by (repeat' (first | (with_reducible exact Below.refl _ _) | (with_reducible assumption) | (with_reducible refine Below.alloc ?_ ?_ _) | (with_reducible refine Below.drew ?_) | (with_reducible refine below_drewN ?_ _) | (with_reducible refine Below.setCell ?_ ?_ _) | (with_reducible refine below_step ?_ (by with_reducible assumption) ?_) | go_size))⟩
      have p0 : decide (20 < (ul : Int)) = false := decide_eq_false (by omega)
      by_cases b1 : ql ≤ 8
      rotate_left
      · obtain rfl := HBAD.out fun h => b1 (h.2.1)
        have p1 : decide (8 < (ql : Int)) = true := decide_eq_true (by omega)
        clear b1
        go_wp2
        go_ret
        exact ⟨rfl, by (repeat' (first | (with_reducible exact Below.refl _ _) | (with_reducible assumption) | (with_reducible refine Below.alloc ?_ ?_ _) | (with_reducible refine Below.drew ?_) | (with_reducible refine below_drewN ?_ _) | (with_reducible refine Below.setCell ?_ ?_ _) | (with_reducible refine below_step ?_ (by with_reducible assumption) ?_) | go_size))⟩
      have p1 : decide (8 < (ql : Int)) = false := decide_eq_false (by omega)
      by_cases b2 : id.size ≤ 64
      rotate_left
      · obtain rfl := HBAD.out fun h => b2 (h.2.2)
        have p2 : decide (64 < (id.size : Int)) = true := decide_eq_true (by omega)
        clear b2
        go_wp2
        go_ret
        exact ⟨rfl, by (repeat' (first | (with_reducible exact Below.refl _ _) | (with_reducible assumption) | (with_reducible refine Below.alloc ?_ ?_ _) | (with_reducible refine Below.drew ?_) | (with_reducible refine below_drewN ?_ _) | (with_reducible refine Below.setCell ?_ ?_ _) | (with_reducible refine below_step ?_ (by with_reducible assumption) ?_) | go_size))⟩
      have p2 : decide (64 < (id.size : Int)) = false := decide_eq_false (by omega)
      have hnx := HS1.out.2 ⟨HA.out, HSM.out.2 ⟨b0, b1, b2⟩⟩
      have HNX := Lib.hid hnx
      clear hnx b0 b1 b2
      go_wp2
      go_roundw
      case rel => exact ⟨j + 1, by omega, by go_num, HNX.out, by (repeat' (first | (with_reducible exact Below.refl _ _) | (with_reducible assumption) | (with_reducible refine Below.alloc ?_ ?_ _) | (with_reducible refine Below.drew ?_) | (with_reducible refine below_drewN ?_ _) | (with_reducible refine Below.setCell ?_ ?_ _) | (with_reducible refine below_step ?_ (by with_reducible assumption) ?_) | go_size))⟩
      case measure => simp [intOf]; omega
    · have hjl : j = hs := by omega
      subst hjl
      have hall := HA.out
      rw [HHS.out, List.take_length] at hall
      have HALL := Lib.hid hall
      clear hall HA hj hlt
      go_wp2
      go_loopw [71, 10] (fun v71 _ wi => ∃ i : Nat, i ≤ jl ∧ v71 = .int .i64 i ∧ (∀ x ∈ js.take i, SmJ x) ∧ Below w.heap.size w wi) (fun v71 _ _ => jl - (intOf v71).toNat)
      case atStart => exact ⟨0, Nat.zero_le _, rfl, by simp, hbel⟩
      case round =>
        clear hbel zr
        obtain ⟨i, hi, rfl, hall, hbel⟩ := hrel
        have HA := Lib.hid hall
        have zr := hbel.size
        clear hall
        by_cases hlt : i < jl
        · have hil : i < js.length := by rw [← HJL.out]; exact hlt
          obtain ⟨e1, e2, e3, fv, e4, e5, e6, hfv⟩ := JC.out i hil
          subst e1
          obtain ⟨fa, fc, _, _, rfl, -⟩ := hfv.at
          have hs1 := all_snoc SmJ js i hil
          rw [← getD_at js i default hil] at hs1
          have HS1 := Lib.hid hs1
          have hbad : ¬ SmJ (js.getD i default) → r = false := fun h => HNO.out fun hh => h (hh.2.2.2.2.2.2.2 _ (by rw [getD_at _ _ _ hil]; exact List.getElem_mem hil))
          have HBAD0 := Lib.hid hbad
          clear hfv hs1 hbad
          rw [← hbel.cell (p := ⟨jb, _, none⟩) (cell_lt e2)] at e2
          rw [← hbel.cell (p := ⟨jb, _, none⟩) (cell_lt e3)] at e3
          rw [← hbel.cell (p := ⟨jb, _, none⟩) (cell_lt e4)] at e4
          rw [← hbel.cell (p := ⟨jb, _, none⟩) (cell_lt e5)] at e5
          rw [← hbel.cell (p := ⟨jb, _, none⟩) (cell_lt e6)] at e6
          generalize js.getD i default = y at *
          obtain ⟨⟨st, ix⟩, fs, dst, size⟩ := y
          simp only at e2 e3 e5 e6
          have HSM := Lib.hid (show SmJ ⟨⟨st, ix⟩, fs, dst, size⟩ ↔ (fs.length ≤ 20 ∧ st.size ≤ 64) from Iff.rfl)
          have HBAD := Lib.hid (show ¬ (fs.length ≤ 20 ∧ st.size ≤ 64) → r = false from fun h => HBAD0.out fun hh => h (HSM.out.1 hh))
          clear HBAD0
          generalize fs.length = fl at *
          by_cases b0 : fl ≤ 20
          rotate_left
          · obtain rfl := HBAD.out fun h => b0 (h.1)
            have p0 : decide (20 < (fl : Int)) = true := decide_eq_true (by omega)
            clear b0
            go_wp2
            go_ret
            exact ⟨rfl, by (repeat' (first | (with_reducible exact Below.refl _ _) | (with_reducible assumption) | (with_reducible refine Below.alloc ?_ ?_ _) | (with_reducible refine Below.drew ?_) | (with_reducible refine below_drewN ?_ _) | (with_reducible refine Below.setCell ?_ ?_ _) | (with_reducible refine below_step ?_ (by with_reducible assumption) ?_) | go_size))⟩
          have p0 : decide (20 < (fl : Int)) = false := decide_eq_false (by omega)
          by_cases b1 : st.size ≤ 64
          rotate_left
          · obtain rfl := HBAD.out fun h => b1 (h.2)
            have p1 : decide (64 < (st.size : Int)) = true := decide_eq_true (by omega)
            clear b1
            go_wp2
            go_ret
            exact ⟨rfl, by (repeat' (first | (with_reducible exact Below.refl _ _) | (with_reducible assumption) | (with_reducible refine Below.alloc ?_ ?_ _) | (with_reducible refine Below.drew ?_) | (with_reducible refine below_drewN ?_ _) | (with_reducible refine Below.setCell ?_ ?_ _) | (with_reducible refine below_step ?_ (by with_reducible assumption) ?_) | go_size))⟩
          have p1 : decide (64 < (st.size : Int)) = false := decide_eq_false (by omega)
          have hnx := HS1.out.2 ⟨HA.out, HSM.out.2 ⟨b0, b1⟩⟩
          have HNX := Lib.hid hnx
          clear hnx b0 b1
          go_wp2
          go_roundw
          case rel => exact ⟨i + 1, by omega, by go_num, HNX.out, by (repeat' (first | (with_reducible exact Below.refl _ _) | (with_reducible assumption) | (with_reducible refine Below.alloc ?_ ?_ _) | (with_reducible refine Below.drew ?_) | (with_reducible refine below_drewN ?_ _) | (with_reducible refine Below.setCell ?_ ?_ _) | (with_reducible refine below_step ?_ (by with_reducible assumption) ?_) | go_size))⟩
          case measure => simp [intOf]; omega
        · have hil : i = jl := by omega
          subst hil
          have hall := HA.out
          rw [HJL.out, List.take_length] at hall
          obtain rfl := HYES.out ⟨a0, a1, a2, a3, a4, a5, HALL.out, hall⟩
          go_wp2
          go_ret
          exact ⟨rfl, hbel⟩

end Go.Proofs.Ytijcicgbhcphjaa
