/- The reference's Left, fits. -/
import Derived.Test.YtijcicgbhcphjaaR1
namespace Go.Proofs.Ytijcicgbhcphjaa
open Go.RowKit Go.Lib Go.ChangeMaps
set_option linter.unusedSimpArgs false

theorem there_good {V : Vp} {ls : List Int} {x : Int} (h : x = -1 ∨ (0 ≤ x ∧ x < V.mem.length)) : thereB V ls x = goodB (goneB V.mem ls) x := by
  unfold thereB
  rcases h with rfl | ⟨_, h⟩
  · simp [goodB]
  · simp [h]

set_option maxRecDepth 100000 in
set_option maxHeartbeats 4000000 in
theorem left_ref (v lv : Value) (V : Vp) (ls : List Int) (h : Hp) (qa : Option Addr) (ql qc : Nat) (av : Value) (w : World) (hv : VwAt w v V) (hl : ReadsI w lv ls) (ha0 : ReadsI w av h.at_) (hat : ∀ x ∈ h.at_, x = -1 ∨ (0 ≤ x ∧ x < V.mem.length)) (h16 : h.at_.length ≤ 16) :
    Calls Try.prog 51 #[v, lv, h.v (.slice qa ql qc) av] w fun e w' => ∃ u, e = .returned u ∧ OwnI w' w.heap.size u (leftI (goneB V.mem ls) h.at_) ∧ Below w.heap.size w w' := by
  have HV := Lib.hid hv
  have HL := Lib.hid hl
  obtain ⟨ma, mc, ha, hc, ra, rl, rc, wa, wl, wc, rfl⟩ := hv.val
  obtain ⟨la, lc, _, _, rfl, -⟩ := hl.at
  obtain ⟨aa, ac, ab, af, rfl, al1, am1, acell⟩ := ha0.at
  have AC := Lib.hid acell
  have HAT := Lib.hid hat
  have CT := Lib.hid (fun W d (hW : Below w.heap.size w W) => there_any _ _ V ls d W (HV.out.below hW) (HL.out.below hW))
  clear hv hl ha0 acell hat HV HL
  generalize hgn : goneB V.mem ls = gone at *
  have HGN := Lib.hid hgn
  clear hgn
  obtain ⟨ml, hml⟩ : ∃ ml, ml = V.mem.length := ⟨_, rfl⟩
  rw [← hml] at HAT CT ⊢
  have HML := Lib.hid hml
  clear hml
  generalize V.held.length = nh at *
  generalize ls.length = ll at *
  obtain ⟨id, vault, block, data, total, refs, zs⟩ := h
  unfold Hp.v
  simp only at al1 am1 AC HAT h16 ⊢
  go_enter Try.func51, Try.ntmps51
  go_wp2
  generalize hWW : (((w.alloc _).alloc _).alloc _) = W
  have hA : Below w.heap.size w W := by subst hWW; (repeat' (first | (with_reducible exact Below.refl _ _) | (with_reducible assumption) | (with_reducible refine Below.alloc ?_ ?_ _) | (with_reducible refine Below.drew ?_) | (with_reducible refine below_drewN ?_ _) | (with_reducible refine Below.setCell ?_ ?_ _) | (with_reducible refine below_step ?_ (by with_reducible assumption) ?_) | go_size))
  have hown0 : OwnI W w.heap.size (.slice (some ⟨w.heap.size + 1 + 1, 0, none⟩) 0 0) [] := by
    subst hWW
    have := Own.lit0 ((w.alloc (.cells #[.slice ma ml mc, .slice ha nh hc, .slice ra rl rc, .slice wa wl wc] 33)).alloc (.cells #[.string id, .int .i64 vault, .int .i64 block, .int .i64 data, .int .i64 total, .slice qa ql qc, .slice aa zs.length ac] 87)) w.heap.size 3 1 (fun i _ => .int .i64 (([] : List Int).getD i 0)) (by rw [World.size_alloc, World.size_alloc]; omega)
    rw [World.size_alloc, World.size_alloc] at this
    exact this
  have hbx : W.heap[w.heap.size]? = some (.cells #[.slice ma ml mc, .slice ha nh hc, .slice ra rl rc, .slice wa wl wc] 33) := by
    subst hWW; show (((w.heap.push _).push _).push _)[_]? = _; simp only [Array.getElem?_push, Array.size_push]; repeat (first | rw [if_pos trivial] | rw [if_pos (by omega)] | rw [if_neg (by omega)])
  clear hWW
  go_loopw [14, 7, 8, 9] (fun v14 v7 _ _ wr => ∃ j : Nat, j ≤ zs.length ∧ v14 = .int .i64 j ∧ Below w.heap.size w wr ∧ OwnI wr w.heap.size v7 (leftTo gone zs j) ∧ wr.heap[w.heap.size]? = some (.cells #[.slice ma ml mc, .slice ha nh hc, .slice ra rl rc, .slice wa wl wc] 33)) (fun v14 _ _ _ _ => zs.length - (intOf v14).toNat)
  case atStart => exact ⟨0, Nat.zero_le _, rfl, hA, hown0, hbx⟩
  case round =>
    obtain ⟨j, hj, rfl, hbel, hown, hbxr⟩ := hrel
    have HO := Lib.hid hown
    have HB := Lib.hid hbxr
    have zr := hbel.size
    have l1 := leftTo_len gone zs j
    have d0 := cell_of_row wr _ 0 _ _ _ hbxr
    have d1 := cell_of_row wr _ 1 _ _ _ hbxr
    have d2 := cell_of_row wr _ 2 _ _ _ hbxr
    have d3 := cell_of_row wr _ 3 _ _ _ hbxr
    clear hown hA hown0 hbx
    by_cases hlt : j < zs.length
    · obtain ⟨e1, e2⟩ := AC.out j hlt
      subst e1
      have hx := HAT.out (zs.getD j 0) (by rw [getD_at _ _ _ hlt]; exact List.getElem_mem hlt)
      have hs1 := leftTo_succ gone zs j
      have HS1 := Lib.hid hs1
      rw [← hbel.cell (p := ⟨ab, _, none⟩) (cell_lt e2)] at e2
      clear hs1 hbxr
      generalize zs.getD j 0 = x at *
      have hth : thereB V ls x = goodB gone x := by rw [there_good (by rw [← HML.out]; exact hx), HGN.out]
      have CX := Lib.hid (CT.out wr x hbel)
      rw [hth] at CX
      clear hx hth
      cases hg : goodB gone x with
      | false =>
        rw [hg] at CX HS1
        rw [if_neg (by simp), List.append_nil] at HS1
        go_wp2_with fail
        refine CX.out.mono ?_
        rintro e w4 ⟨rfl, hb4⟩
        have hbx4 := (hb4.block _ (Array.getElem?_eq_some_iff.1 HB.out).1).trans HB.out
        have ho4 : OwnI w4 w.heap.size u7 (leftTo gone zs (j + 1)) := by rw [HS1.out]; exact OwnI.below HO.out hb4
        have HO4 := Lib.hid ho4
        have HB4 := Lib.hid hbx4
        clear ho4 hbx4
        go_wp2
        go_roundw
        case rel => exact ⟨j + 1, by omega, by go_num, hbel.trans (hb4.mono zr), HO4.out, HB4.out⟩
        case measure => simp [intOf]; omega
      | true =>
        rw [hg] at CX HS1
        rw [if_pos rfl] at HS1
        go_wp2_with fail
        refine CX.out.mono ?_
        rintro e w4 ⟨rfl, hb4⟩
        have hbx4 := (hb4.block _ (Array.getElem?_eq_some_iff.1 HB.out).1).trans HB.out
        have hbw4 := hbel.trans (hb4.mono zr)
        have ho4 := OwnI.below HO.out hb4
        obtain ⟨v6, w6, r6, o6, b6, s6, -⟩ := OwnI.app ho4 (j : Int) (by omega) hbw4.size
        rw [← HS1.out] at o6
        have HO6 := Lib.hid o6
        have hbx6 := (s6 w.heap.size (Array.getElem?_eq_some_iff.1 hbx4).1 (own_ne ho4 hbx4 (by decide))).trans hbx4
        have HB6 := Lib.hid hbx6
        obtain ⟨a6, c6, e6⟩ := OwnI.slice o6
        generalize hlen6 : (leftTo gone zs (j + 1)).length = len6 at *
        subst e6
        clear o6 s6 ho4 hbx4 hbx6 d0 d1 d2 d3
        go_wp2_with (at_builtin; refine wpList_append_run (by rfl) (.tmp 23) (.tmp 25) 24 (by rfl) _ (.slice (some ⟨w4.heap.size, 0, none⟩) 1 1) (.slice a6 len6 c6) w6 (by rfl) (by rfl) r6 ?_)
        go_roundw
        case rel => exact ⟨j + 1, by omega, by go_num, hbw4.trans b6, HO6.out, HB6.out⟩
        case measure => simp [intOf]; omega
    · have hjl : j = zs.length := by omega
      subst hjl
      go_wp2
      go_ret
      exact ⟨_, rfl, HO.out, hbel⟩

set_option maxRecDepth 100000 in
set_option maxHeartbeats 4000000 in
theorem fits_any (v lv : Value) (V : Vp) (ls : List Int) (w : World) (hv : VwAt w v V) (hl : ReadsI w lv ls) :
    Calls Try.prog 49 #[v, lv] w fun e w' => e = .returned (.bool (decide (Fits V ls))) ∧ Below w.heap.size w w' := by
  have HV := Lib.hid hv
  have HL := Lib.hid hl
  obtain ⟨ma, mc, ha, hc, ra, rl, rc, wa, wl, wc, rfl⟩ := hv.val
  obtain ⟨la, lc, _, _, rfl, -⟩ := hl.at
  clear hv hl
  obtain ⟨r, hr⟩ : ∃ r, r = decide (Fits V ls) := ⟨_, rfl⟩
  rw [← hr]
  have hd : Fits V ls ↔ VOk V ∧ DOk false 0 ((V.mem.length : Int) - 1) ls := by unfold Fits; rw [lostOk_iff]
  have HR := Lib.hid (show r = decide (VOk V ∧ DOk false 0 ((V.mem.length : Int) - 1) ls) by rw [hr]; exact decide_eq_decide.2 hd)
  clear hr hd
  obtain ⟨ml, hml⟩ : ∃ ml, ml = V.mem.length := ⟨_, rfl⟩
  rw [← hml] at HR HV ⊢
  have HML := Lib.hid hml
  clear hml
  generalize V.held.length = nh at *
  generalize ls.length = ll at *
  have hA : Below w.heap.size w (w.alloc (.cells #[.slice ma ml mc, .slice ha nh hc, .slice ra rl rc, .slice wa wl wc] 33)) := (Below.refl _ _).alloc (Nat.le_refl _) _
  have hbx := heap_alloc_new w (.cells #[.slice ma ml mc, .slice ha nh hc, .slice ra rl rc, .slice wa wl wc] 33)
  have CV := Lib.hid (valid_ref _ V _ (HV.out.below hA))
  go_enter Try.func49, Try.ntmps49
  go_wp2_with fail
  refine CV.out.mono ?_
  rintro e w1 ⟨rfl, hb1⟩
  have hbw1 := hA.trans (hb1.mono hA.size)
  have hbx1 := (hb1.block w.heap.size (by rw [World.size_alloc]; omega)).trans hbx
  have d0 := cell_of_row w1 _ 0 _ _ _ hbx1
  clear CV hA hbx hb1 hbx1
  by_cases hok : VOk V
  rotate_left
  · rw [decide_eq_false hok]
    obtain rfl : r = false := by rw [HR.out]; exact decide_eq_false fun h => hok h.1
    clear hok
    go_wp2
    go_ret
    exact ⟨rfl, hbw1⟩
  rw [decide_eq_true hok]
  have hr2 : r = decide (DOk false 0 ((ml : Int) - 1) ls) := by rw [HR.out]; exact decide_eq_decide.2 ⟨fun h => h.2, fun h => ⟨hok, h⟩⟩
  have CD := Lib.hid (distinct_any _ ls 0 ((ml : Int) - 1) false w1 (HL.out.below hbw1))
  rw [← hr2] at CD
  have hm12 : ml ≤ 12 := by rw [HML.out]; exact hok.1.1
  clear hr2 hok
  go_wp2_with fail
  refine CD.out.mono ?_
  rintro e w2 ⟨rfl, rfl⟩
  go_wp2
  go_ret
  exact ⟨rfl, hbw1⟩

end Go.Proofs.Ytijcicgbhcphjaa
