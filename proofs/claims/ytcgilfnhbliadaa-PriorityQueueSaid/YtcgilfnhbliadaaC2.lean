/- Two tasks asked for equality; slices.Compact on a row of the call's own. -/
import Derived.Test.YtcgilfnhbliadaaC1
namespace Go.Proofs.Ytcgilfnhbliadaa
open Go.RowKit Go.Lib Go.ChangeMaps
set_option linter.unusedSimpArgs false

theorem tk_eq (a b : Tk) : decide (a = b) = (a.st.toList == b.st.toList && (a.ix == b.ix && (a.size == b.size && (a.spare == b.spare && (a.num == b.num && (a.den == b.den && a.day == b.day)))))) := by
  obtain ⟨ast, aix, asz, asp, anum, aden, aday⟩ := a
  obtain ⟨bst, bix, bsz, bsp, bnum, bden, bday⟩ := b
  simp only [Tk.mk.injEq, str_eq]
  rw [Bool.eq_iff_iff]
  simp only [decide_eq_true_eq, Bool.and_eq_true, beq_iff_eq]

theorem eqIn27 (a b : Tk) (w : World) : (Op.equalIn 10000 27 a.v b.v).run Try.prog w = .ok (decide (a = b)) w := by
  rw [tk_eq]
  obtain ⟨ast, aix, asz, asp, anum, aden, aday⟩ := a
  obtain ⟨bst, bix, bsz, bsp, bnum, bden, bday⟩ := b
  unfold Tk.v
  simp only
  go_simp
  (repeat' split) <;> simp_all
theorem eqIn32 (a b : Tk) (w : World) : (Op.equalIn 10000 32 a.v b.v).run Try.prog w = .ok (decide (a = b)) w := by
  rw [tk_eq]
  obtain ⟨ast, aix, asz, asp, anum, aden, aday⟩ := a
  obtain ⟨bst, bix, bsz, bsp, bnum, bden, bday⟩ := b
  unfold Tk.v
  simp only
  go_simp
  (repeat' split) <;> simp_all

/-- Equal neighbours, one task more. -/
theorem dedT_two : ∀ (l : List Tk) (x y : Tk), dedT (l ++ [x, y]) = if x = y then dedT (l ++ [x]) else dedT (l ++ [x]) ++ [y]
  | [], x, y => by
    simp only [List.nil_append, dedT]
    by_cases h : x = y
    · rw [if_pos h, if_pos h, h]
    · rw [if_neg h, if_neg h]
      rfl
  | [z], x, y => by
    simp only [List.cons_append, List.nil_append, dedT]
    by_cases h1 : z = x <;> by_cases h2 : x = y <;> simp [h1, h2]
  | z :: z2 :: r, x, y => by
    have ih := dedT_two (z2 :: r) x y
    simp only [List.cons_append] at ih ⊢
    rw [dedT, dedT, ih]
    by_cases h1 : z = z2
    · rw [if_pos h1, if_pos h1]
    · rw [if_neg h1, if_neg h1]
      by_cases h2 : x = y
      · rw [if_pos h2, if_pos h2]
      · rw [if_neg h2, if_neg h2, List.cons_append]
theorem ded_take (ts : List Tk) (i : Nat) (hi : i + 1 < ts.length) : dedT (ts.take (i + 2)) = if ts.getD i default = ts.getD (i + 1) default then dedT (ts.take (i + 1)) else dedT (ts.take (i + 1)) ++ [ts.getD (i + 1) default] := by
  have e1 : ts.take (i + 1) = ts.take i ++ [ts.getD i default] := by rw [List.take_succ_eq_append_getElem (by omega), getD_at _ _ _ (by omega)]
  have e2 : ts.take (i + 2) = ts.take i ++ [ts.getD i default, ts.getD (i + 1) default] := by
    rw [List.take_succ_eq_append_getElem (by omega), e1, ← getD_at _ _ default (by omega), List.append_assoc]
    rfl
  rw [e2, e1]
  exact dedT_two _ _ _
theorem dedT_len : ∀ l : List Tk, (dedT l).length ≤ l.length
  | [] => by simp [dedT]
  | [x] => by simp [dedT]
  | x :: y :: r => by
    have := dedT_len (y :: r)
    unfold dedT
    split
    · simp at this ⊢; omega
    · simp at this ⊢; omega
theorem drop_getD {us ts : List Tk} {k i : Nat} (h : us.drop k = ts.drop k) (hi : k ≤ i) : us.getD i default = ts.getD i default := by
  have := congrArg (fun l => l.getD (i - k) default) h
  simp only [List.getD, List.getElem?_drop] at this
  rw [show k + (i - k) = i by omega] at this
  exact this
theorem drop_more {us ts : List Tk} {k m : Nat} (h : us.drop k = ts.drop k) (hi : k ≤ m) : us.drop m = ts.drop m := by
  have := congrArg (List.drop (m - k)) h
  rw [List.drop_drop, List.drop_drop, show k + (m - k) = m by omega] at this
  exact this

theorem OwnT.num {e : TypeId} {w : World} {base g n c : Nat} {ts : List Tk} (h : OwnT e w base (.slice (some ⟨g, 0, none⟩) n c) ts) : n = ts.length ∧ n ≤ c := by
  obtain ⟨xs, ⟨hl, h3⟩, h2⟩ := h
  rcases h3 with ⟨e, _⟩ | ⟨g', cap, cur, e, _, _, hc, _⟩
  · cases e
  · cases e; exact ⟨rfl, hc⟩
/-- The cells of a row of tasks of the call's own. -/
theorem OwnT.cells {e : TypeId} {w : World} {base g n c : Nat} {ts : List Tk} (h : OwnT e w base (.slice (some ⟨g, 0, none⟩) n c) ts) {i : Nat} (hi : i < ts.length) :
    w.cell? ⟨g, i * 7, none⟩ = some (.string (ts.getD i default).st) ∧ w.cell? ⟨g, i * 7 + 1, none⟩ = some (.int .i64 (ts.getD i default).ix) ∧ w.cell? ⟨g, i * 7 + 2, none⟩ = some (.int .i64 (ts.getD i default).size) ∧
      w.cell? ⟨g, i * 7 + 3, none⟩ = some (.int .i64 (ts.getD i default).spare) ∧ w.cell? ⟨g, i * 7 + 4, none⟩ = some (.int .i64 (ts.getD i default).num) ∧ w.cell? ⟨g, i * 7 + 5, none⟩ = some (.int .i64 (ts.getD i default).den) ∧ w.cell? ⟨g, i * 7 + 6, none⟩ = some (.int .i64 (ts.getD i default).day) := by
  have hn := h.num.1
  subst hn
  obtain ⟨xs, h1, h2⟩ := h
  have hc : ∀ j, j < 7 → w.cell? ⟨g, i * 7 + j, none⟩ = some (tkCell ts i j) := fun j hj => by
    have hlt : i * 7 + j < ts.length * 7 := by omega
    rw [h1.cellAt _ hlt]
    exact h2 i j hi hj
  exact ⟨hc 0 (by omega), hc 1 (by omega), hc 2 (by omega), hc 3 (by omega), hc 4 (by omega), hc 5 (by omega), hc 6 (by omega)⟩
theorem OwnT.frozenAt {e : TypeId} {w : World} {base g n c : Nat} {ts : List Tk} (h : OwnT e w base (.slice (some ⟨g, 0, none⟩) n c) ts) (i : Nat) : w.frozen? ⟨g, i, none⟩ = false := by
  have hn := h.num.1
  subst hn
  obtain ⟨xs, h1, h2⟩ := h
  exact h1.frozenAt _

theorem OwnT.set {e : TypeId} {w : World} {base g n c : Nat} {ts : List Tk} (h : OwnT e w base (.slice (some ⟨g, 0, none⟩) n c) ts) (i : Nat) (y : Tk) :
    OwnT e (((((((w.setCell ⟨g, i * 7, none⟩ (.string y.st)).setCell ⟨g, i * 7 + 1, none⟩ (.int .i64 y.ix)).setCell ⟨g, i * 7 + 2, none⟩ (.int .i64 y.size)).setCell ⟨g, i * 7 + 3, none⟩ (.int .i64 y.spare)).setCell ⟨g, i * 7 + 4, none⟩ (.int .i64 y.num)).setCell ⟨g, i * 7 + 5, none⟩ (.int .i64 y.den)).setCell ⟨g, i * 7 + 6, none⟩ (.int .i64 y.day)) base (.slice (some ⟨g, 0, none⟩) n c) (ts.set i y) := by
  have hn := h.num.1
  subst hn
  obtain ⟨xs, h1, h2⟩ := h
  have hx := h1.1
  have s0 := (h1.stored (i * 7) (.string y.st)).1
  have s1 := (s0.stored (i * 7 + 1) (.int .i64 y.ix)).1
  have s2 := (s1.stored (i * 7 + 2) (.int .i64 y.size)).1
  have s3 := (s2.stored (i * 7 + 3) (.int .i64 y.spare)).1
  have s4 := (s3.stored (i * 7 + 4) (.int .i64 y.num)).1
  have s5 := (s4.stored (i * 7 + 5) (.int .i64 y.den)).1
  have s6 := (s5.stored (i * 7 + 6) (.int .i64 y.day)).1
  refine ⟨_, by rw [List.length_set]; exact s6, fun a b ha hb => ?_⟩
  rw [List.length_set] at ha
  by_cases hai : a = i
  · subst hai
    have hg : (ts.set a y).getD a default = y := by simp [List.getD, ha]
    simp only [List.getElem?_set, List.length_set, hx]
    have hl : ∀ j, j < 7 → a * 7 + j < ts.length * 7 := fun j hj => by omega
    have l0 := hl 0 (by omega)
    have l1 := hl 1 (by omega)
    have l2 := hl 2 (by omega)
    have l3 := hl 3 (by omega)
    have l4 := hl 4 (by omega)
    have l5 := hl 5 (by omega)
    have l6 := hl 6 (by omega)
    have hg' : (ts.set a y)[a]?.getD default = y := by simpa [List.getD] using hg
    rcases (show b = 0 ∨ b = 1 ∨ b = 2 ∨ b = 3 ∨ b = 4 ∨ b = 5 ∨ b = 6 by omega) with rfl | rfl | rfl | rfl | rfl | rfl | rfl <;> simp [tkCell, hg', ha, l0, l1, l2, l3, l4, l5, l6]
  · have hg : (ts.set i y).getD a default = ts.getD a default := by simp [List.getD, List.getElem?_set, Ne.symm hai]
    rw [tkCell_congr hg]
    simp only [List.getElem?_set]
    rw [if_neg (by omega), if_neg (by omega), if_neg (by omega), if_neg (by omega), if_neg (by omega), if_neg (by omega), if_neg (by omega)]
    exact h2 a b ha hb
theorem below_setCell {B : Nat} {a w : World} (h : Below B a w) {g i : Nat} (hb : B ≤ g) (v : Value) : Below B a (w.setCell ⟨g, i, none⟩ v) := Below.setCell h hb _

theorem setCells_cell (b : Nat) : ∀ (vs : List Value) (o i : Nat) (w : World), i < o → (w.setCells b o vs).cell? ⟨b, i, none⟩ = w.cell? ⟨b, i, none⟩
  | [], _, _, _, _ => rfl
  | v :: r, o, i, w, h => by
    rw [World.setCells, setCells_cell b r (o + 1) i _ (by omega)]
    exact World.cell?_setCell_other w _ _ _ (by intro e; cases e; omega)
theorem setCells_below {B : Nat} {a : World} (b : Nat) (hb : B ≤ b) : ∀ (vs : List Value) (o : Nat) (w : World), Below B a w → Below B a (w.setCells b o vs)
  | [], _, _, h => h
  | v :: r, o, w, h => by
    rw [World.setCells]
    exact setCells_below b hb r (o + 1) _ (below_setCell h hb v)
/-- The tail of a row, cleared. -/
theorem clear_own {w : World} {base g n c : Nat} {ts : List Tk} (h : OwnT 27 w base (.slice (some ⟨g, 0, none⟩) n c) ts) {k : Nat} (hk : k < ts.length) :
    ∃ L : List Value, True ∧ ∀ ty, (Builtin.clear_ #[36] ty #[.slice (some ⟨g, k * 7, none⟩) (n - k) (c - k)]).run Try.prog w = .ok (.tuple #[]) (w.setCells g (k * 7) L) := by
  have hn := h.num.1
  subst hn
  obtain ⟨m, hm⟩ : ∃ m, ts.length - k = m + 1 := ⟨ts.length - k - 1, by omega⟩
  have hsz : (Builtin.zeroCells (Value.agg #[.string ⟨#[]⟩, .int .i64 0, .int .i64 0, .int .i64 0, .int .i64 0, .int .i64 0, .int .i64 0]).cells (m + 1)).size = (m + 1) * 7 := by
    simp [Builtin.zeroCells, Value.cells]
  refine ⟨(Builtin.zeroCells (Value.agg #[.string ⟨#[]⟩, .int .i64 0, .int .i64 0, .int .i64 0, .int .i64 0, .int .i64 0, .int .i64 0]).cells (m + 1)).toList, trivial, fun ty => ?_⟩
  obtain ⟨xs, h1, h2⟩ := h
  have hst := run_storeCells_cells (P := Try.prog) g (k * 7) (Builtin.zeroCells (Value.agg #[.string ⟨#[]⟩, .int .i64 0, .int .i64 0, .int .i64 0, .int .i64 0, .int .i64 0, .int .i64 0]).cells (m + 1)).toList 0 w (fun j hj => by
      rw [Array.length_toList, hsz] at hj
      have hlt : k * 7 + 0 + j < ts.length * 7 := by omega
      have hxl : xs.length = ts.length * 7 := h1.1
      rw [h1.cellAt _ hlt, List.getElem?_eq_getElem (by omega)]
      rfl) (fun j hj => h1.frozenAt _) (fun v hv => by
      simp [Builtin.zeroCells, Value.cells] at hv
      obtain ⟨j, hj, rfl⟩ := hv
      rcases (show j % 7 = 0 ∨ j % 7 = 1 ∨ j % 7 = 2 ∨ j % 7 = 3 ∨ j % 7 = 4 ∨ j % 7 = 5 ∨ j % 7 = 6 by omega) with e | e | e | e | e | e | e <;> simp [e, Value.oneCell'])
  simp only [Nat.add_zero] at hst
  rw [hm]
  simp [Builtin.clear_, run_underlying Try.underlying36, Try.zeroValue27, hst]

set_option maxRecDepth 100000 in
set_option maxHeartbeats 16000000 in
theorem compact_any (u : Value) (ts : List Tk) (w : World) (base : Nat) (hu : OwnT 27 w base u ts) (hn : ts.length ≤ 1000000) :
    Calls Try.prog 52 #[u] w fun e w' => ∃ v, e = .returned v ∧ ReadsT w' v (dedT ts) ∧ Below base w w' := by
  by_cases h2 : ts.length < 2
  · have hd : dedT ts = ts := by
      match ts, h2 with
      | [], _ => rfl
      | [x], _ => rfl
    rw [hd]
    have HU := Lib.hid hu
    obtain ⟨a, c, rfl⟩ := hu.slice
    clear hd hu
    go_enter Try.func52, Try.ntmps52
    go_wp2
    go_ret
    exact ⟨_, rfl, HU.out.reads (by omega), Below.refl _ _⟩
  have hu0 := hu
  obtain ⟨xs, ⟨hxl, hx⟩, hxs⟩ := hu0
  rcases hx with ⟨_, h0⟩ | ⟨g, cap, cur, rfl, hbg, hblk, hcap, hmax, hsz, htk⟩
  · omega
  obtain ⟨n, hnn⟩ : ∃ n, n = ts.length := ⟨_, rfl⟩
  rw [← hnn] at hu hcap hn h2 ⊢
  have HNN := Lib.hid hnn
  have HU := Lib.hid hu
  clear hxl hxs hblk hmax hsz htk hu hnn
  have h1 : 1 < n := by omega
  have HD0 := Lib.hid (show dedT (ts.take (0 + 1)) = ts.take (0 + 1) from by
    rw [List.take_succ_eq_append_getElem (by have := HNN.out; omega)]
    rfl)
  clear h2
  go_enter Try.func52, Try.ntmps52
  go_wp2
  go_loopw [3, 4, 5] (fun v3 _ _ wr => ∃ m : Nat, m + 1 ≤ n ∧ v3 = .int .i64 ((m : Int) + 1) ∧ dedT (ts.take (m + 1)) = ts.take (m + 1) ∧ Below base w wr ∧ OwnT 27 wr base (.slice (some ⟨g, 0, none⟩) n cap) ts) (fun v3 _ _ _ => n - (intOf v3).toNat)
  case atStart => exact ⟨0, by omega, rfl, HD0.out, Below.refl _ _, HU.out⟩
  case round =>
    obtain ⟨m, hm, rfl, hd, hbel, ho⟩ := hrel
    have HD := Lib.hid hd
    have HUq := Lib.hid ho
    have HB := Lib.hid hbel
    have zr := hbel.size
    clear hd ho hbel
    by_cases hlt : m + 1 < n
    · have c1 := HUq.out.cells (i := m + 1) (by rw [← HNN.out]; exact hlt)
      have c0 := HUq.out.cells (i := m) (by rw [← HNN.out]; omega)
      obtain ⟨x0, x1, x2, x3, x4, x5, x6⟩ := c0
      obtain ⟨y0, y1, y2, y3, y4, y5, y6⟩ := c1
      have hdt := ded_take ts m (by rw [← HNN.out]; exact hlt)
      have HEQ := fun W => eqIn27 (ts.getD (m + 1) default) (ts.getD m default) W
      by_cases hxy : ts.getD (m + 1) default = ts.getD m default
      rotate_left
      · rw [decide_eq_false hxy] at HEQ
        rw [if_neg (fun e => hxy e.symm), HD.out] at hdt
        have HN := Lib.hid (show dedT (ts.take (m + 1 + 1)) = ts.take (m + 1 + 1) by
          rw [show m + 1 + 1 = m + 2 from rfl, hdt, List.take_succ_eq_append_getElem (show m + 1 < ts.length by rw [← HNN.out]; exact hlt), getD_at _ _ _ (show m + 1 < ts.length by rw [← HNN.out]; exact hlt)])
        clear hdt hxy
        generalize ts.getD m default = x at *
        generalize ts.getD (m + 1) default = y at *
        unfold Tk.v at HEQ
        obtain ⟨xst, xix, xsz, xsp, xnum, xden, xday⟩ := x
        obtain ⟨yst, yix, ysz, ysp, ynum, yden, yday⟩ := y
        simp only at x0 x1 x2 x3 x4 x5 x6 y0 y1 y2 y3 y4 y5 y6 HEQ
        go_upto_region 6 with fail
        go_quiet (fail)
        clear x0 x1 x2 x3 x4 x5 x6 y0 y1 y2 y3 y4 y5 y6
        go_wp2
        go_roundw
        case rel => exact ⟨m + 1, by omega, by go_num, HN.out, below_drewN HB.out _, HUq.out.below (below_drewN (Below.refl _ _) _)⟩
        case measure => simp [intOf]; omega
      · rw [decide_eq_true hxy] at HEQ
        rw [if_pos hxy.symm, HD.out] at hdt
        have HDT := Lib.hid hdt
        clear hdt hxy
        generalize ts.getD m default = x at *
        generalize ts.getD (m + 1) default = y at *
        unfold Tk.v at HEQ
        obtain ⟨xst, xix, xsz, xsp, xnum, xden, xday⟩ := x
        obtain ⟨yst, yix, ysz, ysp, ynum, yden, yday⟩ := y
        simp only at x0 x1 x2 x3 x4 x5 x6 y0 y1 y2 y3 y4 y5 y6 HEQ
        go_upto_region 6 with fail
        go_quiet (fail)
        clear x0 x1 x2 x3 x4 x5 x6 y0 y1 y2 y3 y4 y5 y6
        have HB2 := Lib.hid (below_drewN HB.out nq)
        have HU2 := Lib.hid (HUq.out.below (below_drewN (Below.refl _ _) nq))
        clear HB HUq HEQ
        have hcap2 : m + 1 < cap := by omega
        go_wp2
        go_loopw [5, 3] (fun v5 v3 wr => ∃ (a p : Nat) (us : List Tk), v5 = .int .i64 ((a : Int) + 1) ∧ v3 = .int .i64 p ∧ m + 1 + (a + 1) ≤ n ∧ us.length = n ∧ p ≤ m + (a + 1) ∧ us.take p = dedT (ts.take (m + 1 + (a + 1))) ∧ us.drop (m + (a + 1)) = ts.drop (m + (a + 1)) ∧ Below base w wr ∧ OwnT 27 wr base (.slice (some ⟨g, 0, none⟩) n cap) us) (fun v5 _ _ => n - (intOf v5).toNat)
        case atStart => exact ⟨0, m + 1, ts, rfl, by go_num, by omega, HNN.out.symm, by omega, HDT.out.symm, rfl, HB2.out, HU2.out⟩
        case round =>
          obtain ⟨a, p, us, rfl, rfl, ha, hul, hp, htk, hdr, hbel, ho⟩ := hrel
          have HTK := Lib.hid htk
          have HDR := Lib.hid hdr
          have HB3 := Lib.hid hbel
          have HO := Lib.hid ho
          have HUL := Lib.hid hul
          have zr := hbel.size
          clear htk hdr hbel ho hul
          by_cases hlt2 : m + 1 + (a + 1) < n
          · have c0 := HO.out.cells (i := m + 1 + a) (by rw [HUL.out]; omega)
            have c1 := HO.out.cells (i := m + 1 + (a + 1)) (by rw [HUL.out]; exact hlt2)
            rw [drop_getD HDR.out (by omega), Nat.add_mul] at c0
            rw [drop_getD HDR.out (by omega), Nat.add_mul] at c1
            obtain ⟨x0, x1, x2, x3, x4, x5, x6⟩ := c0
            obtain ⟨y0, y1, y2, y3, y4, y5, y6⟩ := c1
            have hdt := ded_take ts (m + 1 + a) (by rw [← HNN.out]; omega)
            have HEQ := fun W => eqIn27 (ts.getD (m + 1 + (a + 1)) default) (ts.getD (m + 1 + a) default) W
            rw [show m + 1 + a + 1 = m + 1 + (a + 1) by omega] at hdt
            by_cases hxy : ts.getD (m + 1 + (a + 1)) default = ts.getD (m + 1 + a) default
            · rw [decide_eq_true hxy] at HEQ
              rw [if_pos hxy.symm, ← HTK.out] at hdt
              have HDT := Lib.hid hdt
              clear hdt hxy
              generalize ts.getD (m + 1 + a) default = x at *
              generalize ts.getD (m + 1 + (a + 1)) default = y at *
              unfold Tk.v at HEQ
              obtain ⟨xst, xix, xsz, xsp, xnum, xden, xday⟩ := x
              obtain ⟨yst, yix, ysz, ysp, ynum, yden, yday⟩ := y
              simp only at x0 x1 x2 x3 x4 x5 x6 y0 y1 y2 y3 y4 y5 y6 HEQ
              go_upto_region 11 with fail
              go_quiet (fail)
              clear x0 x1 x2 x3 x4 x5 x6 y0 y1 y2 y3 y4 y5 y6
              go_wp2
              go_roundw
              case rel => exact ⟨a + 1, p, us, by go_num, rfl, by omega, HUL.out, by omega, by rw [show m + 1 + (a + 1 + 1) = m + 1 + a + 2 by omega]; exact HDT.out.symm, drop_more HDR.out (by omega), below_drewN HB3.out _, HO.out.below (below_drewN (Below.refl _ _) _)⟩
              case measure => simp [intOf]; omega
            · rw [decide_eq_false hxy] at HEQ
              rw [if_neg (fun e => hxy e.symm), ← HTK.out] at hdt
              have HDT := Lib.hid hdt
              clear hdt hxy
              obtain ⟨y, hy⟩ : ∃ y, y = ts.getD (m + 1 + (a + 1)) default := ⟨_, rfl⟩
              have HGY := Lib.hid (show us.getD (m + 1 + (a + 1)) default = y by rw [hy]; exact drop_getD HDR.out (by omega))
              rw [← hy] at HDT HEQ y0 y1 y2 y3 y4 y5 y6
              clear hy
              generalize ts.getD (m + 1 + a) default = x at *
              have HST := Lib.hid (fun (W : World) (ho : OwnT 27 W base (.slice (some ⟨g, 0, none⟩) n cap) us) => ho.set p y)
              unfold Tk.v at HEQ
              obtain ⟨xst, xix, xsz, xsp, xnum, xden, xday⟩ := x
              obtain ⟨yst, yix, ysz, ysp, ynum, yden, yday⟩ := y
              simp only at x0 x1 x2 x3 x4 x5 x6 y0 y1 y2 y3 y4 y5 y6 HEQ HST
              go_upto_region 11 with fail
              go_quiet (fail)
              clear x0 x1 x2 x3 x4 x5 x6 y0 y1 y2 y3 y4 y5 y6 HEQ
              have hbq := below_drewN HB3.out nq
              have hoq := HO.out.below (below_drewN (Below.refl _ _) nq)
              have c1 := hoq.cells (i := m + 1 + (a + 1)) (by rw [HUL.out]; exact hlt2)
              rw [HGY.out, Nat.add_mul] at c1
              obtain ⟨y0, y1, y2, y3, y4, y5, y6⟩ := c1
              obtain ⟨p0, p1, p2, p3, p4, p5, p6⟩ := hoq.cells (i := p) (by rw [HUL.out]; omega)
              have f0 := hoq.frozenAt (p * 7)
              have f1 := hoq.frozenAt (p * 7 + 1)
              have f2 := hoq.frozenAt (p * 7 + 2)
              have f3 := hoq.frozenAt (p * 7 + 3)
              have f4 := hoq.frozenAt (p * 7 + 4)
              have f5 := hoq.frozenAt (p * 7 + 5)
              have f6 := hoq.frozenAt (p * 7 + 6)
              have HBQ := Lib.hid hbq
              have HOQ := Lib.hid hoq
              clear hbq hoq HB3 HO zr HGY
              have hpn : p < n := by omega
              simp only at y0 y1 y2 y3 y4 y5 y6
              generalize wr.drewN nq = W4 at *
              go_wp2
              go_roundw
              case rel =>
                refine ⟨a + 1, p + 1, us.set p ⟨yst, yix, ysz, ysp, ynum, yden, yday⟩, by go_num, by go_num, by omega, by rw [List.length_set]; exact HUL.out, by omega, ?_, ?_, ?_, HST.out _ HOQ.out⟩
                · rw [show m + 1 + (a + 1 + 1) = m + 1 + a + 2 by omega, HDT.out, List.take_succ_eq_append_getElem (by rw [List.length_set, HUL.out]; exact hpn), List.take_set_of_le (Nat.le_refl _), List.getElem_set_self]
                · have := drop_more (m := m + (a + 1 + 1)) HDR.out (by omega)
                  rw [List.drop_set_of_lt (by omega)]
                  exact this
                · exact below_setCell (below_setCell (below_setCell (below_setCell (below_setCell (below_setCell (below_setCell HBQ.out hbg _) hbg _) hbg _) hbg _) hbg _) hbg _) hbg _
              case measure => simp [intOf]; omega
          · have hna : m + 1 + (a + 1) = n := by omega
            have HF := Lib.hid (show us.take p = dedT ts by
              have := HTK.out
              rw [hna, HNN.out, List.take_length] at this
              exact this)
            have hpn : p < n := by omega
            have hpc : p < cap := by omega
            obtain ⟨L, hL, hcl⟩ := clear_own HO.out (k := p) (by rw [HUL.out]; exact hpn)
            have HL := Lib.hid hL
            clear hL
            go_wp2
            go_ret
            have hdl : (dedT ts).length = p := by rw [← HF.out, List.length_take, HUL.out]; omega
            refine ⟨.slice (some ⟨g, 0, none⟩) p cap, rfl, ⟨_, cap, by rw [hdl], by omega, by omega, fun _ => ⟨g, 0, rfl, fun i j hi hj => ?_⟩⟩, setCells_below g hbg L _ _ HB3.out⟩
            rw [hdl] at hi
            have hij : 0 + i * 7 + j < p * 7 := by omega
            rw [setCells_cell g L _ _ _ hij, Nat.zero_add]
            obtain ⟨zs, z1, z2⟩ := HO.out
            have hul := HUL.out
            subst hul
            have hlt3 : i * 7 + j < us.length * 7 := by omega
            rw [z1.cellAt _ hlt3, z2 i j (by omega) hj]
            refine congrArg some (tkCell_congr ?_ j)
            rw [← HF.out, getD_take _ _ _ _ hi]
    · have hmn : m + 1 = n := by omega
      have HE := Lib.hid (show dedT ts = ts by
        have := HD.out
        rw [hmn, HNN.out, List.take_length] at this
        exact this)
      have hc : ((m : Int) + 1 < n) = False := by simp; omega
      go_wp2
      go_ret
      exact ⟨_, rfl, by rw [HE.out]; exact HUq.out.reads (by have := HNN.out; omega), HB.out⟩

end Go.Proofs.Ytcgilfnhbliadaa
