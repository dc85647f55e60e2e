/- The reference's insert, Order, Cut. -/
import Derived.Test.YtcgilfnhbliadaaC4
namespace Go.Proofs.Ytcgilfnhbliadaa
open Go.RowKit Go.Lib Go.ChangeMaps
set_option linter.unusedSimpArgs false

theorem add_at (b o m : Nat) : (⟨b, o, none⟩ : Addr).add m = ⟨b, o + m, none⟩ := by unfold Addr.add; split <;> simp_all
/-- A slice x[k:], as the model writes it. -/
def lowV (la : Option Addr) (n c k : Nat) : Value := .slice (if c = k then la else la.map (·.add (k * 7))) (n - k) (c - k)
theorem reads_low {w : World} {la : Option Addr} {c : Nat} {l : List Tk} (h : ReadsT w (.slice la l.length c) l) (k : Nat) (hk : k ≤ l.length) : ReadsT w (lowV la l.length c k) (l.drop k) := by
  obtain ⟨ao, c', e, hl, hm, hc⟩ := h
  cases e
  unfold lowV
  refine ⟨_, c - k, by rw [List.length_drop], by rw [List.length_drop]; omega, by rw [List.length_drop]; omega, fun h0 => ?_⟩
  rw [List.length_drop] at h0
  obtain ⟨b, off, rfl, hh⟩ := hc (by omega)
  refine ⟨b, off + k * 7, ?_, fun i j hi hj => ?_⟩
  · rw [if_neg (by omega)]
    simp [Addr.add]
  · rw [List.length_drop] at hi
    have := hh (k + i) j (by omega) hj
    rw [show off + (k + i) * 7 + j = off + k * 7 + i * 7 + j by omega] at this
    rw [this]
    exact congrArg some (tkCell_congr (by simp [List.getD]) j)
theorem reads_take {w : World} {la : Option Addr} {c : Nat} {l : List Tk} (h : ReadsT w (.slice la l.length c) l) (k : Nat) (hk : k ≤ l.length) : ReadsT w (.slice la k c) (l.take k) := by
  have h1 := RowAt.take h k hk
  have hl : (l.take k).length = k := by rw [List.length_take]; omega
  unfold ReadsT
  rw [hl]
  exact h1.congr fun i j hi _ => tkCell_congr (getD_take _ _ _ _ hi).symm j
theorem reads_single {W : World} {g : Nat} {t : Tk} (h : W.heap[g]? = some (.cells #[.string t.st, .int .i64 t.ix, .int .i64 t.size, .int .i64 t.spare, .int .i64 t.num, .int .i64 t.den, .int .i64 t.day] 32)) : ReadsT W (.slice (some ⟨g, 0, none⟩) 1 1) [t] :=
  ⟨_, 1, rfl, Nat.le_refl _, by show 1 ≤ _; omega, fun _ => ⟨g, 0, rfl, fun i j hi hj => by
    have hi1 : i < 1 := hi
    obtain rfl : i = 0 := by omega
    rw [show 0 + 0 * 7 + j = j by omega, cell_of_row _ _ _ _ _ _ h]
    rcases (show j = 0 ∨ j = 1 ∨ j = 2 ∨ j = 3 ∨ j = 4 ∨ j = 5 ∨ j = 6 by omega) with rfl | rfl | rfl | rfl | rfl | rfl | rfl <;> rfl⟩⟩

theorem sb0 {w : World} (o : Obj) : Below w.heap.size w (w.alloc o) := (Below.refl _ _).alloc (Nat.le_refl _) _
set_option maxRecDepth 100000 in
set_option maxHeartbeats 16000000 in
theorem insert_ref (v : Value) (l : List Tk) (t : Tk) (w : World) (hv : ReadsT w v l) (hok : AllOk l) (ht : TOk t) (hn : l.length ≤ 1000) :
    Calls Try.prog 42 #[v, t.v] w fun e w' => ∃ u, e = .returned u ∧ ReadsT w' u (insP l t) ∧ Below w.heap.size w w' := by
  have HV := Lib.hid hv
  obtain ⟨la, lc, lb, lo, rfl, hlc, -, lcell⟩ := hv.at
  have LC := Lib.hid lcell
  have CR := Lib.hid (fun i (hi : i < l.length) W => compare_ref (l.getD i default) t W (hok _ (by rw [getD_at _ _ _ hi]; exact List.getElem_mem hi)) ht)
  have HPOS := Lib.hid (insP_at t l)
  obtain ⟨res, hres⟩ : ∃ res, res = insP l t := ⟨_, rfl⟩
  rw [← hres]
  have HRES := Lib.hid hres
  have HDR := Lib.hid (fun k (hk : k < l.length) => List.drop_eq_getElem_cons hk)
  have HTW := Lib.hid (show insP [] t = [t] from rfl)
  have HIC := Lib.hid (fun x r => (show insP (x :: r) t = if cmpT x t < 0 then x :: insP r t else if cmpT x t = 0 then x :: r else t :: x :: r from rfl))
  clear hv lcell hok ht hres
  obtain ⟨n, hnn⟩ : ∃ n, n = l.length := ⟨_, rfl⟩
  rw [← hnn] at hlc ⊢
  have HNN := Lib.hid hnn
  rw [← hnn] at HV LC CR hn
  clear hnn
  have HRS := Lib.hid (fun (W : World) g (h : W.heap[g]? = _) => reads_single (W := W) (g := g) (t := t) h)
  obtain ⟨tt, htt⟩ : ∃ tt, tt = t := ⟨_, rfl⟩
  rw [← htt] at HPOS HRES HTW HIC
  obtain ⟨tst, tix, tsz, tsp, tnum, tden, tday⟩ := t
  have HTT := Lib.hid htt
  clear htt
  unfold Tk.v at *
  simp only at CR HRS ⊢
  have hAl : Below w.heap.size w (w.alloc (.cells #[.string tst, .int .i64 tix, .int .i64 tsz, .int .i64 tsp, .int .i64 tnum, .int .i64 tden, .int .i64 tday] 32)) := (Below.refl _ _).alloc (Nat.le_refl _) _
  have HBX := Lib.hid (heap_alloc_new w (.cells #[.string tst, .int .i64 tix, .int .i64 tsz, .int .i64 tsp, .int .i64 tnum, .int .i64 tden, .int .i64 tday] 32))
  obtain ⟨w1, hw1⟩ : ∃ w1, w1 = w.alloc (.cells #[.string tst, .int .i64 tix, .int .i64 tsz, .int .i64 tsp, .int .i64 tnum, .int .i64 tden, .int .i64 tday] 32) := ⟨_, rfl⟩
  rw [← hw1] at hAl HBX
  have HW1 := Lib.hid hw1
  clear hw1
  have HAl := Lib.hid hAl
  go_enter Try.func42, Try.ntmps42
  go_wp2
  rw [← HW1.out]
  clear HW1
  go_loopw [5] (fun v5 wr => ∃ k : Nat, k ≤ n ∧ v5 = .int .i64 k ∧ (∀ i, i < k → cmpT (l.getD i default) tt < 0) ∧ Below w1.heap.size w1 wr) (fun v5 _ => n - (intOf v5).toNat)
  case atStart => exact ⟨0, Nat.zero_le _, rfl, fun i hi => by omega, Below.refl _ _⟩
  case round =>
    obtain ⟨k, hk, rfl, hlt0, hbel⟩ := hrel
    have HLT := Lib.hid hlt0
    have HB := Lib.hid hbel
    have hbw := hAl.trans (hbel.mono hAl.size)
    have hbx := bb hbel HBX.out
    have z0 := cell_of_row wr _ 0 _ _ _ hbx
    have z1 := cell_of_row wr _ 1 _ _ _ hbx
    have z2 := cell_of_row wr _ 2 _ _ _ hbx
    have z3 := cell_of_row wr _ 3 _ _ _ hbx
    have z4 := cell_of_row wr _ 4 _ _ _ hbx
    have z5 := cell_of_row wr _ 5 _ _ _ hbx
    have z6 := cell_of_row wr _ 6 _ _ _ hbx
    clear hlt0 hbx
    by_cases hkn : k < n
    · obtain ⟨rfl, e0, e1, e2, e3, e4, e5, e6⟩ := LC.out k hkn
      have d0 := bc hbw e0
      have d1 := bc hbw e1
      have d2 := bc hbw e2
      have d3 := bc hbw e3
      have d4 := bc hbw e4
      have d5 := bc hbw e5
      have d6 := bc hbw e6
      have CC := Lib.hid (fun W => CR.out k hkn W)
      have HEQ := Lib.hid (HDR.out k (by rw [← HNN.out]; exact hkn))
      rw [← getD_at l k default (by rw [← HNN.out]; exact hkn)] at HEQ
      obtain ⟨cv, hcv⟩ : ∃ cv, cv = cmpT (l.getD k default) tt := ⟨_, rfl⟩
      rw [← HTT.out, ← hcv] at CC
      have HCV := Lib.hid hcv
      clear hcv
      generalize hyy : l.getD k default = yy at *
      have HYY := Lib.hid hyy
      obtain ⟨y, hy⟩ : ∃ y, y = yy := ⟨_, rfl⟩
      rw [← hy] at CC d0 d1 d2 d3 d4 d5 d6 e0 e1 e2 e3 e4 e5 e6
      clear hy hyy
      obtain ⟨yst, yix, ysz, ysp, ynum, yden, yday⟩ := y
      simp only at d0 d1 d2 d3 d4 d5 d6 e0 e1 e2 e3 e4 e5 e6 CC
      have D0 := Lib.hid e0
      have D1 := Lib.hid e1
      have D2 := Lib.hid e2
      have D3 := Lib.hid e3
      have D4 := Lib.hid e4
      have D5 := Lib.hid e5
      have D6 := Lib.hid e6
      clear e0 e1 e2 e3 e4 e5 e6
      clear hbw
      have HBD := Lib.hid (hbel).drew
      go_upto_region 2 with fail
      have HSB0 : ∀ w' : World, Below (wr).drew.heap.size (wr).drew w' → (w'.cell? ⟨w.heap.size, 0, none⟩ = some (.string tst) ∧ w'.cell? ⟨w.heap.size, 1, none⟩ = some (.int .i64 tix) ∧ w'.cell? ⟨w.heap.size, 2, none⟩ = some (.int .i64 tsz) ∧ w'.cell? ⟨w.heap.size, 3, none⟩ = some (.int .i64 tsp) ∧ w'.cell? ⟨w.heap.size, 4, none⟩ = some (.int .i64 tnum) ∧ w'.cell? ⟨w.heap.size, 5, none⟩ = some (.int .i64 tden) ∧ w'.cell? ⟨w.heap.size, 6, none⟩ = some (.int .i64 tday) ∧ w'.cell? ⟨lb, lo + k * 7, none⟩ = some (.string yst) ∧ w'.cell? ⟨lb, lo + k * 7 + 1, none⟩ = some (.int .i64 yix) ∧ w'.cell? ⟨lb, lo + k * 7 + 2, none⟩ = some (.int .i64 ysz) ∧ w'.cell? ⟨lb, lo + k * 7 + 3, none⟩ = some (.int .i64 ysp) ∧ w'.cell? ⟨lb, lo + k * 7 + 4, none⟩ = some (.int .i64 ynum) ∧ w'.cell? ⟨lb, lo + k * 7 + 5, none⟩ = some (.int .i64 yden) ∧ w'.cell? ⟨lb, lo + k * 7 + 6, none⟩ = some (.int .i64 yday)) := fun w' hb => ⟨bc hb z0, bc hb z1, bc hb z2, bc hb z3, bc hb z4, bc hb z5, bc hb z6, bc hb d0, bc hb d1, bc hb d2, bc hb d3, bc hb d4, bc hb d5, bc hb d6⟩
      refine wp_region_held_drew (S := fun w' => w'.cell? ⟨w.heap.size, 0, none⟩ = some (.string tst) ∧ w'.cell? ⟨w.heap.size, 1, none⟩ = some (.int .i64 tix) ∧ w'.cell? ⟨w.heap.size, 2, none⟩ = some (.int .i64 tsz) ∧ w'.cell? ⟨w.heap.size, 3, none⟩ = some (.int .i64 tsp) ∧ w'.cell? ⟨w.heap.size, 4, none⟩ = some (.int .i64 tnum) ∧ w'.cell? ⟨w.heap.size, 5, none⟩ = some (.int .i64 tden) ∧ w'.cell? ⟨w.heap.size, 6, none⟩ = some (.int .i64 tday) ∧ w'.cell? ⟨lb, lo + k * 7, none⟩ = some (.string yst) ∧ w'.cell? ⟨lb, lo + k * 7 + 1, none⟩ = some (.int .i64 yix) ∧ w'.cell? ⟨lb, lo + k * 7 + 2, none⟩ = some (.int .i64 ysz) ∧ w'.cell? ⟨lb, lo + k * 7 + 3, none⟩ = some (.int .i64 ysp) ∧ w'.cell? ⟨lb, lo + k * 7 + 4, none⟩ = some (.int .i64 ynum) ∧ w'.cell? ⟨lb, lo + k * 7 + 5, none⟩ = some (.int .i64 yden) ∧ w'.cell? ⟨lb, lo + k * 7 + 6, none⟩ = some (.int .i64 yday)) (by kernel_rfl) (HSB0 _ (Below.refl _ _)) (fun hHeld => ?_)
      have HSB := Lib.hid HSB0
      clear HSB0
      generalize (wr).drew = Wd at *
      clear z0 z1 z2 z3 z4 z5 z6 d0 d1 d2 d3 d4 d5 d6
      refine wpAnyH_take (i := 0) (v := ?_) rfl (by kernel_rfl) (by kernel_rfl) (by kernel_rfl) (fun _ _ _ h => h) (Or.inl ⟨by rfl, ?_⟩) (by assumption) ?_
      rotate_left; · (intro w hSw; (try dsimp only at hSw); go_simp; try with_reducible rfl)
      try simp only [Act.put, List.getElem_toArray, List.getElem_cons_zero, List.getElem_cons_succ, List.setIfInBounds_toArray, List.set_cons_zero, List.set_cons_succ]
      refine wpAnyH_take (i := 1) (v := ?_) rfl (by kernel_rfl) (by kernel_rfl) (by kernel_rfl) (fun _ _ _ h => h) (Or.inl ⟨by rfl, ?_⟩) (by assumption) ?_
      rotate_left; · (intro w hSw; (try dsimp only at hSw); go_simp; try with_reducible rfl)
      try simp only [Act.put, List.getElem_toArray, List.getElem_cons_zero, List.getElem_cons_succ, List.setIfInBounds_toArray, List.set_cons_zero, List.set_cons_succ]
      refine wpAnyH_take (i := 2) (v := ?_) rfl (by kernel_rfl) (by kernel_rfl) (by kernel_rfl) (fun _ _ _ h => h) (Or.inl ⟨by rfl, ?_⟩) (by assumption) ?_
      rotate_left; · (intro w hSw; (try dsimp only at hSw); go_simp; try with_reducible rfl)
      try simp only [Act.put, List.getElem_toArray, List.getElem_cons_zero, List.getElem_cons_succ, List.setIfInBounds_toArray, List.set_cons_zero, List.set_cons_succ]
      refine wpAnyH_take (i := 3) (v := ?_) rfl (by kernel_rfl) (by kernel_rfl) (by kernel_rfl) (fun _ _ _ h => h) (Or.inl ⟨by rfl, ?_⟩) (by assumption) ?_
      rotate_left; · (intro w hSw; (try dsimp only at hSw); go_simp; try with_reducible rfl)
      try simp only [Act.put, List.getElem_toArray, List.getElem_cons_zero, List.getElem_cons_succ, List.setIfInBounds_toArray, List.set_cons_zero, List.set_cons_succ]
      refine wpAnyH_take (i := 4) (v := ?_) rfl (by kernel_rfl) (by kernel_rfl) (by kernel_rfl) (fun _ _ _ h => h) (Or.inl ⟨by rfl, ?_⟩) (by assumption) ?_
      rotate_left; · (intro w hSw; (try dsimp only at hSw); go_simp; try with_reducible rfl)
      try simp only [Act.put, List.getElem_toArray, List.getElem_cons_zero, List.getElem_cons_succ, List.setIfInBounds_toArray, List.set_cons_zero, List.set_cons_succ]
      refine wpAnyH_take (i := 5) (v := ?_) rfl (by kernel_rfl) (by kernel_rfl) (by kernel_rfl) (fun _ _ _ h => h) (Or.inl ⟨by rfl, ?_⟩) (by assumption) ?_
      rotate_left; · (intro w hSw; (try dsimp only at hSw); go_simp; try with_reducible rfl)
      try simp only [Act.put, List.getElem_toArray, List.getElem_cons_zero, List.getElem_cons_succ, List.setIfInBounds_toArray, List.set_cons_zero, List.set_cons_succ]
      refine wpAnyH_take (i := 6) (v := ?_) rfl (by kernel_rfl) (by kernel_rfl) (by kernel_rfl) (fun _ _ _ h => h) (Or.inl ⟨by rfl, ?_⟩) (by assumption) ?_
      rotate_left; · (intro w hSw; (try dsimp only at hSw); go_simp; try with_reducible rfl)
      try simp only [Act.put, List.getElem_toArray, List.getElem_cons_zero, List.getElem_cons_succ, List.setIfInBounds_toArray, List.set_cons_zero, List.set_cons_succ]
      refine wpAnyH_take (i := 7) (v := ?_) rfl (by kernel_rfl) (by kernel_rfl) (by kernel_rfl) (fun _ _ _ h => h) (Or.inl ⟨by rfl, ?_⟩) (by assumption) ?_
      rotate_left; · (intro w hSw; (try dsimp only at hSw); go_simp; try with_reducible rfl)
      try simp only [Act.put, List.getElem_toArray, List.getElem_cons_zero, List.getElem_cons_succ, List.setIfInBounds_toArray, List.set_cons_zero, List.set_cons_succ]
      refine wpAnyH_take (i := 8) (v := ?_) rfl (by kernel_rfl) (by kernel_rfl) (by kernel_rfl) (fun _ _ _ h => h) (Or.inl ⟨by rfl, ?_⟩) (by assumption) ?_
      rotate_left; · (intro w hSw; (try dsimp only at hSw); go_simp; try with_reducible rfl)
      try simp only [Act.put, List.getElem_toArray, List.getElem_cons_zero, List.getElem_cons_succ, List.setIfInBounds_toArray, List.set_cons_zero, List.set_cons_succ]
      refine wpAnyH_take (i := 9) (v := ?_) rfl (by kernel_rfl) (by kernel_rfl) (by kernel_rfl) (fun _ _ _ h => h) (Or.inl ⟨by rfl, ?_⟩) (by assumption) ?_
      rotate_left; · (intro w hSw; (try dsimp only at hSw); go_simp; try with_reducible rfl)
      try simp only [Act.put, List.getElem_toArray, List.getElem_cons_zero, List.getElem_cons_succ, List.setIfInBounds_toArray, List.set_cons_zero, List.set_cons_succ]
      refine wpAnyH_ready (rs := [10]) (by kernel_rfl) (by simp) ?_
      refine AllReadyH.cons rfl (fun K hK => ?_) AllReadyH.nil
      go_simp
      refine (CC.out _).mono ?_; rintro e w5 ⟨rfl, hb5⟩
      go_wp2_with fail
      refine hK.out _ _ (HSB.out _ hb5) (fun hNew => ?_)
      clear hK K hHeld
      have hHeld := hNew
      clear hNew
      try simp only [Act.put, List.getElem_toArray, List.getElem_cons_zero, List.getElem_cons_succ, List.setIfInBounds_toArray, List.set_cons_zero, List.set_cons_succ]
      refine wpAnyH_take (i := 11) (v := ?_) rfl (by kernel_rfl) (by kernel_rfl) (by kernel_rfl) (fun _ _ _ h => h) (Or.inl ⟨by rfl, ?_⟩) (by assumption) ?_
      rotate_left; · (intro w hSw; (try dsimp only at hSw); go_simp; try with_reducible rfl)
      try simp only [Act.put, List.getElem_toArray, List.getElem_cons_zero, List.getElem_cons_succ, List.setIfInBounds_toArray, List.set_cons_zero, List.set_cons_succ]
      refine wpAnyH_take (i := 12) (v := ?_) rfl (by kernel_rfl) (by kernel_rfl) (by kernel_rfl) (fun _ _ _ h => h) (Or.inl ⟨by rfl, ?_⟩) (by assumption) ?_
      rotate_left; · (intro w hSw; (try dsimp only at hSw); go_simp; try with_reducible rfl)
      try simp only [Act.put, List.getElem_toArray, List.getElem_cons_zero, List.getElem_cons_succ, List.setIfInBounds_toArray, List.set_cons_zero, List.set_cons_succ]
      refine wpAnyH_done (by kernel_rfl) ?_ _
      have hb15 := HBD.out.trans (hb5.mono HBD.out.size)
      clear hHeld HSB HBD hb5
      by_cases hc : cv < 0
      · have q1 : decide (cv < 0) = true := decide_eq_true hc
        have HN := Lib.hid (show ∀ i, i < k + 1 → cmpT (l.getD i default) tt < 0 from fun i hi => by
          by_cases e : i = k
          · subst e; rw [HYY.out, ← HCV.out]; exact hc
          · exact HLT.out i (by omega))
        clear CC HEQ
        rw [q1]
        go_wp2
        go_roundw
        case rel => exact ⟨k + 1, by omega, by go_num, HN.out, hb15⟩
        case measure => simp [intOf]; omega
      · have q1 : decide (cv < 0) = false := decide_eq_false hc
        have HP := Lib.hid (HPOS.out k (by rw [← HNN.out]; exact hk) HLT.out)
        rw [HEQ.out, HIC.out, ← HCV.out, if_neg hc, ← HRES.out] at HP
        clear HIC HPOS HLT
        have hbw := HAl.out.trans (hb15.mono HAl.out.size)
        have hbx := bb hb15 HBX.out
        have z0 := cell_of_row w5 _ 0 _ _ _ hbx
        have z1 := cell_of_row w5 _ 1 _ _ _ hbx
        have z2 := cell_of_row w5 _ 2 _ _ _ hbx
        have z3 := cell_of_row w5 _ 3 _ _ _ hbx
        have z4 := cell_of_row w5 _ 4 _ _ _ hbx
        have z5 := cell_of_row w5 _ 5 _ _ _ hbx
        have z6 := cell_of_row w5 _ 6 _ _ _ hbx
        have d0 := bc hbw D0.out
        have d1 := bc hbw D1.out
        have d2 := bc hbw D2.out
        have d3 := bc hbw D3.out
        have d4 := bc hbw D4.out
        have d5 := bc hbw D5.out
        have d6 := bc hbw D6.out
        clear hbx
        rw [q1]
        have HBD := Lib.hid (hb15).drew
        go_upto_region 4 with fail
        have HSB0 : ∀ w' : World, Below (w5).drew.heap.size (w5).drew w' → (w'.cell? ⟨w.heap.size, 0, none⟩ = some (.string tst) ∧ w'.cell? ⟨w.heap.size, 1, none⟩ = some (.int .i64 tix) ∧ w'.cell? ⟨w.heap.size, 2, none⟩ = some (.int .i64 tsz) ∧ w'.cell? ⟨w.heap.size, 3, none⟩ = some (.int .i64 tsp) ∧ w'.cell? ⟨w.heap.size, 4, none⟩ = some (.int .i64 tnum) ∧ w'.cell? ⟨w.heap.size, 5, none⟩ = some (.int .i64 tden) ∧ w'.cell? ⟨w.heap.size, 6, none⟩ = some (.int .i64 tday) ∧ w'.cell? ⟨lb, lo + k * 7, none⟩ = some (.string yst) ∧ w'.cell? ⟨lb, lo + k * 7 + 1, none⟩ = some (.int .i64 yix) ∧ w'.cell? ⟨lb, lo + k * 7 + 2, none⟩ = some (.int .i64 ysz) ∧ w'.cell? ⟨lb, lo + k * 7 + 3, none⟩ = some (.int .i64 ysp) ∧ w'.cell? ⟨lb, lo + k * 7 + 4, none⟩ = some (.int .i64 ynum) ∧ w'.cell? ⟨lb, lo + k * 7 + 5, none⟩ = some (.int .i64 yden) ∧ w'.cell? ⟨lb, lo + k * 7 + 6, none⟩ = some (.int .i64 yday)) := fun w' hb => ⟨bc hb z0, bc hb z1, bc hb z2, bc hb z3, bc hb z4, bc hb z5, bc hb z6, bc hb d0, bc hb d1, bc hb d2, bc hb d3, bc hb d4, bc hb d5, bc hb d6⟩
        refine wp_region_held_drew (S := fun w' => w'.cell? ⟨w.heap.size, 0, none⟩ = some (.string tst) ∧ w'.cell? ⟨w.heap.size, 1, none⟩ = some (.int .i64 tix) ∧ w'.cell? ⟨w.heap.size, 2, none⟩ = some (.int .i64 tsz) ∧ w'.cell? ⟨w.heap.size, 3, none⟩ = some (.int .i64 tsp) ∧ w'.cell? ⟨w.heap.size, 4, none⟩ = some (.int .i64 tnum) ∧ w'.cell? ⟨w.heap.size, 5, none⟩ = some (.int .i64 tden) ∧ w'.cell? ⟨w.heap.size, 6, none⟩ = some (.int .i64 tday) ∧ w'.cell? ⟨lb, lo + k * 7, none⟩ = some (.string yst) ∧ w'.cell? ⟨lb, lo + k * 7 + 1, none⟩ = some (.int .i64 yix) ∧ w'.cell? ⟨lb, lo + k * 7 + 2, none⟩ = some (.int .i64 ysz) ∧ w'.cell? ⟨lb, lo + k * 7 + 3, none⟩ = some (.int .i64 ysp) ∧ w'.cell? ⟨lb, lo + k * 7 + 4, none⟩ = some (.int .i64 ynum) ∧ w'.cell? ⟨lb, lo + k * 7 + 5, none⟩ = some (.int .i64 yden) ∧ w'.cell? ⟨lb, lo + k * 7 + 6, none⟩ = some (.int .i64 yday)) (by kernel_rfl) (HSB0 _ (Below.refl _ _)) (fun hHeld => ?_)
        have HSB := Lib.hid HSB0
        clear HSB0
        generalize (w5).drew = Wd at *
        clear z0 z1 z2 z3 z4 z5 z6 d0 d1 d2 d3 d4 d5 d6
        refine wpAnyH_take (i := 0) (v := ?_) rfl (by kernel_rfl) (by kernel_rfl) (by kernel_rfl) (fun _ _ _ h => h) (Or.inl ⟨by rfl, ?_⟩) (by assumption) ?_
        rotate_left; · (intro w hSw; (try dsimp only at hSw); go_simp; try with_reducible rfl)
        try simp only [Act.put, List.getElem_toArray, List.getElem_cons_zero, List.getElem_cons_succ, List.setIfInBounds_toArray, List.set_cons_zero, List.set_cons_succ]
        refine wpAnyH_take (i := 1) (v := ?_) rfl (by kernel_rfl) (by kernel_rfl) (by kernel_rfl) (fun _ _ _ h => h) (Or.inl ⟨by rfl, ?_⟩) (by assumption) ?_
        rotate_left; · (intro w hSw; (try dsimp only at hSw); go_simp; try with_reducible rfl)
        try simp only [Act.put, List.getElem_toArray, List.getElem_cons_zero, List.getElem_cons_succ, List.setIfInBounds_toArray, List.set_cons_zero, List.set_cons_succ]
        refine wpAnyH_take (i := 2) (v := ?_) rfl (by kernel_rfl) (by kernel_rfl) (by kernel_rfl) (fun _ _ _ h => h) (Or.inl ⟨by rfl, ?_⟩) (by assumption) ?_
        rotate_left; · (intro w hSw; (try dsimp only at hSw); go_simp; try with_reducible rfl)
        try simp only [Act.put, List.getElem_toArray, List.getElem_cons_zero, List.getElem_cons_succ, List.setIfInBounds_toArray, List.set_cons_zero, List.set_cons_succ]
        refine wpAnyH_take (i := 3) (v := ?_) rfl (by kernel_rfl) (by kernel_rfl) (by kernel_rfl) (fun _ _ _ h => h) (Or.inl ⟨by rfl, ?_⟩) (by assumption) ?_
        rotate_left; · (intro w hSw; (try dsimp only at hSw); go_simp; try with_reducible rfl)
        try simp only [Act.put, List.getElem_toArray, List.getElem_cons_zero, List.getElem_cons_succ, List.setIfInBounds_toArray, List.set_cons_zero, List.set_cons_succ]
        refine wpAnyH_take (i := 4) (v := ?_) rfl (by kernel_rfl) (by kernel_rfl) (by kernel_rfl) (fun _ _ _ h => h) (Or.inl ⟨by rfl, ?_⟩) (by assumption) ?_
        rotate_left; · (intro w hSw; (try dsimp only at hSw); go_simp; try with_reducible rfl)
        try simp only [Act.put, List.getElem_toArray, List.getElem_cons_zero, List.getElem_cons_succ, List.setIfInBounds_toArray, List.set_cons_zero, List.set_cons_succ]
        refine wpAnyH_take (i := 5) (v := ?_) rfl (by kernel_rfl) (by kernel_rfl) (by kernel_rfl) (fun _ _ _ h => h) (Or.inl ⟨by rfl, ?_⟩) (by assumption) ?_
        rotate_left; · (intro w hSw; (try dsimp only at hSw); go_simp; try with_reducible rfl)
        try simp only [Act.put, List.getElem_toArray, List.getElem_cons_zero, List.getElem_cons_succ, List.setIfInBounds_toArray, List.set_cons_zero, List.set_cons_succ]
        refine wpAnyH_take (i := 6) (v := ?_) rfl (by kernel_rfl) (by kernel_rfl) (by kernel_rfl) (fun _ _ _ h => h) (Or.inl ⟨by rfl, ?_⟩) (by assumption) ?_
        rotate_left; · (intro w hSw; (try dsimp only at hSw); go_simp; try with_reducible rfl)
        try simp only [Act.put, List.getElem_toArray, List.getElem_cons_zero, List.getElem_cons_succ, List.setIfInBounds_toArray, List.set_cons_zero, List.set_cons_succ]
        refine wpAnyH_take (i := 7) (v := ?_) rfl (by kernel_rfl) (by kernel_rfl) (by kernel_rfl) (fun _ _ _ h => h) (Or.inl ⟨by rfl, ?_⟩) (by assumption) ?_
        rotate_left; · (intro w hSw; (try dsimp only at hSw); go_simp; try with_reducible rfl)
        try simp only [Act.put, List.getElem_toArray, List.getElem_cons_zero, List.getElem_cons_succ, List.setIfInBounds_toArray, List.set_cons_zero, List.set_cons_succ]
        refine wpAnyH_take (i := 8) (v := ?_) rfl (by kernel_rfl) (by kernel_rfl) (by kernel_rfl) (fun _ _ _ h => h) (Or.inl ⟨by rfl, ?_⟩) (by assumption) ?_
        rotate_left; · (intro w hSw; (try dsimp only at hSw); go_simp; try with_reducible rfl)
        try simp only [Act.put, List.getElem_toArray, List.getElem_cons_zero, List.getElem_cons_succ, List.setIfInBounds_toArray, List.set_cons_zero, List.set_cons_succ]
        refine wpAnyH_take (i := 9) (v := ?_) rfl (by kernel_rfl) (by kernel_rfl) (by kernel_rfl) (fun _ _ _ h => h) (Or.inl ⟨by rfl, ?_⟩) (by assumption) ?_
        rotate_left; · (intro w hSw; (try dsimp only at hSw); go_simp; try with_reducible rfl)
        try simp only [Act.put, List.getElem_toArray, List.getElem_cons_zero, List.getElem_cons_succ, List.setIfInBounds_toArray, List.set_cons_zero, List.set_cons_succ]
        refine wpAnyH_ready (rs := [10]) (by kernel_rfl) (by simp) ?_
        refine AllReadyH.cons rfl (fun K hK => ?_) AllReadyH.nil
        go_simp
        refine (CC.out _).mono ?_; rintro e w7 ⟨rfl, hb5⟩
        go_wp2_with fail
        refine hK.out _ _ (HSB.out _ hb5) (fun hNew => ?_)
        clear hK K hHeld
        have hHeld := hNew
        clear hNew
        try simp only [Act.put, List.getElem_toArray, List.getElem_cons_zero, List.getElem_cons_succ, List.setIfInBounds_toArray, List.set_cons_zero, List.set_cons_succ]
        refine wpAnyH_take (i := 11) (v := ?_) rfl (by kernel_rfl) (by kernel_rfl) (by kernel_rfl) (fun _ _ _ h => h) (Or.inl ⟨by rfl, ?_⟩) (by assumption) ?_
        rotate_left; · (intro w hSw; (try dsimp only at hSw); go_simp; try with_reducible rfl)
        try simp only [Act.put, List.getElem_toArray, List.getElem_cons_zero, List.getElem_cons_succ, List.setIfInBounds_toArray, List.set_cons_zero, List.set_cons_succ]
        refine wpAnyH_take (i := 12) (v := ?_) rfl (by kernel_rfl) (by kernel_rfl) (by kernel_rfl) (fun _ _ _ h => h) (Or.inl ⟨by rfl, ?_⟩) (by assumption) ?_
        rotate_left; · (intro w hSw; (try dsimp only at hSw); go_simp; try with_reducible rfl)
        try simp only [Act.put, List.getElem_toArray, List.getElem_cons_zero, List.getElem_cons_succ, List.setIfInBounds_toArray, List.set_cons_zero, List.set_cons_succ]
        refine wpAnyH_done (by kernel_rfl) ?_ _
        have hb17 := HBD.out.trans (hb5.mono HBD.out.size)
        clear hHeld HSB HBD hb5
        have hbw := HAl.out.trans (hb17.mono HAl.out.size)
        by_cases hc0 : cv = 0
        · have q2 : (cv == 0) = true := by simp [hc0]
          rw [if_pos hc0, ← HEQ.out, List.take_append_drop] at HP
          rw [q2]
          have HVL := Lib.hid (HV.out.below hbw)
          clear CC hc0
          go_wp2
          go_ret
          exact ⟨_, rfl, by rw [HP.out]; exact HVL.out, hbw⟩
        · have q2 : (cv == 0) = false := by simp [hc0]
          rw [if_neg hc0, ← HEQ.out] at HP
          have HF := Lib.hid (show res = l.take k ++ [tt] ++ l.drop k by rw [HP.out]; simp)
          rw [q2]
          clear CC hc0 HP HEQ
          have hbx := bb hb17 HBX.out
          have z0 := cell_of_row w7 _ 0 _ _ _ hbx
          have z1 := cell_of_row w7 _ 1 _ _ _ hbx
          have z2 := cell_of_row w7 _ 2 _ _ _ hbx
          have z3 := cell_of_row w7 _ 3 _ _ _ hbx
          have z4 := cell_of_row w7 _ 4 _ _ _ hbx
          have z5 := cell_of_row w7 _ 5 _ _ _ hbx
          have z6 := cell_of_row w7 _ 6 _ _ _ hbx
          clear hbx
          have hklc : k ≤ lc := by omega
          have HBD := Lib.hid hbw.drew
          go_upto_region 6 with fail
          have HSB0 : ∀ w' : World, Below (w7).drew.heap.size (w7).drew w' → (w'.cell? ⟨w.heap.size, 0, none⟩ = some (.string tst) ∧ w'.cell? ⟨w.heap.size, 1, none⟩ = some (.int .i64 tix) ∧ w'.cell? ⟨w.heap.size, 2, none⟩ = some (.int .i64 tsz) ∧ w'.cell? ⟨w.heap.size, 3, none⟩ = some (.int .i64 tsp) ∧ w'.cell? ⟨w.heap.size, 4, none⟩ = some (.int .i64 tnum) ∧ w'.cell? ⟨w.heap.size, 5, none⟩ = some (.int .i64 tden) ∧ w'.cell? ⟨w.heap.size, 6, none⟩ = some (.int .i64 tday)) := fun w' hb => ⟨bc hb z0, bc hb z1, bc hb z2, bc hb z3, bc hb z4, bc hb z5, bc hb z6⟩
          refine wp_region_held_drew (S := fun w' => w'.cell? ⟨w.heap.size, 0, none⟩ = some (.string tst) ∧ w'.cell? ⟨w.heap.size, 1, none⟩ = some (.int .i64 tix) ∧ w'.cell? ⟨w.heap.size, 2, none⟩ = some (.int .i64 tsz) ∧ w'.cell? ⟨w.heap.size, 3, none⟩ = some (.int .i64 tsp) ∧ w'.cell? ⟨w.heap.size, 4, none⟩ = some (.int .i64 tnum) ∧ w'.cell? ⟨w.heap.size, 5, none⟩ = some (.int .i64 tden) ∧ w'.cell? ⟨w.heap.size, 6, none⟩ = some (.int .i64 tday)) (by kernel_rfl) (HSB0 _ (Below.refl _ _)) (fun hHeld => ?_)
          have HSB := Lib.hid HSB0
          clear HSB0
          generalize (w7).drew = Wd at *
          clear z0 z1 z2 z3 z4 z5 z6
          refine wpAnyH_take (i := 1) (v := ?_) rfl (by kernel_rfl) (by kernel_rfl) (by kernel_rfl) (fun _ _ _ h => h) (Or.inl ⟨by rfl, ?_⟩) (by assumption) ?_
          rotate_left; · (intro w hSw; (try dsimp only at hSw); go_simp; try with_reducible rfl)
          try simp only [Act.put, List.getElem_toArray, List.getElem_cons_zero, List.getElem_cons_succ, List.setIfInBounds_toArray, List.set_cons_zero, List.set_cons_succ]
          refine wpAnyH_take (i := 2) (v := ?_) rfl (by kernel_rfl) (by kernel_rfl) (by kernel_rfl) (fun _ _ _ h => h) (Or.inl ⟨by rfl, ?_⟩) (by assumption) ?_
          rotate_left; · (intro w hSw; (try dsimp only at hSw); go_simp; try with_reducible rfl)
          try simp only [Act.put, List.getElem_toArray, List.getElem_cons_zero, List.getElem_cons_succ, List.setIfInBounds_toArray, List.set_cons_zero, List.set_cons_succ]
          refine wpAnyH_take (i := 3) (v := ?_) rfl (by kernel_rfl) (by kernel_rfl) (by kernel_rfl) (fun _ _ _ h => h) (Or.inl ⟨by rfl, ?_⟩) (by assumption) ?_
          rotate_left; · (intro w hSw; (try dsimp only at hSw); go_simp; try with_reducible rfl)
          try simp only [Act.put, List.getElem_toArray, List.getElem_cons_zero, List.getElem_cons_succ, List.setIfInBounds_toArray, List.set_cons_zero, List.set_cons_succ]
          refine wpAnyH_take (i := 5) (v := ?_) rfl (by kernel_rfl) (by kernel_rfl) (by kernel_rfl) (fun _ _ _ h => h) (Or.inl ⟨by rfl, ?_⟩) (by assumption) ?_
          rotate_left; · (intro w hSw; (try dsimp only at hSw); go_simp; try with_reducible rfl)
          try simp only [Act.put, List.getElem_toArray, List.getElem_cons_zero, List.getElem_cons_succ, List.setIfInBounds_toArray, List.set_cons_zero, List.set_cons_succ]
          refine wpAnyH_take (i := 8) (v := ?_) rfl (by kernel_rfl) (by kernel_rfl) (by kernel_rfl) (fun _ _ _ h => h) (Or.inl ⟨by rfl, ?_⟩) (by assumption) ?_
          rotate_left; · (intro w hSw; (try dsimp only at hSw); go_simp; try with_reducible rfl)
          try simp only [Act.put, List.getElem_toArray, List.getElem_cons_zero, List.getElem_cons_succ, List.setIfInBounds_toArray, List.set_cons_zero, List.set_cons_succ]
          refine wpAnyH_take (i := 9) (v := ?_) rfl (by kernel_rfl) (by kernel_rfl) (by kernel_rfl) (fun _ _ _ h => h) (Or.inl ⟨by rfl, ?_⟩) (by assumption) ?_
          rotate_left; · (intro w hSw; (try dsimp only at hSw); go_simp; try with_reducible rfl)
          try simp only [Act.put, List.getElem_toArray, List.getElem_cons_zero, List.getElem_cons_succ, List.setIfInBounds_toArray, List.set_cons_zero, List.set_cons_succ]
          refine wpAnyH_take (i := 10) (v := ?_) rfl (by kernel_rfl) (by kernel_rfl) (by kernel_rfl) (fun _ _ _ h => h) (Or.inl ⟨by rfl, ?_⟩) (by assumption) ?_
          rotate_left; · (intro w hSw; (try dsimp only at hSw); go_simp; try with_reducible rfl)
          try simp only [Act.put, List.getElem_toArray, List.getElem_cons_zero, List.getElem_cons_succ, List.setIfInBounds_toArray, List.set_cons_zero, List.set_cons_succ]
          have HTK := Lib.hid (fun (W : World) (h : Below w.heap.size w W) => reads_take (w := W) (by have := HV.out.below h; rw [HNN.out] at this; exact this) k (by rw [← HNN.out]; exact hk))
          have HLW := Lib.hid (fun (W : World) (h : Below w.heap.size w W) => reads_low (w := W) (by have := HV.out.below h; rw [HNN.out] at this; exact this) k (by rw [← HNN.out]; exact hk))
          obtain ⟨B, hB⟩ : ∃ B, B = Wd.heap.size := ⟨_, rfl⟩
          have hdWd : Below B Wd Wd := Below.refl _ _
          have HSC := Lib.hid (fun w' (h : Below B Wd w') => HSB.out w' (by rw [hB] at h; exact h))
          have HBD := Lib.hid (show Below w.heap.size w Wd ∧ w.heap.size ≤ B from ⟨HBD.out, by rw [hB]; exact HBD.out.size⟩)
          have hBW : B ≤ Wd.heap.size := by omega
          clear hB HSB
          refine wpAnyH_ready (rs := [0, 6]) (by kernel_rfl) (by simp) ?_
          refine AllReadyH.cons rfl (fun K hK => ?_) (AllReadyH.cons rfl (fun K hK => ?_) AllReadyH.nil)
          · skip
            go_simp
            have hs := sb0 (w := Wd) (.cells #[] 32)
            have o0 : OwnT 32 (Wd.alloc (.cells #[] 32)) B (.slice (some ⟨Wd.heap.size, 0, none⟩) 0 0) [] := Own.base (OwnT.lit0 32 Wd) (Nat.le_trans hBW hdWd.size)
            obtain ⟨g0, hg0⟩ : ∃ g, g = Wd.heap.size := ⟨_, rfl⟩
            rw [← hg0] at o0
            try rw [← hg0]
            have hl0 : g0 < (Wd.alloc (.cells #[] 32)).heap.size := by rw [World.size_alloc]; omega
            clear hg0
            generalize Wd.alloc (.cells #[] 32) = W0 at *
            have hdW0 := hdWd.trans (hs.mono (Nat.le_trans hBW hdWd.size))
            refine hK.out _ _ (HSC.out _ hdW0) (fun hNew => ?_)
            clear hK K hNew
            (try clear hHeld)
            have hHeld := HSC.out _ hdW0
            try simp only [Act.put, List.getElem_toArray, List.getElem_cons_zero, List.getElem_cons_succ, List.setIfInBounds_toArray, List.set_cons_zero, List.set_cons_succ]
            refine wpAnyH_ready (rs := [4, 6]) (by kernel_rfl) (by simp) ?_
            refine AllReadyH.cons rfl (fun K hK => ?_) (AllReadyH.cons rfl (fun K hK => ?_) AllReadyH.nil)
            · skip
              obtain ⟨v4, W04, r4, o4, b4, k4⟩ := o0.appR32 (HTK.out W0 (HBD.out.1.trans (hdW0.mono HBD.out.2))) (by simp) (by have := HNN.out; rw [List.length_take]; omega) (Nat.le_trans hBW hdW0.size)
              rw [List.nil_append] at o4
              refine step_append_run (by rfl) (.tmp 35) (.tmp 38) 41 (by rfl) (.slice (some ⟨g0, 0, none⟩) 0 0) (.slice (some ⟨lb, lo, none⟩) k lc) v4 W04 (by rfl) (by rfl) r4 ?_
              have hdW04 := hdW0.trans b4
              clear r4 b4 k4 o0
              refine hK.out _ _ (HSC.out _ hdW04) (fun hNew => ?_)
              clear hK K hNew
              (try clear hHeld)
              have hHeld := HSC.out _ hdW04
              try simp only [Act.put, List.getElem_toArray, List.getElem_cons_zero, List.getElem_cons_succ, List.setIfInBounds_toArray, List.set_cons_zero, List.set_cons_succ]
              refine wpAnyH_ready (rs := [6]) (by kernel_rfl) (by simp) ?_
              refine AllReadyH.cons rfl (fun K hK => ?_) AllReadyH.nil
              go_simp
              have hs := sb0 (w := W04) (.cells #[.string tst, .int .i64 tix, .int .i64 tsz, .int .i64 tsp, .int .i64 tnum, .int .i64 tden, .int .i64 tday] 32)
              have k6 := heap_alloc_new W04 (.cells #[.string tst, .int .i64 tix, .int .i64 tsz, .int .i64 tsp, .int .i64 tnum, .int .i64 tden, .int .i64 tday] 32)
              obtain ⟨g6, hg6⟩ : ∃ g, g = W04.heap.size := ⟨_, rfl⟩
              rw [← hg6] at k6
              try rw [← hg6]
              have hl6 : g6 < (W04.alloc (.cells #[.string tst, .int .i64 tix, .int .i64 tsz, .int .i64 tsp, .int .i64 tnum, .int .i64 tden, .int .i64 tday] 32)).heap.size := by rw [World.size_alloc]; omega
              have o4 := OwnT.below o4 hs
              clear hg6
              generalize W04.alloc (.cells #[.string tst, .int .i64 tix, .int .i64 tsz, .int .i64 tsp, .int .i64 tnum, .int .i64 tden, .int .i64 tday] 32) = W046 at *
              have hdW046 := hdW04.trans (hs.mono (Nat.le_trans hBW hdW04.size))
              refine hK.out _ _ (HSC.out _ hdW046) (fun hNew => ?_)
              clear hK K hNew
              (try clear hHeld)
              have hHeld := HSC.out _ hdW046
              try simp only [Act.put, List.getElem_toArray, List.getElem_cons_zero, List.getElem_cons_succ, List.setIfInBounds_toArray, List.set_cons_zero, List.set_cons_succ]
              refine wpAnyH_ready (rs := [7]) (by kernel_rfl) (by simp) ?_
              refine AllReadyH.cons rfl (fun K hK => ?_) AllReadyH.nil
              obtain ⟨v7, W0467, r7, o7, b7, -⟩ := o4.appR32 (HRS.out W046 g6 k6) (by have := HNN.out; rw [List.length_take]; omega) (by simp) (Nat.le_trans hBW hdW046.size)
              rw [← HTT.out] at o7
              refine step_append_run (by rfl) (.tmp 39) (.tmp 41) 41 (by rfl) v4 (.slice (some ⟨g6, 0, none⟩) 1 1) v7 W0467 (by rfl) (by rfl) r7 ?_
              have hdW0467 := hdW046.trans b7
              clear r7 b7 o4 k6
              refine hK.out _ _ (HSC.out _ hdW0467) (fun hNew => ?_)
              clear hK K hNew
              (try clear hHeld)
              have hHeld := HSC.out _ hdW0467
              try simp only [Act.put, List.getElem_toArray, List.getElem_cons_zero, List.getElem_cons_succ, List.setIfInBounds_toArray, List.set_cons_zero, List.set_cons_succ]
              refine wpAnyH_ready (rs := [11]) (by kernel_rfl) (by simp) ?_
              refine AllReadyH.cons rfl (fun K hK => ?_) AllReadyH.nil
              have hlw := HLW.out W0467 (HBD.out.1.trans (hdW0467.mono HBD.out.2))
              unfold lowV at hlw
              rw [← HNN.out] at hlw
              have hlw : ReadsT W0467 (.slice (if lc = k then some ⟨lb, lo, none⟩ else some ⟨lb, lo + k * 7, none⟩) (n - k) (lc - k)) (l.drop k) := by simpa only [Option.map_some, add_at] using hlw
              obtain ⟨v9, W046711, r9, o9, b9, -⟩ := o7.appR32 hlw (by have := HNN.out; simp; omega) (by have := HNN.out; rw [List.length_drop]; omega) (Nat.le_trans hBW hdW0467.size)
              rw [← HF.out] at o9
              refine step_append_run (by rfl) (.tmp 42) (.tmp 45) 41 (by rfl) v7 _ v9 W046711 (by rfl) (by rfl) r9 ?_
              have hdW046711 := hdW0467.trans b9
              clear r9 b9 o7 hlw
              refine hK.out _ _ (HSC.out _ hdW046711) (fun hNew => ?_)
              clear hK K hNew
              (try clear hHeld)
              have hHeld := HSC.out _ hdW046711
              try simp only [Act.put, List.getElem_toArray, List.getElem_cons_zero, List.getElem_cons_succ, List.setIfInBounds_toArray, List.set_cons_zero, List.set_cons_succ]
              refine wpAnyH_take (i := 12) (v := ?_) rfl (by kernel_rfl) (by kernel_rfl) (by kernel_rfl) (fun _ _ _ h => h) (Or.inl ⟨by rfl, ?_⟩) (by assumption) ?_
              rotate_left; · (intro w hSw; (try dsimp only at hSw); go_simp; try with_reducible rfl)
              try simp only [Act.put, List.getElem_toArray, List.getElem_cons_zero, List.getElem_cons_succ, List.setIfInBounds_toArray, List.set_cons_zero, List.set_cons_succ]
              refine wpAnyH_done (by kernel_rfl) ?_ _
              clear hHeld HSC
              obtain ⟨a9, l9, c9, rfl⟩ := Own.slice o9
              have HO9 := Lib.hid o9
              have HB9 := Lib.hid (HBD.out.1.trans (hdW046711.mono HBD.out.2))
              clear o9
              go_wp2
              all_goals go_ret
              all_goals exact ⟨_, rfl, HO9.out.reads (by have := HNN.out; rw [HF.out]; simp; omega), HB9.out⟩
            · skip
              go_simp
              have hs := sb0 (w := W0) (.cells #[.string tst, .int .i64 tix, .int .i64 tsz, .int .i64 tsp, .int .i64 tnum, .int .i64 tden, .int .i64 tday] 32)
              have k6 := heap_alloc_new W0 (.cells #[.string tst, .int .i64 tix, .int .i64 tsz, .int .i64 tsp, .int .i64 tnum, .int .i64 tden, .int .i64 tday] 32)
              obtain ⟨g6, hg6⟩ : ∃ g, g = W0.heap.size := ⟨_, rfl⟩
              rw [← hg6] at k6
              try rw [← hg6]
              have hl6 : g6 < (W0.alloc (.cells #[.string tst, .int .i64 tix, .int .i64 tsz, .int .i64 tsp, .int .i64 tnum, .int .i64 tden, .int .i64 tday] 32)).heap.size := by rw [World.size_alloc]; omega
              have hne : g6 ≠ g0 := by have := hl0; omega
              have o0 := OwnT.below o0 hs
              clear hg6
              generalize W0.alloc (.cells #[.string tst, .int .i64 tix, .int .i64 tsz, .int .i64 tsp, .int .i64 tnum, .int .i64 tden, .int .i64 tday] 32) = W06 at *
              have hdW06 := hdW0.trans (hs.mono (Nat.le_trans hBW hdW0.size))
              refine hK.out _ _ (HSC.out _ hdW06) (fun hNew => ?_)
              clear hK K hNew
              (try clear hHeld)
              have hHeld := HSC.out _ hdW06
              try simp only [Act.put, List.getElem_toArray, List.getElem_cons_zero, List.getElem_cons_succ, List.setIfInBounds_toArray, List.set_cons_zero, List.set_cons_succ]
              refine wpAnyH_ready (rs := [4]) (by kernel_rfl) (by simp) ?_
              refine AllReadyH.cons rfl (fun K hK => ?_) AllReadyH.nil
              obtain ⟨v4, W064, r4, o4, b4, k4⟩ := o0.appR32 (HTK.out W06 (HBD.out.1.trans (hdW06.mono HBD.out.2))) (by simp) (by have := HNN.out; rw [List.length_take]; omega) (Nat.le_trans hBW hdW06.size)
              rw [List.nil_append] at o4
              refine step_append_run (by rfl) (.tmp 35) (.tmp 38) 41 (by rfl) (.slice (some ⟨g0, 0, none⟩) 0 0) (.slice (some ⟨lb, lo, none⟩) k lc) v4 W064 (by rfl) (by rfl) r4 ?_
              have hdW064 := hdW06.trans b4
              have k6 := (k4 g6 (Array.getElem?_eq_some_iff.1 k6).1 (fun e => hne (by cases e; rfl))).trans k6
              clear r4 b4 k4 o0
              refine hK.out _ _ (HSC.out _ hdW064) (fun hNew => ?_)
              clear hK K hNew
              (try clear hHeld)
              have hHeld := HSC.out _ hdW064
              try simp only [Act.put, List.getElem_toArray, List.getElem_cons_zero, List.getElem_cons_succ, List.setIfInBounds_toArray, List.set_cons_zero, List.set_cons_succ]
              refine wpAnyH_ready (rs := [7]) (by kernel_rfl) (by simp) ?_
              refine AllReadyH.cons rfl (fun K hK => ?_) AllReadyH.nil
              obtain ⟨v7, W0647, r7, o7, b7, -⟩ := o4.appR32 (HRS.out W064 g6 k6) (by have := HNN.out; rw [List.length_take]; omega) (by simp) (Nat.le_trans hBW hdW064.size)
              rw [← HTT.out] at o7
              refine step_append_run (by rfl) (.tmp 39) (.tmp 41) 41 (by rfl) v4 (.slice (some ⟨g6, 0, none⟩) 1 1) v7 W0647 (by rfl) (by rfl) r7 ?_
              have hdW0647 := hdW064.trans b7
              clear r7 b7 o4 k6
              refine hK.out _ _ (HSC.out _ hdW0647) (fun hNew => ?_)
              clear hK K hNew
              (try clear hHeld)
              have hHeld := HSC.out _ hdW0647
              try simp only [Act.put, List.getElem_toArray, List.getElem_cons_zero, List.getElem_cons_succ, List.setIfInBounds_toArray, List.set_cons_zero, List.set_cons_succ]
              refine wpAnyH_ready (rs := [11]) (by kernel_rfl) (by simp) ?_
              refine AllReadyH.cons rfl (fun K hK => ?_) AllReadyH.nil
              have hlw := HLW.out W0647 (HBD.out.1.trans (hdW0647.mono HBD.out.2))
              unfold lowV at hlw
              rw [← HNN.out] at hlw
              have hlw : ReadsT W0647 (.slice (if lc = k then some ⟨lb, lo, none⟩ else some ⟨lb, lo + k * 7, none⟩) (n - k) (lc - k)) (l.drop k) := by simpa only [Option.map_some, add_at] using hlw
              obtain ⟨v9, W064711, r9, o9, b9, -⟩ := o7.appR32 hlw (by have := HNN.out; simp; omega) (by have := HNN.out; rw [List.length_drop]; omega) (Nat.le_trans hBW hdW0647.size)
              rw [← HF.out] at o9
              refine step_append_run (by rfl) (.tmp 42) (.tmp 45) 41 (by rfl) v7 _ v9 W064711 (by rfl) (by rfl) r9 ?_
              have hdW064711 := hdW0647.trans b9
              clear r9 b9 o7 hlw
              refine hK.out _ _ (HSC.out _ hdW064711) (fun hNew => ?_)
              clear hK K hNew
              (try clear hHeld)
              have hHeld := HSC.out _ hdW064711
              try simp only [Act.put, List.getElem_toArray, List.getElem_cons_zero, List.getElem_cons_succ, List.setIfInBounds_toArray, List.set_cons_zero, List.set_cons_succ]
              refine wpAnyH_take (i := 12) (v := ?_) rfl (by kernel_rfl) (by kernel_rfl) (by kernel_rfl) (fun _ _ _ h => h) (Or.inl ⟨by rfl, ?_⟩) (by assumption) ?_
              rotate_left; · (intro w hSw; (try dsimp only at hSw); go_simp; try with_reducible rfl)
              try simp only [Act.put, List.getElem_toArray, List.getElem_cons_zero, List.getElem_cons_succ, List.setIfInBounds_toArray, List.set_cons_zero, List.set_cons_succ]
              refine wpAnyH_done (by kernel_rfl) ?_ _
              clear hHeld HSC
              obtain ⟨a9, l9, c9, rfl⟩ := Own.slice o9
              have HO9 := Lib.hid o9
              have HB9 := Lib.hid (HBD.out.1.trans (hdW064711.mono HBD.out.2))
              clear o9
              go_wp2
              all_goals go_ret
              all_goals exact ⟨_, rfl, HO9.out.reads (by have := HNN.out; rw [HF.out]; simp; omega), HB9.out⟩
          · skip
            go_simp
            have hs := sb0 (w := Wd) (.cells #[.string tst, .int .i64 tix, .int .i64 tsz, .int .i64 tsp, .int .i64 tnum, .int .i64 tden, .int .i64 tday] 32)
            have k6 := heap_alloc_new Wd (.cells #[.string tst, .int .i64 tix, .int .i64 tsz, .int .i64 tsp, .int .i64 tnum, .int .i64 tden, .int .i64 tday] 32)
            obtain ⟨g6, hg6⟩ : ∃ g, g = Wd.heap.size := ⟨_, rfl⟩
            rw [← hg6] at k6
            try rw [← hg6]
            have hl6 : g6 < (Wd.alloc (.cells #[.string tst, .int .i64 tix, .int .i64 tsz, .int .i64 tsp, .int .i64 tnum, .int .i64 tden, .int .i64 tday] 32)).heap.size := by rw [World.size_alloc]; omega
            clear hg6
            generalize Wd.alloc (.cells #[.string tst, .int .i64 tix, .int .i64 tsz, .int .i64 tsp, .int .i64 tnum, .int .i64 tden, .int .i64 tday] 32) = W6 at *
            have hdW6 := hdWd.trans (hs.mono (Nat.le_trans hBW hdWd.size))
            refine hK.out _ _ (HSC.out _ hdW6) (fun hNew => ?_)
            clear hK K hNew
            (try clear hHeld)
            have hHeld := HSC.out _ hdW6
            try simp only [Act.put, List.getElem_toArray, List.getElem_cons_zero, List.getElem_cons_succ, List.setIfInBounds_toArray, List.set_cons_zero, List.set_cons_succ]
            refine wpAnyH_ready (rs := [0]) (by kernel_rfl) (by simp) ?_
            refine AllReadyH.cons rfl (fun K hK => ?_) AllReadyH.nil
            go_simp
            have hs := sb0 (w := W6) (.cells #[] 32)
            have o0 : OwnT 32 (W6.alloc (.cells #[] 32)) B (.slice (some ⟨W6.heap.size, 0, none⟩) 0 0) [] := Own.base (OwnT.lit0 32 W6) (Nat.le_trans hBW hdW6.size)
            obtain ⟨g0, hg0⟩ : ∃ g, g = W6.heap.size := ⟨_, rfl⟩
            rw [← hg0] at o0
            try rw [← hg0]
            have hl0 : g0 < (W6.alloc (.cells #[] 32)).heap.size := by rw [World.size_alloc]; omega
            have hne : g6 ≠ g0 := by have := hl6; omega
            have k6 := bb hs k6
            clear hg0
            generalize W6.alloc (.cells #[] 32) = W60 at *
            have hdW60 := hdW6.trans (hs.mono (Nat.le_trans hBW hdW6.size))
            refine hK.out _ _ (HSC.out _ hdW60) (fun hNew => ?_)
            clear hK K hNew
            (try clear hHeld)
            have hHeld := HSC.out _ hdW60
            try simp only [Act.put, List.getElem_toArray, List.getElem_cons_zero, List.getElem_cons_succ, List.setIfInBounds_toArray, List.set_cons_zero, List.set_cons_succ]
            refine wpAnyH_ready (rs := [4]) (by kernel_rfl) (by simp) ?_
            refine AllReadyH.cons rfl (fun K hK => ?_) AllReadyH.nil
            obtain ⟨v4, W604, r4, o4, b4, k4⟩ := o0.appR32 (HTK.out W60 (HBD.out.1.trans (hdW60.mono HBD.out.2))) (by simp) (by have := HNN.out; rw [List.length_take]; omega) (Nat.le_trans hBW hdW60.size)
            rw [List.nil_append] at o4
            refine step_append_run (by rfl) (.tmp 35) (.tmp 38) 41 (by rfl) (.slice (some ⟨g0, 0, none⟩) 0 0) (.slice (some ⟨lb, lo, none⟩) k lc) v4 W604 (by rfl) (by rfl) r4 ?_
            have hdW604 := hdW60.trans b4
            have k6 := (k4 g6 (Array.getElem?_eq_some_iff.1 k6).1 (fun e => hne (by cases e; rfl))).trans k6
            clear r4 b4 k4 o0
            refine hK.out _ _ (HSC.out _ hdW604) (fun hNew => ?_)
            clear hK K hNew
            (try clear hHeld)
            have hHeld := HSC.out _ hdW604
            try simp only [Act.put, List.getElem_toArray, List.getElem_cons_zero, List.getElem_cons_succ, List.setIfInBounds_toArray, List.set_cons_zero, List.set_cons_succ]
            refine wpAnyH_ready (rs := [7]) (by kernel_rfl) (by simp) ?_
            refine AllReadyH.cons rfl (fun K hK => ?_) AllReadyH.nil
            obtain ⟨v7, W6047, r7, o7, b7, -⟩ := o4.appR32 (HRS.out W604 g6 k6) (by have := HNN.out; rw [List.length_take]; omega) (by simp) (Nat.le_trans hBW hdW604.size)
            rw [← HTT.out] at o7
            refine step_append_run (by rfl) (.tmp 39) (.tmp 41) 41 (by rfl) v4 (.slice (some ⟨g6, 0, none⟩) 1 1) v7 W6047 (by rfl) (by rfl) r7 ?_
            have hdW6047 := hdW604.trans b7
            clear r7 b7 o4 k6
            refine hK.out _ _ (HSC.out _ hdW6047) (fun hNew => ?_)
            clear hK K hNew
            (try clear hHeld)
            have hHeld := HSC.out _ hdW6047
            try simp only [Act.put, List.getElem_toArray, List.getElem_cons_zero, List.getElem_cons_succ, List.setIfInBounds_toArray, List.set_cons_zero, List.set_cons_succ]
            refine wpAnyH_ready (rs := [11]) (by kernel_rfl) (by simp) ?_
            refine AllReadyH.cons rfl (fun K hK => ?_) AllReadyH.nil
            have hlw := HLW.out W6047 (HBD.out.1.trans (hdW6047.mono HBD.out.2))
            unfold lowV at hlw
            rw [← HNN.out] at hlw
            have hlw : ReadsT W6047 (.slice (if lc = k then some ⟨lb, lo, none⟩ else some ⟨lb, lo + k * 7, none⟩) (n - k) (lc - k)) (l.drop k) := by simpa only [Option.map_some, add_at] using hlw
            obtain ⟨v9, W604711, r9, o9, b9, -⟩ := o7.appR32 hlw (by have := HNN.out; simp; omega) (by have := HNN.out; rw [List.length_drop]; omega) (Nat.le_trans hBW hdW6047.size)
            rw [← HF.out] at o9
            refine step_append_run (by rfl) (.tmp 42) (.tmp 45) 41 (by rfl) v7 _ v9 W604711 (by rfl) (by rfl) r9 ?_
            have hdW604711 := hdW6047.trans b9
            clear r9 b9 o7 hlw
            refine hK.out _ _ (HSC.out _ hdW604711) (fun hNew => ?_)
            clear hK K hNew
            (try clear hHeld)
            have hHeld := HSC.out _ hdW604711
            try simp only [Act.put, List.getElem_toArray, List.getElem_cons_zero, List.getElem_cons_succ, List.setIfInBounds_toArray, List.set_cons_zero, List.set_cons_succ]
            refine wpAnyH_take (i := 12) (v := ?_) rfl (by kernel_rfl) (by kernel_rfl) (by kernel_rfl) (fun _ _ _ h => h) (Or.inl ⟨by rfl, ?_⟩) (by assumption) ?_
            rotate_left; · (intro w hSw; (try dsimp only at hSw); go_simp; try with_reducible rfl)
            try simp only [Act.put, List.getElem_toArray, List.getElem_cons_zero, List.getElem_cons_succ, List.setIfInBounds_toArray, List.set_cons_zero, List.set_cons_succ]
            refine wpAnyH_done (by kernel_rfl) ?_ _
            clear hHeld HSC
            obtain ⟨a9, l9, c9, rfl⟩ := Own.slice o9
            have HO9 := Lib.hid o9
            have HB9 := Lib.hid (HBD.out.1.trans (hdW604711.mono HBD.out.2))
            clear o9
            go_wp2
            all_goals go_ret
            all_goals exact ⟨_, rfl, HO9.out.reads (by have := HNN.out; rw [HF.out]; simp; omega), HB9.out⟩
    · have hkn2 : k = n := by omega
      have hdr : l.drop k = [] := List.drop_eq_nil_of_le (by rw [← HNN.out]; omega)
      have HF := Lib.hid (show res = l.take k ++ [tt] ++ l.drop k by rw [HRES.out, HPOS.out k (by rw [← HNN.out]; exact hk) HLT.out, hdr, HTW.out]; simp)
      have q0 : decide ((k : Int) < n) = false := by simp; omega
      clear hdr HIC HPOS HLT CR HRES z0 z1 z2 z3 z4 z5 z6
      have HBL := Lib.hid hbel.drew
      clear hbel hbw hkn2
      go_upto_region 2 with fail
      refine wp_region_held_drew (S := fun _ => True) (by kernel_rfl) trivial (fun hHeld => ?_)
      generalize wr.drew = w5 at *
      refine wpAnyH_take (i := 0) (v := ?_) rfl (by kernel_rfl) (by kernel_rfl) (by kernel_rfl) (fun _ _ _ h => h) (Or.inl ⟨by rfl, ?_⟩) (by assumption) ?_
      rotate_left; · (intro w hSw; (try dsimp only at hSw); go_simp; try with_reducible rfl)
      try simp only [Act.put, List.getElem_toArray, List.getElem_cons_zero, List.getElem_cons_succ, List.setIfInBounds_toArray, List.set_cons_zero, List.set_cons_succ]
      refine wpAnyH_take (i := 1) (v := ?_) rfl (by kernel_rfl) (by kernel_rfl) (by kernel_rfl) (fun _ _ _ h => h) (Or.inl ⟨by rfl, ?_⟩) (by assumption) ?_
      rotate_left; · (intro w hSw; (try dsimp only at hSw); go_simp; try with_reducible rfl)
      try simp only [Act.put, List.getElem_toArray, List.getElem_cons_zero, List.getElem_cons_succ, List.setIfInBounds_toArray, List.set_cons_zero, List.set_cons_succ]
      refine wpAnyH_take (i := 2) (v := ?_) rfl (by kernel_rfl) (by kernel_rfl) (by kernel_rfl) (fun _ _ _ h => h) (Or.inl ⟨by rfl, ?_⟩) (by assumption) ?_
      rotate_left; · (intro w hSw; (try dsimp only at hSw); go_simp; try with_reducible rfl)
      try simp only [Act.put, List.getElem_toArray, List.getElem_cons_zero, List.getElem_cons_succ, List.setIfInBounds_toArray, List.set_cons_zero, List.set_cons_succ]
      refine wpAnyH_take (i := 3) (v := ?_) rfl (by kernel_rfl) (by kernel_rfl) (by kernel_rfl) (fun _ _ _ h => h) (Or.inl ⟨by rfl, ?_⟩) (by assumption) ?_
      rotate_left; · (intro w hSw; (try dsimp only at hSw); go_simp; try with_reducible rfl)
      try simp only [Act.put, List.getElem_toArray, List.getElem_cons_zero, List.getElem_cons_succ, List.setIfInBounds_toArray, List.set_cons_zero, List.set_cons_succ]
      refine wpAnyH_take (i := 4) (v := ?_) rfl (by kernel_rfl) (by kernel_rfl) (by kernel_rfl) (fun _ _ _ h => h) (Or.inl ⟨by rfl, ?_⟩) (by assumption) ?_
      rotate_left; · (intro w hSw; (try dsimp only at hSw); go_simp; try with_reducible rfl)
      try simp only [Act.put, List.getElem_toArray, List.getElem_cons_zero, List.getElem_cons_succ, List.setIfInBounds_toArray, List.set_cons_zero, List.set_cons_succ]
      refine wpAnyH_take (i := 5) (v := undef) rfl (by kernel_rfl) (by kernel_rfl) (by kernel_rfl) (fun _ _ _ h => h) (Or.inr ⟨by rfl, rfl⟩) (by assumption) ?_
      try simp only [Act.put, List.getElem_toArray, List.getElem_cons_zero, List.getElem_cons_succ, List.setIfInBounds_toArray, List.set_cons_zero, List.set_cons_succ]
      refine wpAnyH_take (i := 6) (v := undef) rfl (by kernel_rfl) (by kernel_rfl) (by kernel_rfl) (fun _ _ _ h => h) (Or.inr ⟨by rfl, rfl⟩) (by assumption) ?_
      try simp only [Act.put, List.getElem_toArray, List.getElem_cons_zero, List.getElem_cons_succ, List.setIfInBounds_toArray, List.set_cons_zero, List.set_cons_succ]
      refine wpAnyH_take (i := 7) (v := undef) rfl (by kernel_rfl) (by kernel_rfl) (by kernel_rfl) (fun _ _ _ h => h) (Or.inr ⟨by rfl, rfl⟩) (by assumption) ?_
      try simp only [Act.put, List.getElem_toArray, List.getElem_cons_zero, List.getElem_cons_succ, List.setIfInBounds_toArray, List.set_cons_zero, List.set_cons_succ]
      refine wpAnyH_take (i := 8) (v := undef) rfl (by kernel_rfl) (by kernel_rfl) (by kernel_rfl) (fun _ _ _ h => h) (Or.inr ⟨by rfl, rfl⟩) (by assumption) ?_
      try simp only [Act.put, List.getElem_toArray, List.getElem_cons_zero, List.getElem_cons_succ, List.setIfInBounds_toArray, List.set_cons_zero, List.set_cons_succ]
      refine wpAnyH_take (i := 9) (v := undef) rfl (by kernel_rfl) (by kernel_rfl) (by kernel_rfl) (fun _ _ _ h => h) (Or.inr ⟨by rfl, rfl⟩) (by assumption) ?_
      try simp only [Act.put, List.getElem_toArray, List.getElem_cons_zero, List.getElem_cons_succ, List.setIfInBounds_toArray, List.set_cons_zero, List.set_cons_succ]
      refine wpAnyH_take (i := 10) (v := undef) rfl (by kernel_rfl) (by kernel_rfl) (by kernel_rfl) (fun _ _ _ h => h) (Or.inr ⟨by rfl, rfl⟩) (by assumption) ?_
      try simp only [Act.put, List.getElem_toArray, List.getElem_cons_zero, List.getElem_cons_succ, List.setIfInBounds_toArray, List.set_cons_zero, List.set_cons_succ]
      refine wpAnyH_take (i := 11) (v := undef) rfl (by kernel_rfl) (by kernel_rfl) (by kernel_rfl) (fun _ _ _ h => h) (Or.inr ⟨by rfl, rfl⟩) (by assumption) ?_
      try simp only [Act.put, List.getElem_toArray, List.getElem_cons_zero, List.getElem_cons_succ, List.setIfInBounds_toArray, List.set_cons_zero, List.set_cons_succ]
      refine wpAnyH_take (i := 12) (v := ?_) rfl (by kernel_rfl) (by kernel_rfl) (by kernel_rfl) (fun _ _ _ h => h) (Or.inl ⟨by rfl, ?_⟩) (by assumption) ?_
      rotate_left; · (intro w hSw; (try dsimp only at hSw); go_simp; try with_reducible rfl)
      try simp only [Act.put, List.getElem_toArray, List.getElem_cons_zero, List.getElem_cons_succ, List.setIfInBounds_toArray, List.set_cons_zero, List.set_cons_succ]
      refine wpAnyH_done (by kernel_rfl) ?_ _
      clear hHeld
      go_wp2_with fail
      have HBL2 := Lib.hid HBL.out.drew
      go_upto_region 4 with fail
      refine wp_region_held_drew (S := fun _ => True) (by kernel_rfl) trivial (fun hHeld => ?_)
      generalize w5.drew = w7 at *
      refine wpAnyH_take (i := 0) (v := ?_) rfl (by kernel_rfl) (by kernel_rfl) (by kernel_rfl) (fun _ _ _ h => h) (Or.inl ⟨by rfl, ?_⟩) (by assumption) ?_
      rotate_left; · (intro w hSw; (try dsimp only at hSw); go_simp; try with_reducible rfl)
      try simp only [Act.put, List.getElem_toArray, List.getElem_cons_zero, List.getElem_cons_succ, List.setIfInBounds_toArray, List.set_cons_zero, List.set_cons_succ]
      refine wpAnyH_take (i := 1) (v := ?_) rfl (by kernel_rfl) (by kernel_rfl) (by kernel_rfl) (fun _ _ _ h => h) (Or.inl ⟨by rfl, ?_⟩) (by assumption) ?_
      rotate_left; · (intro w hSw; (try dsimp only at hSw); go_simp; try with_reducible rfl)
      try simp only [Act.put, List.getElem_toArray, List.getElem_cons_zero, List.getElem_cons_succ, List.setIfInBounds_toArray, List.set_cons_zero, List.set_cons_succ]
      refine wpAnyH_take (i := 2) (v := ?_) rfl (by kernel_rfl) (by kernel_rfl) (by kernel_rfl) (fun _ _ _ h => h) (Or.inl ⟨by rfl, ?_⟩) (by assumption) ?_
      rotate_left; · (intro w hSw; (try dsimp only at hSw); go_simp; try with_reducible rfl)
      try simp only [Act.put, List.getElem_toArray, List.getElem_cons_zero, List.getElem_cons_succ, List.setIfInBounds_toArray, List.set_cons_zero, List.set_cons_succ]
      refine wpAnyH_take (i := 3) (v := ?_) rfl (by kernel_rfl) (by kernel_rfl) (by kernel_rfl) (fun _ _ _ h => h) (Or.inl ⟨by rfl, ?_⟩) (by assumption) ?_
      rotate_left; · (intro w hSw; (try dsimp only at hSw); go_simp; try with_reducible rfl)
      try simp only [Act.put, List.getElem_toArray, List.getElem_cons_zero, List.getElem_cons_succ, List.setIfInBounds_toArray, List.set_cons_zero, List.set_cons_succ]
      refine wpAnyH_take (i := 4) (v := ?_) rfl (by kernel_rfl) (by kernel_rfl) (by kernel_rfl) (fun _ _ _ h => h) (Or.inl ⟨by rfl, ?_⟩) (by assumption) ?_
      rotate_left; · (intro w hSw; (try dsimp only at hSw); go_simp; try with_reducible rfl)
      try simp only [Act.put, List.getElem_toArray, List.getElem_cons_zero, List.getElem_cons_succ, List.setIfInBounds_toArray, List.set_cons_zero, List.set_cons_succ]
      refine wpAnyH_take (i := 5) (v := undef) rfl (by kernel_rfl) (by kernel_rfl) (by kernel_rfl) (fun _ _ _ h => h) (Or.inr ⟨by rfl, rfl⟩) (by assumption) ?_
      try simp only [Act.put, List.getElem_toArray, List.getElem_cons_zero, List.getElem_cons_succ, List.setIfInBounds_toArray, List.set_cons_zero, List.set_cons_succ]
      refine wpAnyH_take (i := 6) (v := undef) rfl (by kernel_rfl) (by kernel_rfl) (by kernel_rfl) (fun _ _ _ h => h) (Or.inr ⟨by rfl, rfl⟩) (by assumption) ?_
      try simp only [Act.put, List.getElem_toArray, List.getElem_cons_zero, List.getElem_cons_succ, List.setIfInBounds_toArray, List.set_cons_zero, List.set_cons_succ]
      refine wpAnyH_take (i := 7) (v := undef) rfl (by kernel_rfl) (by kernel_rfl) (by kernel_rfl) (fun _ _ _ h => h) (Or.inr ⟨by rfl, rfl⟩) (by assumption) ?_
      try simp only [Act.put, List.getElem_toArray, List.getElem_cons_zero, List.getElem_cons_succ, List.setIfInBounds_toArray, List.set_cons_zero, List.set_cons_succ]
      refine wpAnyH_take (i := 8) (v := undef) rfl (by kernel_rfl) (by kernel_rfl) (by kernel_rfl) (fun _ _ _ h => h) (Or.inr ⟨by rfl, rfl⟩) (by assumption) ?_
      try simp only [Act.put, List.getElem_toArray, List.getElem_cons_zero, List.getElem_cons_succ, List.setIfInBounds_toArray, List.set_cons_zero, List.set_cons_succ]
      refine wpAnyH_take (i := 9) (v := undef) rfl (by kernel_rfl) (by kernel_rfl) (by kernel_rfl) (fun _ _ _ h => h) (Or.inr ⟨by rfl, rfl⟩) (by assumption) ?_
      try simp only [Act.put, List.getElem_toArray, List.getElem_cons_zero, List.getElem_cons_succ, List.setIfInBounds_toArray, List.set_cons_zero, List.set_cons_succ]
      refine wpAnyH_take (i := 10) (v := undef) rfl (by kernel_rfl) (by kernel_rfl) (by kernel_rfl) (fun _ _ _ h => h) (Or.inr ⟨by rfl, rfl⟩) (by assumption) ?_
      try simp only [Act.put, List.getElem_toArray, List.getElem_cons_zero, List.getElem_cons_succ, List.setIfInBounds_toArray, List.set_cons_zero, List.set_cons_succ]
      refine wpAnyH_take (i := 11) (v := undef) rfl (by kernel_rfl) (by kernel_rfl) (by kernel_rfl) (fun _ _ _ h => h) (Or.inr ⟨by rfl, rfl⟩) (by assumption) ?_
      try simp only [Act.put, List.getElem_toArray, List.getElem_cons_zero, List.getElem_cons_succ, List.setIfInBounds_toArray, List.set_cons_zero, List.set_cons_succ]
      refine wpAnyH_take (i := 12) (v := ?_) rfl (by kernel_rfl) (by kernel_rfl) (by kernel_rfl) (fun _ _ _ h => h) (Or.inl ⟨by rfl, ?_⟩) (by assumption) ?_
      rotate_left; · (intro w hSw; (try dsimp only at hSw); go_simp; try with_reducible rfl)
      try simp only [Act.put, List.getElem_toArray, List.getElem_cons_zero, List.getElem_cons_succ, List.setIfInBounds_toArray, List.set_cons_zero, List.set_cons_succ]
      refine wpAnyH_done (by kernel_rfl) ?_ _
      clear hHeld
      have hbw := HAl.out.trans (HBL2.out.mono HAl.out.size)
      have hbx := bb HBL2.out HBX.out
      have z0 := cell_of_row w7 _ 0 _ _ _ hbx
      have z1 := cell_of_row w7 _ 1 _ _ _ hbx
      have z2 := cell_of_row w7 _ 2 _ _ _ hbx
      have z3 := cell_of_row w7 _ 3 _ _ _ hbx
      have z4 := cell_of_row w7 _ 4 _ _ _ hbx
      have z5 := cell_of_row w7 _ 5 _ _ _ hbx
      have z6 := cell_of_row w7 _ 6 _ _ _ hbx
      clear hbx
      have hklc : k ≤ lc := by omega
      have HBD := Lib.hid hbw.drew
      go_upto_region 6 with fail
      have HSB0 : ∀ w' : World, Below (w7).drew.heap.size (w7).drew w' → (w'.cell? ⟨w.heap.size, 0, none⟩ = some (.string tst) ∧ w'.cell? ⟨w.heap.size, 1, none⟩ = some (.int .i64 tix) ∧ w'.cell? ⟨w.heap.size, 2, none⟩ = some (.int .i64 tsz) ∧ w'.cell? ⟨w.heap.size, 3, none⟩ = some (.int .i64 tsp) ∧ w'.cell? ⟨w.heap.size, 4, none⟩ = some (.int .i64 tnum) ∧ w'.cell? ⟨w.heap.size, 5, none⟩ = some (.int .i64 tden) ∧ w'.cell? ⟨w.heap.size, 6, none⟩ = some (.int .i64 tday)) := fun w' hb => ⟨bc hb z0, bc hb z1, bc hb z2, bc hb z3, bc hb z4, bc hb z5, bc hb z6⟩
      refine wp_region_held_drew (S := fun w' => w'.cell? ⟨w.heap.size, 0, none⟩ = some (.string tst) ∧ w'.cell? ⟨w.heap.size, 1, none⟩ = some (.int .i64 tix) ∧ w'.cell? ⟨w.heap.size, 2, none⟩ = some (.int .i64 tsz) ∧ w'.cell? ⟨w.heap.size, 3, none⟩ = some (.int .i64 tsp) ∧ w'.cell? ⟨w.heap.size, 4, none⟩ = some (.int .i64 tnum) ∧ w'.cell? ⟨w.heap.size, 5, none⟩ = some (.int .i64 tden) ∧ w'.cell? ⟨w.heap.size, 6, none⟩ = some (.int .i64 tday)) (by kernel_rfl) (HSB0 _ (Below.refl _ _)) (fun hHeld => ?_)
      have HSB := Lib.hid HSB0
      clear HSB0
      generalize (w7).drew = Wd at *
      clear z0 z1 z2 z3 z4 z5 z6
      refine wpAnyH_take (i := 1) (v := ?_) rfl (by kernel_rfl) (by kernel_rfl) (by kernel_rfl) (fun _ _ _ h => h) (Or.inl ⟨by rfl, ?_⟩) (by assumption) ?_
      rotate_left; · (intro w hSw; (try dsimp only at hSw); go_simp; try with_reducible rfl)
      try simp only [Act.put, List.getElem_toArray, List.getElem_cons_zero, List.getElem_cons_succ, List.setIfInBounds_toArray, List.set_cons_zero, List.set_cons_succ]
      refine wpAnyH_take (i := 2) (v := ?_) rfl (by kernel_rfl) (by kernel_rfl) (by kernel_rfl) (fun _ _ _ h => h) (Or.inl ⟨by rfl, ?_⟩) (by assumption) ?_
      rotate_left; · (intro w hSw; (try dsimp only at hSw); go_simp; try with_reducible rfl)
      try simp only [Act.put, List.getElem_toArray, List.getElem_cons_zero, List.getElem_cons_succ, List.setIfInBounds_toArray, List.set_cons_zero, List.set_cons_succ]
      refine wpAnyH_take (i := 3) (v := ?_) rfl (by kernel_rfl) (by kernel_rfl) (by kernel_rfl) (fun _ _ _ h => h) (Or.inl ⟨by rfl, ?_⟩) (by assumption) ?_
      rotate_left; · (intro w hSw; (try dsimp only at hSw); go_simp; try with_reducible rfl)
      try simp only [Act.put, List.getElem_toArray, List.getElem_cons_zero, List.getElem_cons_succ, List.setIfInBounds_toArray, List.set_cons_zero, List.set_cons_succ]
      refine wpAnyH_take (i := 5) (v := ?_) rfl (by kernel_rfl) (by kernel_rfl) (by kernel_rfl) (fun _ _ _ h => h) (Or.inl ⟨by rfl, ?_⟩) (by assumption) ?_
      rotate_left; · (intro w hSw; (try dsimp only at hSw); go_simp; try with_reducible rfl)
      try simp only [Act.put, List.getElem_toArray, List.getElem_cons_zero, List.getElem_cons_succ, List.setIfInBounds_toArray, List.set_cons_zero, List.set_cons_succ]
      refine wpAnyH_take (i := 8) (v := ?_) rfl (by kernel_rfl) (by kernel_rfl) (by kernel_rfl) (fun _ _ _ h => h) (Or.inl ⟨by rfl, ?_⟩) (by assumption) ?_
      rotate_left; · (intro w hSw; (try dsimp only at hSw); go_simp; try with_reducible rfl)
      try simp only [Act.put, List.getElem_toArray, List.getElem_cons_zero, List.getElem_cons_succ, List.setIfInBounds_toArray, List.set_cons_zero, List.set_cons_succ]
      refine wpAnyH_take (i := 9) (v := ?_) rfl (by kernel_rfl) (by kernel_rfl) (by kernel_rfl) (fun _ _ _ h => h) (Or.inl ⟨by rfl, ?_⟩) (by assumption) ?_
      rotate_left; · (intro w hSw; (try dsimp only at hSw); go_simp; try with_reducible rfl)
      try simp only [Act.put, List.getElem_toArray, List.getElem_cons_zero, List.getElem_cons_succ, List.setIfInBounds_toArray, List.set_cons_zero, List.set_cons_succ]
      refine wpAnyH_take (i := 10) (v := ?_) rfl (by kernel_rfl) (by kernel_rfl) (by kernel_rfl) (fun _ _ _ h => h) (Or.inl ⟨by rfl, ?_⟩) (by assumption) ?_
      rotate_left; · (intro w hSw; (try dsimp only at hSw); go_simp; try with_reducible rfl)
      try simp only [Act.put, List.getElem_toArray, List.getElem_cons_zero, List.getElem_cons_succ, List.setIfInBounds_toArray, List.set_cons_zero, List.set_cons_succ]
      have HTK := Lib.hid (fun (W : World) (h : Below w.heap.size w W) => reads_take (w := W) (by have := HV.out.below h; rw [HNN.out] at this; exact this) k (by rw [← HNN.out]; exact hk))
      have HLW := Lib.hid (fun (W : World) (h : Below w.heap.size w W) => reads_low (w := W) (by have := HV.out.below h; rw [HNN.out] at this; exact this) k (by rw [← HNN.out]; exact hk))
      obtain ⟨B, hB⟩ : ∃ B, B = Wd.heap.size := ⟨_, rfl⟩
      have hdWd : Below B Wd Wd := Below.refl _ _
      have HSC := Lib.hid (fun w' (h : Below B Wd w') => HSB.out w' (by rw [hB] at h; exact h))
      have HBD := Lib.hid (show Below w.heap.size w Wd ∧ w.heap.size ≤ B from ⟨HBD.out, by rw [hB]; exact HBD.out.size⟩)
      have hBW : B ≤ Wd.heap.size := by omega
      clear hB HSB
      refine wpAnyH_ready (rs := [0, 6]) (by kernel_rfl) (by simp) ?_
      refine AllReadyH.cons rfl (fun K hK => ?_) (AllReadyH.cons rfl (fun K hK => ?_) AllReadyH.nil)
      · skip
        go_simp
        have hs := sb0 (w := Wd) (.cells #[] 32)
        have o0 : OwnT 32 (Wd.alloc (.cells #[] 32)) B (.slice (some ⟨Wd.heap.size, 0, none⟩) 0 0) [] := Own.base (OwnT.lit0 32 Wd) (Nat.le_trans hBW hdWd.size)
        obtain ⟨g0, hg0⟩ : ∃ g, g = Wd.heap.size := ⟨_, rfl⟩
        rw [← hg0] at o0
        try rw [← hg0]
        have hl0 : g0 < (Wd.alloc (.cells #[] 32)).heap.size := by rw [World.size_alloc]; omega
        clear hg0
        generalize Wd.alloc (.cells #[] 32) = W0 at *
        have hdW0 := hdWd.trans (hs.mono (Nat.le_trans hBW hdWd.size))
        refine hK.out _ _ (HSC.out _ hdW0) (fun hNew => ?_)
        clear hK K hNew
        (try clear hHeld)
        have hHeld := HSC.out _ hdW0
        try simp only [Act.put, List.getElem_toArray, List.getElem_cons_zero, List.getElem_cons_succ, List.setIfInBounds_toArray, List.set_cons_zero, List.set_cons_succ]
        refine wpAnyH_ready (rs := [4, 6]) (by kernel_rfl) (by simp) ?_
        refine AllReadyH.cons rfl (fun K hK => ?_) (AllReadyH.cons rfl (fun K hK => ?_) AllReadyH.nil)
        · skip
          obtain ⟨v4, W04, r4, o4, b4, k4⟩ := o0.appR32 (HTK.out W0 (HBD.out.1.trans (hdW0.mono HBD.out.2))) (by simp) (by have := HNN.out; rw [List.length_take]; omega) (Nat.le_trans hBW hdW0.size)
          rw [List.nil_append] at o4
          refine step_append_run (by rfl) (.tmp 35) (.tmp 38) 41 (by rfl) (.slice (some ⟨g0, 0, none⟩) 0 0) (.slice la k lc) v4 W04 (by rfl) (by rfl) r4 ?_
          have hdW04 := hdW0.trans b4
          clear r4 b4 k4 o0
          refine hK.out _ _ (HSC.out _ hdW04) (fun hNew => ?_)
          clear hK K hNew
          (try clear hHeld)
          have hHeld := HSC.out _ hdW04
          try simp only [Act.put, List.getElem_toArray, List.getElem_cons_zero, List.getElem_cons_succ, List.setIfInBounds_toArray, List.set_cons_zero, List.set_cons_succ]
          refine wpAnyH_ready (rs := [6]) (by kernel_rfl) (by simp) ?_
          refine AllReadyH.cons rfl (fun K hK => ?_) AllReadyH.nil
          go_simp
          have hs := sb0 (w := W04) (.cells #[.string tst, .int .i64 tix, .int .i64 tsz, .int .i64 tsp, .int .i64 tnum, .int .i64 tden, .int .i64 tday] 32)
          have k6 := heap_alloc_new W04 (.cells #[.string tst, .int .i64 tix, .int .i64 tsz, .int .i64 tsp, .int .i64 tnum, .int .i64 tden, .int .i64 tday] 32)
          obtain ⟨g6, hg6⟩ : ∃ g, g = W04.heap.size := ⟨_, rfl⟩
          rw [← hg6] at k6
          try rw [← hg6]
          have hl6 : g6 < (W04.alloc (.cells #[.string tst, .int .i64 tix, .int .i64 tsz, .int .i64 tsp, .int .i64 tnum, .int .i64 tden, .int .i64 tday] 32)).heap.size := by rw [World.size_alloc]; omega
          have o4 := OwnT.below o4 hs
          clear hg6
          generalize W04.alloc (.cells #[.string tst, .int .i64 tix, .int .i64 tsz, .int .i64 tsp, .int .i64 tnum, .int .i64 tden, .int .i64 tday] 32) = W046 at *
          have hdW046 := hdW04.trans (hs.mono (Nat.le_trans hBW hdW04.size))
          refine hK.out _ _ (HSC.out _ hdW046) (fun hNew => ?_)
          clear hK K hNew
          (try clear hHeld)
          have hHeld := HSC.out _ hdW046
          try simp only [Act.put, List.getElem_toArray, List.getElem_cons_zero, List.getElem_cons_succ, List.setIfInBounds_toArray, List.set_cons_zero, List.set_cons_succ]
          refine wpAnyH_ready (rs := [7]) (by kernel_rfl) (by simp) ?_
          refine AllReadyH.cons rfl (fun K hK => ?_) AllReadyH.nil
          obtain ⟨v7, W0467, r7, o7, b7, -⟩ := o4.appR32 (HRS.out W046 g6 k6) (by have := HNN.out; rw [List.length_take]; omega) (by simp) (Nat.le_trans hBW hdW046.size)
          rw [← HTT.out] at o7
          refine step_append_run (by rfl) (.tmp 39) (.tmp 41) 41 (by rfl) v4 (.slice (some ⟨g6, 0, none⟩) 1 1) v7 W0467 (by rfl) (by rfl) r7 ?_
          have hdW0467 := hdW046.trans b7
          clear r7 b7 o4 k6
          refine hK.out _ _ (HSC.out _ hdW0467) (fun hNew => ?_)
          clear hK K hNew
          (try clear hHeld)
          have hHeld := HSC.out _ hdW0467
          try simp only [Act.put, List.getElem_toArray, List.getElem_cons_zero, List.getElem_cons_succ, List.setIfInBounds_toArray, List.set_cons_zero, List.set_cons_succ]
          refine wpAnyH_ready (rs := [11]) (by kernel_rfl) (by simp) ?_
          refine AllReadyH.cons rfl (fun K hK => ?_) AllReadyH.nil
          have hlw := HLW.out W0467 (HBD.out.1.trans (hdW0467.mono HBD.out.2))
          unfold lowV at hlw
          rw [← HNN.out] at hlw
          obtain ⟨v9, W046711, r9, o9, b9, -⟩ := o7.appR32 hlw (by have := HNN.out; simp; omega) (by have := HNN.out; rw [List.length_drop]; omega) (Nat.le_trans hBW hdW0467.size)
          rw [← HF.out] at o9
          refine step_append_run (by rfl) (.tmp 42) (.tmp 45) 41 (by rfl) v7 _ v9 W046711 (by rfl) (by rfl) r9 ?_
          have hdW046711 := hdW0467.trans b9
          clear r9 b9 o7 hlw
          refine hK.out _ _ (HSC.out _ hdW046711) (fun hNew => ?_)
          clear hK K hNew
          (try clear hHeld)
          have hHeld := HSC.out _ hdW046711
          try simp only [Act.put, List.getElem_toArray, List.getElem_cons_zero, List.getElem_cons_succ, List.setIfInBounds_toArray, List.set_cons_zero, List.set_cons_succ]
          refine wpAnyH_take (i := 12) (v := ?_) rfl (by kernel_rfl) (by kernel_rfl) (by kernel_rfl) (fun _ _ _ h => h) (Or.inl ⟨by rfl, ?_⟩) (by assumption) ?_
          rotate_left; · (intro w hSw; (try dsimp only at hSw); go_simp; try with_reducible rfl)
          try simp only [Act.put, List.getElem_toArray, List.getElem_cons_zero, List.getElem_cons_succ, List.setIfInBounds_toArray, List.set_cons_zero, List.set_cons_succ]
          refine wpAnyH_done (by kernel_rfl) ?_ _
          clear hHeld HSC
          obtain ⟨a9, l9, c9, rfl⟩ := Own.slice o9
          have HO9 := Lib.hid o9
          have HB9 := Lib.hid (HBD.out.1.trans (hdW046711.mono HBD.out.2))
          clear o9
          go_wp2
          all_goals go_ret
          all_goals exact ⟨_, rfl, HO9.out.reads (by have := HNN.out; rw [HF.out]; simp; omega), HB9.out⟩
        · skip
          go_simp
          have hs := sb0 (w := W0) (.cells #[.string tst, .int .i64 tix, .int .i64 tsz, .int .i64 tsp, .int .i64 tnum, .int .i64 tden, .int .i64 tday] 32)
          have k6 := heap_alloc_new W0 (.cells #[.string tst, .int .i64 tix, .int .i64 tsz, .int .i64 tsp, .int .i64 tnum, .int .i64 tden, .int .i64 tday] 32)
          obtain ⟨g6, hg6⟩ : ∃ g, g = W0.heap.size := ⟨_, rfl⟩
          rw [← hg6] at k6
          try rw [← hg6]
          have hl6 : g6 < (W0.alloc (.cells #[.string tst, .int .i64 tix, .int .i64 tsz, .int .i64 tsp, .int .i64 tnum, .int .i64 tden, .int .i64 tday] 32)).heap.size := by rw [World.size_alloc]; omega
          have hne : g6 ≠ g0 := by have := hl0; omega
          have o0 := OwnT.below o0 hs
          clear hg6
          generalize W0.alloc (.cells #[.string tst, .int .i64 tix, .int .i64 tsz, .int .i64 tsp, .int .i64 tnum, .int .i64 tden, .int .i64 tday] 32) = W06 at *
          have hdW06 := hdW0.trans (hs.mono (Nat.le_trans hBW hdW0.size))
          refine hK.out _ _ (HSC.out _ hdW06) (fun hNew => ?_)
          clear hK K hNew
          (try clear hHeld)
          have hHeld := HSC.out _ hdW06
          try simp only [Act.put, List.getElem_toArray, List.getElem_cons_zero, List.getElem_cons_succ, List.setIfInBounds_toArray, List.set_cons_zero, List.set_cons_succ]
          refine wpAnyH_ready (rs := [4]) (by kernel_rfl) (by simp) ?_
          refine AllReadyH.cons rfl (fun K hK => ?_) AllReadyH.nil
          obtain ⟨v4, W064, r4, o4, b4, k4⟩ := o0.appR32 (HTK.out W06 (HBD.out.1.trans (hdW06.mono HBD.out.2))) (by simp) (by have := HNN.out; rw [List.length_take]; omega) (Nat.le_trans hBW hdW06.size)
          rw [List.nil_append] at o4
          refine step_append_run (by rfl) (.tmp 35) (.tmp 38) 41 (by rfl) (.slice (some ⟨g0, 0, none⟩) 0 0) (.slice la k lc) v4 W064 (by rfl) (by rfl) r4 ?_
          have hdW064 := hdW06.trans b4
          have k6 := (k4 g6 (Array.getElem?_eq_some_iff.1 k6).1 (fun e => hne (by cases e; rfl))).trans k6
          clear r4 b4 k4 o0
          refine hK.out _ _ (HSC.out _ hdW064) (fun hNew => ?_)
          clear hK K hNew
          (try clear hHeld)
          have hHeld := HSC.out _ hdW064
          try simp only [Act.put, List.getElem_toArray, List.getElem_cons_zero, List.getElem_cons_succ, List.setIfInBounds_toArray, List.set_cons_zero, List.set_cons_succ]
          refine wpAnyH_ready (rs := [7]) (by kernel_rfl) (by simp) ?_
          refine AllReadyH.cons rfl (fun K hK => ?_) AllReadyH.nil
          obtain ⟨v7, W0647, r7, o7, b7, -⟩ := o4.appR32 (HRS.out W064 g6 k6) (by have := HNN.out; rw [List.length_take]; omega) (by simp) (Nat.le_trans hBW hdW064.size)
          rw [← HTT.out] at o7
          refine step_append_run (by rfl) (.tmp 39) (.tmp 41) 41 (by rfl) v4 (.slice (some ⟨g6, 0, none⟩) 1 1) v7 W0647 (by rfl) (by rfl) r7 ?_
          have hdW0647 := hdW064.trans b7
          clear r7 b7 o4 k6
          refine hK.out _ _ (HSC.out _ hdW0647) (fun hNew => ?_)
          clear hK K hNew
          (try clear hHeld)
          have hHeld := HSC.out _ hdW0647
          try simp only [Act.put, List.getElem_toArray, List.getElem_cons_zero, List.getElem_cons_succ, List.setIfInBounds_toArray, List.set_cons_zero, List.set_cons_succ]
          refine wpAnyH_ready (rs := [11]) (by kernel_rfl) (by simp) ?_
          refine AllReadyH.cons rfl (fun K hK => ?_) AllReadyH.nil
          have hlw := HLW.out W0647 (HBD.out.1.trans (hdW0647.mono HBD.out.2))
          unfold lowV at hlw
          rw [← HNN.out] at hlw
          obtain ⟨v9, W064711, r9, o9, b9, -⟩ := o7.appR32 hlw (by have := HNN.out; simp; omega) (by have := HNN.out; rw [List.length_drop]; omega) (Nat.le_trans hBW hdW0647.size)
          rw [← HF.out] at o9
          refine step_append_run (by rfl) (.tmp 42) (.tmp 45) 41 (by rfl) v7 _ v9 W064711 (by rfl) (by rfl) r9 ?_
          have hdW064711 := hdW0647.trans b9
          clear r9 b9 o7 hlw
          refine hK.out _ _ (HSC.out _ hdW064711) (fun hNew => ?_)
          clear hK K hNew
          (try clear hHeld)
          have hHeld := HSC.out _ hdW064711
          try simp only [Act.put, List.getElem_toArray, List.getElem_cons_zero, List.getElem_cons_succ, List.setIfInBounds_toArray, List.set_cons_zero, List.set_cons_succ]
          refine wpAnyH_take (i := 12) (v := ?_) rfl (by kernel_rfl) (by kernel_rfl) (by kernel_rfl) (fun _ _ _ h => h) (Or.inl ⟨by rfl, ?_⟩) (by assumption) ?_
          rotate_left; · (intro w hSw; (try dsimp only at hSw); go_simp; try with_reducible rfl)
          try simp only [Act.put, List.getElem_toArray, List.getElem_cons_zero, List.getElem_cons_succ, List.setIfInBounds_toArray, List.set_cons_zero, List.set_cons_succ]
          refine wpAnyH_done (by kernel_rfl) ?_ _
          clear hHeld HSC
          obtain ⟨a9, l9, c9, rfl⟩ := Own.slice o9
          have HO9 := Lib.hid o9
          have HB9 := Lib.hid (HBD.out.1.trans (hdW064711.mono HBD.out.2))
          clear o9
          go_wp2
          all_goals go_ret
          all_goals exact ⟨_, rfl, HO9.out.reads (by have := HNN.out; rw [HF.out]; simp; omega), HB9.out⟩
      · skip
        go_simp
        have hs := sb0 (w := Wd) (.cells #[.string tst, .int .i64 tix, .int .i64 tsz, .int .i64 tsp, .int .i64 tnum, .int .i64 tden, .int .i64 tday] 32)
        have k6 := heap_alloc_new Wd (.cells #[.string tst, .int .i64 tix, .int .i64 tsz, .int .i64 tsp, .int .i64 tnum, .int .i64 tden, .int .i64 tday] 32)
        obtain ⟨g6, hg6⟩ : ∃ g, g = Wd.heap.size := ⟨_, rfl⟩
        rw [← hg6] at k6
        try rw [← hg6]
        have hl6 : g6 < (Wd.alloc (.cells #[.string tst, .int .i64 tix, .int .i64 tsz, .int .i64 tsp, .int .i64 tnum, .int .i64 tden, .int .i64 tday] 32)).heap.size := by rw [World.size_alloc]; omega
        clear hg6
        generalize Wd.alloc (.cells #[.string tst, .int .i64 tix, .int .i64 tsz, .int .i64 tsp, .int .i64 tnum, .int .i64 tden, .int .i64 tday] 32) = W6 at *
        have hdW6 := hdWd.trans (hs.mono (Nat.le_trans hBW hdWd.size))
        refine hK.out _ _ (HSC.out _ hdW6) (fun hNew => ?_)
        clear hK K hNew
        (try clear hHeld)
        have hHeld := HSC.out _ hdW6
        try simp only [Act.put, List.getElem_toArray, List.getElem_cons_zero, List.getElem_cons_succ, List.setIfInBounds_toArray, List.set_cons_zero, List.set_cons_succ]
        refine wpAnyH_ready (rs := [0]) (by kernel_rfl) (by simp) ?_
        refine AllReadyH.cons rfl (fun K hK => ?_) AllReadyH.nil
        go_simp
        have hs := sb0 (w := W6) (.cells #[] 32)
        have o0 : OwnT 32 (W6.alloc (.cells #[] 32)) B (.slice (some ⟨W6.heap.size, 0, none⟩) 0 0) [] := Own.base (OwnT.lit0 32 W6) (Nat.le_trans hBW hdW6.size)
        obtain ⟨g0, hg0⟩ : ∃ g, g = W6.heap.size := ⟨_, rfl⟩
        rw [← hg0] at o0
        try rw [← hg0]
        have hl0 : g0 < (W6.alloc (.cells #[] 32)).heap.size := by rw [World.size_alloc]; omega
        have hne : g6 ≠ g0 := by have := hl6; omega
        have k6 := bb hs k6
        clear hg0
        generalize W6.alloc (.cells #[] 32) = W60 at *
        have hdW60 := hdW6.trans (hs.mono (Nat.le_trans hBW hdW6.size))
        refine hK.out _ _ (HSC.out _ hdW60) (fun hNew => ?_)
        clear hK K hNew
        (try clear hHeld)
        have hHeld := HSC.out _ hdW60
        try simp only [Act.put, List.getElem_toArray, List.getElem_cons_zero, List.getElem_cons_succ, List.setIfInBounds_toArray, List.set_cons_zero, List.set_cons_succ]
        refine wpAnyH_ready (rs := [4]) (by kernel_rfl) (by simp) ?_
        refine AllReadyH.cons rfl (fun K hK => ?_) AllReadyH.nil
        obtain ⟨v4, W604, r4, o4, b4, k4⟩ := o0.appR32 (HTK.out W60 (HBD.out.1.trans (hdW60.mono HBD.out.2))) (by simp) (by have := HNN.out; rw [List.length_take]; omega) (Nat.le_trans hBW hdW60.size)
        rw [List.nil_append] at o4
        refine step_append_run (by rfl) (.tmp 35) (.tmp 38) 41 (by rfl) (.slice (some ⟨g0, 0, none⟩) 0 0) (.slice la k lc) v4 W604 (by rfl) (by rfl) r4 ?_
        have hdW604 := hdW60.trans b4
        have k6 := (k4 g6 (Array.getElem?_eq_some_iff.1 k6).1 (fun e => hne (by cases e; rfl))).trans k6
        clear r4 b4 k4 o0
        refine hK.out _ _ (HSC.out _ hdW604) (fun hNew => ?_)
        clear hK K hNew
        (try clear hHeld)
        have hHeld := HSC.out _ hdW604
        try simp only [Act.put, List.getElem_toArray, List.getElem_cons_zero, List.getElem_cons_succ, List.setIfInBounds_toArray, List.set_cons_zero, List.set_cons_succ]
        refine wpAnyH_ready (rs := [7]) (by kernel_rfl) (by simp) ?_
        refine AllReadyH.cons rfl (fun K hK => ?_) AllReadyH.nil
        obtain ⟨v7, W6047, r7, o7, b7, -⟩ := o4.appR32 (HRS.out W604 g6 k6) (by have := HNN.out; rw [List.length_take]; omega) (by simp) (Nat.le_trans hBW hdW604.size)
        rw [← HTT.out] at o7
        refine step_append_run (by rfl) (.tmp 39) (.tmp 41) 41 (by rfl) v4 (.slice (some ⟨g6, 0, none⟩) 1 1) v7 W6047 (by rfl) (by rfl) r7 ?_
        have hdW6047 := hdW604.trans b7
        clear r7 b7 o4 k6
        refine hK.out _ _ (HSC.out _ hdW6047) (fun hNew => ?_)
        clear hK K hNew
        (try clear hHeld)
        have hHeld := HSC.out _ hdW6047
        try simp only [Act.put, List.getElem_toArray, List.getElem_cons_zero, List.getElem_cons_succ, List.setIfInBounds_toArray, List.set_cons_zero, List.set_cons_succ]
        refine wpAnyH_ready (rs := [11]) (by kernel_rfl) (by simp) ?_
        refine AllReadyH.cons rfl (fun K hK => ?_) AllReadyH.nil
        have hlw := HLW.out W6047 (HBD.out.1.trans (hdW6047.mono HBD.out.2))
        unfold lowV at hlw
        rw [← HNN.out] at hlw
        obtain ⟨v9, W604711, r9, o9, b9, -⟩ := o7.appR32 hlw (by have := HNN.out; simp; omega) (by have := HNN.out; rw [List.length_drop]; omega) (Nat.le_trans hBW hdW6047.size)
        rw [← HF.out] at o9
        refine step_append_run (by rfl) (.tmp 42) (.tmp 45) 41 (by rfl) v7 _ v9 W604711 (by rfl) (by rfl) r9 ?_
        have hdW604711 := hdW6047.trans b9
        clear r9 b9 o7 hlw
        refine hK.out _ _ (HSC.out _ hdW604711) (fun hNew => ?_)
        clear hK K hNew
        (try clear hHeld)
        have hHeld := HSC.out _ hdW604711
        try simp only [Act.put, List.getElem_toArray, List.getElem_cons_zero, List.getElem_cons_succ, List.setIfInBounds_toArray, List.set_cons_zero, List.set_cons_succ]
        refine wpAnyH_take (i := 12) (v := ?_) rfl (by kernel_rfl) (by kernel_rfl) (by kernel_rfl) (fun _ _ _ h => h) (Or.inl ⟨by rfl, ?_⟩) (by assumption) ?_
        rotate_left; · (intro w hSw; (try dsimp only at hSw); go_simp; try with_reducible rfl)
        try simp only [Act.put, List.getElem_toArray, List.getElem_cons_zero, List.getElem_cons_succ, List.setIfInBounds_toArray, List.set_cons_zero, List.set_cons_succ]
        refine wpAnyH_done (by kernel_rfl) ?_ _
        clear hHeld HSC
        obtain ⟨a9, l9, c9, rfl⟩ := Own.slice o9
        have HO9 := Lib.hid o9
        have HB9 := Lib.hid (HBD.out.1.trans (hdW604711.mono HBD.out.2))
        clear o9
        go_wp2
        all_goals go_ret
        all_goals exact ⟨_, rfl, HO9.out.reads (by have := HNN.out; rw [HF.out]; simp; omega), HB9.out⟩

end Go.Proofs.Ytcgilfnhbliadaa
