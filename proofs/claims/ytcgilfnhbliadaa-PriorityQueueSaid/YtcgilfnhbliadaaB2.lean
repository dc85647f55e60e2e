/- Compare, and the reference's. -/
import Derived.Test.YtcgilfnhbliadaaB1
import Derived.Deep.DeepCutAuto
import Derived.Deep.CutBlock
namespace Go.Proofs.Ytcgilfnhbliadaa
open Go.RowKit Go.Lib Go.ChangeMaps
set_option linter.unusedSimpArgs false

theorem quiet_same {f : FuncId} {args : Array Value} {w : World} {n : Nat} {v : Value}
    (h : Calls Try.prog f args (w.drewN n) fun e w' => e = .returned v ∧ w.drewN n = w') : Calls Try.prog f args (w.drewN n) fun e w'' => e = .returned v ∧ ∃ m, w'' = w.drewN m :=
  h.mono fun _ _ ⟨he, hm⟩ => ⟨he, n, hm.symm⟩
theorem toList_iff (a b : ByteArray) : a.toList = b.toList ↔ a = b := ⟨bytes_list, fun h => by rw [h]⟩

set_option maxRecDepth 100000 in
set_option maxHeartbeats 8000000 in
theorem compare_drawn (a b : Tk) (w : World) (ha : TOk a) (hb : TOk b) : Calls Try.prog 14 #[a.v, b.v] w fun e w' => e = .returned (.int .i64 (cmpT a b)) ∧ Below w.heap.size w w' ∧ w.drawn ≤ w'.drawn := by
  have HAE := Lib.hid (show a = b → cmpT a b = 0 from fun h => h ▸ cmpT_cm.self a)
  have p1 : 0 ≤ a.num * b.den ∧ a.num * b.den ≤ 1152921504606846976 := by
    have h1 := ha.2.2.2.2.1; have h2 := ha.2.2.2.2.2.1; have h3 := hb.2.2.2.2.1
    have h4 : a.num * b.den ≤ 1073741824 * b.den := Int.mul_le_mul_of_nonneg_right (by omega) (by omega)
    have h5 : 0 ≤ a.num * b.den := Int.mul_nonneg (by omega) (by omega)
    omega
  have p2 : 0 ≤ b.num * a.den ∧ b.num * a.den ≤ 1152921504606846976 := by
    have h1 := hb.2.2.2.2.1; have h2 := hb.2.2.2.2.2.1; have h3 := ha.2.2.2.2.1
    have h4 : b.num * a.den ≤ 1073741824 * a.den := Int.mul_le_mul_of_nonneg_right (by omega) (by omega)
    have h5 : 0 ≤ b.num * a.den := Int.mul_nonneg (by omega) (by omega)
    omega
  have HC := Lib.hid (show cmpT a b = orL [ord a.spare b.spare, ord (a.num * b.den) (b.num * a.den), ord a.day b.day, ord a.size b.size, cmpS a.st b.st, ord a.ix b.ix] from rfl)
  obtain ⟨r, hr⟩ : ∃ r, r = cmpT a b := ⟨_, rfl⟩
  rw [← hr] at HC HAE ⊢
  obtain ⟨eq, heq⟩ : ∃ eq, eq = decide (a = b) := ⟨_, rfl⟩
  have HEQ := Lib.hid heq
  clear hr ha hb heq
  obtain ⟨ast, aix, asz, asp, anum, aden, aday⟩ := a
  obtain ⟨bst, bix, bsz, bsp, bnum, bden, bday⟩ := b
  unfold Tk.v
  simp only at HC p1 p2 ⊢
  have w1 : IntKind.i64.wrap (anum * bden) = anum * bden := by rw [IntKind.wrap_i64]; omega
  have w2 : IntKind.i64.wrap (bnum * aden) = bnum * aden := by rw [IntKind.wrap_i64]; omega
  have hbx : ((w.alloc (.cells #[.string ast, .int .i64 aix, .int .i64 asz, .int .i64 asp, .int .i64 anum, .int .i64 aden, .int .i64 aday] 27)).alloc (.cells #[.string bst, .int .i64 bix, .int .i64 bsz, .int .i64 bsp, .int .i64 bnum, .int .i64 bden, .int .i64 bday] 27)).heap[w.heap.size]? = some (.cells #[.string ast, .int .i64 aix, .int .i64 asz, .int .i64 asp, .int .i64 anum, .int .i64 aden, .int .i64 aday] 27) := by
    rw [Below.heap_alloc _ _ _ (by rw [World.size_alloc]; omega)]
    exact heap_alloc_new _ _
  have hby : ((w.alloc (.cells #[.string ast, .int .i64 aix, .int .i64 asz, .int .i64 asp, .int .i64 anum, .int .i64 aden, .int .i64 aday] 27)).alloc (.cells #[.string bst, .int .i64 bix, .int .i64 bsz, .int .i64 bsp, .int .i64 bnum, .int .i64 bden, .int .i64 bday] 27)).heap[w.heap.size + 1]? = some (.cells #[.string bst, .int .i64 bix, .int .i64 bsz, .int .i64 bsp, .int .i64 bnum, .int .i64 bden, .int .i64 bday] 27) := by
    have := heap_alloc_new (w.alloc (.cells #[.string ast, .int .i64 aix, .int .i64 asz, .int .i64 asp, .int .i64 anum, .int .i64 aden, .int .i64 aday] 27)) (.cells #[.string bst, .int .i64 bix, .int .i64 bsz, .int .i64 bsp, .int .i64 bnum, .int .i64 bden, .int .i64 bday] 27)
    rw [World.size_alloc] at this
    exact this
  have hbw : Below w.heap.size w ((w.alloc (.cells #[.string ast, .int .i64 aix, .int .i64 asz, .int .i64 asp, .int .i64 anum, .int .i64 aden, .int .i64 aday] 27)).alloc (.cells #[.string bst, .int .i64 bix, .int .i64 bsz, .int .i64 bsp, .int .i64 bnum, .int .i64 bden, .int .i64 bday] 27)) := by (repeat' (first | (with_reducible exact Below.refl _ _) | (with_reducible assumption) | (with_reducible refine Below.alloc ?_ ?_ _) | (with_reducible refine Below.drew ?_) | (with_reducible refine below_drewN ?_ _) | (with_reducible refine Below.setCell ?_ ?_ _) | (with_reducible refine below_step ?_ (by with_reducible assumption) ?_) | go_size))
  have HBX := Lib.hid hbx
  have HBY := Lib.hid hby
  have HBW := Lib.hid hbw
  have HDR := Lib.hid (show w.drawn ≤ ((w.alloc (.cells #[.string ast, .int .i64 aix, .int .i64 asz, .int .i64 asp, .int .i64 anum, .int .i64 aden, .int .i64 aday] 27)).alloc (.cells #[.string bst, .int .i64 bix, .int .i64 bsz, .int .i64 bsp, .int .i64 bnum, .int .i64 bden, .int .i64 bday] 27)).drawn from Nat.le_refl _)
  clear hbx hby hbw
  go_enter Try.func14, Try.ntmps14
  go_upto_region 1 with fail
  generalize ((w.alloc (.cells #[.string ast, .int .i64 aix, .int .i64 asz, .int .i64 asp, .int .i64 anum, .int .i64 aden, .int .i64 aday] 27)).alloc (.cells #[.string bst, .int .i64 bix, .int .i64 bsz, .int .i64 bsp, .int .i64 bnum, .int .i64 bden, .int .i64 bday] 27)) = W at *
  have a0 : W.cell? ⟨w.heap.size, 0, none⟩ = some (.string ast) := cell_of_row W _ 0 _ _ _ HBX.out
  have a1 : W.cell? ⟨w.heap.size, 1, none⟩ = some (.int .i64 aix) := cell_of_row W _ 1 _ _ _ HBX.out
  have a2 : W.cell? ⟨w.heap.size, 2, none⟩ = some (.int .i64 asz) := cell_of_row W _ 2 _ _ _ HBX.out
  have a3 : W.cell? ⟨w.heap.size, 3, none⟩ = some (.int .i64 asp) := cell_of_row W _ 3 _ _ _ HBX.out
  have a4 : W.cell? ⟨w.heap.size, 4, none⟩ = some (.int .i64 anum) := cell_of_row W _ 4 _ _ _ HBX.out
  have a5 : W.cell? ⟨w.heap.size, 5, none⟩ = some (.int .i64 aden) := cell_of_row W _ 5 _ _ _ HBX.out
  have a6 : W.cell? ⟨w.heap.size, 6, none⟩ = some (.int .i64 aday) := cell_of_row W _ 6 _ _ _ HBX.out
  have b0 : W.cell? ⟨w.heap.size + 1, 0, none⟩ = some (.string bst) := cell_of_row W _ 0 _ _ _ HBY.out
  have b1 : W.cell? ⟨w.heap.size + 1, 1, none⟩ = some (.int .i64 bix) := cell_of_row W _ 1 _ _ _ HBY.out
  have b2 : W.cell? ⟨w.heap.size + 1, 2, none⟩ = some (.int .i64 bsz) := cell_of_row W _ 2 _ _ _ HBY.out
  have b3 : W.cell? ⟨w.heap.size + 1, 3, none⟩ = some (.int .i64 bsp) := cell_of_row W _ 3 _ _ _ HBY.out
  have b4 : W.cell? ⟨w.heap.size + 1, 4, none⟩ = some (.int .i64 bnum) := cell_of_row W _ 4 _ _ _ HBY.out
  have b5 : W.cell? ⟨w.heap.size + 1, 5, none⟩ = some (.int .i64 bden) := cell_of_row W _ 5 _ _ _ HBY.out
  have b6 : W.cell? ⟨w.heap.size + 1, 6, none⟩ = some (.int .i64 bday) := cell_of_row W _ 6 _ _ _ HBY.out
  go_cut [7] (fun v7 wx => v7 = .bool eq ∧ W = wx)
  case first =>
    by_cases e0 : ast = bst
    rotate_left
    · have t0 : (ast.toList == bst.toList) = false := by rw [str_eq]; exact decide_eq_false e0
      have HN := Lib.hid (show eq = false by rw [HEQ.out]; exact decide_eq_false (fun h => e0 (congrArg Tk.st h)))
      clear e0
      go_wp2_with fail
      go_meet
      case rel => exact ⟨by rw [HN.out], rfl⟩
    have t0 : (ast.toList == bst.toList) = true := by rw [str_eq]; exact decide_eq_true e0
    have E0 := Lib.hid e0
    clear e0
    by_cases e1 : aix = bix
    rotate_left
    · have t1 : (aix == bix) = false := by simp [e1]
      have HN := Lib.hid (show eq = false by rw [HEQ.out]; exact decide_eq_false (fun h => e1 (congrArg Tk.ix h)))
      clear e1
      go_wp2_with fail
      go_meet
      case rel => exact ⟨by rw [HN.out], rfl⟩
    have t1 : (aix == bix) = true := by simp [e1]
    have E1 := Lib.hid e1
    clear e1
    by_cases e2 : asz = bsz
    rotate_left
    · have t2 : (asz == bsz) = false := by simp [e2]
      have HN := Lib.hid (show eq = false by rw [HEQ.out]; exact decide_eq_false (fun h => e2 (congrArg Tk.size h)))
      clear e2
      go_wp2_with fail
      go_meet
      case rel => exact ⟨by rw [HN.out], rfl⟩
    have t2 : (asz == bsz) = true := by simp [e2]
    have E2 := Lib.hid e2
    clear e2
    by_cases e3 : asp = bsp
    rotate_left
    · have t3 : (asp == bsp) = false := by simp [e3]
      have HN := Lib.hid (show eq = false by rw [HEQ.out]; exact decide_eq_false (fun h => e3 (congrArg Tk.spare h)))
      clear e3
      go_wp2_with fail
      go_meet
      case rel => exact ⟨by rw [HN.out], rfl⟩
    have t3 : (asp == bsp) = true := by simp [e3]
    have E3 := Lib.hid e3
    clear e3
    by_cases e4 : anum = bnum
    rotate_left
    · have t4 : (anum == bnum) = false := by simp [e4]
      have HN := Lib.hid (show eq = false by rw [HEQ.out]; exact decide_eq_false (fun h => e4 (congrArg Tk.num h)))
      clear e4
      go_wp2_with fail
      go_meet
      case rel => exact ⟨by rw [HN.out], rfl⟩
    have t4 : (anum == bnum) = true := by simp [e4]
    have E4 := Lib.hid e4
    clear e4
    by_cases e5 : aden = bden
    rotate_left
    · have t5 : (aden == bden) = false := by simp [e5]
      have HN := Lib.hid (show eq = false by rw [HEQ.out]; exact decide_eq_false (fun h => e5 (congrArg Tk.den h)))
      clear e5
      go_wp2_with fail
      go_meet
      case rel => exact ⟨by rw [HN.out], rfl⟩
    have t5 : (aden == bden) = true := by simp [e5]
    have E5 := Lib.hid e5
    clear e5
    by_cases e6 : aday = bday
    rotate_left
    · have t6 : (aday == bday) = false := by simp [e6]
      have HN := Lib.hid (show eq = false by rw [HEQ.out]; exact decide_eq_false (fun h => e6 (congrArg Tk.day h)))
      clear e6
      go_wp2_with fail
      go_meet
      case rel => exact ⟨by rw [HN.out], rfl⟩
    have t6 : (aday == bday) = true := by simp [e6]
    have E6 := Lib.hid e6
    clear e6
    have HN := Lib.hid (show eq = true by rw [HEQ.out]; refine decide_eq_true ?_; rw [E0.out, E1.out, E2.out, E3.out, E4.out, E5.out, E6.out])
    go_wp2_with fail
    go_meet
    case rel => exact ⟨by rw [HN.out], rfl⟩
  case rest =>
  obtain ⟨rfl, rfl⟩ := hcut
  cases eq with
  | true =>
    obtain rfl : r = 0 := HAE.out (of_decide_eq_true HEQ.out.symm)
    go_wp2
    go_ret
    exact ⟨rfl, HBW.out, HDR.out⟩
  | false =>
  have C1 := Lib.hid (fun W => (cmpI_any asp bsp W).mono fun e w' h => (⟨h.1, h.2.symm⟩ : e = _ ∧ w' = W))
  have C2 := Lib.hid (fun W => (cmpI_any (anum * bden) (bnum * aden) W).mono fun e w' h => (⟨h.1, h.2.symm⟩ : e = _ ∧ w' = W))
  have C3 := Lib.hid (fun W => (cmpI_any aday bday W).mono fun e w' h => (⟨h.1, h.2.symm⟩ : e = _ ∧ w' = W))
  have C4 := Lib.hid (fun W => (cmpI_any asz bsz W).mono fun e w' h => (⟨h.1, h.2.symm⟩ : e = _ ∧ w' = W))
  have C5 := Lib.hid (fun W => (cmpS_any ast bst W).mono fun e w' h => (⟨h.1, h.2.symm⟩ : e = _ ∧ w' = W))
  have C6 := Lib.hid (fun W => (cmpI_any aix bix W).mono fun e w' h => (⟨h.1, h.2.symm⟩ : e = _ ∧ w' = W))
  generalize ord asp bsp = c1 at *
  generalize ord (anum * bden) (bnum * aden) = c2 at *
  generalize ord aday bday = c3 at *
  generalize ord asz bsz = c4 at *
  generalize cmpS ast bst = c5 at *
  generalize ord aix bix = c6 at *
  clear HAE HEQ
  go_upto_region 3 with fail
  refine wp_region_still_tail 44 (by kernel_rfl) (by kernel_rfl) ?_
  simp only [List.take_succ_cons, List.take_zero, List.drop_succ_cons, List.drop_zero]
  repeat still_step
  still_call (C1.out _)
  repeat still_step
  still_call (C2.out _)
  repeat still_step
  still_call (C3.out _)
  repeat still_step
  still_call (C4.out _)
  repeat still_step
  still_call (C5.out _)
  repeat still_step
  still_call (C6.out _)
  repeat still_step
  refine wpStill_nil ?_
  change wpList _ _ _ _ _ W.drew
  have hbd := HBW.out.drew
  have HDR := Lib.hid (show w.drawn ≤ W.drew.drawn from Nat.le_succ_of_le HDR.out)
  generalize W.drew = W2 at hbd HDR ⊢
  clear a0 a1 a2 a3 a4 a5 a6 b0 b1 b2 b3 b4 b5 b6
  have hb2 := hbd.alloc hbd.size (.cells #[.int .i64 c1, .int .i64 c2, .int .i64 c3, .int .i64 c4, .int .i64 c5, .int .i64 c6] 3)
  have hrow := heap_alloc_new W2 (.cells #[.int .i64 c1, .int .i64 c2, .int .i64 c3, .int .i64 c4, .int .i64 c5, .int .i64 c6] 3)
  have hrd : ReadsI (W2.alloc (.cells #[.int .i64 c1, .int .i64 c2, .int .i64 c3, .int .i64 c4, .int .i64 c5, .int .i64 c6] 3)) (.slice (some ⟨W2.heap.size, 0, none⟩) 6 6) [c1, c2, c3, c4, c5, c6] :=
    ⟨_, 6, rfl, by simp, by simp, fun _ => ⟨W2.heap.size, 0, rfl, fun i j hi hj => by
      obtain rfl : j = 0 := by omega
      rw [Nat.zero_add, Nat.mul_one, Nat.add_zero, cell_of_row _ W2.heap.size i _ _ _ hrow]
      match i, hi with
      | 0, _ => rfl
      | 1, _ => rfl
      | 2, _ => rfl
      | 3, _ => rfl
      | 4, _ => rfl
      | 5, _ => rfl⟩⟩
  have CO := Lib.hid (or_any _ _ _ hrd)
  rw [← HC.out] at CO
  have HB2 := Lib.hid hb2
  clear hrow hrd hb2 hbd
  go_wp2_with fail
  refine CO.out.mono ?_
  rintro e w' ⟨rfl, rfl⟩
  go_wp2
  go_ret
  exact ⟨rfl, HB2.out, HDR.out⟩
theorem compare_any (a b : Tk) (w : World) (ha : TOk a) (hb : TOk b) : Calls Try.prog 14 #[a.v, b.v] w fun e w' => e = .returned (.int .i64 (cmpT a b)) ∧ Below w.heap.size w w' :=
  (compare_drawn a b w ha hb).mono fun _ _ h => ⟨h.1, h.2.1⟩

end Go.Proofs.Ytcgilfnhbliadaa
