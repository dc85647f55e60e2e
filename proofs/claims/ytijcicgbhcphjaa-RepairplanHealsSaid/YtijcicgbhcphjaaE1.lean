/- possible. -/
import Derived.Test.YtijcicgbhcphjaaD1
namespace Go.Proofs.Ytijcicgbhcphjaa
open Go.RowKit Go.Lib Go.ChangeMaps
set_option linter.unusedSimpArgs false

theorem lookPlaceT {w : World} {mp : Nat} {V : Vp} (h : w.heap[mp]? = some (mapObj encS (placesL V.held 0))) (s : ByteArray) :
    (Instr.lookup 94 (.map (some mp)) (.string s) true).run Try.prog w = .ok (match findP V.held s with | some k => .tuple #[.int .i64 k, .bool true] | none => .tuple #[.int .i64 0, .bool false]) w := by
  have := key_str.lookup (tm := 94) (te := 3) Try.underlying94 (z := .int .i64 0) (fun w => by kernel_rfl) h s
  rw [this, seek_places]
  cases findP V.held s <;> simp

set_option maxRecDepth 100000 in
set_option maxHeartbeats 4000000 in
theorem possible_any {lo hi p : Nat} {V : Vp} {gone : Nat → Bool} (j : Jp) (fv : Value) (w : World) (hst : StAt w lo hi p V gone) (hfv : ReadsI w fv j.from_) :
    Calls Try.prog 68 #[.pointer (some ⟨p, 0, none⟩), j.v fv] w fun e w' => e = .returned (.bool (possB V gone j)) ∧ Below w.heap.size w w' := by
  have hok := hst.2.1
  obtain ⟨a1, a2, a3, a4, a5⟩ := hok.small
  have HST := Lib.hid hst
  obtain ⟨mv, hv, rv, wv, gv, mp, c0, c1, c2, c3, c4, c5, hM, hH, hR, hW, hG, hmp⟩ := hst.at
  obtain ⟨ha, hc, hb, ho, rfl, hl, hm, hcell⟩ := hH.at
  obtain ⟨fa, fc, fb, fo, rfl, fl, fm, fcell⟩ := hfv.at
  have HC := Lib.hid hcell
  have FC := Lib.hid fcell
  have A5 := Lib.hid a5
  have plt := cell_lt c0
  obtain ⟨⟨st, ix⟩, fs, dst, size⟩ := j
  obtain ⟨r, hr⟩ : ∃ r, r = possB V gone ⟨⟨st, ix⟩, fs, dst, size⟩ := ⟨_, rfl⟩
  rw [← hr]
  have HR := Lib.hid hr
  unfold Jp.v
  simp only at fl fm FC ⊢
  clear hr hcell fcell hM hH hR hW hG c0 c2 c3 c4 hfv hst hok a5
  have hA : Below w.heap.size w (w.alloc (.cells #[.string st, .int .i64 ix, .slice fa fs.length fc, .int .i64 dst, .int .i64 size] 47)).drew := ((Below.refl w.heap.size w).alloc (Nat.le_refl _) _).drew
  have m0 : (w.alloc (.cells #[.string st, .int .i64 ix, .slice fa fs.length fc, .int .i64 dst, .int .i64 size] 47)).drew.cell? ⟨w.heap.size, 0, none⟩ = some (.string st) := cell_of_row (w.alloc _) _ 0 _ _ _ (heap_alloc_new _ _)
  have m1 : (w.alloc (.cells #[.string st, .int .i64 ix, .slice fa fs.length fc, .int .i64 dst, .int .i64 size] 47)).drew.cell? ⟨w.heap.size, 1, none⟩ = some (.int .i64 ix) := cell_of_row (w.alloc _) _ 1 _ _ _ (heap_alloc_new _ _)
  have m2 : (w.alloc (.cells #[.string st, .int .i64 ix, .slice fa fs.length fc, .int .i64 dst, .int .i64 size] 47)).drew.cell? ⟨w.heap.size, 2, none⟩ = some (.slice fa fs.length fc) := cell_of_row (w.alloc _) _ 2 _ _ _ (heap_alloc_new _ _)
  have m3 : (w.alloc (.cells #[.string st, .int .i64 ix, .slice fa fs.length fc, .int .i64 dst, .int .i64 size] 47)).drew.cell? ⟨w.heap.size, 3, none⟩ = some (.int .i64 dst) := cell_of_row (w.alloc _) _ 3 _ _ _ (heap_alloc_new _ _)
  have m4 : (w.alloc (.cells #[.string st, .int .i64 ix, .slice fa fs.length fc, .int .i64 dst, .int .i64 size] 47)).drew.cell? ⟨w.heap.size, 4, none⟩ = some (.int .i64 size) := cell_of_row (w.alloc _) _ 4 _ _ _ (heap_alloc_new _ _)
  have p1 := (hA.cell (p := ⟨p, 1, none⟩) plt).trans c1
  have p5 := (hA.cell (p := ⟨p, 5, none⟩) plt).trans c5
  have hmp2 := (hA.block mp (Array.getElem?_eq_some_iff.1 hmp).1).trans hmp
  have hlk := lookPlaceT hmp2 st
  have hz : (w.alloc (.cells #[.string st, .int .i64 ix, .slice fa fs.length fc, .int .i64 dst, .int .i64 size] 47)).drew.heap.size = w.heap.size + 1 := World.size_alloc _ _
  clear hmp hmp2
  go_enter Try.func68, Try.ntmps68
  go_upto_region 1 with fail
  cases hf : findP V.held st with
  | none =>
    rw [hf] at hlk
    obtain rfl : r = false := by rw [HR.out]; unfold possB; rw [hf]
    have HF := Lib.hid hf
    clear hf
    refine wp_region_held_drew (S := fun w' => w'.cell? ⟨p, 5, none⟩ = some (.map (some mp)) ∧ (Instr.lookup 94 (.map (some mp)) (.string st) true).run Try.prog w' = .ok (.tuple #[.int .i64 0, .bool false]) w' ∧ w'.cell? ⟨w.heap.size, 0, none⟩ = some (.string st)) (by kernel_rfl) ⟨p5, hlk, m0⟩ (fun hHeld => ?_)
    generalize (w.alloc (.cells #[.string st, .int .i64 ix, .slice fa fs.length fc, .int .i64 dst, .int .i64 size] 47)).drew = W at *
    refine wpAnyH_take (i := 0) (v := ?_) rfl (by kernel_rfl) (by kernel_rfl) (by kernel_rfl) (fun _ _ _ h => h) (Or.inl ⟨by rfl, ?_⟩) (by assumption) ?_
    rotate_left; · (intro w hSw; (try dsimp only at hSw); go_simp; try with_reducible rfl)
    try simp only [Act.put, List.getElem_toArray, List.getElem_cons_zero, List.getElem_cons_succ, List.setIfInBounds_toArray, List.set_cons_zero, List.set_cons_succ]
    refine wpAnyH_take (i := 1) (v := ?_) rfl (by kernel_rfl) (by kernel_rfl) (by kernel_rfl) (fun _ _ _ h => h) (Or.inl ⟨by rfl, ?_⟩) (by assumption) ?_
    rotate_left; · (intro w hSw; (try dsimp only at hSw); go_simp; try with_reducible rfl)
    try simp only [Act.put, List.getElem_toArray, List.getElem_cons_zero, List.getElem_cons_succ, List.setIfInBounds_toArray, List.set_cons_zero, List.set_cons_succ]
    refine wpAnyH_take (i := 2) (v := ?_) rfl (by kernel_rfl) (by kernel_rfl) (by kernel_rfl) (fun _ _ _ h => h) (Or.inl ⟨by rfl, ?_⟩) (by assumption) ?_
    rotate_left; · (intro w hSw; (try dsimp only at hSw); go_simp; try with_reducible rfl)
    try simp only [Act.put, List.getElem_toArray, List.getElem_cons_zero, List.getElem_cons_succ, List.setIfInBounds_toArray, List.set_cons_zero, List.set_cons_succ]
    refine wpAnyH_take (i := 3) (v := ?_) rfl (by kernel_rfl) (by kernel_rfl) (by kernel_rfl) (fun _ _ _ h => h) (Or.inl ⟨by rfl, ?_⟩) (by assumption) ?_
    rotate_left; · (intro w hSw; (try dsimp only at hSw); go_simp; try with_reducible rfl)
    try simp only [Act.put, List.getElem_toArray, List.getElem_cons_zero, List.getElem_cons_succ, List.setIfInBounds_toArray, List.set_cons_zero, List.set_cons_succ]
    refine wpAnyH_take (i := 4) (v := ?_) rfl (by kernel_rfl) (by kernel_rfl) (by kernel_rfl) (fun _ _ _ h => h) (Or.inl ⟨by rfl, ?_⟩) (by assumption) ?_
    rotate_left; · (intro w hSw; (try dsimp only at hSw); go_simp; try with_reducible rfl)
    try simp only [Act.put, List.getElem_toArray, List.getElem_cons_zero, List.getElem_cons_succ, List.setIfInBounds_toArray, List.set_cons_zero, List.set_cons_succ]
    refine wpAnyH_take (i := 5) (v := ?_) rfl (by kernel_rfl) (by kernel_rfl) (by kernel_rfl) (fun _ _ _ h => h) (Or.inl ⟨by rfl, ?_⟩) (by assumption) ?_
    rotate_left; · (intro w hSw; (try dsimp only at hSw); go_simp; try with_reducible rfl)
    try simp only [Act.put, List.getElem_toArray, List.getElem_cons_zero, List.getElem_cons_succ, List.setIfInBounds_toArray, List.set_cons_zero, List.set_cons_succ]
    refine wpAnyH_take (i := 6) (v := ?_) rfl (by kernel_rfl) (by kernel_rfl) (by kernel_rfl) (fun _ _ _ h => h) (Or.inl ⟨by rfl, ?_⟩) (by assumption) ?_
    rotate_left; · (intro w hSw; (try dsimp only at hSw); go_simp; try with_reducible rfl)
    try simp only [Act.put, List.getElem_toArray, List.getElem_cons_zero, List.getElem_cons_succ, List.setIfInBounds_toArray, List.set_cons_zero, List.set_cons_succ]
    refine wpAnyH_take (i := 7) (v := ?_) rfl (by kernel_rfl) (by kernel_rfl) (by kernel_rfl) (fun _ _ _ h => h) (Or.inl ⟨by rfl, ?_⟩) (by assumption) ?_
    rotate_left; · (intro w hSw; (try dsimp only at hSw); go_simp; try with_reducible rfl)
    try simp only [Act.put, List.getElem_toArray, List.getElem_cons_zero, List.getElem_cons_succ, List.setIfInBounds_toArray, List.set_cons_zero, List.set_cons_succ]
    refine wpAnyH_take (i := 8) (v := ?_) rfl (by kernel_rfl) (by kernel_rfl) (by kernel_rfl) (fun _ _ _ h => h) (Or.inl ⟨by rfl, ?_⟩) (by assumption) ?_
    rotate_left; · (intro w hSw; (try dsimp only at hSw); go_simp; try with_reducible rfl)
    try simp only [Act.put, List.getElem_toArray, List.getElem_cons_zero, List.getElem_cons_succ, List.setIfInBounds_toArray, List.set_cons_zero, List.set_cons_succ]
    refine wpAnyH_take (i := 9) (v := ?_) rfl (by kernel_rfl) (by kernel_rfl) (by kernel_rfl) (fun _ _ _ h => h) (Or.inl ⟨by rfl, ?_⟩) (by assumption) ?_
    rotate_left; · (intro w hSw; (try dsimp only at hSw); go_simp; try with_reducible rfl)
    try simp only [Act.put, List.getElem_toArray, List.getElem_cons_zero, List.getElem_cons_succ, List.setIfInBounds_toArray, List.set_cons_zero, List.set_cons_succ]
    refine wpAnyH_take (i := 10) (v := ?_) rfl (by kernel_rfl) (by kernel_rfl) (by kernel_rfl) (fun _ _ _ h => h) (Or.inl ⟨by rfl, ?_⟩) (by assumption) ?_
    rotate_left; · (intro w hSw; (try dsimp only at hSw); go_simp; try with_reducible rfl)
    try simp only [Act.put, List.getElem_toArray, List.getElem_cons_zero, List.getElem_cons_succ, List.setIfInBounds_toArray, List.set_cons_zero, List.set_cons_succ]
    refine wpAnyH_take (i := 11) (v := ?_) rfl (by kernel_rfl) (by kernel_rfl) (by kernel_rfl) (fun _ _ _ h => h) (Or.inl ⟨by rfl, ?_⟩) (by assumption) ?_
    rotate_left; · (intro w hSw; (try dsimp only at hSw); go_simp; try with_reducible rfl)
    try simp only [Act.put, List.getElem_toArray, List.getElem_cons_zero, List.getElem_cons_succ, List.setIfInBounds_toArray, List.set_cons_zero, List.set_cons_succ]
    refine wpAnyH_take (i := 12) (v := ?_) rfl (by kernel_rfl) (by kernel_rfl) (by kernel_rfl) (fun _ _ _ h => h) (Or.inl ⟨by rfl, ?_⟩) (by assumption) ?_
    rotate_left; · (intro w hSw; (try dsimp only at hSw); go_simp; try with_reducible rfl)
    try simp only [Act.put, List.getElem_toArray, List.getElem_cons_zero, List.getElem_cons_succ, List.setIfInBounds_toArray, List.set_cons_zero, List.set_cons_succ]
    refine wpAnyH_done (by kernel_rfl) ?_ _
    go_wp2
    go_ret
    exact ⟨rfl, hA⟩
  | some k =>
    rw [hf] at hlk
    obtain ⟨hk, hid⟩ := findP_some hf
    have hrr : r = (decide (ix ∈ otherI gone (V.held.getD k default).at_) && decide ((fs.length : Int) = (V.held.getD k default).data) && decide (size = (V.held.getD k default).block) &&
      decide (FrOk (leftI gone (V.held.getD k default).at_) fs) && canB V gone k dst) := by rw [HR.out]; unfold possB; rw [hf]
    have HRR := Lib.hid hrr
    have a7 := A5.out k hk
    have a8 := a7.at_small.1
    have a9 := leftI_len gone (V.held.getD k default).at_
    obtain ⟨e1, e2, e3, e4, e5, e6, xr, av, e7, e8, hxr, hra⟩ := HC.out k hk
    subst e1
    obtain ⟨qa, qc, _, _, rfl, -⟩ := hxr.at
    clear hrr hf hid hxr hra HC HR A5 a7
    have b2 := (hA.cell (p := ⟨hb, _, none⟩) (cell_lt e2)).trans e2
    have b3 := (hA.cell (p := ⟨hb, _, none⟩) (cell_lt e3)).trans e3
    have b4 := (hA.cell (p := ⟨hb, _, none⟩) (cell_lt e4)).trans e4
    have b5 := (hA.cell (p := ⟨hb, _, none⟩) (cell_lt e5)).trans e5
    have b6 := (hA.cell (p := ⟨hb, _, none⟩) (cell_lt e6)).trans e6
    have b7 := (hA.cell (p := ⟨hb, _, none⟩) (cell_lt e7)).trans e7
    clear e2 e3 e4 e5 e6 e7 e8
    generalize (V.held.getD k default).refs.length = ql at *
    generalize (V.held.getD k default).vault = vault at *
    generalize (V.held.getD k default).data = data at *
    generalize (V.held.getD k default).block = block at *
    generalize (V.held.getD k default).total = total at *
    generalize (V.held.getD k default).id = id at *
    generalize hat : (V.held.getD k default).at_ = zs at *
    refine wp_region_held_drew (S := fun w' => w'.cell? ⟨p, 5, none⟩ = some (.map (some mp)) ∧ (Instr.lookup 94 (.map (some mp)) (.string st) true).run Try.prog w' = .ok (.tuple #[.int .i64 k, .bool true]) w' ∧ w'.cell? ⟨w.heap.size, 0, none⟩ = some (.string st)) (by kernel_rfl) ⟨p5, hlk, m0⟩ (fun hHeld => ?_)
    generalize (w.alloc (.cells #[.string st, .int .i64 ix, .slice fa fs.length fc, .int .i64 dst, .int .i64 size] 47)).drew = W at *
    refine wpAnyH_take (i := 0) (v := ?_) rfl (by kernel_rfl) (by kernel_rfl) (by kernel_rfl) (fun _ _ _ h => h) (Or.inl ⟨by rfl, ?_⟩) (by assumption) ?_
    rotate_left; · (intro w hSw; (try dsimp only at hSw); go_simp; try with_reducible rfl)
    try simp only [Act.put, List.getElem_toArray, List.getElem_cons_zero, List.getElem_cons_succ, List.setIfInBounds_toArray, List.set_cons_zero, List.set_cons_succ]
    refine wpAnyH_take (i := 1) (v := ?_) rfl (by kernel_rfl) (by kernel_rfl) (by kernel_rfl) (fun _ _ _ h => h) (Or.inl ⟨by rfl, ?_⟩) (by assumption) ?_
    rotate_left; · (intro w hSw; (try dsimp only at hSw); go_simp; try with_reducible rfl)
    try simp only [Act.put, List.getElem_toArray, List.getElem_cons_zero, List.getElem_cons_succ, List.setIfInBounds_toArray, List.set_cons_zero, List.set_cons_succ]
    refine wpAnyH_take (i := 2) (v := ?_) rfl (by kernel_rfl) (by kernel_rfl) (by kernel_rfl) (fun _ _ _ h => h) (Or.inl ⟨by rfl, ?_⟩) (by assumption) ?_
    rotate_left; · (intro w hSw; (try dsimp only at hSw); go_simp; try with_reducible rfl)
    try simp only [Act.put, List.getElem_toArray, List.getElem_cons_zero, List.getElem_cons_succ, List.setIfInBounds_toArray, List.set_cons_zero, List.set_cons_succ]
    refine wpAnyH_take (i := 3) (v := ?_) rfl (by kernel_rfl) (by kernel_rfl) (by kernel_rfl) (fun _ _ _ h => h) (Or.inl ⟨by rfl, ?_⟩) (by assumption) ?_
    rotate_left; · (intro w hSw; (try dsimp only at hSw); go_simp; try with_reducible rfl)
    try simp only [Act.put, List.getElem_toArray, List.getElem_cons_zero, List.getElem_cons_succ, List.setIfInBounds_toArray, List.set_cons_zero, List.set_cons_succ]
    refine wpAnyH_take (i := 4) (v := ?_) rfl (by kernel_rfl) (by kernel_rfl) (by kernel_rfl) (fun _ _ _ h => h) (Or.inl ⟨by rfl, ?_⟩) (by assumption) ?_
    rotate_left; · (intro w hSw; (try dsimp only at hSw); go_simp; try with_reducible rfl)
    try simp only [Act.put, List.getElem_toArray, List.getElem_cons_zero, List.getElem_cons_succ, List.setIfInBounds_toArray, List.set_cons_zero, List.set_cons_succ]
    refine wpAnyH_take (i := 5) (v := ?_) rfl (by kernel_rfl) (by kernel_rfl) (by kernel_rfl) (fun _ _ _ h => h) (Or.inl ⟨by rfl, ?_⟩) (by assumption) ?_
    rotate_left; · (intro w hSw; (try dsimp only at hSw); go_simp; try with_reducible rfl)
    try simp only [Act.put, List.getElem_toArray, List.getElem_cons_zero, List.getElem_cons_succ, List.setIfInBounds_toArray, List.set_cons_zero, List.set_cons_succ]
    refine wpAnyH_take (i := 6) (v := ?_) rfl (by kernel_rfl) (by kernel_rfl) (by kernel_rfl) (fun _ _ _ h => h) (Or.inl ⟨by rfl, ?_⟩) (by assumption) ?_
    rotate_left; · (intro w hSw; (try dsimp only at hSw); go_simp; try with_reducible rfl)
    try simp only [Act.put, List.getElem_toArray, List.getElem_cons_zero, List.getElem_cons_succ, List.setIfInBounds_toArray, List.set_cons_zero, List.set_cons_succ]
    refine wpAnyH_take (i := 7) (v := ?_) rfl (by kernel_rfl) (by kernel_rfl) (by kernel_rfl) (fun _ _ _ h => h) (Or.inl ⟨by rfl, ?_⟩) (by assumption) ?_
    rotate_left; · (intro w hSw; (try dsimp only at hSw); go_simp; try with_reducible rfl)
    try simp only [Act.put, List.getElem_toArray, List.getElem_cons_zero, List.getElem_cons_succ, List.setIfInBounds_toArray, List.set_cons_zero, List.set_cons_succ]
    refine wpAnyH_take (i := 8) (v := ?_) rfl (by kernel_rfl) (by kernel_rfl) (by kernel_rfl) (fun _ _ _ h => h) (Or.inl ⟨by rfl, ?_⟩) (by assumption) ?_
    rotate_left; · (intro w hSw; (try dsimp only at hSw); go_simp; try with_reducible rfl)
    try simp only [Act.put, List.getElem_toArray, List.getElem_cons_zero, List.getElem_cons_succ, List.setIfInBounds_toArray, List.set_cons_zero, List.set_cons_succ]
    refine wpAnyH_take (i := 9) (v := ?_) rfl (by kernel_rfl) (by kernel_rfl) (by kernel_rfl) (fun _ _ _ h => h) (Or.inl ⟨by rfl, ?_⟩) (by assumption) ?_
    rotate_left; · (intro w hSw; (try dsimp only at hSw); go_simp; try with_reducible rfl)
    try simp only [Act.put, List.getElem_toArray, List.getElem_cons_zero, List.getElem_cons_succ, List.setIfInBounds_toArray, List.set_cons_zero, List.set_cons_succ]
    refine wpAnyH_take (i := 10) (v := ?_) rfl (by kernel_rfl) (by kernel_rfl) (by kernel_rfl) (fun _ _ _ h => h) (Or.inl ⟨by rfl, ?_⟩) (by assumption) ?_
    rotate_left; · (intro w hSw; (try dsimp only at hSw); go_simp; try with_reducible rfl)
    try simp only [Act.put, List.getElem_toArray, List.getElem_cons_zero, List.getElem_cons_succ, List.setIfInBounds_toArray, List.set_cons_zero, List.set_cons_succ]
    refine wpAnyH_take (i := 11) (v := ?_) rfl (by kernel_rfl) (by kernel_rfl) (by kernel_rfl) (fun _ _ _ h => h) (Or.inl ⟨by rfl, ?_⟩) (by assumption) ?_
    rotate_left; · (intro w hSw; (try dsimp only at hSw); go_simp; try with_reducible rfl)
    try simp only [Act.put, List.getElem_toArray, List.getElem_cons_zero, List.getElem_cons_succ, List.setIfInBounds_toArray, List.set_cons_zero, List.set_cons_succ]
    refine wpAnyH_take (i := 12) (v := ?_) rfl (by kernel_rfl) (by kernel_rfl) (by kernel_rfl) (fun _ _ _ h => h) (Or.inl ⟨by rfl, ?_⟩) (by assumption) ?_
    rotate_left; · (intro w hSw; (try dsimp only at hSw); go_simp; try with_reducible rfl)
    try simp only [Act.put, List.getElem_toArray, List.getElem_cons_zero, List.getElem_cons_succ, List.setIfInBounds_toArray, List.set_cons_zero, List.set_cons_succ]
    refine wpAnyH_done (by kernel_rfl) ?_ _
    clear hHeld p5 hlk m0
    have CLF := Lib.hid (fun W2 (h : Below w.heap.size w W2) => left_any k W2 (HST.out.below h) hk)
    rw [hat] at CLF
    go_wp2_with fail
    have hA2 : Below W.heap.size W (W.alloc (.cells #[.string id, .int .i64 vault, .int .i64 block, .int .i64 data, .int .i64 total, .slice qa ql qc] 50)) := (Below.refl _ _).alloc (Nat.le_refl _) _
    have hwW := hA.size
    have hA3 := hA.trans (hA2.mono hwW)
    refine (CLF.out _ hA3).mono ?_
    rintro e w3 ⟨u1, u2, rfl, o1, o2, hb3⟩
    have hz2 : (W.alloc (.cells #[.string id, .int .i64 vault, .int .i64 block, .int .i64 data, .int .i64 total, .slice qa ql qc] 50)).heap.size = w.heap.size + 1 + 1 := by rw [World.size_alloc, hz]
    have t2 : (W.alloc (.cells #[.string id, .int .i64 vault, .int .i64 block, .int .i64 data, .int .i64 total, .slice qa ql qc] 50)).cell? ⟨w.heap.size + 1, 2, none⟩ = some (.int .i64 block) := by rw [← hz]; exact cell_of_row _ _ 2 _ _ _ (heap_alloc_new _ _)
    have t3 : (W.alloc (.cells #[.string id, .int .i64 vault, .int .i64 block, .int .i64 data, .int .i64 total, .slice qa ql qc] 50)).cell? ⟨w.heap.size + 1, 3, none⟩ = some (.int .i64 data) := by rw [← hz]; exact cell_of_row _ _ 3 _ _ _ (heap_alloc_new _ _)
    have hb4 := hA2.trans (hb3.mono hA2.size)
    have m1 := (hb4.cell (p := ⟨w.heap.size, 1, none⟩) (cell_lt m1)).trans m1
    have m2 := (hb4.cell (p := ⟨w.heap.size, 2, none⟩) (cell_lt m2)).trans m2
    have m3 := (hb4.cell (p := ⟨w.heap.size, 3, none⟩) (cell_lt m3)).trans m3
    have m4 := (hb4.cell (p := ⟨w.heap.size, 4, none⟩) (cell_lt m4)).trans m4
    have t2 := (hb3.cell (p := ⟨w.heap.size + 1, 2, none⟩) (cell_lt t2)).trans t2
    have t3 := (hb3.cell (p := ⟨w.heap.size + 1, 3, none⟩) (cell_lt t3)).trans t3
    have hbw := hA.trans (hb4.mono hwW)
    have al1 : (leftI gone zs).length ≤ 16 := by omega
    have al2 : (otherI gone zs).length ≤ 16 := Nat.le_trans (otherTo_len gone zs zs.length) a8
    have CO := Lib.hid (contains_any u2 _ ix w3 (OwnI.reads o2 (by omega)))
    have HL := Lib.hid (OwnI.reads o1 (by omega))
    obtain ⟨la, lc, rfl⟩ := OwnI.slice o1
    obtain ⟨oa, oc, rfl⟩ := OwnI.slice o2
    have CAN := Lib.hid (fun W2 (h : Below w.heap.size w W2) => can_any k dst W2 (HST.out.below h) hk)
    generalize hll : (leftI gone zs).length = ll at *
    generalize hol : (otherI gone zs).length = ol at *
    clear o1 o2 hA2 hA3 hb3 hz2 hb4 CLF hA hz b2 b3 b4 b5 b6 b7 p1 c1 c5
    by_cases k1 : ix ∈ otherI gone zs
    rotate_left
    · obtain rfl : r = false := by rw [HRR.out, decide_eq_false k1]; rfl
      rw [decide_eq_false k1] at CO
      clear k1
      go_wp2_with fail
      refine CO.out.mono ?_
      rintro e w4 ⟨rfl, rfl⟩
      go_wp2
      go_ret
      exact ⟨rfl, hbw⟩
    rw [decide_eq_true k1] at CO
    have hrr := HRR.out
    rw [decide_eq_true k1, Bool.true_and] at hrr
    have HR2 := Lib.hid hrr
    clear hrr HRR k1
    by_cases k2 : (fs.length : Int) = data
    rotate_left
    · obtain rfl : r = false := by rw [HR2.out, decide_eq_false k2]; rfl
      have q2 : ((fs.length : Int) != data) = true := by simpa using k2
      clear k2
      go_wp2_with fail
      refine CO.out.mono ?_
      rintro e w4 ⟨rfl, rfl⟩
      go_wp2
      go_ret
      exact ⟨rfl, hbw⟩
    have hrr := HR2.out
    rw [decide_eq_true k2, Bool.true_and] at hrr
    have HR3 := Lib.hid hrr
    have q2 : ((fs.length : Int) != data) = false := by simpa using k2
    have K2 := Lib.hid k2
    clear hrr HR2 k2
    by_cases k3 : size = block
    rotate_left
    · obtain rfl : r = false := by rw [HR3.out, decide_eq_false k3]; rfl
      have q3 : (size != block) = true := by simpa using k3
      clear k3
      go_wp2_with fail
      refine CO.out.mono ?_
      rintro e w4 ⟨rfl, rfl⟩
      go_wp2
      go_ret
      exact ⟨rfl, hbw⟩
    have hrr := HR3.out
    rw [decide_eq_true k3, Bool.true_and] at hrr
    have HR4 := Lib.hid hrr
    have q3 : (size != block) = false := by simpa using k3
    clear hrr HR3 k3
    go_wp2_with fail
    refine CO.out.mono ?_
    rintro e w4 ⟨rfl, rfl⟩
    clear CO
    go_wp2
    clear q2 q3 t2 t3 m1 m4
    go_loop [64, 10, 11] (fun v64 _ _ => ∃ j : Nat, j ≤ fs.length ∧ v64 = .int .i64 j ∧ ∀ i, i < j → FrAt (leftI gone zs) fs i) (fun v64 _ _ => fs.length - (intOf v64).toNat)
    case atStart => exact ⟨0, Nat.zero_le _, rfl, fun i hi => by omega⟩
    case round =>
      obtain ⟨j, hj, rfl, hfr⟩ := hrel
      have HFR := Lib.hid hfr
      clear hfr
      by_cases hlt : j < fs.length
      · obtain ⟨e1, e2⟩ := FC.out j hlt
        subst e1
        have hno : ¬ ((0 < j → fs.getD (j - 1) 0 < fs.getD j 0) ∧ fs.getD j 0 ∈ leftI gone zs) → r = false := fun h => by
          rw [HR4.out, show decide (FrOk (leftI gone zs) fs) = false from decide_eq_false fun hh => h (hh j hlt)]; rfl
        have hall : ((0 < j → fs.getD (j - 1) 0 < fs.getD j 0) ∧ fs.getD j 0 ∈ leftI gone zs) → ∀ i, i < j + 1 → FrAt (leftI gone zs) fs i := fun h i hi => by
          by_cases e : i = j
          · subst e; exact h
          · exact HFR.out i (by omega)
        have HNO := Lib.hid hno
        have HALL := Lib.hid hall
        rw [← hbw.cell (p := ⟨fb, _, none⟩) (cell_lt e2)] at e2
        clear hno hall
        match j, hlt, hj, e2, HNO, HALL, HFR with
        | 0, hlt, hj, e2, HNO, HALL, HFR =>
          simp only [Nat.add_zero] at e2
          generalize fs.getD 0 0 = y at e2 HNO HALL
          have CY := Lib.hid (contains_any (.slice la ll lc) _ y w3 HL.out)
          have KK := Lib.hid (show 0 < 0 → y < y from fun h => absurd h (by omega))
          simp only [Int.ofNat_zero]
          by_cases k2 : y ∈ leftI gone zs
          · rw [decide_eq_true k2] at CY
            have hall := HALL.out ⟨KK.out, k2⟩
            have HA := Lib.hid hall
            clear k2 hall
            go_wp2_with fail
            refine CY.out.mono ?_
            rintro e w5 ⟨rfl, rfl⟩
            go_wp2
            go_round
            case rel => exact ⟨0 + 1, by omega, by go_num, HA.out⟩
            case measure => simp [intOf]; omega
          · rw [decide_eq_false k2] at CY
            obtain rfl := HNO.out fun h => k2 h.2
            clear k2
            go_wp2_with fail
            refine CY.out.mono ?_
            rintro e w5 ⟨rfl, rfl⟩
            go_wp2
            go_ret
            exact ⟨rfl, hbw⟩
        | m + 1, hlt, hj, e2, HNO, HALL, HFR =>
          obtain ⟨_, e3⟩ := FC.out m (by omega)
          rw [← hbw.cell (p := ⟨fb, _, none⟩) (cell_lt e3)] at e3
          have hms : m + 1 - 1 = m := rfl
          rw [hms] at HNO HALL
          clear hms
          generalize fs.getD (m + 1) 0 = y at e2 HNO HALL
          generalize fs.getD m 0 = x at e3 HNO HALL
          have CY := Lib.hid (contains_any (.slice la ll lc) _ y w3 HL.out)
          simp only [Int.natCast_add, Int.natCast_one]
          by_cases k1 : x < y
          · have KK := Lib.hid (show 0 < m + 1 → x < y from fun _ => k1)
            have q1 : decide (y ≤ x) = false := decide_eq_false (by omega)
            clear k1
            by_cases k2 : y ∈ leftI gone zs
            · rw [decide_eq_true k2] at CY
              have hall := HALL.out ⟨KK.out, k2⟩
              have HA := Lib.hid hall
              clear k2 hall
              go_wp2_with fail
              refine CY.out.mono ?_
              rintro e w5 ⟨rfl, rfl⟩
              go_wp2
              go_round
              case rel => exact ⟨m + 1 + 1, by omega, by go_num, HA.out⟩
              case measure => simp [intOf]; omega
            · rw [decide_eq_false k2] at CY
              obtain rfl := HNO.out fun h => k2 h.2
              clear k2
              go_wp2_with fail
              refine CY.out.mono ?_
              rintro e w5 ⟨rfl, rfl⟩
              go_wp2
              go_ret
              exact ⟨rfl, hbw⟩
          · obtain rfl := HNO.out fun h => k1 (h.1 (by omega))
            have q1 : decide (y ≤ x) = true := decide_eq_true (by omega)
            clear k1
            go_wp2
            go_ret
            exact ⟨rfl, hbw⟩
      · have hjl : j = fs.length := by omega
        subst hjl
        have hrr := HR4.out
        rw [show decide (FrOk (leftI gone zs) fs) = true from decide_eq_true HFR.out, Bool.true_and] at hrr
        subst hrr
        go_wp2_with fail
        refine (CAN.out _ hbw).mono ?_
        rintro e w5 ⟨rfl, hb5⟩
        go_wp2
        go_ret
        exact ⟨rfl, hbw.trans (hb5.mono hbw.size)⟩

end Go.Proofs.Ytijcicgbhcphjaa

/- best, target. -/
namespace Go.Proofs.Ytijcicgbhcphjaa
open Go.RowKit Go.Lib Go.ChangeMaps
set_option linter.unusedSimpArgs false

/-- The first of the numbers below m that is allowed and for which no other one is better. -/
def bestTo (al : Nat → Bool) (bt : Nat → Nat → Bool) : Nat → Int
  | 0 => -1
  | m + 1 => if al m = true ∧ (bestTo al bt m < 0 ∨ bt m (bestTo al bt m).toNat = true) then (m : Int) else bestTo al bt m
theorem bestTo_range (al : Nat → Bool) (bt : Nat → Nat → Bool) : ∀ m, -1 ≤ bestTo al bt m ∧ bestTo al bt m < m
  | 0 => by simp [bestTo]
  | m + 1 => by
    have := bestTo_range al bt m
    unfold bestTo
    split <;> omega

set_option maxRecDepth 100000 in
set_option maxHeartbeats 2000000 in
theorem can63_any {lo hi p : Nat} {V : Vp} {gone : Nat → Bool} (k d S K : Nat) (w : World) (hst : StAt w lo hi p V gone) (hk : k < V.held.length) (hS : w.cell? ⟨S, 0, none⟩ = some (.pointer (some ⟨p, 0, none⟩))) (hK : w.cell? ⟨K, 0, none⟩ = some (.int .i64 k)) :
    Calls Try.prog 63 #[.int .i64 d, .pointer (some ⟨S, 0, none⟩), .pointer (some ⟨K, 0, none⟩)] w fun e w' => e = .returned (.bool (canB V gone k d)) ∧ Below w.heap.size w w' := by
  have CC := Lib.hid (can_any k (d : Int) w hst hk)
  clear hst
  generalize canB V gone k d = r at *
  go_enter Try.func63, Try.ntmps63
  go_wp2_with fail
  refine CC.out.mono ?_
  rintro e w3 ⟨rfl, hb3⟩
  go_wp2
  go_ret
  exact ⟨rfl, hb3⟩

def btW (V : Vp) (c d : Nat) : Bool := decide (V.weight.getD d 0 < V.weight.getD c 0)

set_option maxRecDepth 100000 in
set_option maxHeartbeats 2000000 in
theorem more65_any {lo hi p : Nat} {V : Vp} {gone : Nat → Bool} (c d S : Nat) (w : World) (hst : StAt w lo hi p V gone) (hc : c < V.mem.length) (hd : d < V.mem.length) (hS : w.cell? ⟨S, 0, none⟩ = some (.pointer (some ⟨p, 0, none⟩))) :
    Calls Try.prog 65 #[.int .i64 c, .int .i64 d, .pointer (some ⟨S, 0, none⟩)] w fun e w' => e = .returned (.bool (btW V c d)) ∧ Below w.heap.size w w' := by
  have hok := hst.2.1
  obtain ⟨a1, a2, a3, a4, a5⟩ := hok.small
  obtain ⟨mv, hv, rv, wv, gv, mp, c0, c1, c2, c3, c4, c5, hM, hH, hR, hW, hG, hmp⟩ := hst.at
  obtain ⟨wa, wc, wb, wo, rfl, wl, wm, wcell⟩ := hW.at
  obtain ⟨e1, e2⟩ := wcell c (by omega)
  obtain ⟨_, e3⟩ := wcell d (by omega)
  subst e1
  have hS' : w.drew.cell? ⟨S, 0, none⟩ = some (.pointer (some ⟨p, 0, none⟩)) := hS
  have c3' : w.drew.cell? ⟨p, 3, none⟩ = some (.slice (some ⟨wb, wo, none⟩) V.weight.length wc) := c3
  have e2' : w.drew.cell? ⟨wb, wo + c, none⟩ = some (.int .i64 (V.weight.getD c 0)) := e2
  have e3' : w.drew.cell? ⟨wb, wo + d, none⟩ = some (.int .i64 (V.weight.getD d 0)) := e3
  have hcl : c < V.weight.length := by omega
  have hdl : d < V.weight.length := by omega
  obtain ⟨r, hr⟩ : ∃ r, r = btW V c d := ⟨_, rfl⟩
  rw [← hr]
  have HR := Lib.hid (show r = decide (V.weight.getD d 0 < V.weight.getD c 0) from hr)
  clear hr wcell hM hH hR hW hG hmp hst hok a5 c0 c1 c2 c4 c5 hS c3 e2 e3 a3 a4 hc hd
  generalize V.weight.getD d 0 = y at *
  generalize V.weight.getD c 0 = x at *
  generalize V.weight.length = n at *
  go_enter Try.func65, Try.ntmps65
  go_upto_region 1 with fail
  refine wp_region_held_drew (S := fun w' => w'.cell? ⟨S, 0, none⟩ = some (.pointer (some ⟨p, 0, none⟩)) ∧ w'.cell? ⟨p, 3, none⟩ = some (.slice (some ⟨wb, wo, none⟩) n wc) ∧ w'.cell? ⟨wb, wo + c, none⟩ = some (.int .i64 x) ∧ w'.cell? ⟨wb, wo + d, none⟩ = some (.int .i64 y)) (by kernel_rfl) ⟨hS', c3', e2', e3'⟩ (fun hHeld => ?_)
  refine wpAnyH_take (i := 0) (v := ?_) rfl (by kernel_rfl) (by kernel_rfl) (by kernel_rfl) (fun _ _ _ h => h) (Or.inl ⟨by rfl, ?_⟩) (by assumption) ?_
  rotate_left; · (intro w hSw; (try dsimp only at hSw); go_simp; try with_reducible rfl)
  try simp only [Act.put, List.getElem_toArray, List.getElem_cons_zero, List.getElem_cons_succ, List.setIfInBounds_toArray, List.set_cons_zero, List.set_cons_succ]
  refine wpAnyH_take (i := 1) (v := ?_) rfl (by kernel_rfl) (by kernel_rfl) (by kernel_rfl) (fun _ _ _ h => h) (Or.inl ⟨by rfl, ?_⟩) (by assumption) ?_
  rotate_left; · (intro w hSw; (try dsimp only at hSw); go_simp; try with_reducible rfl)
  try simp only [Act.put, List.getElem_toArray, List.getElem_cons_zero, List.getElem_cons_succ, List.setIfInBounds_toArray, List.set_cons_zero, List.set_cons_succ]
  refine wpAnyH_take (i := 2) (v := ?_) rfl (by kernel_rfl) (by kernel_rfl) (by kernel_rfl) (fun _ _ _ h => h) (Or.inl ⟨by rfl, ?_⟩) (by assumption) ?_
  rotate_left; · (intro w hSw; (try dsimp only at hSw); go_simp; try with_reducible rfl)
  try simp only [Act.put, List.getElem_toArray, List.getElem_cons_zero, List.getElem_cons_succ, List.setIfInBounds_toArray, List.set_cons_zero, List.set_cons_succ]
  refine wpAnyH_take (i := 3) (v := ?_) rfl (by kernel_rfl) (by kernel_rfl) (by kernel_rfl) (fun _ _ _ h => h) (Or.inl ⟨by rfl, ?_⟩) (by assumption) ?_
  rotate_left; · (intro w hSw; (try dsimp only at hSw); go_simp; try with_reducible rfl)
  try simp only [Act.put, List.getElem_toArray, List.getElem_cons_zero, List.getElem_cons_succ, List.setIfInBounds_toArray, List.set_cons_zero, List.set_cons_succ]
  refine wpAnyH_take (i := 4) (v := ?_) rfl (by kernel_rfl) (by kernel_rfl) (by kernel_rfl) (fun _ _ _ h => h) (Or.inl ⟨by rfl, ?_⟩) (by assumption) ?_
  rotate_left; · (intro w hSw; (try dsimp only at hSw); go_simp; try with_reducible rfl)
  try simp only [Act.put, List.getElem_toArray, List.getElem_cons_zero, List.getElem_cons_succ, List.setIfInBounds_toArray, List.set_cons_zero, List.set_cons_succ]
  refine wpAnyH_take (i := 5) (v := ?_) rfl (by kernel_rfl) (by kernel_rfl) (by kernel_rfl) (fun _ _ _ h => h) (Or.inl ⟨by rfl, ?_⟩) (by assumption) ?_
  rotate_left; · (intro w hSw; (try dsimp only at hSw); go_simp; try with_reducible rfl)
  try simp only [Act.put, List.getElem_toArray, List.getElem_cons_zero, List.getElem_cons_succ, List.setIfInBounds_toArray, List.set_cons_zero, List.set_cons_succ]
  refine wpAnyH_take (i := 6) (v := ?_) rfl (by kernel_rfl) (by kernel_rfl) (by kernel_rfl) (fun _ _ _ h => h) (Or.inl ⟨by rfl, ?_⟩) (by assumption) ?_
  rotate_left; · (intro w hSw; (try dsimp only at hSw); go_simp; try with_reducible rfl)
  try simp only [Act.put, List.getElem_toArray, List.getElem_cons_zero, List.getElem_cons_succ, List.setIfInBounds_toArray, List.set_cons_zero, List.set_cons_succ]
  refine wpAnyH_take (i := 7) (v := ?_) rfl (by kernel_rfl) (by kernel_rfl) (by kernel_rfl) (fun _ _ _ h => h) (Or.inl ⟨by rfl, ?_⟩) (by assumption) ?_
  rotate_left; · (intro w hSw; (try dsimp only at hSw); go_simp; try with_reducible rfl)
  try simp only [Act.put, List.getElem_toArray, List.getElem_cons_zero, List.getElem_cons_succ, List.setIfInBounds_toArray, List.set_cons_zero, List.set_cons_succ]
  refine wpAnyH_take (i := 8) (v := ?_) rfl (by kernel_rfl) (by kernel_rfl) (by kernel_rfl) (fun _ _ _ h => h) (Or.inl ⟨by rfl, ?_⟩) (by assumption) ?_
  rotate_left; · (intro w hSw; (try dsimp only at hSw); go_simp; try with_reducible rfl)
  try simp only [Act.put, List.getElem_toArray, List.getElem_cons_zero, List.getElem_cons_succ, List.setIfInBounds_toArray, List.set_cons_zero, List.set_cons_succ]
  refine wpAnyH_take (i := 9) (v := ?_) rfl (by kernel_rfl) (by kernel_rfl) (by kernel_rfl) (fun _ _ _ h => h) (Or.inl ⟨by rfl, ?_⟩) (by assumption) ?_
  rotate_left; · (intro w hSw; (try dsimp only at hSw); go_simp; try with_reducible rfl)
  try simp only [Act.put, List.getElem_toArray, List.getElem_cons_zero, List.getElem_cons_succ, List.setIfInBounds_toArray, List.set_cons_zero, List.set_cons_succ]
  refine wpAnyH_take (i := 10) (v := ?_) rfl (by kernel_rfl) (by kernel_rfl) (by kernel_rfl) (fun _ _ _ h => h) (Or.inl ⟨by rfl, ?_⟩) (by assumption) ?_
  rotate_left; · (intro w hSw; (try dsimp only at hSw); go_simp; try with_reducible rfl)
  try simp only [Act.put, List.getElem_toArray, List.getElem_cons_zero, List.getElem_cons_succ, List.setIfInBounds_toArray, List.set_cons_zero, List.set_cons_succ]
  refine wpAnyH_take (i := 11) (v := ?_) rfl (by kernel_rfl) (by kernel_rfl) (by kernel_rfl) (fun _ _ _ h => h) (Or.inl ⟨by rfl, ?_⟩) (by assumption) ?_
  rotate_left; · (intro w hSw; (try dsimp only at hSw); go_simp; try with_reducible rfl)
  try simp only [Act.put, List.getElem_toArray, List.getElem_cons_zero, List.getElem_cons_succ, List.setIfInBounds_toArray, List.set_cons_zero, List.set_cons_succ]
  refine wpAnyH_take (i := 12) (v := ?_) rfl (by kernel_rfl) (by kernel_rfl) (by kernel_rfl) (fun _ _ _ h => h) (Or.inl ⟨by rfl, ?_⟩) (by assumption) ?_
  rotate_left; · (intro w hSw; (try dsimp only at hSw); go_simp; try with_reducible rfl)
  try simp only [Act.put, List.getElem_toArray, List.getElem_cons_zero, List.getElem_cons_succ, List.setIfInBounds_toArray, List.set_cons_zero, List.set_cons_succ]
  refine wpAnyH_take (i := 13) (v := ?_) rfl (by kernel_rfl) (by kernel_rfl) (by kernel_rfl) (fun _ _ _ h => h) (Or.inl ⟨by rfl, ?_⟩) (by assumption) ?_
  rotate_left; · (intro w hSw; (try dsimp only at hSw); go_simp; try with_reducible rfl)
  try simp only [Act.put, List.getElem_toArray, List.getElem_cons_zero, List.getElem_cons_succ, List.setIfInBounds_toArray, List.set_cons_zero, List.set_cons_succ]
  refine wpAnyH_take (i := 14) (v := ?_) rfl (by kernel_rfl) (by kernel_rfl) (by kernel_rfl) (fun _ _ _ h => h) (Or.inl ⟨by rfl, ?_⟩) (by assumption) ?_
  rotate_left; · (intro w hSw; (try dsimp only at hSw); go_simp; try with_reducible rfl)
  try simp only [Act.put, List.getElem_toArray, List.getElem_cons_zero, List.getElem_cons_succ, List.setIfInBounds_toArray, List.set_cons_zero, List.set_cons_succ]
  refine wpAnyH_take (i := 15) (v := ?_) rfl (by kernel_rfl) (by kernel_rfl) (by kernel_rfl) (fun _ _ _ h => h) (Or.inl ⟨by rfl, ?_⟩) (by assumption) ?_
  rotate_left; · (intro w hSw; (try dsimp only at hSw); go_simp; try with_reducible rfl)
  try simp only [Act.put, List.getElem_toArray, List.getElem_cons_zero, List.getElem_cons_succ, List.setIfInBounds_toArray, List.set_cons_zero, List.set_cons_succ]
  refine wpAnyH_take (i := 16) (v := ?_) rfl (by kernel_rfl) (by kernel_rfl) (by kernel_rfl) (fun _ _ _ h => h) (Or.inl ⟨by rfl, ?_⟩) (by assumption) ?_
  rotate_left; · (intro w hSw; (try dsimp only at hSw); go_simp; try with_reducible rfl)
  try simp only [Act.put, List.getElem_toArray, List.getElem_cons_zero, List.getElem_cons_succ, List.setIfInBounds_toArray, List.set_cons_zero, List.set_cons_succ]
  refine wpAnyH_take (i := 17) (v := ?_) rfl (by kernel_rfl) (by kernel_rfl) (by kernel_rfl) (fun _ _ _ h => h) (Or.inl ⟨by rfl, ?_⟩) (by assumption) ?_
  rotate_left; · (intro w hSw; (try dsimp only at hSw); go_simp; try with_reducible rfl)
  try simp only [Act.put, List.getElem_toArray, List.getElem_cons_zero, List.getElem_cons_succ, List.setIfInBounds_toArray, List.set_cons_zero, List.set_cons_succ]
  refine wpAnyH_done (by kernel_rfl) ?_ _
  go_wp2
  go_ret
  exact ⟨by rw [HR.out]; rfl, (Below.refl _ _).drew⟩

set_option maxRecDepth 100000 in
set_option maxHeartbeats 2000000 in
theorem best63_any (n : Nat) (al : Nat → Bool) (bt : Nat → Nat → Bool) (S K : Nat) (w : World) (hn : n ≤ 100000)
    (H1 : ∀ i, i < n → ∀ W, Below w.heap.size w W → Calls Try.prog 63 #[.int .i64 (i : Nat), .pointer (some ⟨S, 0, none⟩), .pointer (some ⟨K, 0, none⟩)] W fun e w' => e = .returned (.bool (al i)) ∧ Below W.heap.size W w')
    (H2 : ∀ i j, i < n → j < n → ∀ W, Below w.heap.size w W → Calls Try.prog 65 #[.int .i64 (i : Nat), .int .i64 (j : Nat), .pointer (some ⟨S, 0, none⟩)] W fun e w' => e = .returned (.bool (bt i j)) ∧ Below W.heap.size W w') :
    Calls Try.prog 45 #[.int .i64 n, .func (.func 63) #[] #[.pointer (some ⟨S, 0, none⟩), .pointer (some ⟨K, 0, none⟩)], .func (.func 65) #[] #[.pointer (some ⟨S, 0, none⟩)]] w fun e w' => e = .returned (.int .i64 (bestTo al bt n)) ∧ Below w.heap.size w w' := by
  have HH1 := Lib.hid H1
  have HH2 := Lib.hid H2
  clear H1 H2
  go_enter Try.func45, Try.ntmps45
  go_wp2
  go_loopw [10, 7, 8] (fun v10 v7 _ wr => ∃ i : Nat, i ≤ n ∧ v10 = .int .i64 i ∧ v7 = .int .i64 (bestTo al bt i) ∧ Below w.heap.size w wr) (fun v10 _ _ _ => n - (intOf v10).toNat)
  case atStart => exact ⟨0, Nat.zero_le _, rfl, rfl, Below.refl _ _⟩
  case round =>
    obtain ⟨i, hi, rfl, rfl, hbel⟩ := hrel
    by_cases hlt : i < n
    · have c1 := HH1.out i hlt wr hbel
      have hrg := bestTo_range al bt i
      have hst : bestTo al bt (i + 1) = if al i = true ∧ (bestTo al bt i < 0 ∨ bt i (bestTo al bt i).toNat = true) then (i : Int) else bestTo al bt i := rfl
      have HST := Lib.hid hst
      have C1 := Lib.hid c1
      clear hst c1
      generalize bestTo al bt i = f at *
      generalize al i = a at *
      cases a
      · rw [if_neg (by simp)] at HST
        go_wp2_with fail
        refine C1.out.mono ?_
        rintro e w3 ⟨rfl, hb3⟩
        go_wp2
        go_roundw
        case rel => exact ⟨i + 1, by omega, by go_num, by rw [HST.out], hbel.trans (hb3.mono hbel.size)⟩
        case measure => simp [intOf]; omega
      · by_cases k1 : f < 0
        · rw [if_pos ⟨rfl, .inl k1⟩] at HST
          have q1 : decide (f < 0) = true := decide_eq_true k1
          clear k1
          go_wp2_with fail
          refine C1.out.mono ?_
          rintro e w3 ⟨rfl, hb3⟩
          go_wp2
          go_roundw
          case rel => exact ⟨i + 1, by omega, by go_num, by rw [HST.out], hbel.trans (hb3.mono hbel.size)⟩
          case measure => simp [intOf]; omega
        · obtain ⟨g, rfl⟩ : ∃ g : Nat, f = g := ⟨f.toNat, by omega⟩
          rw [Int.toNat_natCast] at HST
          have q1 : decide ((g : Int) < 0) = false := decide_eq_false k1
          have hgn : g < n := by omega
          have C2 := Lib.hid (HH2.out i g hlt hgn)
          go_wp2_with fail
          refine C1.out.mono ?_
          rintro e w3 ⟨rfl, hb3⟩
          have hbw := hbel.trans (hb3.mono hbel.size)
          go_wp2_with fail
          refine (C2.out w3 hbw).mono ?_
          rintro e w4 ⟨rfl, hb4⟩
          have hbw4 := hbw.trans (hb4.mono hbw.size)
          cases hb : bt i g
          · rw [hb] at HST
            rw [if_neg (by simp)] at HST
            go_wp2
            go_roundw
            case rel => exact ⟨i + 1, by omega, by go_num, by rw [HST.out], hbw4⟩
            case measure => simp [intOf]; omega
          · rw [hb] at HST
            rw [if_pos (by simp)] at HST
            go_wp2
            go_roundw
            case rel => exact ⟨i + 1, by omega, by go_num, by rw [HST.out], hbw4⟩
            case measure => simp [intOf]; omega
    · have hjl : i = n := by omega
      subst hjl
      go_wp2
      go_ret
      exact ⟨rfl, hbel⟩

end Go.Proofs.Ytijcicgbhcphjaa

/- target; the closures of Plan. -/
namespace Go.Proofs.Ytijcicgbhcphjaa
open Go.RowKit Go.Lib Go.ChangeMaps
set_option linter.unusedSimpArgs false

def targetI (V : Vp) (gone : Nat → Bool) (k : Nat) : Int := bestTo (fun d => canB V gone k d) (btW V) V.mem.length

set_option maxRecDepth 100000 in
set_option maxHeartbeats 2000000 in
theorem target_any {lo hi p : Nat} {V : Vp} {gone : Nat → Bool} (k : Nat) (w : World) (hst : StAt w lo hi p V gone) (hk : k < V.held.length) :
    Calls Try.prog 44 #[.pointer (some ⟨p, 0, none⟩), .int .i64 k] w fun e w' => e = .returned (.int .i64 (targetI V gone k)) ∧ Below w.heap.size w w' := by
  have hok := hst.2.1
  obtain ⟨a1, a2, a3, a4, a5⟩ := hok.small
  have HST := Lib.hid hst
  obtain ⟨mv, hv, rv, wv, gv, mp, c0, c1, c2, c3, c4, c5, hM, hH, hR, hW, hG, hmp⟩ := hst.at
  obtain ⟨ga, gc, gb, go, rfl, gl, gm, gcell⟩ := hG.at
  clear gcell hM hH hR hW hG hmp hst hok a5 c0 c1 c2 c3 c5
  have plt := cell_lt c4
  go_enter Try.func44, Try.ntmps44
  have hA : Below w.heap.size w ((w.alloc (.cells #[.pointer (some ⟨p, 0, none⟩)] 89)).alloc (.cells #[.int .i64 k] 3)) := by (repeat' (first | (with_reducible exact Below.refl _ _) | (with_reducible assumption) | (with_reducible refine Below.alloc ?_ ?_ _) | (with_reducible refine Below.drew ?_) | (with_reducible refine below_drewN ?_ _) | (with_reducible refine Below.setCell ?_ ?_ _) | (with_reducible refine below_step ?_ (by with_reducible assumption) ?_) | go_size))
  have s0 : ((w.alloc (.cells #[.pointer (some ⟨p, 0, none⟩)] 89)).alloc (.cells #[.int .i64 k] 3)).cell? ⟨w.heap.size, 0, none⟩ = some (.pointer (some ⟨p, 0, none⟩)) :=
    cell_of_row _ _ 0 _ _ _ ((Below.heap_alloc _ _ _ (by rw [World.size_alloc]; omega)).trans (heap_alloc_new _ _))
  have s1 : ((w.alloc (.cells #[.pointer (some ⟨p, 0, none⟩)] 89)).alloc (.cells #[.int .i64 k] 3)).cell? ⟨w.heap.size + 1, 0, none⟩ = some (.int .i64 k) := by
    have := cell_of_row _ _ 0 _ _ _ (heap_alloc_new (w.alloc (.cells #[.pointer (some ⟨p, 0, none⟩)] 89)) (.cells #[.int .i64 k] 3))
    rw [World.size_alloc] at this
    exact this
  have HB := Lib.hid (best63_any V.mem.length (fun d => canB V gone k d) (btW V) w.heap.size (w.heap.size + 1) _ (by omega)
    (fun i hi W hW => can63_any k i w.heap.size (w.heap.size + 1) W (HST.out.below (hA.trans (hW.mono hA.size))) hk ((hW.cell (cell_lt s0)).trans s0) ((hW.cell (cell_lt s1)).trans s1))
    (fun i j hi hj W hW => more65_any i j w.heap.size W (HST.out.below (hA.trans (hW.mono hA.size))) hi hj ((hW.cell (cell_lt s0)).trans s0)))
  obtain ⟨r, hr⟩ : ∃ r, r = targetI V gone k := ⟨_, rfl⟩
  rw [← hr]
  rw [show bestTo (fun d => canB V gone k d) (btW V) V.mem.length = r from hr.symm] at HB
  clear hr
  go_wp2_with fail
  refine HB.out.mono ?_
  rintro e w3 ⟨rfl, hb3⟩
  go_wp2
  go_ret
  exact ⟨rfl, hA.trans (hb3.mono hA.size)⟩

/-- Whether a stripe is open. -/
def openB (V : Vp) (gone : Nat → Bool) (k : Nat) : Bool := decide (0 ≤ spareI V gone k) && decide (0 < (otherI gone (V.held.getD k default).at_).length) && decide (0 ≤ targetI V gone k)

set_option maxRecDepth 100000 in
set_option maxHeartbeats 2000000 in
theorem open42_any {lo hi p : Nat} {V : Vp} {gone : Nat → Bool} (k S : Nat) (w : World) (hst : StAt w lo hi p V gone) (hk : k < V.held.length) (hS : w.cell? ⟨S, 0, none⟩ = some (.pointer (some ⟨p, 0, none⟩))) :
    Calls Try.prog 42 #[.int .i64 k, .pointer (some ⟨S, 0, none⟩)] w fun e w' => e = .returned (.bool (openB V gone k)) ∧ Below w.heap.size w w' := by
  have CL := Lib.hid (left_any k w hst hk)
  have HST := Lib.hid hst
  have h16 := (((hst.2.1).small.2.2.2.2 k hk).at_small).1
  have hol2 := otherTo_len gone (V.held.getD k default).at_ (V.held.getD k default).at_.length
  clear hst
  obtain ⟨r, hr⟩ : ∃ r, r = openB V gone k := ⟨_, rfl⟩
  rw [← hr]
  have hr2 : r = (decide (0 ≤ spareI V gone k) && decide (0 < (otherI gone (V.held.getD k default).at_).length) && decide (0 ≤ targetI V gone k)) := hr
  have HR := Lib.hid hr2
  have hol : (otherI gone (V.held.getD k default).at_).length ≤ 16 := Nat.le_trans hol2 h16
  clear hr hr2 hol2
  go_enter Try.func42, Try.ntmps42
  go_wp2_with fail
  refine CL.out.mono ?_
  rintro e w3 ⟨u1, u2, rfl, o1, o2, hb3⟩
  obtain ⟨al, ac, rfl⟩ := OwnI.slice o1
  obtain ⟨bl, bc, rfl⟩ := OwnI.slice o2
  clear o1 o2 CL
  have CS := Lib.hid (spare_any k w3 (HST.out.below hb3) hk)
  have CT := Lib.hid (fun W (h : Below w.heap.size w W) => target_any k W (HST.out.below h) hk)
  have hS3 := (hb3.cell (p := ⟨S, 0, none⟩) (cell_lt hS)).trans hS
  generalize (otherI gone (V.held.getD k default).at_).length = ol at *
  generalize (leftI gone (V.held.getD k default).at_).length = ll at *
  generalize spareI V gone k = sp at *
  generalize targetI V gone k = tg at *
  clear h16 hS
  go_wp2_with fail
  refine CS.out.mono ?_
  rintro e w4 ⟨rfl, hb4⟩
  have hS4 := (hb4.cell (p := ⟨S, 0, none⟩) (cell_lt hS3)).trans hS3
  have hbw := hb3.trans (hb4.mono hb3.size)
  clear hS3
  by_cases k1 : 0 ≤ sp
  rotate_left
  · obtain rfl : r = false := by rw [HR.out, decide_eq_false k1]; rfl
    have q1 : decide (0 ≤ sp) = false := decide_eq_false k1
    clear k1
    go_wp2
    go_ret
    exact ⟨rfl, hbw⟩
  have q1 : decide (0 ≤ sp) = true := decide_eq_true k1
  by_cases k2 : 0 < ol
  rotate_left
  · obtain rfl : r = false := by rw [HR.out, decide_eq_false k2, Bool.and_false]; rfl
    have q2 : decide (0 < ol) = false := decide_eq_false k2
    clear k1 k2
    go_wp2
    go_ret
    exact ⟨rfl, hbw⟩
  have q2 : decide (0 < ol) = true := decide_eq_true k2
  have hr3 : r = decide (0 ≤ tg) := by rw [HR.out, q1, q2, Bool.true_and, Bool.true_and]
  have HR3 := Lib.hid hr3
  clear hr3 k1 k2
  go_wp2_with fail
  refine (CT.out _ hbw).mono ?_
  rintro e w5 ⟨rfl, hb5⟩
  go_wp2
  go_ret
  exact ⟨by rw [HR3.out]; rfl, hbw.trans (hb5.mono hbw.size)⟩

end Go.Proofs.Ytijcicgbhcphjaa

/- The closures of Plan. -/
namespace Go.Proofs.Ytijcicgbhcphjaa
open Go.RowKit Go.Lib Go.ChangeMaps
set_option linter.unusedSimpArgs false

def btS (V : Vp) (gone : Nat → Bool) (i j : Nat) : Bool := decide (spareI V gone i < spareI V gone j)

set_option maxRecDepth 100000 in
set_option maxHeartbeats 2000000 in
theorem less46_any {lo hi p : Nat} {V : Vp} {gone : Nat → Bool} (i j S : Nat) (w : World) (hst : StAt w lo hi p V gone) (hi : i < V.held.length) (hj : j < V.held.length) (hS : w.cell? ⟨S, 0, none⟩ = some (.pointer (some ⟨p, 0, none⟩))) :
    Calls Try.prog 46 #[.int .i64 i, .int .i64 j, .pointer (some ⟨S, 0, none⟩)] w fun e w' => e = .returned (.bool (btS V gone i j)) ∧ Below w.heap.size w w' := by
  have HST := Lib.hid hst
  have C1 := Lib.hid (fun W (h : Below w.heap.size w W) => spare_any i W (hst.below h) hi)
  have C2 := Lib.hid (fun W (h : Below w.heap.size w W) => spare_any j W (hst.below h) hj)
  obtain ⟨r, hr⟩ : ∃ r, r = btS V gone i j := ⟨_, rfl⟩
  rw [← hr]
  have HR := Lib.hid (show r = decide (spareI V gone i < spareI V gone j) from hr)
  clear hr hst
  generalize spareI V gone i = x at *
  generalize spareI V gone j = y at *
  have hS' : w.drew.cell? ⟨S, 0, none⟩ = some (.pointer (some ⟨p, 0, none⟩)) := hS
  have hb0 : Below w.heap.size w w.drew := (Below.refl _ _).drew
  go_enter Try.func46, Try.ntmps46
  go_upto_region 1 with fail
  refine wp_region_held_drew (S := fun w' => w'.cell? ⟨S, 0, none⟩ = some (.pointer (some ⟨p, 0, none⟩))) (by kernel_rfl) hS' (fun hHeld => ?_)
  generalize w.drew = W at *
  refine wpAnyH_take (i := 0) (v := ?_) rfl (by kernel_rfl) (by kernel_rfl) (by kernel_rfl) (fun _ _ _ h => h) (Or.inl ⟨by rfl, ?_⟩) (by assumption) ?_
  rotate_left; · (intro w hSw; (try dsimp only at hSw); go_simp; try with_reducible rfl)
  try simp only [Act.put, List.getElem_toArray, List.getElem_cons_zero, List.getElem_cons_succ, List.setIfInBounds_toArray, List.set_cons_zero, List.set_cons_succ]
  refine wpAnyH_take (i := 1) (v := ?_) rfl (by kernel_rfl) (by kernel_rfl) (by kernel_rfl) (fun _ _ _ h => h) (Or.inl ⟨by rfl, ?_⟩) (by assumption) ?_
  rotate_left; · (intro w hSw; (try dsimp only at hSw); go_simp; try with_reducible rfl)
  try simp only [Act.put, List.getElem_toArray, List.getElem_cons_zero, List.getElem_cons_succ, List.setIfInBounds_toArray, List.set_cons_zero, List.set_cons_succ]
  refine wpAnyH_take (i := 3) (v := ?_) rfl (by kernel_rfl) (by kernel_rfl) (by kernel_rfl) (fun _ _ _ h => h) (Or.inl ⟨by rfl, ?_⟩) (by assumption) ?_
  rotate_left; · (intro w hSw; (try dsimp only at hSw); go_simp; try with_reducible rfl)
  try simp only [Act.put, List.getElem_toArray, List.getElem_cons_zero, List.getElem_cons_succ, List.setIfInBounds_toArray, List.set_cons_zero, List.set_cons_succ]
  refine wpAnyH_take (i := 4) (v := ?_) rfl (by kernel_rfl) (by kernel_rfl) (by kernel_rfl) (fun _ _ _ h => h) (Or.inl ⟨by rfl, ?_⟩) (by assumption) ?_
  rotate_left; · (intro w hSw; (try dsimp only at hSw); go_simp; try with_reducible rfl)
  try simp only [Act.put, List.getElem_toArray, List.getElem_cons_zero, List.getElem_cons_succ, List.setIfInBounds_toArray, List.set_cons_zero, List.set_cons_succ]
  refine wpAnyH_ready (rs := [2]) (by kernel_rfl) (by simp) ?_
  refine AllReadyH.cons rfl (fun K hK => ?_) AllReadyH.nil
  go_simp
  refine (C1.out W hb0).mono ?_
  rintro e w3 ⟨rfl, hb3⟩
  go_wp2_with fail
  have hS3 := (hb3.cell (p := ⟨S, 0, none⟩) (cell_lt hS')).trans hS'
  have hbw := hb0.trans (hb3.mono hb0.size)
  refine hK.out _ _ hS3 (fun hNew => ?_)
  clear hK K hNew hHeld
  have hHeld := hS3
  try simp only [Act.put, List.getElem_toArray, List.getElem_cons_zero, List.getElem_cons_succ, List.setIfInBounds_toArray, List.set_cons_zero, List.set_cons_succ]
  refine wpAnyH_ready (rs := [5]) (by kernel_rfl) (by simp) ?_
  refine AllReadyH.cons rfl (fun K hK => ?_) AllReadyH.nil
  go_simp
  refine (C2.out w3 hbw).mono ?_
  rintro e w4 ⟨rfl, hb4⟩
  go_wp2_with fail
  have hS4 := (hb4.cell (p := ⟨S, 0, none⟩) (cell_lt hS3)).trans hS3
  have hbw4 := hbw.trans (hb4.mono hbw.size)
  refine hK.out _ _ hS4 (fun hNew => ?_)
  clear hK K hNew hHeld
  have hHeld := hS4
  try simp only [Act.put, List.getElem_toArray, List.getElem_cons_zero, List.getElem_cons_succ, List.setIfInBounds_toArray, List.set_cons_zero, List.set_cons_succ]
  refine wpAnyH_take (i := 6) (v := ?_) rfl (by kernel_rfl) (by kernel_rfl) (by kernel_rfl) (fun _ _ _ h => h) (Or.inl ⟨by rfl, ?_⟩) (by assumption) ?_
  rotate_left; · (intro w hSw; (try dsimp only at hSw); go_simp; try with_reducible rfl)
  try simp only [Act.put, List.getElem_toArray, List.getElem_cons_zero, List.getElem_cons_succ, List.setIfInBounds_toArray, List.set_cons_zero, List.set_cons_succ]
  refine wpAnyH_take (i := 7) (v := ?_) rfl (by kernel_rfl) (by kernel_rfl) (by kernel_rfl) (fun _ _ _ h => h) (Or.inl ⟨by rfl, ?_⟩) (by assumption) ?_
  rotate_left; · (intro w hSw; (try dsimp only at hSw); go_simp; try with_reducible rfl)
  try simp only [Act.put, List.getElem_toArray, List.getElem_cons_zero, List.getElem_cons_succ, List.setIfInBounds_toArray, List.set_cons_zero, List.set_cons_succ]
  refine wpAnyH_done (by kernel_rfl) ?_ _
  go_wp2
  go_ret
  exact ⟨by rw [HR.out]; rfl, hbw4⟩

set_option maxRecDepth 100000 in
set_option maxHeartbeats 2000000 in
theorem best42_any (n : Nat) (al : Nat → Bool) (bt : Nat → Nat → Bool) (S : Nat) (w : World) (hn : n ≤ 100000)
    (H1 : ∀ i, i < n → ∀ W, Below w.heap.size w W → Calls Try.prog 42 #[.int .i64 (i : Nat), .pointer (some ⟨S, 0, none⟩)] W fun e w' => e = .returned (.bool (al i)) ∧ Below W.heap.size W w')
    (H2 : ∀ i j, i < n → j < n → ∀ W, Below w.heap.size w W → Calls Try.prog 46 #[.int .i64 (i : Nat), .int .i64 (j : Nat), .pointer (some ⟨S, 0, none⟩)] W fun e w' => e = .returned (.bool (bt i j)) ∧ Below W.heap.size W w') :
    Calls Try.prog 45 #[.int .i64 n, .func (.func 42) #[] #[.pointer (some ⟨S, 0, none⟩)], .func (.func 46) #[] #[.pointer (some ⟨S, 0, none⟩)]] w fun e w' => e = .returned (.int .i64 (bestTo al bt n)) ∧ Below w.heap.size w w' := by
  have HH1 := Lib.hid H1
  have HH2 := Lib.hid H2
  clear H1 H2
  go_enter Try.func45, Try.ntmps45
  go_wp2
  go_loopw [10, 7, 8] (fun v10 v7 _ wr => ∃ i : Nat, i ≤ n ∧ v10 = .int .i64 i ∧ v7 = .int .i64 (bestTo al bt i) ∧ Below w.heap.size w wr) (fun v10 _ _ _ => n - (intOf v10).toNat)
  case atStart => exact ⟨0, Nat.zero_le _, rfl, rfl, Below.refl _ _⟩
  case round =>
    obtain ⟨i, hi, rfl, rfl, hbel⟩ := hrel
    by_cases hlt : i < n
    · have c1 := HH1.out i hlt wr hbel
      have hrg := bestTo_range al bt i
      have hst : bestTo al bt (i + 1) = if al i = true ∧ (bestTo al bt i < 0 ∨ bt i (bestTo al bt i).toNat = true) then (i : Int) else bestTo al bt i := rfl
      have HST := Lib.hid hst
      have C1 := Lib.hid c1
      clear hst c1
      generalize bestTo al bt i = f at *
      generalize al i = a at *
      cases a
      · rw [if_neg (by simp)] at HST
        go_wp2_with fail
        refine C1.out.mono ?_
        rintro e w3 ⟨rfl, hb3⟩
        go_wp2
        go_roundw
        case rel => exact ⟨i + 1, by omega, by go_num, by rw [HST.out], hbel.trans (hb3.mono hbel.size)⟩
        case measure => simp [intOf]; omega
      · by_cases k1 : f < 0
        · rw [if_pos ⟨rfl, .inl k1⟩] at HST
          have q1 : decide (f < 0) = true := decide_eq_true k1
          clear k1
          go_wp2_with fail
          refine C1.out.mono ?_
          rintro e w3 ⟨rfl, hb3⟩
          go_wp2
          go_roundw
          case rel => exact ⟨i + 1, by omega, by go_num, by rw [HST.out], hbel.trans (hb3.mono hbel.size)⟩
          case measure => simp [intOf]; omega
        · obtain ⟨g, rfl⟩ : ∃ g : Nat, f = g := ⟨f.toNat, by omega⟩
          rw [Int.toNat_natCast] at HST
          have q1 : decide ((g : Int) < 0) = false := decide_eq_false k1
          have hgn : g < n := by omega
          have C2 := Lib.hid (HH2.out i g hlt hgn)
          go_wp2_with fail
          refine C1.out.mono ?_
          rintro e w3 ⟨rfl, hb3⟩
          have hbw := hbel.trans (hb3.mono hbel.size)
          go_wp2_with fail
          refine (C2.out w3 hbw).mono ?_
          rintro e w4 ⟨rfl, hb4⟩
          have hbw4 := hbw.trans (hb4.mono hbw.size)
          cases hb : bt i g
          · rw [hb] at HST
            rw [if_neg (by simp)] at HST
            go_wp2
            go_roundw
            case rel => exact ⟨i + 1, by omega, by go_num, by rw [HST.out], hbw4⟩
            case measure => simp [intOf]; omega
          · rw [hb] at HST
            rw [if_pos (by simp)] at HST
            go_wp2
            go_roundw
            case rel => exact ⟨i + 1, by omega, by go_num, by rw [HST.out], hbw4⟩
            case measure => simp [intOf]; omega
    · have hjl : i = n := by omega
      subst hjl
      go_wp2
      go_ret
      exact ⟨rfl, hbel⟩

end Go.Proofs.Ytijcicgbhcphjaa
