/- possible. -/
import Derived.Test.YtijcicgbhcphjaaD3
namespace Go.Proofs.Ytijcicgbhcphjaa
open Go.RowKit Go.Lib Go.ChangeMaps
set_option linter.unusedSimpArgs false

theorem lookPlaceT {w : World} {mp : Nat} {V : Vp} (h : w.heap[mp]? = some (mapObj encS (placesL V.held 0))) (s : ByteArray) :
    (Instr.lookup 94 (.map (some mp)) (.string s) true).run Try.prog w = .ok (match findP V.held s with | some k => .tuple #[.int .i64 k, .bool true] | none => .tuple #[.int .i64 0, .bool false]) w := by
  have := key_str.lookup (tm := 94) (te := 3) Try.underlying94 (z := .int .i64 0) (fun w => by kernel_rfl) h s
  rw [this, seek_places]
  cases findP V.held s <;> simp

set_option maxRecDepth 100000 in
set_option maxHeartbeats 4000000 in
theorem possible_any {lo hi p : Nat} {V : Vp} {gone : Nat → Bool} (j : Jp) (fv : Value) (w : World) (hst : StAt w lo hi p V gone) (hfv : ReadsI w fv j.from_) :
    Calls Try.prog 68 #[.pointer (some ⟨p, 0, none⟩), j.v fv] w fun e w' => e = .returned (.bool (possB V gone j)) ∧ Below w.heap.size w w' := by
  have hok := hst.2.1
  obtain ⟨a1, a2, a3, a4, a5⟩ := hok.small
  have HST := Lib.hid hst
  obtain ⟨mv, hv, rv, wv, gv, mp, c0, c1, c2, c3, c4, c5, hM, hH, hR, hW, hG, hmp⟩ := hst.at
  obtain ⟨ha, hc, hb, ho, rfl, hl, hm, hcell⟩ := hH.at
  obtain ⟨fa, fc, fb, fo, rfl, fl, fm, fcell⟩ := hfv.at
  have HC := Lib.hid hcell
  have FC := Lib.hid fcell
  have A5 := Lib.hid a5
  have plt := cell_lt c0
  obtain ⟨⟨st, ix⟩, fs, dst, size⟩ := j
  obtain ⟨r, hr⟩ : ∃ r, r = possB V gone ⟨⟨st, ix⟩, fs, dst, size⟩ := ⟨_, rfl⟩
  rw [← hr]
  have HR := Lib.hid hr
  unfold Jp.v
  simp only at fl fm FC ⊢
  clear hr hcell fcell hM hH hR hW hG c0 c2 c3 c4 hfv hst hok a5
  have hA : Below w.heap.size w (w.alloc (.cells #[.string st, .int .i64 ix, .slice fa fs.length fc, .int .i64 dst, .int .i64 size] 47)).drew := ((Below.refl w.heap.size w).alloc (Nat.le_refl _) _).drew
  have m0 : (w.alloc (.cells #[.string st, .int .i64 ix, .slice fa fs.length fc, .int .i64 dst, .int .i64 size] 47)).drew.cell? ⟨w.heap.size, 0, none⟩ = some (.string st) := cell_of_row (w.alloc _) _ 0 _ _ _ (heap_alloc_new _ _)
  have m1 : (w.alloc (.cells #[.string st, .int .i64 ix, .slice fa fs.length fc, .int .i64 dst, .int .i64 size] 47)).drew.cell? ⟨w.heap.size, 1, none⟩ = some (.int .i64 ix) := cell_of_row (w.alloc _) _ 1 _ _ _ (heap_alloc_new _ _)
  have m2 : (w.alloc (.cells #[.string st, .int .i64 ix, .slice fa fs.length fc, .int .i64 dst, .int .i64 size] 47)).drew.cell? ⟨w.heap.size, 2, none⟩ = some (.slice fa fs.length fc) := cell_of_row (w.alloc _) _ 2 _ _ _ (heap_alloc_new _ _)
  have m3 : (w.alloc (.cells #[.string st, .int .i64 ix, .slice fa fs.length fc, .int .i64 dst, .int .i64 size] 47)).drew.cell? ⟨w.heap.size, 3, none⟩ = some (.int .i64 dst) := cell_of_row (w.alloc _) _ 3 _ _ _ (heap_alloc_new _ _)
  have m4 : (w.alloc (.cells #[.string st, .int .i64 ix, .slice fa fs.length fc, .int .i64 dst, .int .i64 size] 47)).drew.cell? ⟨w.heap.size, 4, none⟩ = some (.int .i64 size) := cell_of_row (w.alloc _) _ 4 _ _ _ (heap_alloc_new _ _)
  have p1 := (hA.cell (p := ⟨p, 1, none⟩) plt).trans c1
  have p5 := (hA.cell (p := ⟨p, 5, none⟩) plt).trans c5
  have hmp2 := (hA.block mp (Array.getElem?_eq_some_iff.1 hmp).1).trans hmp
  have hlk := lookPlaceT hmp2 st
  have hz : (w.alloc (.cells #[.string st, .int .i64 ix, .slice fa fs.length fc, .int .i64 dst, .int .i64 size] 47)).drew.heap.size = w.heap.size + 1 := World.size_alloc _ _
  clear hmp hmp2
  go_enter Try.func68, Try.ntmps68
  go_upto_region 1 with fail
  cases hf : findP V.held st with
  | none =>
    rw [hf] at hlk
    obtain rfl : r = false := by rw [HR.out]; unfold possB; rw [hf]
    have HF := Lib.hid hf
    clear hf
    refine wp_region_held_drew (S := fun w' => w'.cell? ⟨p, 5, none⟩ = some (.map (some mp)) ∧ (Instr.lookup 94 (.map (some mp)) (.string st) true).run Try.prog w' = .ok (.tuple #[.int .i64 0, .bool false]) w' ∧ w'.cell? ⟨w.heap.size, 0, none⟩ = some (.string st)) (by kernel_rfl) ⟨p5, hlk, m0⟩ (fun hHeld => ?_)
    generalize (w.alloc (.cells #[.string st, .int .i64 ix, .slice fa fs.length fc, .int .i64 dst, .int .i64 size] 47)).drew = W at *
    refine wpAnyH_take (i := 0) (v := ?_) rfl (by kernel_rfl) (by kernel_rfl) (by kernel_rfl) (fun _ _ _ h => h) (Or.inl ⟨by rfl, ?_⟩) (by assumption) ?_
    rotate_left; · (intro w hSw; (try dsimp only at hSw); go_simp; try with_reducible rfl)
    try simp only [Act.put, List.getElem_toArray, List.getElem_cons_zero, List.getElem_cons_succ, List.setIfInBounds_toArray, List.set_cons_zero, List.set_cons_succ]
    refine wpAnyH_take (i := 1) (v := ?_) rfl (by kernel_rfl) (by kernel_rfl) (by kernel_rfl) (fun _ _ _ h => h) (Or.inl ⟨by rfl, ?_⟩) (by assumption) ?_
    rotate_left; · (intro w hSw; (try dsimp only at hSw); go_simp; try with_reducible rfl)
    try simp only [Act.put, List.getElem_toArray, List.getElem_cons_zero, List.getElem_cons_succ, List.setIfInBounds_toArray, List.set_cons_zero, List.set_cons_succ]
    refine wpAnyH_take (i := 2) (v := ?_) rfl (by kernel_rfl) (by kernel_rfl) (by kernel_rfl) (fun _ _ _ h => h) (Or.inl ⟨by rfl, ?_⟩) (by assumption) ?_
    rotate_left; · (intro w hSw; (try dsimp only at hSw); go_simp; try with_reducible rfl)
    try simp only [Act.put, List.getElem_toArray, List.getElem_cons_zero, List.getElem_cons_succ, List.setIfInBounds_toArray, List.set_cons_zero, List.set_cons_succ]
    refine wpAnyH_take (i := 3) (v := ?_) rfl (by kernel_rfl) (by kernel_rfl) (by kernel_rfl) (fun _ _ _ h => h) (Or.inl ⟨by rfl, ?_⟩) (by assumption) ?_
    rotate_left; · (intro w hSw; (try dsimp only at hSw); go_simp; try with_reducible rfl)
    try simp only [Act.put, List.getElem_toArray, List.getElem_cons_zero, List.getElem_cons_succ, List.setIfInBounds_toArray, List.set_cons_zero, List.set_cons_succ]
    refine wpAnyH_take (i := 4) (v := ?_) rfl (by kernel_rfl) (by kernel_rfl) (by kernel_rfl) (fun _ _ _ h => h) (Or.inl ⟨by rfl, ?_⟩) (by assumption) ?_
    rotate_left; · (intro w hSw; (try dsimp only at hSw); go_simp; try with_reducible rfl)
    try simp only [Act.put, List.getElem_toArray, List.getElem_cons_zero, List.getElem_cons_succ, List.setIfInBounds_toArray, List.set_cons_zero, List.set_cons_succ]
    refine wpAnyH_take (i := 5) (v := ?_) rfl (by kernel_rfl) (by kernel_rfl) (by kernel_rfl) (fun _ _ _ h => h) (Or.inl ⟨by rfl, ?_⟩) (by assumption) ?_
    rotate_left; · (intro w hSw; (try dsimp only at hSw); go_simp; try with_reducible rfl)
    try simp only [Act.put, List.getElem_toArray, List.getElem_cons_zero, List.getElem_cons_succ, List.setIfInBounds_toArray, List.set_cons_zero, List.set_cons_succ]
    refine wpAnyH_take (i := 6) (v := ?_) rfl (by kernel_rfl) (by kernel_rfl) (by kernel_rfl) (fun _ _ _ h => h) (Or.inl ⟨by rfl, ?_⟩) (by assumption) ?_
    rotate_left; · (intro w hSw; (try dsimp only at hSw); go_simp; try with_reducible rfl)
    try simp only [Act.put, List.getElem_toArray, List.getElem_cons_zero, List.getElem_cons_succ, List.setIfInBounds_toArray, List.set_cons_zero, List.set_cons_succ]
    refine wpAnyH_take (i := 7) (v := ?_) rfl (by kernel_rfl) (by kernel_rfl) (by kernel_rfl) (fun _ _ _ h => h) (Or.inl ⟨by rfl, ?_⟩) (by assumption) ?_
    rotate_left; · (intro w hSw; (try dsimp only at hSw); go_simp; try with_reducible rfl)
    try simp only [Act.put, List.getElem_toArray, List.getElem_cons_zero, List.getElem_cons_succ, List.setIfInBounds_toArray, List.set_cons_zero, List.set_cons_succ]
    refine wpAnyH_take (i := 8) (v := ?_) rfl (by kernel_rfl) (by kernel_rfl) (by kernel_rfl) (fun _ _ _ h => h) (Or.inl ⟨by rfl, ?_⟩) (by assumption) ?_
    rotate_left; · (intro w hSw; (try dsimp only at hSw); go_simp; try with_reducible rfl)
    try simp only [Act.put, List.getElem_toArray, List.getElem_cons_zero, List.getElem_cons_succ, List.setIfInBounds_toArray, List.set_cons_zero, List.set_cons_succ]
    refine wpAnyH_take (i := 9) (v := ?_) rfl (by kernel_rfl) (by kernel_rfl) (by kernel_rfl) (fun _ _ _ h => h) (Or.inl ⟨by rfl, ?_⟩) (by assumption) ?_
    rotate_left; · (intro w hSw; (try dsimp only at hSw); go_simp; try with_reducible rfl)
    try simp only [Act.put, List.getElem_toArray, List.getElem_cons_zero, List.getElem_cons_succ, List.setIfInBounds_toArray, List.set_cons_zero, List.set_cons_succ]
    refine wpAnyH_take (i := 10) (v := ?_) rfl (by kernel_rfl) (by kernel_rfl) (by kernel_rfl) (fun _ _ _ h => h) (Or.inl ⟨by rfl, ?_⟩) (by assumption) ?_
    rotate_left; · (intro w hSw; (try dsimp only at hSw); go_simp; try with_reducible rfl)
    try simp only [Act.put, List.getElem_toArray, List.getElem_cons_zero, List.getElem_cons_succ, List.setIfInBounds_toArray, List.set_cons_zero, List.set_cons_succ]
    refine wpAnyH_take (i := 11) (v := ?_) rfl (by kernel_rfl) (by kernel_rfl) (by kernel_rfl) (fun _ _ _ h => h) (Or.inl ⟨by rfl, ?_⟩) (by assumption) ?_
    rotate_left; · (intro w hSw; (try dsimp only at hSw); go_simp; try with_reducible rfl)
    try simp only [Act.put, List.getElem_toArray, List.getElem_cons_zero, List.getElem_cons_succ, List.setIfInBounds_toArray, List.set_cons_zero, List.set_cons_succ]
    refine wpAnyH_take (i := 12) (v := ?_) rfl (by kernel_rfl) (by kernel_rfl) (by kernel_rfl) (fun _ _ _ h => h) (Or.inl ⟨by rfl, ?_⟩) (by assumption) ?_
    rotate_left; · (intro w hSw; (try dsimp only at hSw); go_simp; try with_reducible rfl)
    try simp only [Act.put, List.getElem_toArray, List.getElem_cons_zero, List.getElem_cons_succ, List.setIfInBounds_toArray, List.set_cons_zero, List.set_cons_succ]
    refine wpAnyH_done (by kernel_rfl) ?_ _
    go_wp2
    go_ret
    exact ⟨rfl, hA⟩
  | some k =>
    rw [hf] at hlk
    obtain ⟨hk, hid⟩ := findP_some hf
    have hrr : r = (decide (ix ∈ otherI gone (V.held.getD k default).at_) && decide ((fs.length : Int) = (V.held.getD k default).data) && decide (size = (V.held.getD k default).block) &&
      decide (FrOk (leftI gone (V.held.getD k default).at_) fs) && canB V gone k dst) := by rw [HR.out]; unfold possB; rw [hf]
    have HRR := Lib.hid hrr
    have a7 := A5.out k hk
    have a8 := a7.at_small.1
    have a9 := leftI_len gone (V.held.getD k default).at_
    obtain ⟨e1, e2, e3, e4, e5, e6, xr, av, e7, e8, hxr, hra⟩ := HC.out k hk
    subst e1
    obtain ⟨qa, qc, _, _, rfl, -⟩ := hxr.at
    clear hrr hf hid hxr hra HC HR A5 a7
    have b2 := (hA.cell (p := ⟨hb, _, none⟩) (cell_lt e2)).trans e2
    have b3 := (hA.cell (p := ⟨hb, _, none⟩) (cell_lt e3)).trans e3
    have b4 := (hA.cell (p := ⟨hb, _, none⟩) (cell_lt e4)).trans e4
    have b5 := (hA.cell (p := ⟨hb, _, none⟩) (cell_lt e5)).trans e5
    have b6 := (hA.cell (p := ⟨hb, _, none⟩) (cell_lt e6)).trans e6
    have b7 := (hA.cell (p := ⟨hb, _, none⟩) (cell_lt e7)).trans e7
    clear e2 e3 e4 e5 e6 e7 e8
    generalize (V.held.getD k default).refs.length = ql at *
    generalize (V.held.getD k default).vault = vault at *
    generalize (V.held.getD k default).data = data at *
    generalize (V.held.getD k default).block = block at *
    generalize (V.held.getD k default).total = total at *
    generalize (V.held.getD k default).id = id at *
    generalize hat : (V.held.getD k default).at_ = zs at *
    refine wp_region_held_drew (S := fun w' => w'.cell? ⟨p, 5, none⟩ = some (.map (some mp)) ∧ (Instr.lookup 94 (.map (some mp)) (.string st) true).run Try.prog w' = .ok (.tuple #[.int .i64 k, .bool true]) w' ∧ w'.cell? ⟨w.heap.size, 0, none⟩ = some (.string st)) (by kernel_rfl) ⟨p5, hlk, m0⟩ (fun hHeld => ?_)
    generalize (w.alloc (.cells #[.string st, .int .i64 ix, .slice fa fs.length fc, .int .i64 dst, .int .i64 size] 47)).drew = W at *
    refine wpAnyH_take (i := 0) (v := ?_) rfl (by kernel_rfl) (by kernel_rfl) (by kernel_rfl) (fun _ _ _ h => h) (Or.inl ⟨by rfl, ?_⟩) (by assumption) ?_
    rotate_left; · (intro w hSw; (try dsimp only at hSw); go_simp; try with_reducible rfl)
    try simp only [Act.put, List.getElem_toArray, List.getElem_cons_zero, List.getElem_cons_succ, List.setIfInBounds_toArray, List.set_cons_zero, List.set_cons_succ]
    refine wpAnyH_take (i := 1) (v := ?_) rfl (by kernel_rfl) (by kernel_rfl) (by kernel_rfl) (fun _ _ _ h => h) (Or.inl ⟨by rfl, ?_⟩) (by assumption) ?_
    rotate_left; · (intro w hSw; (try dsimp only at hSw); go_simp; try with_reducible rfl)
    try simp only [Act.put, List.getElem_toArray, List.getElem_cons_zero, List.getElem_cons_succ, List.setIfInBounds_toArray, List.set_cons_zero, List.set_cons_succ]
    refine wpAnyH_take (i := 2) (v := ?_) rfl (by kernel_rfl) (by kernel_rfl) (by kernel_rfl) (fun _ _ _ h => h) (Or.inl ⟨by rfl, ?_⟩) (by assumption) ?_
    rotate_left; · (intro w hSw; (try dsimp only at hSw); go_simp; try with_reducible rfl)
    try simp only [Act.put, List.getElem_toArray, List.getElem_cons_zero, List.getElem_cons_succ, List.setIfInBounds_toArray, List.set_cons_zero, List.set_cons_succ]
    refine wpAnyH_take (i := 3) (v := ?_) rfl (by kernel_rfl) (by kernel_rfl) (by kernel_rfl) (fun _ _ _ h => h) (Or.inl ⟨by rfl, ?_⟩) (by assumption) ?_
    rotate_left; · (intro w hSw; (try dsimp only at hSw); go_simp; try with_reducible rfl)
    try simp only [Act.put, List.getElem_toArray, List.getElem_cons_zero, List.getElem_cons_succ, List.setIfInBounds_toArray, List.set_cons_zero, List.set_cons_succ]
    refine wpAnyH_take (i := 4) (v := ?_) rfl (by kernel_rfl) (by kernel_rfl) (by kernel_rfl) (fun _ _ _ h => h) (Or.inl ⟨by rfl, ?_⟩) (by assumption) ?_
    rotate_left; · (intro w hSw; (try dsimp only at hSw); go_simp; try with_reducible rfl)
    try simp only [Act.put, List.getElem_toArray, List.getElem_cons_zero, List.getElem_cons_succ, List.setIfInBounds_toArray, List.set_cons_zero, List.set_cons_succ]
    refine wpAnyH_take (i := 5) (v := ?_) rfl (by kernel_rfl) (by kernel_rfl) (by kernel_rfl) (fun _ _ _ h => h) (Or.inl ⟨by rfl, ?_⟩) (by assumption) ?_
    rotate_left; · (intro w hSw; (try dsimp only at hSw); go_simp; try with_reducible rfl)
    try simp only [Act.put, List.getElem_toArray, List.getElem_cons_zero, List.getElem_cons_succ, List.setIfInBounds_toArray, List.set_cons_zero, List.set_cons_succ]
    refine wpAnyH_take (i := 6) (v := ?_) rfl (by kernel_rfl) (by kernel_rfl) (by kernel_rfl) (fun _ _ _ h => h) (Or.inl ⟨by rfl, ?_⟩) (by assumption) ?_
    rotate_left; · (intro w hSw; (try dsimp only at hSw); go_simp; try with_reducible rfl)
    try simp only [Act.put, List.getElem_toArray, List.getElem_cons_zero, List.getElem_cons_succ, List.setIfInBounds_toArray, List.set_cons_zero, List.set_cons_succ]
    refine wpAnyH_take (i := 7) (v := ?_) rfl (by kernel_rfl) (by kernel_rfl) (by kernel_rfl) (fun _ _ _ h => h) (Or.inl ⟨by rfl, ?_⟩) (by assumption) ?_
    rotate_left; · (intro w hSw; (try dsimp only at hSw); go_simp; try with_reducible rfl)
    try simp only [Act.put, List.getElem_toArray, List.getElem_cons_zero, List.getElem_cons_succ, List.setIfInBounds_toArray, List.set_cons_zero, List.set_cons_succ]
    refine wpAnyH_take (i := 8) (v := ?_) rfl (by kernel_rfl) (by kernel_rfl) (by kernel_rfl) (fun _ _ _ h => h) (Or.inl ⟨by rfl, ?_⟩) (by assumption) ?_
    rotate_left; · (intro w hSw; (try dsimp only at hSw); go_simp; try with_reducible rfl)
    try simp only [Act.put, List.getElem_toArray, List.getElem_cons_zero, List.getElem_cons_succ, List.setIfInBounds_toArray, List.set_cons_zero, List.set_cons_succ]
    refine wpAnyH_take (i := 9) (v := ?_) rfl (by kernel_rfl) (by kernel_rfl) (by kernel_rfl) (fun _ _ _ h => h) (Or.inl ⟨by rfl, ?_⟩) (by assumption) ?_
    rotate_left; · (intro w hSw; (try dsimp only at hSw); go_simp; try with_reducible rfl)
    try simp only [Act.put, List.getElem_toArray, List.getElem_cons_zero, List.getElem_cons_succ, List.setIfInBounds_toArray, List.set_cons_zero, List.set_cons_succ]
    refine wpAnyH_take (i := 10) (v := ?_) rfl (by kernel_rfl) (by kernel_rfl) (by kernel_rfl) (fun _ _ _ h => h) (Or.inl ⟨by rfl, ?_⟩) (by assumption) ?_
    rotate_left; · (intro w hSw; (try dsimp only at hSw); go_simp; try with_reducible rfl)
    try simp only [Act.put, List.getElem_toArray, List.getElem_cons_zero, List.getElem_cons_succ, List.setIfInBounds_toArray, List.set_cons_zero, List.set_cons_succ]
    refine wpAnyH_take (i := 11) (v := ?_) rfl (by kernel_rfl) (by kernel_rfl) (by kernel_rfl) (fun _ _ _ h => h) (Or.inl ⟨by rfl, ?_⟩) (by assumption) ?_
    rotate_left; · (intro w hSw; (try dsimp only at hSw); go_simp; try with_reducible rfl)
    try simp only [Act.put, List.getElem_toArray, List.getElem_cons_zero, List.getElem_cons_succ, List.setIfInBounds_toArray, List.set_cons_zero, List.set_cons_succ]
    refine wpAnyH_take (i := 12) (v := ?_) rfl (by kernel_rfl) (by kernel_rfl) (by kernel_rfl) (fun _ _ _ h => h) (Or.inl ⟨by rfl, ?_⟩) (by assumption) ?_
    rotate_left; · (intro w hSw; (try dsimp only at hSw); go_simp; try with_reducible rfl)
    try simp only [Act.put, List.getElem_toArray, List.getElem_cons_zero, List.getElem_cons_succ, List.setIfInBounds_toArray, List.set_cons_zero, List.set_cons_succ]
    refine wpAnyH_done (by kernel_rfl) ?_ _
    clear hHeld p5 hlk m0
    have CLF := Lib.hid (fun W2 (h : Below w.heap.size w W2) => left_any k W2 (HST.out.below h) hk)
    rw [hat] at CLF
    go_wp2_with fail
    have hA2 : Below W.heap.size W (W.alloc (.cells #[.string id, .int .i64 vault, .int .i64 block, .int .i64 data, .int .i64 total, .slice qa ql qc] 50)) := (Below.refl _ _).alloc (Nat.le_refl _) _
    have hwW := hA.size
    have hA3 := hA.trans (hA2.mono hwW)
    refine (CLF.out _ hA3).mono ?_
    rintro e w3 ⟨u1, u2, rfl, o1, o2, hb3⟩
    have hz2 : (W.alloc (.cells #[.string id, .int .i64 vault, .int .i64 block, .int .i64 data, .int .i64 total, .slice qa ql qc] 50)).heap.size = w.heap.size + 1 + 1 := by rw [World.size_alloc, hz]
    have t2 : (W.alloc (.cells #[.string id, .int .i64 vault, .int .i64 block, .int .i64 data, .int .i64 total, .slice qa ql qc] 50)).cell? ⟨w.heap.size + 1, 2, none⟩ = some (.int .i64 block) := by rw [← hz]; exact cell_of_row _ _ 2 _ _ _ (heap_alloc_new _ _)
    have t3 : (W.alloc (.cells #[.string id, .int .i64 vault, .int .i64 block, .int .i64 data, .int .i64 total, .slice qa ql qc] 50)).cell? ⟨w.heap.size + 1, 3, none⟩ = some (.int .i64 data) := by rw [← hz]; exact cell_of_row _ _ 3 _ _ _ (heap_alloc_new _ _)
    have hb4 := hA2.trans (hb3.mono hA2.size)
    have m1 := (hb4.cell (p := ⟨w.heap.size, 1, none⟩) (cell_lt m1)).trans m1
    have m2 := (hb4.cell (p := ⟨w.heap.size, 2, none⟩) (cell_lt m2)).trans m2
    have m3 := (hb4.cell (p := ⟨w.heap.size, 3, none⟩) (cell_lt m3)).trans m3
    have m4 := (hb4.cell (p := ⟨w.heap.size, 4, none⟩) (cell_lt m4)).trans m4
    have t2 := (hb3.cell (p := ⟨w.heap.size + 1, 2, none⟩) (cell_lt t2)).trans t2
    have t3 := (hb3.cell (p := ⟨w.heap.size + 1, 3, none⟩) (cell_lt t3)).trans t3
    have hbw := hA.trans (hb4.mono hwW)
    have al1 : (leftI gone zs).length ≤ 16 := by omega
    have al2 : (otherI gone zs).length ≤ 16 := Nat.le_trans (otherTo_len gone zs zs.length) a8
    have CO := Lib.hid (contains_any u2 _ ix w3 (OwnI.reads o2 (by omega)))
    have HL := Lib.hid (OwnI.reads o1 (by omega))
    obtain ⟨la, lc, rfl⟩ := OwnI.slice o1
    obtain ⟨oa, oc, rfl⟩ := OwnI.slice o2
    have CAN := Lib.hid (fun W2 (h : Below w.heap.size w W2) => can_any k dst W2 (HST.out.below h) hk)
    generalize hll : (leftI gone zs).length = ll at *
    generalize hol : (otherI gone zs).length = ol at *
    clear o1 o2 hA2 hA3 hb3 hz2 hb4 CLF hA hz b2 b3 b4 b5 b6 b7 p1 c1 c5
    by_cases k1 : ix ∈ otherI gone zs
    rotate_left
    · obtain rfl : r = false := by rw [HRR.out, decide_eq_false k1]; rfl
      rw [decide_eq_false k1] at CO
      clear k1
      go_wp2_with fail
      refine CO.out.mono ?_
      rintro e w4 ⟨rfl, rfl⟩
      go_wp2
      go_ret
      exact ⟨rfl, hbw⟩
    rw [decide_eq_true k1] at CO
    have hrr := HRR.out
    rw [decide_eq_true k1, Bool.true_and] at hrr
    have HR2 := Lib.hid hrr
    clear hrr HRR k1
    by_cases k2 : (fs.length : Int) = data
    rotate_left
    · obtain rfl : r = false := by rw [HR2.out, decide_eq_false k2]; rfl
      have q2 : ((fs.length : Int) != data) = true := by simpa using k2
      clear k2
      go_wp2_with fail
      refine CO.out.mono ?_
      rintro e w4 ⟨rfl, rfl⟩
      go_wp2
      go_ret
      exact ⟨rfl, hbw⟩
    have hrr := HR2.out
    rw [decide_eq_true k2, Bool.true_and] at hrr
    have HR3 := Lib.hid hrr
    have q2 : ((fs.length : Int) != data) = false := by simpa using k2
    have K2 := Lib.hid k2
    clear hrr HR2 k2
    by_cases k3 : size = block
    rotate_left
    · obtain rfl : r = false := by rw [HR3.out, decide_eq_false k3]; rfl
      have q3 : (size != block) = true := by simpa using k3
      clear k3
      go_wp2_with fail
      refine CO.out.mono ?_
      rintro e w4 ⟨rfl, rfl⟩
      go_wp2
      go_ret
      exact ⟨rfl, hbw⟩
    have hrr := HR3.out
    rw [decide_eq_true k3, Bool.true_and] at hrr
    have HR4 := Lib.hid hrr
    have q3 : (size != block) = false := by simpa using k3
    clear hrr HR3 k3
    go_wp2_with fail
    refine CO.out.mono ?_
    rintro e w4 ⟨rfl, rfl⟩
    clear CO
    go_wp2
    clear q2 q3 t2 t3 m1 m4
    go_loop [64, 10, 11] (fun v64 _ _ => ∃ j : Nat, j ≤ fs.length ∧ v64 = .int .i64 j ∧ ∀ i, i < j → FrAt (leftI gone zs) fs i) (fun v64 _ _ => fs.length - (intOf v64).toNat)
    case atStart => exact ⟨0, Nat.zero_le _, rfl, fun i hi => by omega⟩
    case round =>
      obtain ⟨j, hj, rfl, hfr⟩ := hrel
      have HFR := Lib.hid hfr
      clear hfr
      by_cases hlt : j < fs.length
      · obtain ⟨e1, e2⟩ := FC.out j hlt
        subst e1
        have hno : ¬ ((0 < j → fs.getD (j - 1) 0 < fs.getD j 0) ∧ fs.getD j 0 ∈ leftI gone zs) → r = false := fun h => by
          rw [HR4.out, show decide (FrOk (leftI gone zs) fs) = false from decide_eq_false fun hh => h (hh j hlt)]; rfl
        have hall : ((0 < j → fs.getD (j - 1) 0 < fs.getD j 0) ∧ fs.getD j 0 ∈ leftI gone zs) → ∀ i, i < j + 1 → FrAt (leftI gone zs) fs i := fun h i hi => by
          by_cases e : i = j
          · subst e; exact h
          · exact HFR.out i (by omega)
        have HNO := Lib.hid hno
        have HALL := Lib.hid hall
        rw [← hbw.cell (p := ⟨fb, _, none⟩) (cell_lt e2)] at e2
        clear hno hall
        match j, hlt, hj, e2, HNO, HALL, HFR with
        | 0, hlt, hj, e2, HNO, HALL, HFR =>
          simp only [Nat.add_zero] at e2
          generalize fs.getD 0 0 = y at e2 HNO HALL
          have CY := Lib.hid (contains_any (.slice la ll lc) _ y w3 HL.out)
          have KK := Lib.hid (show 0 < 0 → y < y from fun h => absurd h (by omega))
          simp only [Int.ofNat_zero]
          by_cases k2 : y ∈ leftI gone zs
          · rw [decide_eq_true k2] at CY
            have hall := HALL.out ⟨KK.out, k2⟩
            have HA := Lib.hid hall
            clear k2 hall
            go_wp2_with fail
            refine CY.out.mono ?_
            rintro e w5 ⟨rfl, rfl⟩
            go_wp2
            go_round
            case rel => exact ⟨0 + 1, by omega, by go_num, HA.out⟩
            case measure => simp [intOf]; omega
          · rw [decide_eq_false k2] at CY
            obtain rfl := HNO.out fun h => k2 h.2
            clear k2
            go_wp2_with fail
            refine CY.out.mono ?_
            rintro e w5 ⟨rfl, rfl⟩
            go_wp2
            go_ret
            exact ⟨rfl, hbw⟩
        | m + 1, hlt, hj, e2, HNO, HALL, HFR =>
          obtain ⟨_, e3⟩ := FC.out m (by omega)
          rw [← hbw.cell (p := ⟨fb, _, none⟩) (cell_lt e3)] at e3
          have hms : m + 1 - 1 = m := rfl
          rw [hms] at HNO HALL
          clear hms
          generalize fs.getD (m + 1) 0 = y at e2 HNO HALL
          generalize fs.getD m 0 = x at e3 HNO HALL
          have CY := Lib.hid (contains_any (.slice la ll lc) _ y w3 HL.out)
          simp only [Int.natCast_add, Int.natCast_one]
          by_cases k1 : x < y
          · have KK := Lib.hid (show 0 < m + 1 → x < y from fun _ => k1)
            have q1 : decide (y ≤ x) = false := decide_eq_false (by omega)
            clear k1
            by_cases k2 : y ∈ leftI gone zs
            · rw [decide_eq_true k2] at CY
              have hall := HALL.out ⟨KK.out, k2⟩
              have HA := Lib.hid hall
              clear k2 hall
              go_wp2_with fail
              refine CY.out.mono ?_
              rintro e w5 ⟨rfl, rfl⟩
              go_wp2
              go_round
              case rel => exact ⟨m + 1 + 1, by omega, by go_num, HA.out⟩
              case measure => simp [intOf]; omega
            · rw [decide_eq_false k2] at CY
              obtain rfl := HNO.out fun h => k2 h.2
              clear k2
              go_wp2_with fail
              refine CY.out.mono ?_
              rintro e w5 ⟨rfl, rfl⟩
              go_wp2
              go_ret
              exact ⟨rfl, hbw⟩
          · obtain rfl := HNO.out fun h => k1 (h.1 (by omega))
            have q1 : decide (y ≤ x) = true := decide_eq_true (by omega)
            clear k1
            go_wp2
            go_ret
            exact ⟨rfl, hbw⟩
      · have hjl : j = fs.length := by omega
        subst hjl
        have hrr := HR4.out
        rw [show decide (FrOk (leftI gone zs) fs) = true from decide_eq_true HFR.out, Bool.true_and] at hrr
        subst hrr
        go_wp2_with fail
        refine (CAN.out _ hbw).mono ?_
        rintro e w5 ⟨rfl, hb5⟩
        go_wp2
        go_ret
        exact ⟨rfl, hbw.trans (hb5.mono hbw.size)⟩

end Go.Proofs.Ytijcicgbhcphjaa
