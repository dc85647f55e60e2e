/- do, walked. -/
import Derived.Test.YtijcicgbhcphjaaD2
namespace Go.Proofs.Ytijcicgbhcphjaa
open Go.RowKit Go.Lib Go.ChangeMaps
set_option linter.unusedSimpArgs false

def Jp.v (j : Jp) (fv : Value) : Value := .agg #[.string j.pc.st, .int .i64 j.pc.ix, fv, .int .i64 j.to, .int .i64 j.size]

theorem lookPlace {w : World} {mp : Nat} {V : Vp} (h : w.heap[mp]? = some (mapObj encS (placesL V.held 0))) (s : ByteArray) {k : Nat} (hf : findP V.held s = some k) :
    (Instr.lookup 94 (.map (some mp)) (.string s) false).run Try.prog w = .ok (.int .i64 k) w := by
  have := key_str.lookup0 (tm := 94) (te := 3) Try.underlying94 (z := .int .i64 0) (fun w => by kernel_rfl) h s
  rw [this, seek_places, hf]
  simp

set_option maxRecDepth 100000 in
set_option maxHeartbeats 4000000 in
theorem do_any {lo hi p : Nat} {V : Vp} {gone : Nat → Bool} (j : Jp) (fv : Value) (w : World) (hst : StAt w lo hi p V gone) (hj : possB V gone j = true) (hfv : ∃ a n c, fv = .slice a n c) (hlo : lo ≤ w.heap.size) (hhi : hi ≤ w.heap.size) :
    Calls Try.prog 48 #[.pointer (some ⟨p, 0, none⟩), j.v fv] w fun e w' => e = .returned (.tuple #[]) ∧ StAt w' lo hi p (doP V j) gone ∧ Keep lo hi w w' := by
  obtain ⟨k, hf, h1, h2, h3, h4, h5⟩ := possB_some hj
  obtain ⟨c1, c2, c3, c4, c5⟩ := canB_true h5
  obtain ⟨i, hix, hil, hig⟩ := mem_otherI.1 h1
  obtain ⟨hk, hid⟩ := findP_some hf
  have hok' := doP_ok hst.2.1 hj
  obtain ⟨⟨mv, hv, rv, wv, gv, mp, xs, hs, ht1, ht2⟩, hok, hrf⟩ := hst
  obtain ⟨a1, a2, a3, a4, a5⟩ := hok.small
  have a6 := (a5 k hk).at_small.1
  have a7 : 1 ≤ (V.held.getD k default).block ∧ (V.held.getD k default).block ≤ 65536 := (a5 k hk).2.2.2.1
  have a8 : V.room.getD j.to.toNat 0 ≤ 1099511627776 := (hok.2.2.1.2 _ (by rw [getD_at _ _ _ (show j.to.toNat < V.room.length by omega)]; exact List.getElem_mem _)).2
  have hrf' : ∀ h ∈ (doP V j).held, h.refs.length ≤ 1000 := fun h hh => by
    unfold doP at hh
    rw [hf] at hh
    rcases List.mem_or_eq_of_mem_set (show h ∈ V.held.set _ _ from hh) with hh | rfl
    · exact hrf h hh
    · exact hrf (V.held.getD k default) (by rw [getD_at _ _ _ hk]; exact List.getElem_mem hk)
  have hdo : doP V j = setRoomP (setAtP V k i j.to) j.to.toNat (V.room.getD j.to.toNat 0 - j.size) := by
    unfold doP
    rw [hf, hix]
    rfl
  rw [hdo] at hok' hrf' ⊢
  obtain ⟨fa, fn, fc, rfl⟩ := hfv
  obtain ⟨⟨st, ix⟩, fs, dst, size⟩ := j
  simp only at hf hix c1 c2 c3 c4 c5 h3 a8 hdo hok' hrf' ⊢
  subst hix
  obtain ⟨t, rfl⟩ : ∃ t : Nat, dst = t := ⟨dst.toNat, by omega⟩
  simp only [Int.toNat_natCast] at a8 c4 hok' hrf' hdo ⊢
  subst h3
  have ht12 : t < V.mem.length := by omega
  unfold Jp.v
  simp only
  obtain ⟨bv, hbv⟩ : ∃ bv, bv = (V.held.getD k default).block := ⟨_, rfl⟩
  obtain ⟨rm, hrm⟩ : ∃ rm, rm = V.room.getD t 0 := ⟨_, rfl⟩
  rw [← hbv] at a7 c4 hok' hrf' ⊢
  rw [← hrm] at a8 c4 hok' hrf' ⊢
  have hA : Below w.heap.size w (w.alloc (.cells #[.string st, .int .i64 i, .slice fa fn fc, .int .i64 t, .int .i64 bv] 47)).drew := ((Below.refl w.heap.size w).alloc (Nat.le_refl _) _).drew
  have hsW := hs.below hA
  have m0 : (w.alloc (.cells #[.string st, .int .i64 i, .slice fa fn fc, .int .i64 t, .int .i64 bv] 47)).drew.cell? ⟨w.heap.size, 0, none⟩ = some (.string st) := cell_of_row (w.alloc _) _ 0 _ _ _ (heap_alloc_new _ _)
  have m1 : (w.alloc (.cells #[.string st, .int .i64 i, .slice fa fn fc, .int .i64 t, .int .i64 bv] 47)).drew.cell? ⟨w.heap.size, 1, none⟩ = some (.int .i64 i) := cell_of_row (w.alloc _) _ 1 _ _ _ (heap_alloc_new _ _)
  have m3 : (w.alloc (.cells #[.string st, .int .i64 i, .slice fa fn fc, .int .i64 t, .int .i64 bv] 47)).drew.cell? ⟨w.heap.size, 3, none⟩ = some (.int .i64 t) := cell_of_row (w.alloc _) _ 3 _ _ _ (heap_alloc_new _ _)
  have m4 : (w.alloc (.cells #[.string st, .int .i64 i, .slice fa fn fc, .int .i64 t, .int .i64 bv] 47)).drew.cell? ⟨w.heap.size, 4, none⟩ = some (.int .i64 bv) := cell_of_row (w.alloc _) _ 4 _ _ _ (heap_alloc_new _ _)
  have hkW : Keep lo hi w (w.alloc (.cells #[.string st, .int .i64 i, .slice fa fn fc, .int .i64 t, .int .i64 bv] 47)).drew := Keep.of_below hA hlo
  obtain ⟨gh, ch, eh, -, -, hch, -, -, -⟩ := hsW.vw.h.set (i := k) (j := 0) hk (by omega) undef (fun i' j' => if i' = k ∧ j' = 0 then undef else hpCell V.held xs i' j') (fun _ _ _ _ => rfl)
  obtain ⟨ga, ca, ea, hca, hla, hza, fza, cca, hgap, hst2⟩ := hsW.setAt hk hil (t : Int)
  subst eh
  have hcA := hsW.vw.cellA hk
  rw [ea] at hcA
  have hgaN : ga ≠ w.heap.size := by
    have := ht2 k hk ga (by rw [ea]; rfl)
    omega
  have hgah : ga ≠ gh := fun e => own_apart' (hsW.vw.at_ k hk) hsW.vw.h (by decide) ga (by rw [ea]; rfl) (by rw [e]; rfl)
  have hgam : mp ≠ ga := fun e => own_ne_map (hsW.vw.at_ k hk) hsW.mpb (by rw [ea, e]; rfl)
  have hga_hi : ga < hi := ht2 k hk ga (by rw [ea]; rfl)
  have p1 : (w.alloc (.cells #[.string st, .int .i64 i, .slice fa fn fc, .int .i64 t, .int .i64 bv] 47)).drew.cell? ⟨p, 1, none⟩ = some (.slice (some ⟨gh, 0, none⟩) V.held.length ch) := cell_of_row _ p 1 _ _ _ hsW.blk
  have p5 : (w.alloc (.cells #[.string st, .int .i64 i, .slice fa fn fc, .int .i64 t, .int .i64 bv] 47)).drew.cell? ⟨p, 5, none⟩ = some (.map (some mp)) := cell_of_row _ p 5 _ _ _ hsW.blk
  have hlk := lookPlace hsW.mpb st hf
  have hlk2 : ∀ u, (Instr.lookup 94 (.map (some mp)) (.string st) false).run Try.prog ((w.alloc (.cells #[.string st, .int .i64 i, .slice fa fn fc, .int .i64 t, .int .i64 bv] 47)).drew.setCell ⟨ga, i, none⟩ u) = .ok (.int .i64 k) ((w.alloc (.cells #[.string st, .int .i64 i, .slice fa fn fc, .int .i64 t, .int .i64 bv] 47)).drew.setCell ⟨ga, i, none⟩ u) :=
    fun u => lookPlace ((setCell_other _ u hgam).trans hsW.mpb) st hf
  have hmz : (w.alloc (.cells #[.string st, .int .i64 i, .slice fa fn fc, .int .i64 t, .int .i64 bv] 47)).drew.heap.size = w.heap.size + 1 := World.size_alloc _ _
  have HLK2 := Lib.hid hlk2
  have HST2 := Lib.hid hst2
  have HB := Lib.hid hbv
  have HR := Lib.hid hrm
  have HDO := Lib.hid hdo
  have HOK := Lib.hid hok'
  have HRF := Lib.hid hrf'
  generalize hal : (V.held.getD k default).at_.length = al at *
  clear hlk2 hst2 hs hsW hbv hrm hdo hok' hrf' hok hrf h1 h2 h4 h5 hA hid
  go_enter Try.func48, Try.ntmps48
  go_upto_region 1 with fail
  refine wp_region_held_drew (S := fun w' => w'.cell? ⟨p, 1, none⟩ = some (.slice (some ⟨gh, 0, none⟩) V.held.length ch) ∧ w'.cell? ⟨p, 5, none⟩ = some (.map (some mp)) ∧ (Instr.lookup 94 (.map (some mp)) (.string st) false).run Try.prog w' = .ok (.int .i64 k) w' ∧ w'.cell? ⟨gh, k * 7 + 6, none⟩ = some (.slice (some ⟨ga, 0, none⟩) al ca) ∧ w'.cell? ⟨w.heap.size, 0, none⟩ = some (.string st) ∧ w'.cell? ⟨w.heap.size, 1, none⟩ = some (.int .i64 i) ∧ w'.cell? ⟨w.heap.size, 3, none⟩ = some (.int .i64 t)) (by kernel_rfl) ⟨p1, p5, hlk, hcA, m0, m1, m3⟩ (fun hHeld => ?_)
  generalize (w.alloc (.cells #[.string st, .int .i64 i, .slice fa fn fc, .int .i64 t, .int .i64 bv] 47)).drew = W at *
  clear hlk
  refine wpAnyH_take (i := 0) (v := ?_) rfl (by kernel_rfl) (by kernel_rfl) (by kernel_rfl) (fun _ _ _ h => h) (Or.inl ⟨by rfl, ?_⟩) (by assumption) ?_
  rotate_left; · (intro w hSw; (try dsimp only at hSw); go_simp; try with_reducible rfl)
  try simp only [Act.put, List.getElem_toArray, List.getElem_cons_zero, List.getElem_cons_succ, List.setIfInBounds_toArray, List.set_cons_zero, List.set_cons_succ]
  refine wpAnyH_take (i := 1) (v := ?_) rfl (by kernel_rfl) (by kernel_rfl) (by kernel_rfl) (fun _ _ _ h => h) (Or.inl ⟨by rfl, ?_⟩) (by assumption) ?_
  rotate_left; · (intro w hSw; (try dsimp only at hSw); go_simp; try with_reducible rfl)
  try simp only [Act.put, List.getElem_toArray, List.getElem_cons_zero, List.getElem_cons_succ, List.setIfInBounds_toArray, List.set_cons_zero, List.set_cons_succ]
  refine wpAnyH_take (i := 2) (v := ?_) rfl (by kernel_rfl) (by kernel_rfl) (by kernel_rfl) (fun _ _ _ h => h) (Or.inl ⟨by rfl, ?_⟩) (by assumption) ?_
  rotate_left; · (intro w hSw; (try dsimp only at hSw); go_simp; try with_reducible rfl)
  try simp only [Act.put, List.getElem_toArray, List.getElem_cons_zero, List.getElem_cons_succ, List.setIfInBounds_toArray, List.set_cons_zero, List.set_cons_succ]
  refine wpAnyH_take (i := 3) (v := ?_) rfl (by kernel_rfl) (by kernel_rfl) (by kernel_rfl) (fun _ _ _ h => h) (Or.inl ⟨by rfl, ?_⟩) (by assumption) ?_
  rotate_left; · (intro w hSw; (try dsimp only at hSw); go_simp; try with_reducible rfl)
  try simp only [Act.put, List.getElem_toArray, List.getElem_cons_zero, List.getElem_cons_succ, List.setIfInBounds_toArray, List.set_cons_zero, List.set_cons_succ]
  refine wpAnyH_take (i := 4) (v := ?_) rfl (by kernel_rfl) (by kernel_rfl) (by kernel_rfl) (fun _ _ _ h => h) (Or.inl ⟨by rfl, ?_⟩) (by assumption) ?_
  rotate_left; · (intro w hSw; (try dsimp only at hSw); go_simp; try with_reducible rfl)
  try simp only [Act.put, List.getElem_toArray, List.getElem_cons_zero, List.getElem_cons_succ, List.setIfInBounds_toArray, List.set_cons_zero, List.set_cons_succ]
  refine wpAnyH_take (i := 5) (v := ?_) rfl (by kernel_rfl) (by kernel_rfl) (by kernel_rfl) (fun _ _ _ h => h) (Or.inl ⟨by rfl, ?_⟩) (by assumption) ?_
  rotate_left; · (intro w hSw; (try dsimp only at hSw); go_simp; try with_reducible rfl)
  try simp only [Act.put, List.getElem_toArray, List.getElem_cons_zero, List.getElem_cons_succ, List.setIfInBounds_toArray, List.set_cons_zero, List.set_cons_succ]
  refine wpAnyH_take (i := 6) (v := ?_) rfl (by kernel_rfl) (by kernel_rfl) (by kernel_rfl) (fun _ _ _ h => h) (Or.inl ⟨by rfl, ?_⟩) (by assumption) ?_
  rotate_left; · (intro w hSw; (try dsimp only at hSw); go_simp; try with_reducible rfl)
  try simp only [Act.put, List.getElem_toArray, List.getElem_cons_zero, List.getElem_cons_succ, List.setIfInBounds_toArray, List.set_cons_zero, List.set_cons_succ]
  refine wpAnyH_take (i := 7) (v := ?_) rfl (by kernel_rfl) (by kernel_rfl) (by kernel_rfl) (fun _ _ _ h => h) (Or.inl ⟨by rfl, ?_⟩) (by assumption) ?_
  rotate_left; · (intro w hSw; (try dsimp only at hSw); go_simp; try with_reducible rfl)
  try simp only [Act.put, List.getElem_toArray, List.getElem_cons_zero, List.getElem_cons_succ, List.setIfInBounds_toArray, List.set_cons_zero, List.set_cons_succ]
  refine wpAnyH_take (i := 8) (v := ?_) rfl (by kernel_rfl) (by kernel_rfl) (by kernel_rfl) (fun _ _ _ h => h) (Or.inl ⟨by rfl, ?_⟩) (by assumption) ?_
  rotate_left; · (intro w hSw; (try dsimp only at hSw); go_simp; try with_reducible rfl)
  try simp only [Act.put, List.getElem_toArray, List.getElem_cons_zero, List.getElem_cons_succ, List.setIfInBounds_toArray, List.set_cons_zero, List.set_cons_succ]
  refine wpAnyH_take (i := 9) (v := ?_) rfl (by kernel_rfl) (by kernel_rfl) (by kernel_rfl) (fun _ _ _ h => h) (Or.inl ⟨by rfl, ?_⟩) (by assumption) ?_
  rotate_left; · (intro w hSw; (try dsimp only at hSw); go_simp; try with_reducible rfl)
  try simp only [Act.put, List.getElem_toArray, List.getElem_cons_zero, List.getElem_cons_succ, List.setIfInBounds_toArray, List.set_cons_zero, List.set_cons_succ]
  refine wpAnyH_take (i := 10) (v := ?_) rfl (by kernel_rfl) (by kernel_rfl) (by kernel_rfl) (fun _ _ _ h => h) (Or.inl ⟨by rfl, ?_⟩) (by assumption) ?_
  rotate_left; · (intro w hSw; (try dsimp only at hSw); go_simp; try with_reducible rfl)
  try simp only [Act.put, List.getElem_toArray, List.getElem_cons_zero, List.getElem_cons_succ, List.setIfInBounds_toArray, List.set_cons_zero, List.set_cons_succ]
  refine wpAnyH_take (i := 11) (v := ?_) rfl (by kernel_rfl) (by kernel_rfl) (by kernel_rfl) (fun _ _ _ h => h) (Or.inl ⟨by rfl, ?_⟩) (by assumption) ?_
  rotate_left; · (intro w hSw; (try dsimp only at hSw); go_simp; try with_reducible rfl)
  try simp only [Act.put, List.getElem_toArray, List.getElem_cons_zero, List.getElem_cons_succ, List.setIfInBounds_toArray, List.set_cons_zero, List.set_cons_succ]
  refine wpAnyH_take (i := 12) (v := ?_) rfl (by kernel_rfl) (by kernel_rfl) (by kernel_rfl) (fun _ _ _ h => h) (Or.inl ⟨by rfl, ?_⟩) (by assumption) ?_
  rotate_left; · (intro w hSw; (try dsimp only at hSw); go_simp; try with_reducible rfl)
  try simp only [Act.put, List.getElem_toArray, List.getElem_cons_zero, List.getElem_cons_succ, List.setIfInBounds_toArray, List.set_cons_zero, List.set_cons_succ]
  refine wpAnyH_take (i := 13) (v := ?_) rfl (by kernel_rfl) (by kernel_rfl) (by kernel_rfl) (fun _ _ _ h => h) (Or.inl ⟨by rfl, ?_⟩) (by assumption) ?_
  rotate_left; · (intro w hSw; (try dsimp only at hSw); go_simp; try with_reducible rfl)
  try simp only [Act.put, List.getElem_toArray, List.getElem_cons_zero, List.getElem_cons_succ, List.setIfInBounds_toArray, List.set_cons_zero, List.set_cons_succ]
  refine wpAnyH_take (i := 14) (v := ?_) rfl (by kernel_rfl) (by kernel_rfl) (by kernel_rfl) (fun _ _ _ h => h) (Or.inl ⟨by rfl, ?_⟩) (by assumption) ?_
  rotate_left; · (intro w hSw; (try dsimp only at hSw); go_simp; try with_reducible rfl)
  try simp only [Act.put, List.getElem_toArray, List.getElem_cons_zero, List.getElem_cons_succ, List.setIfInBounds_toArray, List.set_cons_zero, List.set_cons_succ]
  refine wpAnyH_take (i := 15) (v := ?_) rfl (by kernel_rfl) (by kernel_rfl) (by kernel_rfl) (fun _ _ _ h => h) (Or.inl ⟨by rfl, ?_⟩) (by assumption) ?_
  rotate_left; · (intro w hSw; (try dsimp only at hSw); go_simp; try with_reducible rfl)
  try simp only [Act.put, List.getElem_toArray, List.getElem_cons_zero, List.getElem_cons_succ, List.setIfInBounds_toArray, List.set_cons_zero, List.set_cons_succ]
  refine wpAnyH_take (i := 16) (v := ?_) rfl (by kernel_rfl) (by kernel_rfl) (by kernel_rfl) (fun _ _ _ h => h) (Or.inl ⟨by rfl, ?_⟩) (by assumption) ?_
  rotate_left; · (intro w hSw; (try dsimp only at hSw); go_simp; try with_reducible rfl)
  try simp only [Act.put, List.getElem_toArray, List.getElem_cons_zero, List.getElem_cons_succ, List.setIfInBounds_toArray, List.set_cons_zero, List.set_cons_succ]
  refine wpAnyH_take (i := 17) (v := ?_) rfl (by kernel_rfl) (by kernel_rfl) (by kernel_rfl) (fun _ _ _ h => h) (Or.inl ⟨by rfl, ?_⟩) (by assumption) ?_
  rotate_left; · (intro w hSw; (try dsimp only at hSw); go_simp; try with_reducible rfl)
  try simp only [Act.put, List.getElem_toArray, List.getElem_cons_zero, List.getElem_cons_succ, List.setIfInBounds_toArray, List.set_cons_zero, List.set_cons_succ]
  refine wpAnyH_take (i := 18) (v := ?_) rfl (by kernel_rfl) (by kernel_rfl) (by kernel_rfl) (fun _ _ _ h => h) (Or.inl ⟨by rfl, ?_⟩) (by assumption) ?_
  rotate_left; · (intro w hSw; (try dsimp only at hSw); go_simp; try with_reducible rfl)
  try simp only [Act.put, List.getElem_toArray, List.getElem_cons_zero, List.getElem_cons_succ, List.setIfInBounds_toArray, List.set_cons_zero, List.set_cons_succ]
  refine wpAnyH_take (i := 19) (v := ?_) rfl (by kernel_rfl) (by kernel_rfl) (by kernel_rfl) (fun _ _ _ h => h) (Or.inl ⟨by rfl, ?_⟩) (by assumption) ?_
  rotate_left; · (intro w hSw; (try dsimp only at hSw); go_simp; try with_reducible rfl)
  try simp only [Act.put, List.getElem_toArray, List.getElem_cons_zero, List.getElem_cons_succ, List.setIfInBounds_toArray, List.set_cons_zero, List.set_cons_succ]
  refine wpAnyH_take (i := 20) (v := ?_) rfl (by kernel_rfl) (by kernel_rfl) (by kernel_rfl) (fun _ _ _ h => h) (Or.inl ⟨by rfl, ?_⟩) (by assumption) ?_
  rotate_left; · (intro w hSw; (try dsimp only at hSw); go_simp; try with_reducible rfl)
  try simp only [Act.put, List.getElem_toArray, List.getElem_cons_zero, List.getElem_cons_succ, List.setIfInBounds_toArray, List.set_cons_zero, List.set_cons_succ]
  refine wpAnyH_take (i := 21) (v := ?_) rfl (by kernel_rfl) (by kernel_rfl) (by kernel_rfl) (fun _ _ _ h => h) (Or.inl ⟨by rfl, ?_⟩) (by assumption) ?_
  rotate_left; · (intro w hSw; (try dsimp only at hSw); go_simp; try with_reducible rfl)
  try simp only [Act.put, List.getElem_toArray, List.getElem_cons_zero, List.getElem_cons_succ, List.setIfInBounds_toArray, List.set_cons_zero, List.set_cons_succ]
  refine wpAnyH_ready (rs := [22]) (by kernel_rfl) (by simp) ?_
  refine AllReadyH.cons rfl (fun K hK => ?_) AllReadyH.nil
  go_simp
  refine hK.out _ _ ⟨(world_off hgap _ _).trans p1, (world_off hgap _ _).trans p5, HLK2.out _, (world_off hgah _ _).trans hcA, (world_off hgaN _ _).trans m0, (world_off hgaN _ _).trans m1, (world_off hgaN _ _).trans m3⟩ (fun hNew => ?_)
  clear hK K hNew hHeld
  try simp only [Act.put, List.getElem_toArray, List.getElem_cons_zero, List.getElem_cons_succ, List.setIfInBounds_toArray, List.set_cons_zero, List.set_cons_succ]
  refine wpAnyH_done (by kernel_rfl) ?_ _
  have hk2 := hkW.trans (Keep.set (hi := hi) (i := i) W (.int .i64 t) hla hga_hi)
  have hs2 := HST2.out.below (Below.refl _ _).drew
  have n3 : (W.setCell ⟨ga, i, none⟩ (.int .i64 t)).drew.cell? ⟨w.heap.size, 3, none⟩ = some (.int .i64 t) := (world_off hgaN i (.int .i64 t)).trans m3
  have n4 : (W.setCell ⟨ga, i, none⟩ (.int .i64 t)).drew.cell? ⟨w.heap.size, 4, none⟩ = some (.int .i64 bv) := (world_off hgaN i (.int .i64 t)).trans m4
  have hk3 : Keep lo hi w (W.setCell ⟨ga, i, none⟩ (.int .i64 t)).drew := ⟨hk2.1.drew, hk2.2⟩
  clear p1 p5 hcA m0 m1 m3 m4 hkW hk2 HLK2 HST2 fza cca hmz
  obtain ⟨gr, cr, er, hcr, hlr, hzr, fzr, ccr, hgrp, hst3⟩ := hs2.setRoom (show t < V.room.length by omega) (rm - bv)
  subst er
  have p2 := cell_of_row _ p 2 _ _ _ hs2.blk
  have ccr' : (W.setCell ⟨ga, i, none⟩ (.int .i64 t)).drew.cell? ⟨gr, t, none⟩ = some (.int .i64 rm) := ccr.trans (congrArg (fun x => some (Value.int .i64 x)) HR.out.symm)
  have hgr_hi : gr < hi := ht1 gr rfl
  have hgrN : gr ≠ w.heap.size := by omega
  have hrl : V.room.length = V.mem.length := a3
  have HST3 := Lib.hid hst3
  have hrl2 : t < V.room.length := by omega
  rw [show (setAtP V k i t).room.length = V.room.length from rfl] at p2 hcr
  clear hst3 hs2 ccr
  go_upto_region 2 with fail
  refine wp_region_held_drew (S := fun w' => w'.cell? ⟨p, 2, none⟩ = some (.slice (some ⟨gr, 0, none⟩) V.room.length cr) ∧ w'.cell? ⟨w.heap.size, 3, none⟩ = some (.int .i64 t) ∧ w'.cell? ⟨w.heap.size, 4, none⟩ = some (.int .i64 bv)) (by kernel_rfl) ⟨p2, n3, n4⟩ (fun hHeld => ?_)
  generalize (W.setCell ⟨ga, i, none⟩ (.int .i64 t)).drew = W2 at *
  refine wpAnyH_take (i := 0) (v := ?_) rfl (by kernel_rfl) (by kernel_rfl) (by kernel_rfl) (fun _ _ _ h => h) (Or.inl ⟨by rfl, ?_⟩) (by assumption) ?_
  rotate_left; · (intro w hSw; (try dsimp only at hSw); go_simp; try with_reducible rfl)
  try simp only [Act.put, List.getElem_toArray, List.getElem_cons_zero, List.getElem_cons_succ, List.setIfInBounds_toArray, List.set_cons_zero, List.set_cons_succ]
  refine wpAnyH_take (i := 1) (v := ?_) rfl (by kernel_rfl) (by kernel_rfl) (by kernel_rfl) (fun _ _ _ h => h) (Or.inl ⟨by rfl, ?_⟩) (by assumption) ?_
  rotate_left; · (intro w hSw; (try dsimp only at hSw); go_simp; try with_reducible rfl)
  try simp only [Act.put, List.getElem_toArray, List.getElem_cons_zero, List.getElem_cons_succ, List.setIfInBounds_toArray, List.set_cons_zero, List.set_cons_succ]
  refine wpAnyH_take (i := 2) (v := ?_) rfl (by kernel_rfl) (by kernel_rfl) (by kernel_rfl) (fun _ _ _ h => h) (Or.inl ⟨by rfl, ?_⟩) (by assumption) ?_
  rotate_left; · (intro w hSw; (try dsimp only at hSw); go_simp; try with_reducible rfl)
  try simp only [Act.put, List.getElem_toArray, List.getElem_cons_zero, List.getElem_cons_succ, List.setIfInBounds_toArray, List.set_cons_zero, List.set_cons_succ]
  refine wpAnyH_take (i := 3) (v := ?_) rfl (by kernel_rfl) (by kernel_rfl) (by kernel_rfl) (fun _ _ _ h => h) (Or.inl ⟨by rfl, ?_⟩) (by assumption) ?_
  rotate_left; · (intro w hSw; (try dsimp only at hSw); go_simp; try with_reducible rfl)
  try simp only [Act.put, List.getElem_toArray, List.getElem_cons_zero, List.getElem_cons_succ, List.setIfInBounds_toArray, List.set_cons_zero, List.set_cons_succ]
  refine wpAnyH_take (i := 4) (v := ?_) rfl (by kernel_rfl) (by kernel_rfl) (by kernel_rfl) (fun _ _ _ h => h) (Or.inl ⟨by rfl, ?_⟩) (by assumption) ?_
  rotate_left; · (intro w hSw; (try dsimp only at hSw); go_simp; try with_reducible rfl)
  try simp only [Act.put, List.getElem_toArray, List.getElem_cons_zero, List.getElem_cons_succ, List.setIfInBounds_toArray, List.set_cons_zero, List.set_cons_succ]
  refine wpAnyH_take (i := 5) (v := ?_) rfl (by kernel_rfl) (by kernel_rfl) (by kernel_rfl) (fun _ _ _ h => h) (Or.inl ⟨by rfl, ?_⟩) (by assumption) ?_
  rotate_left; · (intro w hSw; (try dsimp only at hSw); go_simp; try with_reducible rfl)
  try simp only [Act.put, List.getElem_toArray, List.getElem_cons_zero, List.getElem_cons_succ, List.setIfInBounds_toArray, List.set_cons_zero, List.set_cons_succ]
  refine wpAnyH_take (i := 6) (v := ?_) rfl (by kernel_rfl) (by kernel_rfl) (by kernel_rfl) (fun _ _ _ h => h) (Or.inl ⟨by rfl, ?_⟩) (by assumption) ?_
  rotate_left; · (intro w hSw; (try dsimp only at hSw); go_simp; try with_reducible rfl)
  try simp only [Act.put, List.getElem_toArray, List.getElem_cons_zero, List.getElem_cons_succ, List.setIfInBounds_toArray, List.set_cons_zero, List.set_cons_succ]
  refine wpAnyH_take (i := 7) (v := ?_) rfl (by kernel_rfl) (by kernel_rfl) (by kernel_rfl) (fun _ _ _ h => h) (Or.inl ⟨by rfl, ?_⟩) (by assumption) ?_
  rotate_left; · (intro w hSw; (try dsimp only at hSw); go_simp; try with_reducible rfl)
  try simp only [Act.put, List.getElem_toArray, List.getElem_cons_zero, List.getElem_cons_succ, List.setIfInBounds_toArray, List.set_cons_zero, List.set_cons_succ]
  refine wpAnyH_take (i := 9) (v := ?_) rfl (by kernel_rfl) (by kernel_rfl) (by kernel_rfl) (fun _ _ _ h => h) (Or.inl ⟨by rfl, ?_⟩) (by assumption) ?_
  rotate_left; · (intro w hSw; (try dsimp only at hSw); go_simp; try with_reducible rfl)
  try simp only [Act.put, List.getElem_toArray, List.getElem_cons_zero, List.getElem_cons_succ, List.setIfInBounds_toArray, List.set_cons_zero, List.set_cons_succ]
  refine wpAnyH_take (i := 10) (v := ?_) rfl (by kernel_rfl) (by kernel_rfl) (by kernel_rfl) (fun _ _ _ h => h) (Or.inl ⟨by rfl, ?_⟩) (by assumption) ?_
  rotate_left; · (intro w hSw; (try dsimp only at hSw); go_simp; try with_reducible rfl)
  try simp only [Act.put, List.getElem_toArray, List.getElem_cons_zero, List.getElem_cons_succ, List.setIfInBounds_toArray, List.set_cons_zero, List.set_cons_succ]
  refine wpAnyH_ready (rs := [8]) (by kernel_rfl) (by simp) ?_
  refine AllReadyH.cons rfl (fun K hK => ?_) AllReadyH.nil
  go_simp
  refine hK.out _ _ hHeld (fun hNew => ?_)
  clear hK K hNew
  try simp only [Act.put, List.getElem_toArray, List.getElem_cons_zero, List.getElem_cons_succ, List.setIfInBounds_toArray, List.set_cons_zero, List.set_cons_succ]
  refine wpAnyH_take (i := 11) (v := ?_) rfl (by kernel_rfl) (by kernel_rfl) (by kernel_rfl) (fun _ _ _ h => h) (Or.inl ⟨by rfl, ?_⟩) (by assumption) ?_
  rotate_left; · (intro w hSw; (try dsimp only at hSw); go_simp; try with_reducible rfl)
  try simp only [Act.put, List.getElem_toArray, List.getElem_cons_zero, List.getElem_cons_succ, List.setIfInBounds_toArray, List.set_cons_zero, List.set_cons_succ]
  refine wpAnyH_take (i := 12) (v := ?_) rfl (by kernel_rfl) (by kernel_rfl) (by kernel_rfl) (fun _ _ _ h => h) (Or.inl ⟨by rfl, ?_⟩) (by assumption) ?_
  rotate_left; · (intro w hSw; (try dsimp only at hSw); go_simp; try with_reducible rfl)
  try simp only [Act.put, List.getElem_toArray, List.getElem_cons_zero, List.getElem_cons_succ, List.setIfInBounds_toArray, List.set_cons_zero, List.set_cons_succ]
  refine wpAnyH_ready (rs := [13]) (by kernel_rfl) (by simp) ?_
  refine AllReadyH.cons rfl (fun K hK => ?_) AllReadyH.nil
  go_simp
  refine hK.out _ _ ⟨(world_off hgrp _ _).trans p2, (world_off hgrN _ _).trans n3, (world_off hgrN _ _).trans n4⟩ (fun hNew => ?_)
  clear hK K hNew hHeld
  try simp only [Act.put, List.getElem_toArray, List.getElem_cons_zero, List.getElem_cons_succ, List.setIfInBounds_toArray, List.set_cons_zero, List.set_cons_succ]
  refine wpAnyH_done (by kernel_rfl) ?_ _
  go_wp2
  have hwr : IntKind.i64.wrap (rm - bv) = rm - bv := by rw [IntKind.wrap_i64]; omega
  rw [hwr]
  have hfin := HST3.out
  have hpl : placesL V.held 0 = placesL (setRoomP (setAtP V k i t) t (rm - bv)).held 0 := (placesL_congr _ _ _ setAt_ids).symm
  rw [hpl] at hfin
  have hk4 := hk3.trans (Keep.set (hi := hi) (i := t) W2 (.int .i64 (rm - bv)) hlr hgr_hi)
  refine bodyPost_end (results_none Try.results48 _ _ _) rfl ⟨rfl, ⟨⟨_, _, _, _, _, _, xs, hfin, fun g hg => ht1 g hg, fun m hm g hg => ht2 m (by rw [show (setRoomP (setAtP V k i t) t (rm - bv)).held.length = V.held.length from setAt_len] at hm; exact hm) g hg⟩, HOK.out, HRF.out⟩, hk4⟩

end Go.Proofs.Ytijcicgbhcphjaa
