/- Remove, Len. -/
import Derived.Test.YtcgilfnhbliadaaT2
namespace Go.Proofs.Ytcgilfnhbliadaa
open Go.RowKit Go.Lib Go.ChangeMaps
set_option linter.unusedSimpArgs false

theorem QAt.look2 {w : World} {b m : Nat} {S : List Tk} (h : QAt w b m S) (a : Pc) : ∃ t : Tk, ∀ W : World, W.heap[m]? = w.heap[m]? → (Instr.lookup 82 (.map (some m)) a.v true).run Try.prog W = .ok (.tuple #[t.v, .bool (decide (a ∈ S.map Tk.pc))]) W := by
  obtain ⟨h1, L, ck, h2, h3, h4, h5, h6⟩ := h
  unfold qObj at h2
  have hm : a ∈ S.map Tk.pc ↔ a ∈ L.map (·.1.pc) := by
    have := (h6.map Tk.pc).mem_iff (a := a)
    rw [List.map_map] at this
    exact this.symm
  cases hs : seekQ a L 0 with
  | none =>
    have hno := seekQ_none.1 hs
    refine ⟨⟨⟨#[]⟩, 0, 0, 0, 0, 0, 0⟩, fun W hW => ?_⟩
    have hfk := findKey23 a L W
    rw [hs] at hfk
    rw [h2] at hW
    rw [decide_eq_false (fun h => hno (hm.1 h))]
    simp [Instr.lookup, run_underlying Try.underlying82, MapKept.run_getObj_map hW, chk23, hfk, Result.andThen, Try.zeroValue27]
    rfl
  | some p =>
    obtain ⟨k, x, hp1, hx1, hx2, hp2⟩ := seekQ_some hs
    refine ⟨x.1, fun W hW => ?_⟩
    have hfk := findKey23 a L W
    rw [hs] at hfk
    rw [h2] at hW
    rw [decide_eq_true (hm.2 (List.mem_map.2 ⟨x, List.mem_of_getElem? hx1, hx2⟩)), ← hp2]
    simp [Instr.lookup, run_underlying Try.underlying82, MapKept.run_getObj_map hW, chk23, hfk, Result.andThen]

set_option maxRecDepth 100000 in
set_option maxHeartbeats 8000000 in
theorem Len_any (b m : Nat) (S : List Tk) (w : World) (hq : QAt w b m S) :
    Calls Try.prog 31 #[.pointer (some ⟨b, 0, none⟩)] w fun e w' => e = .returned (.int .i64 S.length) ∧ w' = w := by
  obtain ⟨L, ck, h2, hl⟩ := hq.len
  have c0 : w.cell? ⟨b, 0, none⟩ = some (.map (some m)) := cell_of_row w _ 0 _ _ _ hq.1
  unfold qObj at h2
  have hlen : (Builtin.len_ #[82] 3 #[.map (some m)]).run Try.prog w = .ok (.int .i64 S.length) w := by
    simp [Builtin.len_, run_underlying Try.underlying82, MapKept.run_getObj_map h2, Result.andThen, qents, hl, goInt]
  clear hl h2
  go_enter Try.func31, Try.ntmps31
  go_wp2_with fail
  go_ret
  exact ⟨rfl, rfl⟩

set_option maxRecDepth 100000 in
set_option maxHeartbeats 8000000 in
theorem Remove_any (b m : Nat) (S : List Tk) (a : Pc) (w : World) (hq : QAt w b m S) :
    Calls Try.prog 33 #[.pointer (some ⟨b, 0, none⟩), a.v] w fun e w' => e = .returned (.bool (decide (a ∈ S.map Tk.pc))) ∧ QAt w' b m (delS a S) ∧ w.grownBy w' (some m) := by
  have HQ := Lib.hid hq
  have HBL := Lib.hid (Array.getElem?_eq_some_iff.1 hq.1).1
  have hne := hq.ne
  have HML := Lib.hid (show m < w.heap.size by obtain ⟨_, _, _, h2, _⟩ := hq; exact (Array.getElem?_eq_some_iff.1 h2).1)
  have HDEL := Lib.hid (fun W (h : QAt W b m S) => h.del a)
  have HLK := Lib.hid (fun W (h : QAt W b m S) => h.look2 a)
  obtain ⟨r, hr⟩ : ∃ r, r = decide (a ∈ S.map Tk.pc) := ⟨_, rfl⟩
  rw [← hr]
  rw [← hr] at HLK
  clear hq hr
  obtain ⟨aa, haa⟩ : ∃ aa, aa = a := ⟨_, rfl⟩
  have HAA := Lib.hid haa
  clear haa
  obtain ⟨ast, aix⟩ := a
  unfold Pc.v at HDEL HLK ⊢
  simp only at HDEL HLK ⊢
  have hA : Below w.heap.size w (w.alloc (.cells #[.string ast, .int .i64 aix] 23)) := sb0 _
  have HX := Lib.hid (heap_alloc_new w (.cells #[.string ast, .int .i64 aix] 23))
  have HQ1 := Lib.hid (HQ.out.below hA)
  obtain ⟨N, hN⟩ : ∃ N, N = w.heap.size := ⟨_, rfl⟩
  have HN := Lib.hid hN
  rw [← hN] at HX
  clear hN
  go_enter Try.func33, Try.ntmps33
  go_upto_region 1 with fail
  rw [← HN.out]
  have HBW := Lib.hid hA
  clear hA
  generalize w.alloc (.cells #[.string ast, .int .i64 aix] 23) = w1 at *
  have c0 : w1.cell? ⟨b, 0, none⟩ = some (.map (some m)) := cell_of_row w1 _ 0 _ _ _ HQ1.out.1
  have e0 := cell_of_row w1 _ 0 _ _ _ HX.out
  have e1 := cell_of_row w1 _ 1 _ _ _ HX.out
  obtain ⟨t, hlk⟩ := HLK.out _ HQ1.out
  have HML1 := Lib.hid (Nat.lt_of_lt_of_le HML.out HBW.out.size)
  have HS : ∀ W : World, Below w1.drew.heap.size w1.drew W → (W.cell? ⟨b, 0, none⟩ = some (.map (some m)) ∧ W.cell? ⟨N, 0, none⟩ = some (.string ast) ∧ W.cell? ⟨N, 1, none⟩ = some (.int .i64 aix)) ∧
      (Instr.lookup 82 (.map (some m)) (.agg #[.string ast, .int .i64 aix]) true).run Try.prog W = .ok (.tuple #[t.v, .bool r]) W := fun W hb =>
    ⟨⟨bc hb c0, bc hb e0, bc hb e1⟩, hlk W (hb.block m HML1.out)⟩
  clear hlk HLK
  have HQ2 := Lib.hid (HQ1.out.below (Below.refl _ w1).drew)
  have HBD := Lib.hid (HBW.out.drew)
  have HXD := Lib.hid (bb (Below.refl _ w1).drew HX.out)
  unfold Tk.v at HS
  refine wp_region_held_drew (S := fun W => (W.cell? ⟨b, 0, none⟩ = some (.map (some m)) ∧ W.cell? ⟨N, 0, none⟩ = some (.string ast) ∧ W.cell? ⟨N, 1, none⟩ = some (.int .i64 aix)) ∧
      (Instr.lookup 82 (.map (some m)) (.agg #[.string ast, .int .i64 aix]) true).run Try.prog W = .ok (.tuple #[.agg #[.string t.st, .int .i64 t.ix, .int .i64 t.size, .int .i64 t.spare, .int .i64 t.num, .int .i64 t.den, .int .i64 t.day], .bool r]) W) (by kernel_rfl) (HS _ (Below.refl _ _)) (fun hHeld => ?_)
  have HSB := Lib.hid HS
  clear HS c0 e0 e1
  generalize w1.drew = Wd at *
  refine wpAnyH_take (i := 0) (v := ?_) rfl (by kernel_rfl) (by kernel_rfl) (by kernel_rfl) (fun _ _ _ h => h) (Or.inl ⟨by rfl, ?_⟩) (by assumption) ?_
  rotate_left; · (intro w hSw; (try dsimp only at hSw); go_simp; try with_reducible rfl)
  try simp only [Act.put, List.getElem_toArray, List.getElem_cons_zero, List.getElem_cons_succ, List.setIfInBounds_toArray, List.set_cons_zero, List.set_cons_succ]
  refine wpAnyH_take (i := 1) (v := ?_) rfl (by kernel_rfl) (by kernel_rfl) (by kernel_rfl) (fun _ _ _ h => h) (Or.inl ⟨by rfl, ?_⟩) (by assumption) ?_
  rotate_left; · (intro w hSw; (try dsimp only at hSw); go_simp; try with_reducible rfl)
  try simp only [Act.put, List.getElem_toArray, List.getElem_cons_zero, List.getElem_cons_succ, List.setIfInBounds_toArray, List.set_cons_zero, List.set_cons_succ]
  refine wpAnyH_take (i := 2) (v := ?_) rfl (by kernel_rfl) (by kernel_rfl) (by kernel_rfl) (fun _ _ _ h => h) (Or.inl ⟨by rfl, ?_⟩) (by assumption) ?_
  rotate_left; · (intro w hSw; (try dsimp only at hSw); go_simp; try with_reducible rfl)
  try simp only [Act.put, List.getElem_toArray, List.getElem_cons_zero, List.getElem_cons_succ, List.setIfInBounds_toArray, List.set_cons_zero, List.set_cons_succ]
  refine wpAnyH_take (i := 3) (v := ?_) rfl (by kernel_rfl) (by kernel_rfl) (by kernel_rfl) (fun _ _ _ h => h) (Or.inl ⟨by rfl, ?_⟩) (by assumption) ?_
  rotate_left; · (intro w hSw; (try dsimp only at hSw); go_simp; try with_reducible rfl)
  try simp only [Act.put, List.getElem_toArray, List.getElem_cons_zero, List.getElem_cons_succ, List.setIfInBounds_toArray, List.set_cons_zero, List.set_cons_succ]
  refine wpAnyH_take (i := 4) (v := ?_) rfl (by kernel_rfl) (by kernel_rfl) (by kernel_rfl) (fun _ _ _ h => h) (Or.inl ⟨by rfl, ?_⟩) (by assumption) ?_
  rotate_left; · (intro w hSw; (try dsimp only at hSw); go_simp; try with_reducible rfl)
  try simp only [Act.put, List.getElem_toArray, List.getElem_cons_zero, List.getElem_cons_succ, List.setIfInBounds_toArray, List.set_cons_zero, List.set_cons_succ]
  refine wpAnyH_take (i := 5) (v := ?_) rfl (by kernel_rfl) (by kernel_rfl) (by kernel_rfl) (fun _ _ _ h => h) (Or.inl ⟨by rfl, ?_⟩) (by assumption) ?_
  rotate_left; · (intro w hSw; (try dsimp only at hSw); go_simp; try with_reducible rfl)
  try simp only [Act.put, List.getElem_toArray, List.getElem_cons_zero, List.getElem_cons_succ, List.setIfInBounds_toArray, List.set_cons_zero, List.set_cons_succ]
  refine wpAnyH_take (i := 6) (v := ?_) rfl (by kernel_rfl) (by kernel_rfl) (by kernel_rfl) (fun _ _ _ h => h) (Or.inl ⟨by rfl, ?_⟩) (by assumption) ?_
  rotate_left; · (intro w hSw; (try dsimp only at hSw); go_simp; try with_reducible rfl)
  try simp only [Act.put, List.getElem_toArray, List.getElem_cons_zero, List.getElem_cons_succ, List.setIfInBounds_toArray, List.set_cons_zero, List.set_cons_succ]
  refine wpAnyH_take (i := 7) (v := ?_) rfl (by kernel_rfl) (by kernel_rfl) (by kernel_rfl) (fun _ _ _ h => h) (Or.inl ⟨by rfl, ?_⟩) (by assumption) ?_
  rotate_left; · (intro w hSw; (try dsimp only at hSw); go_simp; try with_reducible rfl)
  try simp only [Act.put, List.getElem_toArray, List.getElem_cons_zero, List.getElem_cons_succ, List.setIfInBounds_toArray, List.set_cons_zero, List.set_cons_succ]
  refine wpAnyH_take (i := 8) (v := ?_) rfl (by kernel_rfl) (by kernel_rfl) (by kernel_rfl) (fun _ _ _ h => h) (Or.inl ⟨by rfl, ?_⟩) (by assumption) ?_
  rotate_left; · (intro w hSw; (try dsimp only at hSw); go_simp; try with_reducible rfl)
  try simp only [Act.put, List.getElem_toArray, List.getElem_cons_zero, List.getElem_cons_succ, List.setIfInBounds_toArray, List.set_cons_zero, List.set_cons_succ]
  have hC : Below Wd.heap.size Wd (Wd.alloc (.cells #[.string ⟨#[]⟩, .int .i64 0, .int .i64 0, .int .i64 0, .int .i64 0, .int .i64 0, .int .i64 0] 27)) := (Below.refl _ Wd).alloc (Nat.le_refl _) _
  refine wpAnyH_ready (rs := [9]) (by kernel_rfl) (by simp) ?_
  refine AllReadyH.cons rfl (fun K hK => ?_) AllReadyH.nil
  go_simp
  refine hK.out _ _ (HSB.out _ hC) (fun hNew => ?_)
  clear hK K hHeld
  have hHeld := hNew
  clear hNew
  try simp only [Act.put, List.getElem_toArray, List.getElem_cons_zero, List.getElem_cons_succ, List.setIfInBounds_toArray, List.set_cons_zero, List.set_cons_succ]
  refine wpAnyH_ready (rs := [10]) (by kernel_rfl) (by simp) ?_
  refine AllReadyH.cons rfl (fun K hK => ?_) AllReadyH.nil
  go_simp
  have hC2 : Below Wd.heap.size Wd (Wd.alloc (.cells #[.string t.st, .int .i64 t.ix, .int .i64 t.size, .int .i64 t.spare, .int .i64 t.num, .int .i64 t.den, .int .i64 t.day] 27)) := (Below.refl _ Wd).alloc (Nat.le_refl _) _
  refine hK.out _ _ (HSB.out _ hC2) (fun hNew => ?_)
  clear hK K hHeld hC
  have hHeld := hNew
  clear hNew
  try simp only [Act.put, List.getElem_toArray, List.getElem_cons_zero, List.getElem_cons_succ, List.setIfInBounds_toArray, List.set_cons_zero, List.set_cons_succ]
  refine wpAnyH_take (i := 11) (v := ?_) rfl (by kernel_rfl) (by kernel_rfl) (by kernel_rfl) (fun _ _ _ h => h) (Or.inl ⟨by rfl, ?_⟩) (by assumption) ?_
  rotate_left; · (intro w hSw; (try dsimp only at hSw); go_simp; try with_reducible rfl)
  try simp only [Act.put, List.getElem_toArray, List.getElem_cons_zero, List.getElem_cons_succ, List.setIfInBounds_toArray, List.set_cons_zero, List.set_cons_succ]
  refine wpAnyH_done (by kernel_rfl) ?_ _
  clear hHeld HSB
  have HQ3 := Lib.hid (HQ2.out.below hC2)
  have HX3 := Lib.hid (bb hC2 HXD.out)
  have HB3 := Lib.hid (HBD.out.trans (hC2.mono HBD.out.size))
  clear HQ2 HXD HBD hC2 HX HQ1 HBW HML1
  go_upto_region 2 with fail
  generalize Wd.alloc (.cells #[.string t.st, .int .i64 t.ix, .int .i64 t.size, .int .i64 t.spare, .int .i64 t.num, .int .i64 t.den, .int .i64 t.day] 27) = W2 at *
  have c0 : W2.cell? ⟨b, 0, none⟩ = some (.map (some m)) := cell_of_row W2 _ 0 _ _ _ HQ3.out.1
  have e0 := cell_of_row W2 _ 0 _ _ _ HX3.out
  have e1 := cell_of_row W2 _ 1 _ _ _ HX3.out
  obtain ⟨o, hrun, hq2⟩ := HDEL.out _ (HQ3.out.below (Below.refl _ W2).drew) 0
  have HQ4 := Lib.hid hq2
  have HB4 := Lib.hid (HB3.out.drew)
  have hNm : N ≠ m := by have := HML.out; have := HN.out; omega
  clear hq2
  have HSB0 : ∀ w' : World, Below (W2).drew.heap.size (W2).drew w' → (w'.cell? ⟨b, 0, none⟩ = some (.map (some m)) ∧ w'.cell? ⟨N, 0, none⟩ = some (.string ast) ∧ w'.cell? ⟨N, 1, none⟩ = some (.int .i64 aix)) := fun w' hb => ⟨bc hb c0, bc hb e0, bc hb e1⟩
  refine wp_region_held_drew (S := fun w' => w'.cell? ⟨b, 0, none⟩ = some (.map (some m)) ∧ w'.cell? ⟨N, 0, none⟩ = some (.string ast) ∧ w'.cell? ⟨N, 1, none⟩ = some (.int .i64 aix)) (by kernel_rfl) (HSB0 _ (Below.refl _ _)) (fun hHeld => ?_)
  have HSB := Lib.hid HSB0
  clear HSB0
  generalize (W2).drew = We at *
  clear c0 e0 e1
  refine wpAnyH_take (i := 0) (v := ?_) rfl (by kernel_rfl) (by kernel_rfl) (by kernel_rfl) (fun _ _ _ h => h) (Or.inl ⟨by rfl, ?_⟩) (by assumption) ?_
  rotate_left; · (intro w hSw; (try dsimp only at hSw); go_simp; try with_reducible rfl)
  try simp only [Act.put, List.getElem_toArray, List.getElem_cons_zero, List.getElem_cons_succ, List.setIfInBounds_toArray, List.set_cons_zero, List.set_cons_succ]
  refine wpAnyH_take (i := 1) (v := ?_) rfl (by kernel_rfl) (by kernel_rfl) (by kernel_rfl) (fun _ _ _ h => h) (Or.inl ⟨by rfl, ?_⟩) (by assumption) ?_
  rotate_left; · (intro w hSw; (try dsimp only at hSw); go_simp; try with_reducible rfl)
  try simp only [Act.put, List.getElem_toArray, List.getElem_cons_zero, List.getElem_cons_succ, List.setIfInBounds_toArray, List.set_cons_zero, List.set_cons_succ]
  refine wpAnyH_take (i := 2) (v := ?_) rfl (by kernel_rfl) (by kernel_rfl) (by kernel_rfl) (fun _ _ _ h => h) (Or.inl ⟨by rfl, ?_⟩) (by assumption) ?_
  rotate_left; · (intro w hSw; (try dsimp only at hSw); go_simp; try with_reducible rfl)
  try simp only [Act.put, List.getElem_toArray, List.getElem_cons_zero, List.getElem_cons_succ, List.setIfInBounds_toArray, List.set_cons_zero, List.set_cons_succ]
  refine wpAnyH_take (i := 3) (v := ?_) rfl (by kernel_rfl) (by kernel_rfl) (by kernel_rfl) (fun _ _ _ h => h) (Or.inl ⟨by rfl, ?_⟩) (by assumption) ?_
  rotate_left; · (intro w hSw; (try dsimp only at hSw); go_simp; try with_reducible rfl)
  try simp only [Act.put, List.getElem_toArray, List.getElem_cons_zero, List.getElem_cons_succ, List.setIfInBounds_toArray, List.set_cons_zero, List.set_cons_succ]
  refine wpAnyH_take (i := 4) (v := ?_) rfl (by kernel_rfl) (by kernel_rfl) (by kernel_rfl) (fun _ _ _ h => h) (Or.inl ⟨by rfl, ?_⟩) (by assumption) ?_
  rotate_left; · (intro w hSw; (try dsimp only at hSw); go_simp; try with_reducible rfl)
  try simp only [Act.put, List.getElem_toArray, List.getElem_cons_zero, List.getElem_cons_succ, List.setIfInBounds_toArray, List.set_cons_zero, List.set_cons_succ]
  refine wpAnyH_ready (rs := [5]) (by kernel_rfl) (by simp) ?_
  refine AllReadyH.cons rfl (fun K hK => ?_) AllReadyH.nil
  go_simp
  refine hK.out _ _ (by obtain ⟨x, y, z⟩ := HSB.out _ (Below.refl _ _); exact ⟨(cell_setBlock hne _).trans x, (cell_setBlock hNm _).trans y, (cell_setBlock hNm _).trans z⟩) (fun hNew => ?_)
  clear hK K hHeld
  have hHeld := hNew
  clear hNew
  try simp only [Act.put, List.getElem_toArray, List.getElem_cons_zero, List.getElem_cons_succ, List.setIfInBounds_toArray, List.set_cons_zero, List.set_cons_succ]
  refine wpAnyH_done (by kernel_rfl) ?_ _
  clear hHeld HSB hrun
  go_wp2
  go_ret
  exact ⟨rfl, HQ4.out, gb_set (gb_of HB4.out _) _⟩

end Go.Proofs.Ytcgilfnhbliadaa
