/- Rank. -/
import Derived.Test.YtednejckcdiebaaS3
import Derived.Test.YtednejckcdiebaaA
namespace Go.Proofs.Ytednejckcdiebaa
open Go.RowKit Go.Lib Go.ChangeMaps Go.Sort
set_option linter.unusedSimpArgs false

theorem ownsRow_not_map {w : World} {base : Nat} {e : TypeId} {v : Value} {n : Nat} {xs : List Value} (h : w.ownsRow base e 1 v n xs) {b : Nat} {es : Array MapEntry} {q : Nat} (hb : w.heap[b]? = some (.map es q)) : v.ownBlock ≠ some b := by
  intro hv
  rcases h.2 with ⟨rfl, _⟩ | ⟨g, cap, cur, rfl, _, h4, _⟩
  · cases hv
  · cases hv; rw [hb] at h4; cases h4
theorem ownsRow_not_cells {w : World} {base : Nat} {e : TypeId} {v : Value} {n : Nat} {xs : List Value} (h : w.ownsRow base e 1 v n xs) {b : Nat} {cs : Array Value} {t : TypeId} {fr : Nat × Nat} (hb : w.heap[b]? = some (.cells cs t fr)) (ht : t ≠ e) : v.ownBlock ≠ some b := by
  intro hv
  rcases h.2 with ⟨rfl, _⟩ | ⟨g, cap, cur, rfl, _, h4, _⟩
  · cases hv
  · cases hv; rw [hb] at h4; cases h4; exact ht rfl

theorem below_setBlock {B : Nat} {a w : World} (h : Below B a w) {b : Nat} (hb : B ≤ b) (o : Obj) : Below B a (setBlock w b o) :=
  ⟨h.os, h.tape, h.output, by rw [setBlock_size]; exact h.size, fun i hi => by rw [setBlock_off _ _ (by omega)]; exact h.block i hi⟩
abbrev encI : Int → Value := fun i => .int .i64 i

theorem sort_rank (zs : List Int) (base : Nat) (u : Value) (W : World) (hown : W.ownsRow base 3 1 u zs.length (zs.map (.int .i64))) (hn : zs.length ≤ 1000000) (hnd : zs.Nodup) (wb m : Nat) (ps : List (Int × Int))
    (h0 : W.heap[wb]? = some (.cells #[.map (some m)] 97)) (h1 : W.heap[m]? = some (mapObj (fun i : Int => Value.int .i64 i) (wmap ps))) :
    Calls Try.prog 58 #[u, .func (.func 59) #[] #[.pointer (some ⟨wb, 0, none⟩)]] W fun e w' => e = .returned (.tuple #[]) ∧ ∃ us : List Int, us.Perm zs ∧ us.Pairwise (fun x y => wat ps y < wat ps x ∨ wat ps x = wat ps y ∧ x < y) ∧ w'.ownsRow base 3 1 u us.length (us.map (.int .i64)) ∧ W.grownBy w' u.ownBlock := by
  have hne1 := ownsRow_not_cells hown h0 (by decide)
  have hne2 := ownsRow_not_map hown h1
  rcases hown.2 with ⟨rfl, hz⟩ | ⟨g, cap, cur, rfl, hb, hblk, hcap, hmax, hsz, htake⟩
  · have hd0 : zs = [] := List.length_eq_zero_iff.1 hz
    subst hd0
    refine (AnyF.slices_SortFunc_none { Try.laysSort with } none 0 (.func (.func 59) #[] #[.pointer (some ⟨wb, 0, none⟩)]) W).mono ?_
    rintro e w' ⟨rfl, rfl⟩
    exact ⟨rfl, [], List.Perm.refl _, List.Pairwise.nil, hown, grown_refl _ _⟩
  · have hblt := (Array.getElem?_eq_some_iff.1 hblk).1
    rw [Nat.mul_one] at htake
    have hH := holds_of_blockI hblk htake
    have eg : ∀ args w, (callFunc 59 args).run Try.prog w = .ok (.enter 59 args) w := enters_of Try.func59 (by kernel_rfl) rfl
    have hcmp : CmpLays1 Try.prog 59 #[.pointer (some ⟨wb, 0, none⟩)] (Value.int .i64) (cfW ps) g 0 zs.toArray.size W := fun mm os dk hdk x y => by
      have hgb : W.grownBy (sortWorld (Value.int .i64) W g 0 mm dk os) (some g) := grownBy_sortedI dk
      refine closure_any wb m ps x y _ ?_ ?_
      · rw [cell_of_block ((hgb.block wb (Array.getElem?_eq_some_iff.1 h0).1 hne1.symm).trans h0)]; rfl
      · exact (hgb.block m (Array.getElem?_eq_some_iff.1 h1).1 hne2.symm).trans h1
    have hcon := Any.slices_SortFunc_total Try.laysSort (Value.int .i64) (fun _ => rfl) (cfW ps) (swoW ps) 59 #[.pointer (some ⟨wb, 0, none⟩)] g 0 cap zs.toArray W eg hcmp hH hblt (by rw [List.size_toArray]; omega) (totW ps)
    rw [List.size_toArray] at hcon
    refine Calls.mono hcon ?_
    rintro e w' ⟨rfl, n, os, rfl⟩
    have hperm := List.mergeSort_perm zs (fun x y => !(ltOf (cfW ps)) y x)
    have hsorted : (List.mergeSort zs (fun x y => !(ltOf (cfW ps)) y x)).Pairwise (fun x y => (!(ltOf (cfW ps)) y x) = true) := by
      refine List.pairwise_mergeSort (fun a b c h1 h2 => ?_) (fun a b => ?_) _
      · simp only [Bool.not_eq_true'] at *
        exact (swoW ps).ntrans _ _ _ h2 h1
      · cases h : ltOf (cfW ps) b a with
        | false => rfl
        | true =>
          cases h' : ltOf (cfW ps) a b with
          | false => rfl
          | true => have := (swoW ps).trans _ _ _ h h'; rw [(swoW ps).irrefl] at this; cases this
    have hnd2 := hperm.nodup_iff.2 hnd
    show _ ∧ _
    refine ⟨rfl, List.mergeSort zs (fun x y => !(ltOf (cfW ps)) y x), hperm, ?_, ?_, ?_⟩
    · refine (hsorted.and hnd2).imp fun {x y} h => ?_
      obtain ⟨h, hxy⟩ := h
      rw [ltW] at h
      simp only [Bool.not_eq_true', decide_eq_false_iff_not] at h
      omega
    · have := ownsRow_sortedI (n := n) (os := os) hperm.length_eq hb hblk hcap hmax hsz
      rw [hperm.length_eq]
      exact this
    · exact grownBy_sortedI _

/-- The devices below j but a. -/
def othL (j : Nat) (a : Int) : List Int := ((List.range j).map fun i : Nat => (i : Int)).filter fun x => decide (x ≠ a)
theorem othL_succ (j : Nat) (a : Int) : othL (j + 1) a = othL j a ++ if (j : Int) = a then [] else [(j : Int)] := by
  unfold othL
  rw [List.range_succ, List.map_append, List.filter_append]
  congr 1
  by_cases h : (j : Int) = a <;> simp [h]
theorem othL_len (j : Nat) (a : Int) : (othL j a).length ≤ j := by
  unfold othL
  have := List.length_filter_le (fun x => decide (x ≠ a)) ((List.range j).map fun i : Nat => (i : Int))
  simpa using this
theorem mem_othL {j : Nat} {a x : Int} : x ∈ othL j a ↔ (0 ≤ x ∧ x < j) ∧ x ≠ a := by
  unfold othL
  simp only [List.mem_filter, List.mem_map, List.mem_range, decide_eq_true_eq]
  constructor
  · rintro ⟨⟨i, hi, rfl⟩, h⟩; exact ⟨by omega, h⟩
  · rintro ⟨h, h2⟩; exact ⟨⟨x.toNat, by omega, by omega⟩, h2⟩
theorem othL_nodup (j : Nat) (a : Int) : (othL j a).Nodup := by
  unfold othL
  refine List.Pairwise.filter _ ?_
  rw [List.pairwise_map]
  exact List.nodup_range.imp fun {x y} h e => h (by omega)
theorem othL_length (j : Nat) (a : Int) (h0 : 0 ≤ a) (h1 : a < j) : (othL j a).length + 1 = j := by
  induction j with
  | zero => omega
  | succ i ih =>
    rw [othL_succ]
    by_cases h : (i : Int) = a
    · have : othL i a = (List.range i).map fun i : Nat => (i : Int) := by
        unfold othL
        refine List.filter_eq_self.2 fun x hx => ?_
        obtain ⟨y, hy, rfl⟩ := List.mem_map.1 hx
        have := List.mem_range.1 hy
        simp only [decide_eq_true_eq]
        omega
      simp [h, this]
    · have := ih (by omega)
      simp [h]; omega
def wtD (M : Days) (d a b : Int) : Int := heft (win (M (min a b) (max a b)) (d - 168 + 1) d) d
def wps (M : Days) (d a : Int) (j : Nat) : List (Int × Int) := (othL j a).map fun b => (b, wtD M d a b)
theorem wps_wat {M : Days} {d a : Int} {j : Nat} {x : Int} (hx : x ∈ othL j a) : wat (wps M d a j) x = wtD M d a x := by
  unfold wat wps
  generalize othL j a = l at hx
  induction l with
  | nil => simp at hx
  | cons y r ih =>
    simp only [List.map_cons, List.find?_cons]
    by_cases h : x = y
    · subst h; simp
    · simp only [h, decide_false]
      exact ih ((List.mem_cons.1 hx).resolve_left h)
theorem wmap_succ (M : Days) (d a : Int) (j : Nat) (h : ¬ (j : Int) = a) : wmap (wps M d a (j + 1)) = wmap (wps M d a j) ++ [((j : Int), .int .i64 (wtD M d a j))] := by
  unfold wmap wps
  rw [othL_succ, if_neg h]
  simp
theorem wps_stay (M : Days) (d a : Int) (j : Nat) (h : (j : Int) = a) : wps M d a (j + 1) = wps M d a j := by
  unfold wps
  rw [othL_succ, if_pos h, List.append_nil]
theorem wmap_fresh (M : Days) (d a : Int) (j : Nat) : (j : Int) ∉ (wmap (wps M d a j)).map (·.1) := by
  intro h
  simp only [wmap, wps, List.map_map, List.mem_map] at h
  obtain ⟨x, hx, e⟩ := h
  have := (mem_othL.1 hx).1
  simp only [Function.comp] at e
  omega

set_option maxRecDepth 100000 in
set_option maxHeartbeats 16000000 in
theorem Rank_ok (F : Nat → Prop) (k nn : Nat) (N : Int) (M : Days) (w : World) (hB : IsBook w F k nn N M) (hR : Rise N M) (a d : Int) (h2 : nn ≤ 12) (ha0 : 0 ≤ a) (ha1 : a < nn) (hd0 : 0 ≤ d) (hd1 : d ≤ 999999) :
    Calls Try.prog 33 #[.pointer (some ⟨k, 0, none⟩), .int .i64 a, .int .i64 d] w fun e w' => ∃ v rs, e = .returned (.tuple #[v, .int .i64 0]) ∧ Reads w' v rs ∧ rs.Perm (othL nn a) ∧ rs.Pairwise (fun x y => wtD M d a y < wtD M d a x ∨ wtD M d a x = wtD M d a y ∧ x < y) ∧ Below w.heap.size w w' := by
  have e1 : decide (0 ≤ a ∧ a < (nn : Int)) = true := by simp [*]
  have e3 : decide (0 ≤ d ∧ d ≤ 999999) = true := by simp [*]
  have HW := Lib.hid (fun W (h : Below w.heap.size w W) p q => weight_any F k nn N M W (hB.below h) hR p q d hd0 hd1)
  have HK0 := Lib.hid (fun W (h : Below w.heap.size w W) => IsBook.cell0 (hB.below h))
  have hk0 := hB.cell0
  have HOR := Lib.hid (fun x y W => ordered_any x y W)
  clear hB hR
  have hmm := @run_makeMap Try.prog
  go_enter Try.func33, Try.ntmps33
  go_upto_region 5 with (first | (go_at_call 56; refine (has_any k nn _ _ hk0).mono ?_; rintro e w' ⟨rfl, rfl⟩) | (go_at_call 57; refine (validDay_any _ _).mono ?_; rintro e w' ⟨rfl, rfl⟩))
  have hA : Below w.heap.size w ((w.alloc (.map #[] 0)).alloc (.cells #[.map (some w.heap.size)] 97)) := (sb0 _).trans ((sb0 _).mono (by rw [World.size_alloc]; omega))
  have hcm : ((w.alloc (.map #[] 0)).alloc (.cells #[.map (some w.heap.size)] 97)).heap[w.heap.size]? = some (.map #[] 0) := bb (sb0 _) (heap_alloc_new w _)
  have hcw : ((w.alloc (.map #[] 0)).alloc (.cells #[.map (some w.heap.size)] 97)).heap[w.heap.size + 1]? = some (.cells #[.map (some w.heap.size)] 97) := by
    have := heap_alloc_new (w.alloc (.map #[] 0)) (.cells #[.map (some w.heap.size)] 97)
    rw [World.size_alloc] at this
    exact this
  obtain ⟨wb, hwb⟩ : ∃ wb, wb = w.heap.size + 1 := ⟨_, rfl⟩
  obtain ⟨m, hm⟩ : ∃ m, m = w.heap.size := ⟨_, rfl⟩
  rw [← hwb] at hcw ⊢
  rw [← hm] at hcw hcm ⊢
  have HCM := Lib.hid hcm
  have HCW := Lib.hid hcw
  have HA0 := Lib.hid hA
  rw [← hm] at HA0
  have HWM := Lib.hid (show wb = m + 1 by omega)
  have HM := Lib.hid hm
  clear hcm hcw hA hwb hk0 hmm hm
  generalize (w.alloc (.map #[] 0)).alloc (.cells #[.map (some m)] 97) = w1 at *
  have hk1 := HK0.out w1 (by rw [← HM.out]; exact HA0.out)
  go_wp2
  go_loopw [8, 10, 25] (fun v8 _ v25 wr => ∃ j : Nat, j ≤ nn ∧ v25 = .int .i64 j ∧ Below m w wr ∧ wr.ownsRow (wb + 1) 3 1 v8 (othL j a).length ((othL j a).map (.int .i64)) ∧ wr.heap[wb]? = some (.cells #[.map (some m)] 97) ∧ wr.heap[m]? = some (mapObj (fun i : Int => Value.int .i64 i) (wmap (wps M d a j)))) (fun _ _ v25 _ => nn - (intOf v25).toNat)
  case atStart => exact ⟨0, Nat.zero_le _, rfl, HA0.out, World.ownsRow_nil _ _ _ _, HCW.out, HCM.out⟩
  case round =>
    obtain ⟨j, hj, rfl, hbel, hown, hcw, hcm⟩ := hrel
    have HB := Lib.hid hbel
    have HO := Lib.hid hown
    have HCW2 := Lib.hid hcw
    have HCM2 := Lib.hid hcm
    have HSZ := Lib.hid (show wb + 1 ≤ wr.heap.size from (Array.getElem?_eq_some_iff.1 hcw).1)
    clear hbel hown hcw hcm hk1
    by_cases hlt : j < nn
    · by_cases hja : (j : Int) = a
      · have p1 : ((j : Int) != a) = false := by simp [hja]
        have HL := Lib.hid (show othL (j + 1) a = othL j a by rw [othL_succ, if_pos hja, List.append_nil])
        have HPS := Lib.hid (wps_stay M d a j hja)
        clear hja
        go_wp2
        go_roundw
        case rel => exact ⟨j + 1, by omega, by go_num, HB.out, by rw [HL.out]; exact HO.out, HCW2.out, by rw [HPS.out]; exact HCM2.out⟩
        case measure => simp [intOf]; omega
      · have p1 : ((j : Int) != a) = true := by simp [hja]
        have HL := Lib.hid (show othL (j + 1) a = othL j a ++ [(j : Int)] by rw [othL_succ, if_neg hja])
        have HPS := Lib.hid (wmap_succ M d a j hja)
        clear hja
        obtain ⟨v6, w6, r6, o6, b6⟩ := append_int (j : Int) HO.out (by have := othL_len j a; omega) HSZ.out
        have HO6 := Lib.hid o6
        have HB6 := Lib.hid (HB.out.trans (b6.mono (by have := HWM.out; omega)))
        have HCW6 := Lib.hid ((b6.block wb (by omega)).trans HCW2.out)
        have HCM6 := Lib.hid ((b6.block m (by have := HWM.out; omega)).trans HCM2.out)
        have HS6 := Lib.hid (Nat.le_trans HSZ.out b6.size)
        obtain ⟨a6, l6, c6, hv6⟩ : ∃ a l c, v6 = .slice a l c := by
          rcases o6.2 with ⟨rfl, _⟩ | ⟨g, cap, cur, rfl, _⟩
          · exact ⟨_, _, _, rfl⟩
          · exact ⟨_, _, _, rfl⟩
        subst hv6
        obtain ⟨a7, l7, c7, hv7⟩ : ∃ a l c, u8 = .slice a l c := by
          rcases HO.out.2 with ⟨rfl, _⟩ | ⟨g, cap, cur, rfl, _⟩
          · exact ⟨_, _, _, rfl⟩
          · exact ⟨_, _, _, rfl⟩
        subst hv7
        clear o6 b6
        go_upto_region 10 with (at_builtin; refine wpList_append_run (by rfl) (.tmp 31) (.tmp 33) 39 (by rfl) _ (.slice (some ⟨wr.heap.size, 0, none⟩) 1 1) (.slice a6 l6 c6) w6 (by rfl) (by rfl) r6 ?_)
        have c0 : w6.cell? ⟨wb, 0, none⟩ = some (.map (some m)) := by rw [cell_of_block HCW6.out]; rfl
        clear r6
        have hbd : Below w6.heap.size w6 w6.drew := (Below.refl _ _).drew
        have HOD := Lib.hid (HO6.out)
        have HBD := Lib.hid HB6.out.drew
        have HCWD := Lib.hid (bb hbd HCW6.out)
        have HCMD := Lib.hid (bb hbd HCM6.out)
        have HOD := Lib.hid (ownsRow_same HO6.out (fun g hg => hbd.block g (HO6.out.lt g hg).2))
        have HSD := Lib.hid (Nat.le_trans HS6.out hbd.size)
        clear hbd
        have HSB0 : ∀ w' : World, Below (w6).drew.heap.size (w6).drew w' → (w'.cell? ⟨wb, 0, none⟩ = some (.map (some m))) := fun w' hb => bc hb c0
        refine wp_region_held_drew (S := fun w' => w'.cell? ⟨wb, 0, none⟩ = some (.map (some m))) (by kernel_rfl) (HSB0 _ (Below.refl _ _)) (fun hHeld => ?_)
        have HSB := Lib.hid HSB0
        clear HSB0
        generalize (w6).drew = Wd at *
        clear c0
        refine wpAnyH_take (i := 0) (v := ?_) rfl (by kernel_rfl) (by kernel_rfl) (by kernel_rfl) (fun _ _ _ h => h) (Or.inl ⟨by rfl, ?_⟩) (by assumption) ?_
        rotate_left; · (intro w hSw; (try dsimp only at hSw); go_simp; try with_reducible rfl)
        try simp only [Act.put, List.getElem_toArray, List.getElem_cons_zero, List.getElem_cons_succ, List.setIfInBounds_toArray, List.set_cons_zero, List.set_cons_succ]
        refine wpAnyH_take (i := 1) (v := ?_) rfl (by kernel_rfl) (by kernel_rfl) (by kernel_rfl) (fun _ _ _ h => h) (Or.inl ⟨by rfl, ?_⟩) (by assumption) ?_
        rotate_left; · (intro w hSw; (try dsimp only at hSw); go_simp; try with_reducible rfl)
        try simp only [Act.put, List.getElem_toArray, List.getElem_cons_zero, List.getElem_cons_succ, List.setIfInBounds_toArray, List.set_cons_zero, List.set_cons_succ]
        refine wpAnyH_take (i := 2) (v := ?_) rfl (by kernel_rfl) (by kernel_rfl) (by kernel_rfl) (fun _ _ _ h => h) (Or.inl ⟨by rfl, ?_⟩) (by assumption) ?_
        rotate_left; · (intro w hSw; (try dsimp only at hSw); go_simp; try with_reducible rfl)
        try simp only [Act.put, List.getElem_toArray, List.getElem_cons_zero, List.getElem_cons_succ, List.setIfInBounds_toArray, List.set_cons_zero, List.set_cons_succ]
        refine wpAnyH_take (i := 3) (v := ?_) rfl (by kernel_rfl) (by kernel_rfl) (by kernel_rfl) (fun _ _ _ h => h) (Or.inl ⟨by rfl, ?_⟩) (by assumption) ?_
        rotate_left; · (intro w hSw; (try dsimp only at hSw); go_simp; try with_reducible rfl)
        try simp only [Act.put, List.getElem_toArray, List.getElem_cons_zero, List.getElem_cons_succ, List.setIfInBounds_toArray, List.set_cons_zero, List.set_cons_succ]
        refine wpAnyH_take (i := 4) (v := ?_) rfl (by kernel_rfl) (by kernel_rfl) (by kernel_rfl) (fun _ _ _ h => h) (Or.inl ⟨by rfl, ?_⟩) (by assumption) ?_
        rotate_left; · (intro w hSw; (try dsimp only at hSw); go_simp; try with_reducible rfl)
        try simp only [Act.put, List.getElem_toArray, List.getElem_cons_zero, List.getElem_cons_succ, List.setIfInBounds_toArray, List.set_cons_zero, List.set_cons_succ]
        refine wpAnyH_take (i := 6) (v := ?_) rfl (by kernel_rfl) (by kernel_rfl) (by kernel_rfl) (fun _ _ _ h => h) (Or.inl ⟨by rfl, ?_⟩) (by assumption) ?_
        rotate_left; · (intro w hSw; (try dsimp only at hSw); go_simp; try with_reducible rfl)
        try simp only [Act.put, List.getElem_toArray, List.getElem_cons_zero, List.getElem_cons_succ, List.setIfInBounds_toArray, List.set_cons_zero, List.set_cons_succ]
        refine wpAnyH_ready (rs := [5]) (by kernel_rfl) (by simp) ?_
        refine AllReadyH.cons rfl (fun K hK => ?_) AllReadyH.nil
        go_simp
        refine (HOR.out a j _).mono ?_; rintro e w7 ⟨rfl, hb7⟩
        go_wp2_with fail
        refine hK.out _ _ (HSB.out _ hb7) (fun hNew => ?_)
        clear hK K hHeld
        have hHeld := hNew
        clear hNew
        try simp only [Act.put, List.getElem_toArray, List.getElem_cons_zero, List.getElem_cons_succ, List.setIfInBounds_toArray, List.set_cons_zero, List.set_cons_succ]
        refine wpAnyH_ready (rs := [7]) (by kernel_rfl) (by simp) ?_
        refine AllReadyH.cons rfl (fun K hK => ?_) AllReadyH.nil
        go_simp
        refine (HW.out w7 (by rw [← HM.out]; exact HBD.out.trans (hb7.mono (by rw [HM.out]; exact HBD.out.size))) (min a j) (max a j)).mono ?_; rintro e w8 ⟨rfl, hb8⟩
        go_wp2_with fail
        refine hK.out _ _ (HSB.out _ (hb7.trans (hb8.mono hb7.size))) (fun hNew => ?_)
        clear hK K hHeld
        have hHeld := hNew
        clear hNew
        try simp only [Act.put, List.getElem_toArray, List.getElem_cons_zero, List.getElem_cons_succ, List.setIfInBounds_toArray, List.set_cons_zero, List.set_cons_succ]
        have hb78 := hb7.trans (hb8.mono hb7.size)
        have HCW8 := Lib.hid (bb hb78 HCWD.out)
        have HCM8 := Lib.hid (bb hb78 HCMD.out)
        have HO8 := Lib.hid (ownsRow_same HOD.out (fun g hg => hb78.block g (HOD.out.lt g hg).2))
        have HB8 := Lib.hid (HBD.out.trans (hb78.mono (by rw [HM.out]; exact HBD.out.size)))
        have hrun := KeyOk.update key_int Try.underlying97 HCM8.out (j : Int) (.int .i64 (wtD M d a j)) (wmap_fresh M d a j)
        unfold wtD at hrun
        refine wpAnyH_ready (rs := [8]) (by kernel_rfl) (by simp) ?_
        refine AllReadyH.cons rfl (fun K hK => ?_) AllReadyH.nil
        go_simp
        refine hK.out _ _ (by rw [cell_setBlock (by have := HWM.out; omega)]; exact HSB.out _ hb78) (fun hNew => ?_)
        clear hK K hHeld
        have hHeld := hNew
        clear hNew
        try simp only [Act.put, List.getElem_toArray, List.getElem_cons_zero, List.getElem_cons_succ, List.setIfInBounds_toArray, List.set_cons_zero, List.set_cons_succ]
        refine wpAnyH_done (by kernel_rfl) ?_ _
        clear hHeld HSB hrun hb7 hb8 hb78
        have HBF := Lib.hid (fun o => below_setBlock HB8.out (Nat.le_refl m) o)
        have HOF := Lib.hid (fun o => ownsRow_same (w' := setBlock w8 m o) HO8.out (fun g hg => setBlock_off _ _ (fun e => ownsRow_not_map HO8.out HCM8.out (e ▸ hg))))
        have HCWF := Lib.hid (fun o => (setBlock_off w8 o (show wb ≠ m by have := HWM.out; omega)).trans HCW8.out)
        have HCMF := Lib.hid (fun o => setBlock_at (w := w8) (b := m) (Array.getElem?_eq_some_iff.1 HCM8.out).1 o)
        rw [← HL.out] at HOF
        go_wp2
        go_roundw
        case rel => exact ⟨j + 1, by omega, by go_num, HBF.out _, HOF.out _, HCWF.out _, by rw [HPS.out]; exact HCMF.out _⟩
        case measure => simp [intOf]; omega
    · have hjn : j = nn := by omega
      subst hjn
      have CS := Lib.hid (sort_rank _ _ _ wr HO.out (by have := othL_len j a; omega) (othL_nodup j a) wb m (wps M d a j) HCW2.out HCM2.out)
      obtain ⟨a7, l7, c7, hv7⟩ : ∃ a l c, u8 = .slice a l c := by
        rcases HO.out.2 with ⟨rfl, _⟩ | ⟨g, cap, cur, rfl, _⟩
        · exact ⟨_, _, _, rfl⟩
        · exact ⟨_, _, _, rfl⟩
      subst hv7
      have hmf : ∀ (fn : Fn) (first cap : Array Value) (w : World), (Instr.makeFunc fn first cap).run Try.prog w = .ok (.func fn first cap) w := fun _ _ _ _ => rfl
      go_wp2_with fail
      refine CS.out.mono ?_
      rintro e w7 ⟨rfl, us, hp, hs, ho, hg⟩
      have HR := Lib.hid (reads_of_row (ownsRow_zero ho))
      have HP := Lib.hid hp
      have HS := Lib.hid (show us.Pairwise (fun x y => wtD M d a y < wtD M d a x ∨ wtD M d a x = wtD M d a y ∧ x < y) from by
        refine (List.Pairwise.and_mem.1 hs).imp fun {x y} h => ?_
        obtain ⟨hx, hy, h⟩ := h
        rw [wps_wat (hp.mem_iff.1 hx), wps_wat (hp.mem_iff.1 hy)] at h
        exact h)
      have HBF := Lib.hid (show Below m w w7 from HB.out.trans ⟨hg.os, hg.tape, hg.output, hg.size, fun i hi => hg.block i (by have := HSZ.out; have := HWM.out; omega) (fun e => by have := (HO.out.lt i e.symm).1; have := HWM.out; omega)⟩)
      clear hp hs ho hg CS
      go_wp2
      go_ret2
      exact ⟨_, us, rfl, HR.out, HP.out, HS.out, by rw [← HM.out]; exact HBF.out⟩

theorem Rank_bad (k : Nat) (n : Int) (w : World) (hB : w.cell? ⟨k, 0, none⟩ = some (.int .i64 n)) (a d : Int) (hf : ¬ (0 ≤ a ∧ a < n ∧ 0 ≤ d ∧ d ≤ 999999)) :
    Calls Try.prog 33 #[.pointer (some ⟨k, 0, none⟩), .int .i64 a, .int .i64 d] w fun e w' => e = .returned (.tuple #[.slice none 0 0, .int .i64 1]) ∧ w = w' := by
  by_cases g1 : decide (0 ≤ a ∧ a < n) = true
  · have g2 : decide (0 ≤ d ∧ d ≤ 999999) = false := by simp at *; omega
    clear hf
    go_enter Try.func33, Try.ntmps33
    go_wp2_with (first | (go_at_call 56; refine (has_any k n _ _ hB).mono ?_; rintro e w' ⟨rfl, rfl⟩) | (go_at_call 57; refine (validDay_any _ _).mono ?_; rintro e w' ⟨rfl, rfl⟩))
    go_ret2
    exact ⟨rfl, rfl⟩
  · have g1 : decide (0 ≤ a ∧ a < n) = false := by simpa using g1
    clear hf
    go_enter Try.func33, Try.ntmps33
    go_wp2_with (go_at_call 56; refine (has_any k n _ _ hB).mono ?_; rintro e w' ⟨rfl, rfl⟩)
    go_ret2
    exact ⟨rfl, rfl⟩

end Go.Proofs.Ytednejckcdiebaa
