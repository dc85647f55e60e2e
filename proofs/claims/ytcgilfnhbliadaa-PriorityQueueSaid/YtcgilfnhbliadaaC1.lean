/- The law's plain, all, same, few, valid; valid lists; slices.Clone. -/
import Derived.Test.YtcgilfnhbliadaaB3
import Derived.Test.YtcgilfnhbliadaaP2
import Derived.Lib.SliceRun
namespace Go.Proofs.Ytcgilfnhbliadaa
open Go.RowKit Go.Lib Go.ChangeMaps
set_option linter.unusedSimpArgs false

set_option maxRecDepth 100000 in
set_option maxHeartbeats 2000000 in
theorem plain_any (t : Tk) (w : World) : Calls Try.prog 16 #[t.v] w fun e w' => e = .returned t.v ∧ Below w.heap.size w w' := by
  obtain ⟨tst, tix, tsz, tsp, tnum, tden, tday⟩ := t
  unfold Tk.v
  simp only
  go_enter Try.func16, Try.ntmps16
  have hr : ((w.alloc (.cells #[.string tst, .int .i64 tix, .int .i64 tsz, .int .i64 tsp, .int .i64 tnum, .int .i64 tden, .int .i64 tday] 27)).alloc (.cells #[.string tst, .int .i64 tix, .int .i64 tsz, .int .i64 tsp, .int .i64 tnum, .int .i64 tden, .int .i64 tday] 32)).heap[w.heap.size + 1]? = some (.cells #[.string tst, .int .i64 tix, .int .i64 tsz, .int .i64 tsp, .int .i64 tnum, .int .i64 tden, .int .i64 tday] 32) := by
    have := heap_alloc_new (w.alloc (.cells #[.string tst, .int .i64 tix, .int .i64 tsz, .int .i64 tsp, .int .i64 tnum, .int .i64 tden, .int .i64 tday] 27)) (.cells #[.string tst, .int .i64 tix, .int .i64 tsz, .int .i64 tsp, .int .i64 tnum, .int .i64 tden, .int .i64 tday] 32)
    rw [World.size_alloc] at this
    exact this
  have HR := Lib.hid hr
  clear hr
  go_wp2
  refine bodyPost_ret (results_cell_row (P := Try.prog) Try.results16 _ _ (w.heap.size + 1) 32 _ (0, 0) _ (by rfl) HR.out Try.underlying32 rfl (by kernel_rfl)) rfl ?_
  exact ⟨rfl, by (repeat' (first | (with_reducible exact Below.refl _ _) | (with_reducible assumption) | (with_reducible refine Below.alloc ?_ ?_ _) | (with_reducible refine Below.drew ?_) | (with_reducible refine below_drewN ?_ _) | (with_reducible refine Below.setCell ?_ ?_ _) | (with_reducible refine below_step ?_ (by with_reducible assumption) ?_) | go_size))⟩

set_option maxRecDepth 100000 in
set_option maxHeartbeats 4000000 in
theorem all_any (v : Value) (ts : List Tk) (w : World) (hj : ReadsT w v ts) (hts : ts.length ≤ 1000) :
    Calls Try.prog 20 #[v] w fun e w' => ∃ u, e = .returned u ∧ OwnT 32 w' w.heap.size u ts ∧ Below w.heap.size w w' := by
  obtain ⟨ja, jc, jb, jo, rfl, -, -, jcell⟩ := hj.at
  have JC := Lib.hid jcell
  clear jcell hj
  go_enter Try.func20, Try.ntmps20
  go_wp2
  go_loopw [9, 3, 5] (fun v9 v3 _ wr => ∃ i : Nat, i ≤ ts.length ∧ v9 = .int .i64 i ∧ Below w.heap.size w wr ∧ OwnT 32 wr w.heap.size v3 (ts.take i)) (fun v9 _ _ _ => ts.length - (intOf v9).toNat)
  case atStart => exact ⟨0, Nat.zero_le _, rfl, (Below.refl _ _).alloc (Nat.le_refl _) _, Own.lit0 _ _ _ _ _ (Nat.le_refl _)⟩
  case round =>
    obtain ⟨i, hi, rfl, hbel, hown⟩ := hrel
    have HO := Lib.hid hown
    have zr := hbel.size
    clear hown
    by_cases hlt : i < ts.length
    · obtain ⟨rfl, d0, d1, d2, d3, d4, d5, d6⟩ := JC.out i hlt
      have d0 := bc hbel d0
      have d1 := bc hbel d1
      have d2 := bc hbel d2
      have d3 := bc hbel d3
      have d4 := bc hbel d4
      have d5 := bc hbel d5
      have d6 := bc hbel d6
      have HTK := Lib.hid (show ts.take (i + 1) = ts.take i ++ [ts.getD i default] by rw [List.take_succ_eq_append_getElem hlt, getD_at _ _ _ hlt])
      have CJ := Lib.hid (fun W => plain_any (ts.getD i default) W)
      unfold Tk.v at CJ
      have HAP := Lib.hid (fun (W : World) (ho : OwnT 32 W w.heap.size u3 (ts.take i)) (hz : w.heap.size ≤ W.heap.size) => ho.app32 (ts.getD i default) (by rw [List.length_take]; omega) hz)
      generalize ts.getD i default = y at *
      obtain ⟨yst, yix, ysz, ysp, ynum, yden, yday⟩ := y
      simp only at d0 d1 d2 d3 d4 d5 d6 HAP CJ
      have hAl : Below wr.heap.size wr (wr.alloc (.cells #[.string yst, .int .i64 yix, .int .i64 ysz, .int .i64 ysp, .int .i64 ynum, .int .i64 yden, .int .i64 yday] 27)) := (Below.refl _ _).alloc (Nat.le_refl _) _
      go_wp2_with fail
      refine (CJ.out _).mono ?_
      rintro e w5 ⟨rfl, hb5⟩
      have hr5 := hAl.trans (hb5.mono hAl.size)
      have hbw5 := hbel.trans (hr5.mono zr)
      obtain ⟨v6, w6, r6, o6, b6, -⟩ := HAP.out w5 (HO.out.below hr5) hbw5.size
      rw [← HTK.out] at o6
      have HO6 := Lib.hid o6
      obtain ⟨a6, l6, c6, rfl⟩ := Own.slice o6
      clear o6 d0 d1 d2 d3 d4 d5 d6 HO HAP CJ
      go_wp2_with (at_builtin; refine wpList_append_run (by rfl) (.tmp 13) (.tmp 16) 41 (by rfl) _ (.slice (some ⟨w5.heap.size, 0, none⟩) 1 1) (.slice a6 l6 c6) w6 (by rfl) (by rfl) r6 ?_)
      go_roundw
      case rel => exact ⟨i + 1, by omega, by go_num, hbw5.trans b6, HO6.out⟩
      case measure => simp [intOf]; omega
    · have HT := Lib.hid (show ts.take i = ts from List.take_of_length_le (by omega))
      rw [HT.out] at HO
      obtain ⟨a3, c3, rfl⟩ := OwnT.slice HO.out
      go_wp2
      go_ret
      exact ⟨_, rfl, HO.out, hbel⟩

set_option maxRecDepth 100000 in
set_option maxHeartbeats 8000000 in
theorem same_same (u v : Value) (ts : List Tk) (w : World) (hu : ReadsT w u ts) (hv : ReadsT w v ts) :
    Calls Try.prog 21 #[u, v] w fun e w' => e = .returned (.bool true) ∧ Below w.heap.size w w' := by
  obtain ⟨ua, uc, ub, uo, rfl, -, um, ucell⟩ := hu.at
  obtain ⟨va, vc, vb, vo, rfl, -, -, vcell⟩ := hv.at
  have UC := Lib.hid ucell
  have VC := Lib.hid vcell
  clear ucell vcell hu hv
  go_enter Try.func21, Try.ntmps21
  go_wp2
  go_loopw [13, 5] (fun v13 _ wr => ∃ i : Nat, i ≤ ts.length ∧ v13 = .int .i64 i ∧ Below w.heap.size w wr) (fun v13 _ _ => ts.length - (intOf v13).toNat)
  case atStart => exact ⟨0, Nat.zero_le _, rfl, Below.refl _ _⟩
  case round =>
    obtain ⟨i, hi, rfl, hbr⟩ := hrel
    by_cases hlt : i < ts.length
    · obtain ⟨rfl, e0, e1, e2, e3, e4, e5, e6⟩ := UC.out i hlt
      have e0 := bc hbr e0
      have e1 := bc hbr e1
      have e2 := bc hbr e2
      have e3 := bc hbr e3
      have e4 := bc hbr e4
      have e5 := bc hbr e5
      have e6 := bc hbr e6
      obtain ⟨rfl, f0, f1, f2, f3, f4, f5, f6⟩ := VC.out i hlt
      have f0 := bc hbr f0
      have f1 := bc hbr f1
      have f2 := bc hbr f2
      have f3 := bc hbr f3
      have f4 := bc hbr f4
      have f5 := bc hbr f5
      have f6 := bc hbr f6
      have CJ := Lib.hid (fun W => plain_any (ts.getD i default) W)
      unfold Tk.v at CJ
      generalize ts.getD i default = y at *
      obtain ⟨yst, yix, ysz, ysp, ynum, yden, yday⟩ := y
      simp only at e0 e1 e2 e3 e4 e5 e6 f0 f1 f2 f3 f4 f5 f6 CJ
      go_upto_region 6 with fail
      have hbd : Below w.heap.size w wr.drew := hbr.drew
      have HSB0 : ∀ w' : World, Below (wr).drew.heap.size (wr).drew w' → (w'.cell? ⟨ub, uo + i * 7, none⟩ = some (.string yst) ∧ w'.cell? ⟨ub, uo + i * 7 + 1, none⟩ = some (.int .i64 yix) ∧ w'.cell? ⟨ub, uo + i * 7 + 2, none⟩ = some (.int .i64 ysz) ∧ w'.cell? ⟨ub, uo + i * 7 + 3, none⟩ = some (.int .i64 ysp) ∧ w'.cell? ⟨ub, uo + i * 7 + 4, none⟩ = some (.int .i64 ynum) ∧ w'.cell? ⟨ub, uo + i * 7 + 5, none⟩ = some (.int .i64 yden) ∧ w'.cell? ⟨ub, uo + i * 7 + 6, none⟩ = some (.int .i64 yday) ∧ w'.cell? ⟨vb, vo + i * 7, none⟩ = some (.string yst) ∧ w'.cell? ⟨vb, vo + i * 7 + 1, none⟩ = some (.int .i64 yix) ∧ w'.cell? ⟨vb, vo + i * 7 + 2, none⟩ = some (.int .i64 ysz) ∧ w'.cell? ⟨vb, vo + i * 7 + 3, none⟩ = some (.int .i64 ysp) ∧ w'.cell? ⟨vb, vo + i * 7 + 4, none⟩ = some (.int .i64 ynum) ∧ w'.cell? ⟨vb, vo + i * 7 + 5, none⟩ = some (.int .i64 yden) ∧ w'.cell? ⟨vb, vo + i * 7 + 6, none⟩ = some (.int .i64 yday)) := fun w' hb => ⟨bc hb e0, bc hb e1, bc hb e2, bc hb e3, bc hb e4, bc hb e5, bc hb e6, bc hb f0, bc hb f1, bc hb f2, bc hb f3, bc hb f4, bc hb f5, bc hb f6⟩
      refine wp_region_held_drew (S := fun w' => w'.cell? ⟨ub, uo + i * 7, none⟩ = some (.string yst) ∧ w'.cell? ⟨ub, uo + i * 7 + 1, none⟩ = some (.int .i64 yix) ∧ w'.cell? ⟨ub, uo + i * 7 + 2, none⟩ = some (.int .i64 ysz) ∧ w'.cell? ⟨ub, uo + i * 7 + 3, none⟩ = some (.int .i64 ysp) ∧ w'.cell? ⟨ub, uo + i * 7 + 4, none⟩ = some (.int .i64 ynum) ∧ w'.cell? ⟨ub, uo + i * 7 + 5, none⟩ = some (.int .i64 yden) ∧ w'.cell? ⟨ub, uo + i * 7 + 6, none⟩ = some (.int .i64 yday) ∧ w'.cell? ⟨vb, vo + i * 7, none⟩ = some (.string yst) ∧ w'.cell? ⟨vb, vo + i * 7 + 1, none⟩ = some (.int .i64 yix) ∧ w'.cell? ⟨vb, vo + i * 7 + 2, none⟩ = some (.int .i64 ysz) ∧ w'.cell? ⟨vb, vo + i * 7 + 3, none⟩ = some (.int .i64 ysp) ∧ w'.cell? ⟨vb, vo + i * 7 + 4, none⟩ = some (.int .i64 ynum) ∧ w'.cell? ⟨vb, vo + i * 7 + 5, none⟩ = some (.int .i64 yden) ∧ w'.cell? ⟨vb, vo + i * 7 + 6, none⟩ = some (.int .i64 yday)) (by kernel_rfl) (HSB0 _ (Below.refl _ _)) (fun hHeld => ?_)
      have HSB := Lib.hid HSB0
      clear HSB0
      generalize (wr).drew = Wd at *
      clear e0 e1 e2 e3 e4 e5 e6 f0 f1 f2 f3 f4 f5 f6
      refine wpAnyH_take (i := 0) (v := ?_) rfl (by kernel_rfl) (by kernel_rfl) (by kernel_rfl) (fun _ _ _ h => h) (Or.inl ⟨by rfl, ?_⟩) (by assumption) ?_
      rotate_left; · (intro w hSw; (try dsimp only at hSw); go_simp; try with_reducible rfl)
      try simp only [Act.put, List.getElem_toArray, List.getElem_cons_zero, List.getElem_cons_succ, List.setIfInBounds_toArray, List.set_cons_zero, List.set_cons_succ]
      refine wpAnyH_take (i := 1) (v := ?_) rfl (by kernel_rfl) (by kernel_rfl) (by kernel_rfl) (fun _ _ _ h => h) (Or.inl ⟨by rfl, ?_⟩) (by assumption) ?_
      rotate_left; · (intro w hSw; (try dsimp only at hSw); go_simp; try with_reducible rfl)
      try simp only [Act.put, List.getElem_toArray, List.getElem_cons_zero, List.getElem_cons_succ, List.setIfInBounds_toArray, List.set_cons_zero, List.set_cons_succ]
      refine wpAnyH_take (i := 2) (v := ?_) rfl (by kernel_rfl) (by kernel_rfl) (by kernel_rfl) (fun _ _ _ h => h) (Or.inl ⟨by rfl, ?_⟩) (by assumption) ?_
      rotate_left; · (intro w hSw; (try dsimp only at hSw); go_simp; try with_reducible rfl)
      try simp only [Act.put, List.getElem_toArray, List.getElem_cons_zero, List.getElem_cons_succ, List.setIfInBounds_toArray, List.set_cons_zero, List.set_cons_succ]
      refine wpAnyH_take (i := 3) (v := ?_) rfl (by kernel_rfl) (by kernel_rfl) (by kernel_rfl) (fun _ _ _ h => h) (Or.inl ⟨by rfl, ?_⟩) (by assumption) ?_
      rotate_left; · (intro w hSw; (try dsimp only at hSw); go_simp; try with_reducible rfl)
      try simp only [Act.put, List.getElem_toArray, List.getElem_cons_zero, List.getElem_cons_succ, List.setIfInBounds_toArray, List.set_cons_zero, List.set_cons_succ]
      refine wpAnyH_take (i := 5) (v := ?_) rfl (by kernel_rfl) (by kernel_rfl) (by kernel_rfl) (fun _ _ _ h => h) (Or.inl ⟨by rfl, ?_⟩) (by assumption) ?_
      rotate_left; · (intro w hSw; (try dsimp only at hSw); go_simp; try with_reducible rfl)
      try simp only [Act.put, List.getElem_toArray, List.getElem_cons_zero, List.getElem_cons_succ, List.setIfInBounds_toArray, List.set_cons_zero, List.set_cons_succ]
      refine wpAnyH_take (i := 6) (v := ?_) rfl (by kernel_rfl) (by kernel_rfl) (by kernel_rfl) (fun _ _ _ h => h) (Or.inl ⟨by rfl, ?_⟩) (by assumption) ?_
      rotate_left; · (intro w hSw; (try dsimp only at hSw); go_simp; try with_reducible rfl)
      try simp only [Act.put, List.getElem_toArray, List.getElem_cons_zero, List.getElem_cons_succ, List.setIfInBounds_toArray, List.set_cons_zero, List.set_cons_succ]
      refine wpAnyH_take (i := 7) (v := ?_) rfl (by kernel_rfl) (by kernel_rfl) (by kernel_rfl) (fun _ _ _ h => h) (Or.inl ⟨by rfl, ?_⟩) (by assumption) ?_
      rotate_left; · (intro w hSw; (try dsimp only at hSw); go_simp; try with_reducible rfl)
      try simp only [Act.put, List.getElem_toArray, List.getElem_cons_zero, List.getElem_cons_succ, List.setIfInBounds_toArray, List.set_cons_zero, List.set_cons_succ]
      refine wpAnyH_take (i := 8) (v := ?_) rfl (by kernel_rfl) (by kernel_rfl) (by kernel_rfl) (fun _ _ _ h => h) (Or.inl ⟨by rfl, ?_⟩) (by assumption) ?_
      rotate_left; · (intro w hSw; (try dsimp only at hSw); go_simp; try with_reducible rfl)
      try simp only [Act.put, List.getElem_toArray, List.getElem_cons_zero, List.getElem_cons_succ, List.setIfInBounds_toArray, List.set_cons_zero, List.set_cons_succ]
      refine wpAnyH_ready (rs := [4]) (by kernel_rfl) (by simp) ?_
      refine AllReadyH.cons rfl (fun K hK => ?_) AllReadyH.nil
      go_simp
      refine (CJ.out _).mono ?_; rintro e w4 ⟨rfl, hb4⟩
      go_wp2_with fail
      refine hK.out _ _ (HSB.out _ hb4) (fun hNew => ?_)
      clear hK K hHeld
      have hHeld := hNew
      clear hNew
      try simp only [Act.put, List.getElem_toArray, List.getElem_cons_zero, List.getElem_cons_succ, List.setIfInBounds_toArray, List.set_cons_zero, List.set_cons_succ]
      refine wpAnyH_take (i := 9) (v := ?_) rfl (by kernel_rfl) (by kernel_rfl) (by kernel_rfl) (fun _ _ _ h => h) (Or.inl ⟨by rfl, ?_⟩) (by assumption) ?_
      rotate_left; · (intro w hSw; (try dsimp only at hSw); go_simp; try with_reducible rfl)
      try simp only [Act.put, List.getElem_toArray, List.getElem_cons_zero, List.getElem_cons_succ, List.setIfInBounds_toArray, List.set_cons_zero, List.set_cons_succ]
      refine wpAnyH_done (by kernel_rfl) ?_ _
      have hbw5 := hbd.trans (hb4.mono hbd.size)
      clear hHeld HSB CJ
      go_wp2
      go_roundw
      case rel => exact ⟨i + 1, by omega, by go_num, hbw5⟩
      case measure => simp [intOf]; omega
    · have hil : i = ts.length := by omega
      subst hil
      go_wp2
      go_ret
      exact ⟨rfl, hbr⟩

theorem allOk_snoc (ts : List Tk) (i : Nat) (h : i < ts.length) : AllOk (ts.take (i + 1)) ↔ AllOk (ts.take i) ∧ TOk (ts.getD i default) := by
  unfold AllOk
  rw [List.take_succ_eq_append_getElem h, getD_at _ _ _ h]
  simp only [List.mem_append, List.mem_singleton]
  exact ⟨fun hh => ⟨fun t ht => hh t (.inl ht), hh _ (.inr rfl)⟩, fun ⟨h1, h2⟩ t ht => ht.elim (h1 t) fun e => e ▸ h2⟩
theorem allOk_take {ts : List Tk} (h : AllOk ts) (i : Nat) : AllOk (ts.take i) := fun t ht => h t (List.mem_of_mem_take ht)

set_option maxRecDepth 100000 in
set_option maxHeartbeats 4000000 in
/-- The reference's valid of a list. -/
theorem validL_ref (v : Value) (ts : List Tk) (w : World) (hj : ReadsT w v ts) :
    Calls Try.prog 41 #[v] w fun e w' => e = .returned (.bool (decide (AllOk ts))) ∧ Below w.heap.size w w' := by
  obtain ⟨ja, jc, jb, jo, rfl, -, jm, jcell⟩ := hj.at
  have JC := Lib.hid jcell
  clear jcell hj
  obtain ⟨r, hr⟩ : ∃ r, r = decide (AllOk ts) := ⟨_, rfl⟩
  rw [← hr]
  have HR := Lib.hid hr
  clear hr
  go_enter Try.func41, Try.ntmps41
  go_wp2
  go_loopw [7, 4] (fun v7 _ wr => ∃ i : Nat, i ≤ ts.length ∧ v7 = .int .i64 i ∧ AllOk (ts.take i) ∧ Below w.heap.size w wr) (fun v7 _ _ => ts.length - (intOf v7).toNat)
  case atStart => exact ⟨0, Nat.zero_le _, rfl, fun t h => by simp at h, Below.refl _ _⟩
  case round =>
    obtain ⟨i, hi, rfl, hok, hbel⟩ := hrel
    have HK := Lib.hid hok
    have zr := hbel.size
    clear hok
    by_cases hlt : i < ts.length
    · obtain ⟨rfl, d0, d1, d2, d3, d4, d5, d6⟩ := JC.out i hlt
      have d0 := bc hbel d0
      have d1 := bc hbel d1
      have d2 := bc hbel d2
      have d3 := bc hbel d3
      have d4 := bc hbel d4
      have d5 := bc hbel d5
      have d6 := bc hbel d6
      have HS := Lib.hid (allOk_snoc ts i hlt)
      have CJ := Lib.hid (fun W => valid_ref (ts.getD i default) W)
      unfold Tk.v at CJ
      generalize ts.getD i default = y at *
      by_cases hy : TOk y
      · rw [decide_eq_true hy] at CJ
        have HN := Lib.hid (HS.out.2 ⟨HK.out, hy⟩)
        clear hy HS
        obtain ⟨yst, yix, ysz, ysp, ynum, yden, yday⟩ := y
        simp only at d0 d1 d2 d3 d4 d5 d6 CJ
        have hAl : Below wr.heap.size wr (wr.alloc (.cells #[.string yst, .int .i64 yix, .int .i64 ysz, .int .i64 ysp, .int .i64 ynum, .int .i64 yden, .int .i64 yday] 32)) := (Below.refl _ _).alloc (Nat.le_refl _) _
        go_wp2_with fail
        refine (CJ.out _).mono ?_
        rintro e w5 ⟨rfl, hb5⟩
        have hbw5 := hbel.trans ((hAl.trans (hb5.mono hAl.size)).mono zr)
        clear d0 d1 d2 d3 d4 d5 d6 CJ
        go_wp2
        go_roundw
        case rel => exact ⟨i + 1, by omega, by go_num, HN.out, hbw5⟩
        case measure => simp [intOf]; omega
      · rw [decide_eq_false hy] at CJ
        obtain rfl : r = false := by rw [HR.out]; exact decide_eq_false fun h => hy (HS.out.1 (allOk_take h _)).2
        clear hy HS
        obtain ⟨yst, yix, ysz, ysp, ynum, yden, yday⟩ := y
        simp only at d0 d1 d2 d3 d4 d5 d6 CJ
        have hAl : Below wr.heap.size wr (wr.alloc (.cells #[.string yst, .int .i64 yix, .int .i64 ysz, .int .i64 ysp, .int .i64 ynum, .int .i64 yden, .int .i64 yday] 32)) := (Below.refl _ _).alloc (Nat.le_refl _) _
        go_wp2_with fail
        refine (CJ.out _).mono ?_
        rintro e w5 ⟨rfl, hb5⟩
        have hbw5 := hbel.trans ((hAl.trans (hb5.mono hAl.size)).mono zr)
        clear d0 d1 d2 d3 d4 d5 d6 CJ
        go_wp2
        go_ret
        exact ⟨rfl, hbw5⟩
    · have HT := Lib.hid (show ts.take i = ts from List.take_of_length_le (by omega))
      rw [HT.out] at HK
      obtain rfl : r = true := by rw [HR.out]; exact decide_eq_true HK.out
      go_wp2
      go_ret
      exact ⟨rfl, hbel⟩

set_option maxRecDepth 100000 in
set_option maxHeartbeats 1000000 in
theorem notValid_any (t : Tk) (w : World) : Calls Try.prog 49 #[t.v] w fun e w' => e = .returned (.bool (!decide (TOk t))) ∧ Below w.heap.size w w' := by
  have CV := Lib.hid (fun W => valid_any t W)
  generalize decide (TOk t) = r at *
  obtain ⟨tst, tix, tsz, tsp, tnum, tden, tday⟩ := t
  unfold Tk.v at *
  simp only at CV ⊢
  have hb0 : Below w.heap.size w (w.alloc (.cells #[.string tst, .int .i64 tix, .int .i64 tsz, .int .i64 tsp, .int .i64 tnum, .int .i64 tden, .int .i64 tday] 27)) := (Below.refl _ _).alloc (Nat.le_refl _) _
  go_enter Try.func49, Try.ntmps49
  go_wp2_with fail
  refine (CV.out _).mono ?_
  rintro e w1 ⟨rfl, hb1⟩
  go_wp2
  go_ret
  exact ⟨rfl, hb0.trans (hb1.mono hb0.size)⟩

set_option maxRecDepth 100000 in
set_option maxHeartbeats 4000000 in
theorem idxFunc_any (v : Value) (ts : List Tk) (w : World) (hj : ReadsT w v ts) :
    Calls Try.prog 55 #[v, .func (.func 49) #[] #[]] w fun e w' => ∃ k : Int, e = .returned (.int .i64 k) ∧ decide (0 ≤ k) = !decide (AllOk ts) ∧ Below w.heap.size w w' := by
  obtain ⟨ja, jc, jb, jo, rfl, -, jm, jcell⟩ := hj.at
  have JC := Lib.hid jcell
  clear jcell hj
  obtain ⟨r, hr⟩ : ∃ r, r = decide (AllOk ts) := ⟨_, rfl⟩
  rw [← hr]
  have HR := Lib.hid hr
  clear hr
  go_enter Try.func55, Try.ntmps55
  go_wp2
  go_loopw [8, 5] (fun v8 _ wr => ∃ i : Nat, i ≤ ts.length ∧ v8 = .int .i64 i ∧ AllOk (ts.take i) ∧ Below w.heap.size w wr) (fun v8 _ _ => ts.length - (intOf v8).toNat)
  case atStart => exact ⟨0, Nat.zero_le _, rfl, fun t h => by simp at h, Below.refl _ _⟩
  case round =>
    obtain ⟨i, hi, rfl, hok, hbel⟩ := hrel
    have HK := Lib.hid hok
    have zr := hbel.size
    clear hok
    by_cases hlt : i < ts.length
    · obtain ⟨rfl, d0, d1, d2, d3, d4, d5, d6⟩ := JC.out i hlt
      have d0 := bc hbel d0
      have d1 := bc hbel d1
      have d2 := bc hbel d2
      have d3 := bc hbel d3
      have d4 := bc hbel d4
      have d5 := bc hbel d5
      have d6 := bc hbel d6
      have HS := Lib.hid (allOk_snoc ts i hlt)
      have CJ := Lib.hid (fun W => notValid_any (ts.getD i default) W)
      unfold Tk.v at CJ
      generalize ts.getD i default = y at *
      by_cases hy : TOk y
      · rw [decide_eq_true hy] at CJ
        have HN := Lib.hid (HS.out.2 ⟨HK.out, hy⟩)
        clear hy HS
        obtain ⟨yst, yix, ysz, ysp, ynum, yden, yday⟩ := y
        simp only at d0 d1 d2 d3 d4 d5 d6 CJ
        go_wp2_with fail
        refine (CJ.out _).mono ?_
        rintro e w5 ⟨rfl, hb5⟩
        have hbw5 := hbel.trans (hb5.mono zr)
        clear d0 d1 d2 d3 d4 d5 d6 CJ
        go_wp2
        go_roundw
        case rel => exact ⟨i + 1, by omega, by go_num, HN.out, hbw5⟩
        case measure => simp [intOf]; omega
      · rw [decide_eq_false hy] at CJ
        obtain rfl : r = false := by rw [HR.out]; exact decide_eq_false fun h => hy (HS.out.1 (allOk_take h _)).2
        clear hy HS
        obtain ⟨yst, yix, ysz, ysp, ynum, yden, yday⟩ := y
        simp only at d0 d1 d2 d3 d4 d5 d6 CJ
        go_wp2_with fail
        refine (CJ.out _).mono ?_
        rintro e w5 ⟨rfl, hb5⟩
        have hbw5 := hbel.trans (hb5.mono zr)
        clear d0 d1 d2 d3 d4 d5 d6 CJ
        go_wp2
        go_ret
        exact ⟨i, rfl, by simp, hbw5⟩
    · have HT := Lib.hid (show ts.take i = ts from List.take_of_length_le (by omega))
      rw [HT.out] at HK
      obtain rfl : r = true := by rw [HR.out]; exact decide_eq_true HK.out
      go_wp2
      go_ret
      exact ⟨-1, rfl, by simp, hbel⟩

set_option maxHeartbeats 1000000 in
theorem contains_any (v : Value) (ts : List Tk) (w : World) (hj : ReadsT w v ts) :
    Calls Try.prog 48 #[v, .func (.func 49) #[] #[]] w fun e w' => e = .returned (.bool (!decide (AllOk ts))) ∧ Below w.heap.size w w' := by
  have CI := Lib.hid (idxFunc_any v ts w hj)
  obtain ⟨ja, jc, _, _, rfl, -⟩ := hj.at
  clear hj
  generalize decide (AllOk ts) = r at *
  go_enter Try.func48, Try.ntmps48
  go_wp2_with fail
  refine CI.out.mono ?_
  rintro e w1 ⟨k, rfl, hk, hb1⟩
  cases r with
  | true =>
    go_wp2
    go_ret
    exact ⟨rfl, hb1⟩
  | false =>
    go_wp2
    go_ret
    exact ⟨rfl, hb1⟩
set_option maxHeartbeats 1000000 in
theorem allValid_any (v : Value) (ts : List Tk) (w : World) (hj : ReadsT w v ts) :
    Calls Try.prog 39 #[v] w fun e w' => e = .returned (.bool (decide (AllOk ts))) ∧ Below w.heap.size w w' := by
  have CI := Lib.hid (contains_any v ts w hj)
  obtain ⟨ja, jc, _, _, rfl, -⟩ := hj.at
  clear hj
  generalize decide (AllOk ts) = r at *
  go_enter Try.func39, Try.ntmps39
  go_wp2_with fail
  refine CI.out.mono ?_
  rintro e w1 ⟨rfl, hb1⟩
  go_wp2
  go_ret
  exact ⟨by simp, hb1⟩

theorem OwnT.lit0 (e : TypeId) (w : World) : OwnT e (w.alloc (.cells #[] e)) w.heap.size (.slice (some ⟨w.heap.size, 0, none⟩) 0 0) [] := Own.lit0 _ _ _ _ _ (Nat.le_refl _)
set_option maxHeartbeats 1000000 in
/-- slices.Clone. -/
theorem clone_any (v : Value) (ts : List Tk) (w : World) (hv : ReadsT w v ts) (hn : ts.length ≤ 1000000) :
    Calls Try.prog 50 #[v] w fun e w' => ∃ u, e = .returned u ∧ OwnT 27 w' w.heap.size u ts ∧ Below w.heap.size w w' := by
  have HV := Lib.hid hv
  obtain ⟨ao, c, rfl, hl, hm, hc⟩ := hv
  have HC := Lib.hid hc
  clear hc
  obtain ⟨n, hnn⟩ : ∃ n, n = ts.length := ⟨_, rfl⟩
  rw [← hnn] at HV HC hl hm hn ⊢
  have HNN := Lib.hid hnn
  clear hnn
  have heq := fun a n' c' => Lib.run_eql_slice_nil (P := Try.prog) w 36 27 a n' c' 0 0 Try.underlying36
  go_enter Try.func50, Try.ntmps50
  rcases ao with _ | ad
  · have hn0 : n = 0 := by
      rcases Nat.eq_zero_or_pos n with h | h
      · exact h
      · obtain ⟨b, off, e, _⟩ := HC.out h
        cases e
    subst hn0
    have HT := Lib.hid (show ts = [] from List.length_eq_zero_iff.1 HNN.out.symm)
    clear HNN
    go_wp2
    go_ret
    exact ⟨_, rfl, by rw [HT.out]; exact OwnT.nil _ _ _, Below.refl _ _⟩
  · have h0 := OwnT.lit0 27 w
    have hb0 : Below w.heap.size w (w.alloc (.cells #[] 27)) := (Below.refl _ _).alloc (Nat.le_refl _) _
    have hr0 := ReadsT.below (by rw [HNN.out] at HV; exact HV.out) hb0
    obtain ⟨v3, w3, r3, o1, o2, _⟩ := h0.appR27 hr0 (by simp) (by have := HNN.out; omega) hb0.size
    rw [List.nil_append] at o1
    rw [← HNN.out] at r3
    have O1 := Lib.hid o1
    clear o1 h0 hr0 HNN
    go_wp2_with (at_builtin; refine wpList_append_run (by rfl) (.tmp 5) (.tmp 6) 36 (by rfl) _ (.slice (some ad) n c) v3 w3 (by rfl) (by rfl) r3 ?_)
    go_ret
    exact ⟨_, rfl, O1.out, hb0.trans o2⟩

end Go.Proofs.Ytcgilfnhbliadaa
