/- The reference's Order and Cut. -/
import Derived.Test.YtcgilfnhbliadaaD1
namespace Go.Proofs.Ytcgilfnhbliadaa
open Go.RowKit Go.Lib Go.ChangeMaps
set_option linter.unusedSimpArgs false

theorem orderP_take {ts : List Tk} {i : Nat} (h : i < ts.length) : orderP (ts.take (i + 1)) = insP (orderP (ts.take i)) (ts.getD i default) := by
  rw [List.take_succ_eq_append_getElem h, ← getD_at _ _ default h]
  exact orderP_snoc _ _

set_option maxRecDepth 100000 in
set_option maxHeartbeats 4000000 in
theorem Order_ref (v : Value) (ts : List Tk) (w : World) (hv : ReadsT w v ts) (hn : ts.length ≤ 1000) :
    Calls Try.prog 24 #[v] w fun e w' => Below w.heap.size w w' ∧ ((¬ AllOk ts ∧ e = .returned (.tuple #[.slice none 0 0, .int .i64 1])) ∨ (AllOk ts ∧ ∃ u, e = .returned (.tuple #[u, .int .i64 0]) ∧ ReadsT w' u (orderP ts))) := by
  have CV := Lib.hid (validL_ref v ts w hv)
  have HV := Lib.hid hv
  obtain ⟨ja, jc, jb, jo, rfl, -, -, jcell⟩ := hv.at
  have JC := Lib.hid jcell
  clear hv jcell
  by_cases hok : AllOk ts
  rotate_left
  · rw [decide_eq_false hok] at CV
    have HOK := Lib.hid hok
    clear hok
    go_enter Try.func24, Try.ntmps24
    go_wp2_with fail
    refine CV.out.mono ?_
    rintro e w1 ⟨rfl, hb1⟩
    go_wp2
    refine bodyPost_ret (results_tmp2 Try.results24 _ _ _) rfl ?_
    exact ⟨hb1, .inl ⟨HOK.out, rfl⟩⟩
  rw [decide_eq_true hok] at CV
  have HOK := Lib.hid hok
  clear hok
  go_enter Try.func24, Try.ntmps24
  go_wp2_with fail
  refine CV.out.mono ?_
  rintro e w1 ⟨rfl, hb1⟩
  clear CV
  have HB1 := Lib.hid hb1
  have zb := hb1.size
  clear hb1
  go_wp2
  go_loopw [13, 4, 6] (fun v13 v4 _ wr => ∃ i : Nat, i ≤ ts.length ∧ v13 = .int .i64 i ∧ Below w.heap.size w wr ∧ ReadsT wr v4 (orderP (ts.take i))) (fun v13 _ _ _ => ts.length - (intOf v13).toNat)
  case atStart =>
    refine ⟨0, Nat.zero_le _, rfl, HB1.out.alloc zb _, ⟨_, 0, rfl, Nat.le_refl _, by simp [orderP], fun h => by simp [orderP] at h⟩⟩
  case round =>
    obtain ⟨i, hi, rfl, hbel, hrd⟩ := hrel
    have HR := Lib.hid hrd
    have zr := hbel.size
    clear hrd
    by_cases hlt : i < ts.length
    · obtain ⟨rfl, d0, d1, d2, d3, d4, d5, d6⟩ := JC.out i hlt
      have d0 := bc hbel d0
      have d1 := bc hbel d1
      have d2 := bc hbel d2
      have d3 := bc hbel d3
      have d4 := bc hbel d4
      have d5 := bc hbel d5
      have d6 := bc hbel d6
      have CI := Lib.hid (fun W (h : Below wr.heap.size wr W) => insert_ref u4 _ (ts.getD i default) W (HR.out.below h) (orderP_ok (allOk_take HOK.out i)) (HOK.out _ (by rw [getD_at _ _ _ hlt]; exact List.getElem_mem hlt)) (Nat.le_trans (orderP_len (allOk_take HOK.out i)) (by rw [List.length_take]; omega)))
      rw [← orderP_take hlt] at CI
      generalize ts.getD i default = y at *
      obtain ⟨yst, yix, ysz, ysp, ynum, yden, yday⟩ := y
      unfold Tk.v at CI
      simp only at d0 d1 d2 d3 d4 d5 d6 CI
      have hA : Below wr.heap.size wr (wr.alloc (.cells #[.string yst, .int .i64 yix, .int .i64 ysz, .int .i64 ysp, .int .i64 ynum, .int .i64 yden, .int .i64 yday] 32)) := (Below.refl _ _).alloc (Nat.le_refl _) _
      go_wp2_with fail
      refine (CI.out _ hA).mono ?_
      rintro e w5 ⟨u5, rfl, hr5, hb5⟩
      have HR5 := Lib.hid hr5
      obtain ⟨a5, l5, c5, rfl⟩ : ∃ a n c, u5 = .slice a n c := by obtain ⟨a, c, e, _⟩ := hr5; exact ⟨a, _, c, e⟩
      have hb := hbel.trans ((hA.trans (hb5.mono hA.size)).mono zr)
      clear hr5 CI d0 d1 d2 d3 d4 d5 d6
      go_wp2
      go_roundw
      case rel => exact ⟨i + 1, by omega, by go_num, hb, HR5.out⟩
      case measure => simp [intOf]; omega
    · have HT := Lib.hid (show ts.take i = ts from List.take_of_length_le (by omega))
      rw [HT.out] at HR
      obtain ⟨a5, l5, c5, rfl⟩ : ∃ a n c, u4 = .slice a n c := by obtain ⟨a, c, e, _⟩ := HR.out; exact ⟨a, _, c, e⟩
      go_wp2
      refine bodyPost_ret (results_tmp2 Try.results24 _ _ _) rfl ?_
      exact ⟨hbel, .inr ⟨HOK.out, _, rfl, HR.out⟩⟩

set_option maxRecDepth 100000 in
set_option maxHeartbeats 4000000 in
theorem Cut_ref (v : Value) (ts : List Tk) (b : Int) (w : World) (hv : ReadsT w v ts) (hn : ts.length ≤ 1000) (hb : b ≤ 9223372036854775807) :
    Calls Try.prog 19 #[v, .int .i64 b] w fun e w' => Below w.heap.size w w' ∧ ((¬ (AllOk ts ∧ 0 ≤ b) ∧ e = .returned (.tuple #[.slice none 0 0, .int .i64 0, .int .i64 1])) ∨ ((AllOk ts ∧ 0 ≤ b) ∧ ∃ u, e = .returned (.tuple #[u, .int .i64 (sumP (cutP (orderP ts) b)), .int .i64 0]) ∧ ReadsT w' u (cutP (orderP ts) b))) := by
  have CV := Lib.hid (validL_ref v ts w hv)
  have HV := Lib.hid hv
  obtain ⟨ja, jc, _, _, rfl, -⟩ := hv.at
  clear hv
  by_cases hok : AllOk ts
  rotate_left
  · rw [decide_eq_false hok] at CV
    have HOK := Lib.hid hok
    clear hok
    go_enter Try.func19, Try.ntmps19
    go_wp2_with fail
    refine CV.out.mono ?_
    rintro e w1 ⟨rfl, hb1⟩
    go_wp2
    refine bodyPost_ret (results_tmp3 Try.results19 _ _ _) rfl ?_
    exact ⟨hb1, .inl ⟨fun h => HOK.out h.1, rfl⟩⟩
  rw [decide_eq_true hok] at CV
  have HOK := Lib.hid hok
  clear hok
  by_cases hb0 : b < 0
  · have q0 : decide (b < 0) = true := decide_eq_true hb0
    have HB0 := Lib.hid hb0
    clear hb0
    go_enter Try.func19, Try.ntmps19
    go_wp2_with fail
    refine CV.out.mono ?_
    rintro e w1 ⟨rfl, hb1⟩
    go_wp2
    refine bodyPost_ret (results_tmp3 Try.results19 _ _ _) rfl ?_
    exact ⟨hb1, .inl ⟨fun h => by have := HB0.out; have := h.2; omega, rfl⟩⟩
  have q0 : decide (b < 0) = false := decide_eq_false hb0
  have h0b : 0 ≤ b := by omega
  clear hb0
  go_enter Try.func19, Try.ntmps19
  go_wp2_with fail
  refine CV.out.mono ?_
  rintro e w1 ⟨rfl, hb1⟩
  have CO := Lib.hid (Order_ref _ ts w1 (HV.out.below hb1) hn)
  clear CV
  go_wp2_with fail
  refine CO.out.mono ?_
  rintro e w2 ⟨hb2, hcase⟩
  rcases hcase with ⟨hno, _⟩ | ⟨_, u, rfl, hr⟩
  · exact absurd HOK.out hno
  have hbw := hb1.trans (hb2.mono hb1.size)
  have HLL := Lib.hid (orderP_len HOK.out)
  have HLO := Lib.hid (orderP_ok HOK.out)
  obtain ⟨l, hl⟩ : ∃ l, l = orderP ts := ⟨_, rfl⟩
  rw [← hl] at HLL HLO hr
  have HL := Lib.hid hl
  clear hl
  obtain ⟨la, lc, lb, lo, rfl, -, lm, lcell⟩ := hr.at
  have LC := Lib.hid lcell
  have HBW := Lib.hid hbw
  clear hr CO lcell hb1 hb2 hbw
  go_wp2
  go_loopw [28, 9, 10, 12] (fun v28 v9 v10 _ wr => ∃ (i : Nat) (cost : Int), i ≤ l.length ∧ v28 = .int .i64 i ∧ v10 = .int .i64 cost ∧ cost = sumP (cutP (l.take i) b) ∧ (0 ≤ cost ∧ cost ≤ b) ∧ Below w.heap.size w wr ∧ Below w2.heap.size w2 wr ∧ OwnT 32 wr w2.heap.size v9 (cutP (l.take i) b)) (fun v28 _ _ _ _ => l.length - (intOf v28).toNat)
  case atStart => exact ⟨0, 0, Nat.zero_le _, rfl, rfl, by simp [cutP, sumP], ⟨Int.le_refl _, h0b⟩, HBW.out.alloc HBW.out.size _, (Below.refl _ _).alloc (Nat.le_refl _) _, OwnT.lit0 _ _⟩
  case round =>
    obtain ⟨i, cost, hi, rfl, rfl, hcost, ⟨h0l, hlb⟩, hbel, hb2r, ho⟩ := hrel
    have HO := Lib.hid ho
    have HLF := Lib.hid hcost
    have HBEL := Lib.hid hbel
    have zr := hb2r.size
    clear ho hcost hbel
    by_cases hlt : i < l.length
    · obtain ⟨rfl, d0, d1, d2, d3, d4, d5, d6⟩ := LC.out i hlt
      have d0 := bc hb2r d0
      have d1 := bc hb2r d1
      have d2 := bc hb2r d2
      have d3 := bc hb2r d3
      have d4 := bc hb2r d4
      have d5 := bc hb2r d5
      have d6 := bc hb2r d6
      have HCT := Lib.hid (cutP_take (b := b) hlt)
      have HYO := Lib.hid (HLO.out (l.getD i default) (by rw [getD_at _ _ _ hlt]; exact List.getElem_mem hlt)).2.2.1
      have HAP := Lib.hid (fun (W : World) (ho : OwnT 32 W w2.heap.size u9 (cutP (l.take i) b)) (hz : w2.heap.size ≤ W.heap.size) => ho.app32 (l.getD i default) (by have := cutP_len (l.take i) b; rw [List.length_take] at this; have := HLL.out; omega) hz)
      generalize l.getD i default = y at *
      obtain ⟨yst, yix, ysz, ysp, ynum, yden, yday⟩ := y
      simp only at d0 d1 d2 d3 d4 d5 d6 HAP HCT HYO
      rw [← HLF.out] at HCT
      have hA : Below wr.heap.size wr (wr.alloc (.cells #[.string yst, .int .i64 yix, .int .i64 ysz, .int .i64 ysp, .int .i64 ynum, .int .i64 yden, .int .i64 yday] 32)) := (Below.refl _ _).alloc (Nat.le_refl _) _
      have hw : IntKind.i64.wrap (b - cost) = b - cost := by rw [IntKind.wrap_i64]; omega
      by_cases hle : ysz ≤ b - cost
      · have q1 : decide (ysz ≤ b - cost) = true := decide_eq_true hle
        rw [if_pos hle] at HCT
        have hys := HYO.out
        have hw2 : IntKind.i64.wrap (cost + ysz) = cost + ysz := by rw [IntKind.wrap_i64]; omega
        have hrow := heap_alloc_new wr (.cells #[.string yst, .int .i64 yix, .int .i64 ysz, .int .i64 ysp, .int .i64 ynum, .int .i64 yden, .int .i64 yday] 32)
        obtain ⟨v6, w6, r6, o6, b6, k6⟩ := HAP.out _ (HO.out.below hA) (Nat.le_trans zr hA.size)
        have hne : u9.ownBlock ≠ some wr.heap.size := fun e => by have := (HO.out.lt _ e).2; omega
        have hx2 : w6.cell? ⟨wr.heap.size, 2, none⟩ = some (.int .i64 ysz) := cell_of_row w6 _ 2 _ _ _ ((k6 wr.heap.size (by rw [World.size_alloc]; omega) hne).trans hrow)
        rw [← HCT.out] at o6
        have HO6 := Lib.hid o6
        obtain ⟨a6, l6, c6, rfl⟩ := Own.slice o6
        have HB6 := Lib.hid (show Below w2.heap.size w2 w6 from (hb2r.trans (hA.mono zr)).trans b6)
        have HB7 := Lib.hid (show Below w.heap.size w w6 from (HBEL.out.trans (hA.mono HBEL.out.size)).trans (b6.mono (by have := HBW.out.size; exact this)))
        have HLF2 := Lib.hid (show cost + ysz = sumP (cutP (l.take (i + 1)) b) by rw [HCT.out, sumP_snoc, ← HLF.out])
        clear o6 hrow k6 hne HAP HO HLF HBEL HCT hA b6
        simp only [World.size_alloc] at r6
        go_wp2_with (at_builtin; refine wpList_append_run (by rfl) (.tmp 38) (.tmp 40) 41 (by rfl) _ (.slice (some ⟨wr.heap.size + 1, 0, none⟩) 1 1) (.slice a6 l6 c6) w6 (by rfl) (by rfl) r6 ?_)
        go_roundw
        case rel => exact ⟨i + 1, cost + ysz, by omega, by go_num, rfl, HLF2.out, ⟨by omega, by omega⟩, HB7.out, HB6.out, HO6.out⟩
        case measure => simp [intOf]; omega
      · have q1 : decide (ysz ≤ b - cost) = false := decide_eq_false hle
        rw [if_neg hle, List.append_nil] at HCT
        have HLF2 := Lib.hid (show cost = sumP (cutP (l.take (i + 1)) b) by rw [HCT.out]; exact HLF.out)
        have HO2 := Lib.hid (HO.out.alloc (.cells #[.string yst, .int .i64 yix, .int .i64 ysz, .int .i64 ysp, .int .i64 ynum, .int .i64 yden, .int .i64 yday] 32))
        rw [← HCT.out] at HO2
        have HB6 := Lib.hid (hb2r.trans (hA.mono zr))
        have HB7 := Lib.hid (HBEL.out.trans (hA.mono HBEL.out.size))
        clear hle HAP HO HLF HBEL HCT hA hb2r
        go_wp2
        go_roundw
        case rel => exact ⟨i + 1, cost, by omega, by go_num, rfl, HLF2.out, ⟨by omega, by omega⟩, HB7.out, HB6.out, HO2.out⟩
        case measure => simp [intOf]; omega
    · have HT := Lib.hid (show l.take i = l from List.take_of_length_le (by omega))
      rw [HT.out] at HO HLF
      have HRD := Lib.hid (HO.out.reads (by have := cutP_len l b; have := HLL.out; omega))
      obtain ⟨a7, l7, c7, rfl⟩ := Own.slice HO.out
      clear HO
      go_wp2
      refine bodyPost_ret (results_tmp3 Try.results19 _ _ _) rfl ?_
      exact ⟨HBEL.out, .inr ⟨⟨HOK.out, h0b⟩, .slice a7 l7 c7, by rw [← HL.out, ← HLF.out]; rfl, by rw [← HL.out]; exact HRD.out⟩⟩

end Go.Proofs.Ytcgilfnhbliadaa
