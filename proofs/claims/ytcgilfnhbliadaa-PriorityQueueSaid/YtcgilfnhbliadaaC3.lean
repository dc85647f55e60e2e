/- order, Order, Cut. -/
import Derived.Test.YtcgilfnhbliadaaC2
import Derived.Test.YtcgilfnhbliadaaS1
namespace Go.Proofs.Ytcgilfnhbliadaa
open Go.RowKit Go.Lib Go.ChangeMaps
set_option linter.unusedSimpArgs false

set_option maxHeartbeats 1000000 in
theorem order_any (v : Value) (ts : List Tk) (w : World) (hv : ReadsT w v ts) (hok : AllOk ts) (hn : ts.length ≤ 1000000) :
    Calls Try.prog 40 #[v] w fun e w' => ∃ u, e = .returned u ∧ ReadsT w' u (orderP ts) ∧ Below w.heap.size w w' := by
  have CC := Lib.hid (clone_any v ts w hv hn)
  have HOK := Lib.hid hok
  obtain ⟨ja, jc, _, _, rfl, -⟩ := hv.at
  clear hv hok
  go_enter Try.func40, Try.ntmps40
  go_wp2_with fail
  refine CC.out.mono ?_
  rintro e w1 ⟨u, rfl, ho1, hb1⟩
  have CS := Lib.hid (sort_own ts HOK.out (by omega) _ u w1 ho1)
  obtain ⟨a1, c1, rfl⟩ := ho1.slice
  have HO1 := Lib.hid ho1
  clear CC ho1
  go_wp2_with fail
  refine CS.out.mono ?_
  rintro e w2 ⟨rfl, us, hp, hs, ho2, hg⟩
  have CM := Lib.hid (compact_any _ us w2 _ ho2 (by rw [hp.length_eq]; exact hn))
  rw [ded_order HOK.out hp (hs.imp fun h => by omega)] at CM
  have hb2 : Below w.heap.size w w2 := grown_below3 hb1 hg (fun k hk => (HO1.out.lt k hk).1) hb1.size
  clear CS hp hs ho2 hg
  go_wp2_with fail
  refine CM.out.mono ?_
  rintro e w3 ⟨v3, rfl, hr, hb3⟩
  have HR := Lib.hid hr
  obtain ⟨a3, c3, _, _, rfl, -⟩ := hr.at
  clear hr CM
  go_wp2
  go_ret
  exact ⟨_, rfl, HR.out, hb2.trans hb3⟩

set_option maxHeartbeats 1000000 in
theorem Order_any (v : Value) (ts : List Tk) (w : World) (hv : ReadsT w v ts) (hn : ts.length ≤ 1000000) :
    Calls Try.prog 23 #[v] w fun e w' => Below w.heap.size w w' ∧ ((¬ AllOk ts ∧ e = .returned (.tuple #[.slice none 0 0, .int .i64 1])) ∨ (AllOk ts ∧ ∃ u, e = .returned (.tuple #[u, .int .i64 0]) ∧ ReadsT w' u (orderP ts))) := by
  have CV := Lib.hid (allValid_any v ts w hv)
  have HV := Lib.hid hv
  obtain ⟨ja, jc, _, _, rfl, -⟩ := hv.at
  clear hv
  by_cases hok : AllOk ts
  rotate_left
  · rw [decide_eq_false hok] at CV
    have HOK := Lib.hid hok
    clear hok
    go_enter Try.func23, Try.ntmps23
    go_wp2_with fail
    refine CV.out.mono ?_
    rintro e w1 ⟨rfl, hb1⟩
    go_wp2
    refine bodyPost_ret (results_tmp2 Try.results23 _ _ _) rfl ?_
    exact ⟨hb1, .inl ⟨HOK.out, rfl⟩⟩
  rw [decide_eq_true hok] at CV
  have HOK := Lib.hid hok
  clear hok
  go_enter Try.func23, Try.ntmps23
  go_wp2_with fail
  refine CV.out.mono ?_
  rintro e w1 ⟨rfl, hb1⟩
  have CO := Lib.hid (order_any _ ts w1 (HV.out.below hb1) HOK.out hn)
  clear CV
  go_wp2_with fail
  refine CO.out.mono ?_
  rintro e w2 ⟨u, rfl, hr, hb2⟩
  have HR := Lib.hid hr
  obtain ⟨a3, c3, _, _, rfl, -⟩ := hr.at
  clear hr CO
  go_wp2
  refine bodyPost_ret (results_tmp2 Try.results23 _ _ _) rfl ?_
  exact ⟨hb1.trans (hb2.mono hb1.size), .inr ⟨HOK.out, _, rfl, HR.out⟩⟩

/-- What Cut takes, as far as it has come. -/
theorem cutP_take {l : List Tk} {b : Int} {i : Nat} (hi : i < l.length) : cutP (l.take (i + 1)) b = cutP (l.take i) b ++ if (l.getD i default).size ≤ b - sumP (cutP (l.take i) b) then [l.getD i default] else [] := by
  rw [List.take_succ_eq_append_getElem hi, ← getD_at _ _ default hi]
  exact cutP_snoc _ _ _

set_option maxRecDepth 100000 in
set_option maxHeartbeats 4000000 in
theorem Cut_any (v : Value) (ts : List Tk) (b : Int) (w : World) (hv : ReadsT w v ts) (hn : ts.length ≤ 1000) (hb : b ≤ 9223372036854775807) :
    Calls Try.prog 18 #[v, .int .i64 b] w fun e w' => Below w.heap.size w w' ∧ ((¬ (AllOk ts ∧ 0 ≤ b) ∧ e = .returned (.tuple #[.slice none 0 0, .int .i64 0, .int .i64 1])) ∨ ((AllOk ts ∧ 0 ≤ b) ∧ ∃ u, e = .returned (.tuple #[u, .int .i64 (sumP (cutP (orderP ts) b)), .int .i64 0]) ∧ ReadsT w' u (cutP (orderP ts) b))) := by
  have CV := Lib.hid (allValid_any v ts w hv)
  have HV := Lib.hid hv
  obtain ⟨ja, jc, _, _, rfl, -⟩ := hv.at
  clear hv
  by_cases hok : AllOk ts
  rotate_left
  · rw [decide_eq_false hok] at CV
    have HOK := Lib.hid hok
    clear hok
    go_enter Try.func18, Try.ntmps18
    go_wp2_with fail
    refine CV.out.mono ?_
    rintro e w1 ⟨rfl, hb1⟩
    go_wp2
    refine bodyPost_ret (results_tmp3 Try.results18 _ _ _) rfl ?_
    exact ⟨hb1, .inl ⟨fun h => HOK.out h.1, rfl⟩⟩
  rw [decide_eq_true hok] at CV
  have HOK := Lib.hid hok
  clear hok
  by_cases hb0 : b < 0
  · have q0 : decide (b < 0) = true := decide_eq_true hb0
    have HB0 := Lib.hid hb0
    clear hb0
    go_enter Try.func18, Try.ntmps18
    go_wp2_with fail
    refine CV.out.mono ?_
    rintro e w1 ⟨rfl, hb1⟩
    go_wp2
    refine bodyPost_ret (results_tmp3 Try.results18 _ _ _) rfl ?_
    exact ⟨hb1, .inl ⟨fun h => by have := HB0.out; have := h.2; omega, rfl⟩⟩
  have q0 : decide (b < 0) = false := decide_eq_false hb0
  have h0b : 0 ≤ b := by omega
  clear hb0
  go_enter Try.func18, Try.ntmps18
  go_wp2_with fail
  refine CV.out.mono ?_
  rintro e w1 ⟨rfl, hb1⟩
  have CO := Lib.hid (order_any _ ts w1 (HV.out.below hb1) HOK.out (by omega))
  clear CV
  go_wp2_with fail
  refine CO.out.mono ?_
  rintro e w2 ⟨u, rfl, hr, hb2⟩
  have hbw := hb1.trans (hb2.mono hb1.size)
  have HLL := Lib.hid (orderP_len HOK.out)
  have HLO := Lib.hid (orderP_ok HOK.out)
  obtain ⟨l, hl⟩ : ∃ l, l = orderP ts := ⟨_, rfl⟩
  rw [← hl] at HLL HLO hr
  have HL := Lib.hid hl
  clear hl
  obtain ⟨la, lc, lb, lo, rfl, -, lm, lcell⟩ := hr.at
  have LC := Lib.hid lcell
  have HBW := Lib.hid hbw
  clear hr CO lcell hb1 hb2 hbw
  go_wp2
  go_loopw [22, 7, 8, 10] (fun v22 v7 v8 _ wr => ∃ (i : Nat) (left : Int), i ≤ l.length ∧ v22 = .int .i64 i ∧ v8 = .int .i64 left ∧ left = b - sumP (cutP (l.take i) b) ∧ (0 ≤ left ∧ left ≤ b) ∧ Below w.heap.size w wr ∧ Below w2.heap.size w2 wr ∧ OwnT 27 wr w2.heap.size v7 (cutP (l.take i) b)) (fun v22 _ _ _ _ => l.length - (intOf v22).toNat)
  case atStart => exact ⟨0, b, Nat.zero_le _, rfl, rfl, by simp [cutP, sumP], ⟨h0b, Int.le_refl _⟩, HBW.out, Below.refl _ _, OwnT.nil _ _ _⟩
  case round =>
    obtain ⟨i, left, hi, rfl, rfl, hleft, ⟨h0l, hlb⟩, hbel, hb2r, ho⟩ := hrel
    have HO := Lib.hid ho
    have HLF := Lib.hid hleft
    have HBEL := Lib.hid hbel
    have zr := hb2r.size
    clear ho hleft hbel
    by_cases hlt : i < l.length
    · obtain ⟨rfl, d0, d1, d2, d3, d4, d5, d6⟩ := LC.out i hlt
      have d0 := bc hb2r d0
      have d1 := bc hb2r d1
      have d2 := bc hb2r d2
      have d3 := bc hb2r d3
      have d4 := bc hb2r d4
      have d5 := bc hb2r d5
      have d6 := bc hb2r d6
      have HCT := Lib.hid (cutP_take (b := b) hlt)
      have HYO := Lib.hid (HLO.out (l.getD i default) (by rw [getD_at _ _ _ hlt]; exact List.getElem_mem hlt)).2.2.1
      have HAP := Lib.hid (fun (W : World) (ho : OwnT 27 W w2.heap.size u7 (cutP (l.take i) b)) (hz : w2.heap.size ≤ W.heap.size) => ho.app27 (l.getD i default) (by have := cutP_len (l.take i) b; rw [List.length_take] at this; have := HLL.out; omega) hz)
      generalize l.getD i default = y at *
      obtain ⟨yst, yix, ysz, ysp, ynum, yden, yday⟩ := y
      simp only at d0 d1 d2 d3 d4 d5 d6 HAP HCT HYO
      rw [← HLF.out] at HCT
      have hA : Below wr.heap.size wr (wr.alloc (.cells #[.string yst, .int .i64 yix, .int .i64 ysz, .int .i64 ysp, .int .i64 ynum, .int .i64 yden, .int .i64 yday] 27)) := (Below.refl _ _).alloc (Nat.le_refl _) _
      by_cases hle : ysz ≤ left
      · have q1 : decide (ysz ≤ left) = true := decide_eq_true hle
        rw [if_pos hle] at HCT
        have hw : IntKind.i64.wrap (left - ysz) = left - ysz := by have := HYO.out; rw [IntKind.wrap_i64]; omega
        have hrow := heap_alloc_new wr (.cells #[.string yst, .int .i64 yix, .int .i64 ysz, .int .i64 ysp, .int .i64 ynum, .int .i64 yden, .int .i64 yday] 27)
        obtain ⟨v6, w6, r6, o6, b6, k6⟩ := HAP.out _ (HO.out.below hA) (Nat.le_trans zr hA.size)
        have hne : u7.ownBlock ≠ some wr.heap.size := fun e => by have := (HO.out.lt _ e).2; omega
        have hx2 : w6.cell? ⟨wr.heap.size, 2, none⟩ = some (.int .i64 ysz) := cell_of_row w6 _ 2 _ _ _ ((k6 wr.heap.size (by rw [World.size_alloc]; omega) hne).trans hrow)
        rw [← HCT.out] at o6
        have HO6 := Lib.hid o6
        obtain ⟨a6, l6, c6, rfl⟩ := Own.slice o6
        have HB6 := Lib.hid (show Below w2.heap.size w2 w6 from (hb2r.trans (hA.mono zr)).trans b6)
        have HB7 := Lib.hid (show Below w.heap.size w w6 from (HBEL.out.trans (hA.mono HBEL.out.size)).trans (b6.mono (by have := HBW.out.size; exact this)))
        have HLF2 := Lib.hid (show left - ysz = b - sumP (cutP (l.take (i + 1)) b) by rw [HCT.out, sumP_snoc]; have := HLF.out; simp only; omega)
        have hys := HYO.out
        clear o6 hrow k6 hne HAP HO HLF HBEL HCT hA b6
        simp only [World.size_alloc] at r6
        go_wp2_with (at_builtin; refine wpList_append_run (by rfl) (.tmp 30) (.tmp 32) 36 (by rfl) _ (.slice (some ⟨wr.heap.size + 1, 0, none⟩) 1 1) (.slice a6 l6 c6) w6 (by rfl) (by rfl) r6 ?_)
        go_roundw
        case rel => exact ⟨i + 1, left - ysz, by omega, by go_num, rfl, HLF2.out, ⟨by omega, by omega⟩, HB7.out, HB6.out, HO6.out⟩
        case measure => simp [intOf]; omega
      · have q1 : decide (ysz ≤ left) = false := decide_eq_false hle
        rw [if_neg hle, List.append_nil] at HCT
        have HLF2 := Lib.hid (show left = b - sumP (cutP (l.take (i + 1)) b) by rw [HCT.out]; exact HLF.out)
        have HO2 := Lib.hid (HO.out.alloc (.cells #[.string yst, .int .i64 yix, .int .i64 ysz, .int .i64 ysp, .int .i64 ynum, .int .i64 yden, .int .i64 yday] 27))
        rw [← HCT.out] at HO2
        have HB6 := Lib.hid (hb2r.trans (hA.mono zr))
        have HB7 := Lib.hid (HBEL.out.trans (hA.mono HBEL.out.size))
        clear hle HAP HO HLF HBEL HCT hA hb2r
        go_wp2
        go_roundw
        case rel => exact ⟨i + 1, left, by omega, by go_num, rfl, HLF2.out, ⟨by omega, by omega⟩, HB7.out, HB6.out, HO2.out⟩
        case measure => simp [intOf]; omega
    · have HT := Lib.hid (show l.take i = l from List.take_of_length_le (by omega))
      rw [HT.out] at HO HLF
      have HSUM := Lib.hid (show b - left = sumP (cutP l b) by have := HLF.out; omega)
      have hw : IntKind.i64.wrap (b - left) = b - left := by rw [IntKind.wrap_i64]; omega
      have HRD := Lib.hid (HO.out.reads (by have := cutP_len l b; have := HLL.out; omega))
      obtain ⟨a7, l7, c7, rfl⟩ := Own.slice HO.out
      clear HLF HO
      go_wp2
      refine bodyPost_ret (results_tmp3 Try.results18 _ _ _) rfl ?_
      exact ⟨HBEL.out, .inr ⟨⟨HOK.out, h0b⟩, .slice a7 l7 c7, by rw [← HL.out, ← HSUM.out]; rfl, by rw [← HL.out]; exact HRD.out⟩⟩

end Go.Proofs.Ytcgilfnhbliadaa
