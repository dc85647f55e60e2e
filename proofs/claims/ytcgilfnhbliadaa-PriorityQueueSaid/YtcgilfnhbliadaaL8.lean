/- The law Queue: the walk. -/
import Derived.Test.YtcgilfnhbliadaaL7
import Derived.Test.YtcgilfnhbliadaaL6
import Derived.Test.YtcgilfnhbliadaaO2
namespace Go.Proofs.Ytcgilfnhbliadaa
open Go.RowKit Go.Lib Go.ChangeMaps
set_option linter.unusedSimpArgs false

theorem QAt.own {w : World} {b m base : Nat} {v : Value} {S ts : List Tk} (h : QAt w b m S) (ho : OwnT 32 w base v ts) : v.ownBlock ≠ some b ∧ v.ownBlock ≠ some m := by
  obtain ⟨h1, L, ck, h2, _⟩ := h
  obtain ⟨xs, ⟨_, h3⟩, _⟩ := ho
  refine ⟨fun e => ?_, fun e => ?_⟩
  · rcases h3 with ⟨rfl, _⟩ | ⟨g', cap, cur, rfl, _, h4, _⟩
    · cases e
    · cases e; rw [h1] at h4; cases h4
  · rcases h3 with ⟨rfl, _⟩ | ⟨g', cap, cur, rfl, _, h4, _⟩
    · cases e
    · cases e; unfold qObj at h2; rw [h2] at h4; cases h4
theorem QAt.same {w w' : World} {b m : Nat} {v : Value} {S : List Tk} (h : QAt w b m S) (hb : v.ownBlock ≠ some b) (hm : v.ownBlock ≠ some m) (hk : ∀ j, j < w.heap.size → v.ownBlock ≠ some j → w'.heap[j]? = w.heap[j]?) : QAt w' b m S := by
  obtain ⟨h1, L, ck, h2, h3⟩ := h
  exact ⟨(hk b (Array.getElem?_eq_some_iff.1 h1).1 hb).trans h1, L, ck, (hk m (Array.getElem?_eq_some_iff.1 h2).1 hm).trans h2, h3⟩
theorem OwnT.grown {w w' : World} {m base : Nat} {v : Value} {ts : List Tk} (h : OwnT 32 w base v ts) (hm : v.ownBlock ≠ some m) (hg : w.grownBy w' (some m)) : OwnT 32 w' base v ts :=
  Own.same h fun g hg' => hg.block g (h.lt g hg').2 (fun e => hm (hg'.trans e))

theorem OwnT.low {e : TypeId} {w : World} {B base : Nat} {v : Value} {ts : List Tk} (h : OwnT e w B v ts) (hb : base ≤ B) : OwnT e w base v ts := by
  obtain ⟨xs, ⟨h0, h2⟩, h3⟩ := h
  refine ⟨xs, ⟨h0, ?_⟩, h3⟩
  rcases h2 with h | ⟨g, cap, cur, e1, e2, e3⟩
  · exact .inl h
  · exact .inr ⟨g, cap, cur, e1, Nat.le_trans hb e2, e3⟩

set_option maxRecDepth 100000 in
set_option maxHeartbeats 32000000 in
theorem law_queue (v : Value) (os : List Qo) (w : World) (hv : ReadsO w v os) : Calls Try.prog 11 #[v] w fun e w' => e = .returned (.bool true) ∧ Below w.heap.size w w' := by
  have HV := Lib.hid hv
  obtain ⟨ja, jc, jb, jo, rfl, -, jm, jcell⟩ := hv.at
  have JC := Lib.hid jcell
  clear hv jcell
  have CA := Lib.hid (fun W => awake_any W)
  go_enter Try.func11, Try.ntmps11
  go_wp2_with fail
  refine (CA.out _).mono ?_
  rintro e w1 ⟨rfl, hbw⟩
  by_cases hf : (os.length : Int) > 25
  · have q1 : decide ((25 : Int) < os.length) = true := decide_eq_true hf
    clear hf
    go_wp2_with fail
    refine (CA.out _).mono ?_
    rintro e w3 ⟨rfl, hb3⟩
    go_wp2
    go_ret
    exact ⟨rfl, hbw.trans (hb3.mono hbw.size)⟩
  have q1 : decide ((25 : Int) < os.length) = false := decide_eq_false hf
  have hn : os.length ≤ 25 := by omega
  clear hf
  have CN := Lib.hid (New_any w1)
  go_wp2_with fail
  refine CN.out.mono ?_
  rintro e w3 ⟨rfl, hw3⟩
  have HQ3 := Lib.hid (QAt_new w1)
  have hb3 : Below w1.heap.size w1 ((w1.alloc (.map #[] 0)).alloc (.cells #[.map (some w1.heap.size)] 84)) := (sb0 _).trans ((sb0 _).mono (by rw [World.size_alloc]; omega))
  rw [← hw3] at hb3 HQ3
  have hbw3 := hbw.trans (hb3.mono hbw.size)
  obtain ⟨b, hb⟩ : ∃ b, b = w1.heap.size + 1 := ⟨_, rfl⟩
  obtain ⟨m, hm⟩ : ∃ m, m = w1.heap.size := ⟨_, rfl⟩
  rw [← hb] at HQ3 ⊢
  rw [← hm] at HQ3
  have HBM := Lib.hid (show w.heap.size ≤ m by rw [hm]; exact hbw.size)
  have HBW3 := Lib.hid hbw3
  clear CN hw3 hb3 hbw hb hm q1
  have hz3 := hbw3.size
  clear hbw3
  go_wp2
  go_loopw [5, 4] (fun v5 v4 wr => ∃ (i : Nat) (M : List Tk), i ≤ os.length ∧ v5 = .int .i64 i ∧ OwnT 32 wr w.heap.size v4 M ∧ QAt wr b m M ∧ Below w.heap.size w wr ∧ AllOk M ∧ M.length ≤ i) (fun v5 _ _ => os.length - (intOf v5).toNat)
  case atStart => exact ⟨0, [], Nat.zero_le _, rfl, Own.lit0 _ _ _ _ _ hz3, HQ3.out.below (sb0 _), HBW3.out.trans ((sb0 _).mono HBW3.out.size), fun _ h => absurd h List.not_mem_nil, Nat.le_refl _⟩
  case round =>
    obtain ⟨i, M, hi, rfl, hom, hqm, hbel, hokm, hlm⟩ := hrel
    have HOM := Lib.hid hom
    have HQM := Lib.hid hqm
    have HBEL := Lib.hid hbel
    have HOKM := Lib.hid hokm
    have HLM := Lib.hid hlm
    have zr := hbel.size
    clear hom hqm hokm hlm
    by_cases hlt : i < os.length
    rotate_left
    · go_wp2
      go_ret
      exact ⟨rfl, HBEL.out⟩
    obtain ⟨rfl, d0, d1, d2, d3, d4, d5, d6, d7, d8⟩ := JC.out i hlt
    have d0 := bc hbel d0
    have d1 := bc hbel d1
    have d2 := bc hbel d2
    have d3 := bc hbel d3
    have d4 := bc hbel d4
    have d5 := bc hbel d5
    have d6 := bc hbel d6
    have d7 := bc hbel d7
    have d8 := bc hbel d8
    generalize os.getD i default = q at *
    obtain ⟨kind, t, room⟩ := q
    simp only at d0 d1 d2 d3 d4 d5 d6 d7 d8
    obtain ⟨tt, htt⟩ : ∃ tt, tt = t := ⟨_, rfl⟩
    have HTT := Lib.hid htt
    clear htt
    obtain ⟨tst, tix, tsz, tsp, tnum, tden, tday⟩ := t
    simp only at d1 d2 d3 d4 d5 d6 d7
    go_upto_region 9 with fail
    have hA : Below wr.heap.size wr (wr.alloc (.cells #[.int .i64 kind, .string tst, .int .i64 tix, .int .i64 tsz, .int .i64 tsp, .int .i64 tnum, .int .i64 tden, .int .i64 tday, .int .i64 room] 68)) := sb0 _
    have hx := heap_alloc_new wr (.cells #[.int .i64 kind, .string tst, .int .i64 tix, .int .i64 tsz, .int .i64 tsp, .int .i64 tnum, .int .i64 tden, .int .i64 tday, .int .i64 room] 68)
    obtain ⟨X, hX⟩ : ∃ X, X = wr.heap.size := ⟨_, rfl⟩
    have HX := Lib.hid hX
    rw [← hX] at hx ⊢
    have HOM4 := Lib.hid (HOM.out.below hA)
    have HQM4 := Lib.hid (HQM.out.below hA)
    have HB4 := Lib.hid (HBEL.out.trans (hA.mono zr))
    have HXL := Lib.hid (show X < (wr.alloc (.cells #[.int .i64 kind, .string tst, .int .i64 tix, .int .i64 tsz, .int .i64 tsp, .int .i64 tnum, .int .i64 tden, .int .i64 tday, .int .i64 room] 68)).heap.size from (Array.getElem?_eq_some_iff.1 hx).1)
    have HBX := Lib.hid (show b < X by rw [hX]; exact (Array.getElem?_eq_some_iff.1 HQM.out.1).1)
    have HMX := Lib.hid (show m < X by rw [hX]; obtain ⟨_, _, _, h2, _⟩ := HQM.out; exact (Array.getElem?_eq_some_iff.1 h2).1)
    clear d0 d1 d2 d3 d4 d5 d6 d7 d8 hA hX hbel
    generalize wr.alloc (.cells #[.int .i64 kind, .string tst, .int .i64 tix, .int .i64 tsz, .int .i64 tsp, .int .i64 tnum, .int .i64 tden, .int .i64 tday, .int .i64 room] 68) = w4 at *
    have HXW := Lib.hid hx
    have x0 := cell_of_row w4 _ 0 _ _ _ hx
    have x1 := cell_of_row w4 _ 1 _ _ _ hx
    have x2 := cell_of_row w4 _ 2 _ _ _ hx
    have x3 := cell_of_row w4 _ 3 _ _ _ hx
    have x4 := cell_of_row w4 _ 4 _ _ _ hx
    have x5 := cell_of_row w4 _ 5 _ _ _ hx
    have x6 := cell_of_row w4 _ 6 _ _ _ hx
    have x7 := cell_of_row w4 _ 7 _ _ _ hx
    have x8 := cell_of_row w4 _ 8 _ _ _ hx
    clear hx zr
    by_cases hsz : (64 : Int) < tst.size
    · have q1 : decide ((64 : Int) < tst.size) = true := decide_eq_true hsz
      clear hsz
      go_wp2
      go_ret
      exact ⟨rfl, HB4.out⟩
    have q1 : decide ((64 : Int) < tst.size) = false := decide_eq_false hsz
    clear hsz
    have HRM := Lib.hid (HOM4.out.reads (by have := HLM.out; omega))
    obtain ⟨a4, c4, rfl⟩ := HOM4.out.slice
    obtain ⟨_, _, mb, mo, hme, -, mm, mcell⟩ := HRM.out.at
    cases hme
    have MC := Lib.hid mcell
    clear mcell
    have hz4 : w.heap.size ≤ w4.heap.size := HB4.out.size
    go_wp2
    go_loopw [47, 7, 9] (fun v47 v7 _ wx => ∃ k : Nat, k ≤ M.length ∧ v47 = .int .i64 k ∧ OwnT 32 wx w4.heap.size v7 (delS tt.pc (M.take k)) ∧ Below w4.heap.size w4 wx) (fun v47 _ _ _ => M.length - (intOf v47).toNat)
    case atStart => exact ⟨0, Nat.zero_le _, rfl, Own.lit0 _ _ _ _ _ (Nat.le_refl _), sb0 _⟩
    case round =>
      obtain ⟨k, hk, rfl, hoth, hb4⟩ := hrel
      have HOTH := Lib.hid hoth
      have HB4R := Lib.hid hb4
      clear hoth
      by_cases hkl : k < M.length
      · obtain ⟨rfl, d0, d1, d2, d3, d4, d5, d6⟩ := MC.out k hkl
        have d0 := bc hb4 d0
        have d1 := bc hb4 d1
        have d2 := bc hb4 d2
        have d3 := bc hb4 d3
        have d4 := bc hb4 d4
        have d5 := bc hb4 d5
        have d6 := bc hb4 d6
        have z0 := bc hb4 x0
        have z1 := bc hb4 x1
        have z2 := bc hb4 x2
        have HDT := Lib.hid (delS_take hkl tt.pc)
        have HEQ := fun W => eqIn23 (M.getD k default).pc tt.pc W
        have zr := hb4.size
        have hxl : X < wr.heap.size := Nat.lt_of_lt_of_le HXL.out zr
        have HAP := Lib.hid (fun (W : World) (ho : OwnT 32 W w4.heap.size u7 (delS tt.pc (M.take k))) (hz : w4.heap.size ≤ W.heap.size) => ho.app32 (M.getD k default) (by have := delS_len tt.pc (M.take k); rw [List.length_take] at this; have := HLM.out; omega) hz)
        rw [HTT.out] at HEQ
        unfold Tk.pc Pc.v at HEQ
        obtain ⟨eqb, heqb⟩ : ∃ eqb, eqb = decide ((M.getD k default).pc = tt.pc) := ⟨_, rfl⟩
        have HEB := Lib.hid heqb
        rw [HTT.out] at heqb
        unfold Tk.pc at heqb
        generalize M.getD k default = y at *
        rw [← heqb] at HEQ
        clear heqb
        obtain ⟨yst, yix, ysz, ysp, ynum, yden, yday⟩ := y
        simp only at d0 d1 d2 d3 d4 d5 d6 HAP HDT HEQ
        have hA : Below wr.heap.size wr (wr.alloc (.cells #[.string yst, .int .i64 yix, .int .i64 ysz, .int .i64 ysp, .int .i64 ynum, .int .i64 yden, .int .i64 yday] 32)) := sb0 _
        have HO2 := Lib.hid (HOTH.out.below hA)
        have HB6 := Lib.hid (HB4R.out.trans (hA.mono zr))
        cases eqb with
        | true =>
          have HD2 := Lib.hid (show delS tt.pc (M.take (k + 1)) = delS tt.pc (M.take k) by rw [HDT.out, if_pos (of_decide_eq_true HEB.out.symm), List.append_nil])
          rw [← HD2.out] at HO2
          clear HAP HDT hA zr
          go_wp2
          go_roundw
          case rel => exact ⟨k + 1, by omega, by go_num, HO2.out, HB6.out⟩
          case measure => simp [intOf]; omega
        | false =>
          rw [if_neg (of_decide_eq_false HEB.out.symm)] at HDT
          have hrow := heap_alloc_new wr (.cells #[.string yst, .int .i64 yix, .int .i64 ysz, .int .i64 ysp, .int .i64 ynum, .int .i64 yden, .int .i64 yday] 32)
          obtain ⟨v6, w6, r6, o6, b6, k6⟩ := HAP.out _ HO2.out (Nat.le_trans zr hA.size)
          have HO6 := Lib.hid (show OwnT 32 w6 w4.heap.size v6 (delS tt.pc (M.take (k + 1))) by rw [HDT.out]; exact o6)
          have HB7 := Lib.hid (HB6.out.trans b6)
          obtain ⟨a6, l6, c6, rfl⟩ := Own.slice o6
          obtain ⟨a7, c7, rfl⟩ := HOTH.out.slice
          simp only [World.size_alloc] at r6
          clear o6 b6 k6 hrow HAP HDT hA zr HO2 HB6
          go_wp2_with (at_builtin; refine wpList_append_run (by rfl) (.tmp 57) (.tmp 59) 41 (by rfl) _ (.slice (some ⟨wr.heap.size + 1, 0, none⟩) 1 1) (.slice a6 l6 c6) w6 (by rfl) (by rfl) r6 ?_)
          go_roundw
          case rel => exact ⟨k + 1, by omega, by go_num, HO6.out, HB7.out⟩
          case measure => simp [intOf]; omega
      · have HT := Lib.hid (show M.take k = M from List.take_of_length_le (by omega))
        rw [HT.out] at HOTH
        have HOM5 := Lib.hid (HOM4.out.below hb4)
        have HQ5 := Lib.hid (HQM4.out.below hb4)
        have HB5 := Lib.hid (HB4.out.trans (hb4.mono HB4.out.size))
        have HX5 := Lib.hid (bb hb4 HXW.out)
        have z0 := bc hb4 x0
        have z1 := bc hb4 x1
        have z2 := bc hb4 x2
        have z3 := bc hb4 x3
        have z4 := bc hb4 x4
        have z5 := bc hb4 x5
        have z6 := bc hb4 x6
        have z7 := bc hb4 x7
        have z8 := bc hb4 x8
        clear x0 x1 x2 x3 x4 x5 x6 x7 x8 hb4
        by_cases k1 : kind = 1
        · subst k1
          have CP := Lib.hid (Put_any b m M tt wr HQ5.out)
          have CPL := Lib.hid (fun W => plain_any tt W)
          have CVR := Lib.hid (fun W => valid_ref tt W)
          have hpv : tt.v = .agg #[.string tst, .int .i64 tix, .int .i64 tsz, .int .i64 tsp, .int .i64 tnum, .int .i64 tden, .int .i64 tday] := by rw [HTT.out]; rfl
          rw [hpv] at CP CPL CVR
          clear hpv
          obtain ⟨a7, c7, rfl⟩ := HOTH.out.slice
          go_wp2_with fail
          refine CP.out.mono ?_
          rintro e w6 hcase
          clear CP
          rcases hcase with ⟨hok, rfl, hq6, hg6⟩ | ⟨hno, rfl, hb6⟩
          · have HQ6 := Lib.hid hq6
            have HB6 := Lib.hid (HB5.out.trans (gb_to_below hg6 HBM.out HB5.out.size))
            have HO6 := Lib.hid ((HOTH.out.grown (HQ5.out.own HOTH.out).2 hg6).low HB4.out.size)
            have HX6 := Lib.hid ((hg6.block X (Array.getElem?_eq_some_iff.1 HX5.out).1 (fun e => by have := HMX.out; injection e; omega)).trans HX5.out)
            rw [decide_eq_true hok] at CVR
            have HOKT := Lib.hid hok
            clear hq6 hg6 hok z0 z1 z2 z3 z4 z5 z6 z7 z8
            have z1 := cell_of_row w6 _ 1 _ _ _ HX6.out
            have z2 := cell_of_row w6 _ 2 _ _ _ HX6.out
            have z3 := cell_of_row w6 _ 3 _ _ _ HX6.out
            have z4 := cell_of_row w6 _ 4 _ _ _ HX6.out
            have z5 := cell_of_row w6 _ 5 _ _ _ HX6.out
            have z6 := cell_of_row w6 _ 6 _ _ _ HX6.out
            have z7 := cell_of_row w6 _ 7 _ _ _ HX6.out
            go_wp2_with fail
            refine (CPL.out _).mono ?_
            rintro e w7 ⟨rfl, hb7⟩
            go_wp2_with fail
            refine (CVR.out _).mono ?_
            rintro e w8 ⟨rfl, hb8⟩
            have hb68 := hb7.trans (hb8.mono hb7.size)
            have HQ8 := Lib.hid (HQ6.out.below hb68)
            have HB8 := Lib.hid (HB6.out.trans (hb68.mono HB6.out.size))
            have HO8 := Lib.hid (HO6.out.below hb68)
            have y1 := bc hb68 z1
            have y2 := bc hb68 z2
            have y3 := bc hb68 z3
            have y4 := bc hb68 z4
            have y5 := bc hb68 z5
            have y6 := bc hb68 z6
            have y7 := bc hb68 z7
            clear CVR hb7 hb8 hb68 z1 z2 z3 z4 z5 z6 z7
            go_wp2_with fail
            refine (CPL.out _).mono ?_
            rintro e w9 ⟨rfl, hb9⟩
            have HQ9 := Lib.hid (HQ8.out.below hb9)
            have HB9 := Lib.hid (HB8.out.trans (hb9.mono HB8.out.size))
            have HO9 := Lib.hid (HO8.out.below hb9)
            clear CPL hb9 y1 y2 y3 y4 y5 y6 y7
            obtain ⟨v10, w10, r10, o10, b10, k10⟩ := HO9.out.app32 tt (by have := delS_len tt.pc M; have := HLM.out; omega) HB9.out.size
            have hn9 := HQ9.out.own HO9.out
            obtain ⟨T', hT'⟩ : ∃ T', T' = delS tt.pc M ++ [tt] := ⟨_, rfl⟩
            have HT' := Lib.hid hT'
            rw [← hT'] at o10
            obtain ⟨a10, c10, rfl⟩ := o10.slice
            have HMt := Lib.hid o10
            have HQt := Lib.hid (show QAt w10 b m T' by rw [HT'.out]; exact HQ9.out.same hn9.1 hn9.2 k10)
            have HBt := Lib.hid (HB9.out.trans b10)
            have HOKt := Lib.hid (show AllOk T' from fun t ht => by
              rw [HT'.out] at ht
              rcases List.mem_append.1 ht with h | h
              · exact delS_ok HOKM.out _ t h
              · rw [List.mem_singleton.1 h]; exact HOKT.out)
            have HLt := Lib.hid (show T'.length ≤ i + 1 by rw [HT'.out]; have := delS_len tt.pc M; have := HLM.out; rw [List.length_append]; simp only [List.length_cons, List.length_nil]; omega)
            clear hT'
            have HR10 := Lib.hid r10
            clear r10 b10 k10 o10 hn9
            have r10 := HR10.out
            have h0 : tt.st = tst := by rw [HTT.out]
            have h1 : tt.ix = tix := by rw [HTT.out]
            have h2 : tt.size = tsz := by rw [HTT.out]
            have h3 : tt.spare = tsp := by rw [HTT.out]
            have h4 : tt.num = tnum := by rw [HTT.out]
            have h5 : tt.den = tden := by rw [HTT.out]
            have h6 : tt.day = tday := by rw [HTT.out]
            rw [h0, h1, h2, h3, h4, h5, h6] at r10
            clear h0 h1 h2 h3 h4 h5 h6
            have CO := Lib.hid (Order_ref _ _ _ (HMt.out.reads (by have := HLt.out; omega)) (by have := HLt.out; omega))
            go_wp2_with (at_builtin; refine wpList_append_run (by rfl) (.tmp 79) (.tmp 83) 41 (by rfl) _ (.slice (some ⟨w9.heap.size, 0, none⟩) 1 1) (.slice a10 T'.length c10) w10 (by rfl) (by rfl) r10 ?_)
            refine CO.out.mono ?_
            rintro e w6 ⟨hb6, ⟨hno, -⟩ | ⟨-, u, rfl, hru⟩⟩
            · exact absurd HOKt.out hno
            obtain ⟨ua, uc, _, _, rfl, -⟩ := hru.at
            have HM6 := Lib.hid (HMt.out.below hb6)
            have HQ6 := Lib.hid (HQt.out.below hb6)
            have HB6 := Lib.hid (HBt.out.trans (hb6.mono HBt.out.size))
            have HRU := Lib.hid hru
            have CL := Lib.hid (Len_any b m _ w6 HQ6.out)
            have CS := Lib.hid (List_any b m _ w6 HQ6.out HOKt.out (by have := HLt.out; omega))
            clear CO hru hb6
            go_wp2_with fail
            refine CL.out.mono ?_
            rintro e w7 ⟨rfl, rfl⟩
            clear CL
            go_wp2_with fail
            refine CS.out.mono ?_
            rintro e w8 ⟨u2', rfl, hr8, hb8⟩
            have CE := Lib.hid (same_same _ _ _ w8 hr8 (HRU.out.below hb8))
            obtain ⟨ua2, uc2, _, _, rfl, -⟩ := hr8.at
            have HM8 := Lib.hid (HM6.out.below hb8)
            have HQ8 := Lib.hid (HQ6.out.below hb8)
            have HB8 := Lib.hid (HB6.out.trans (hb8.mono HB6.out.size))
            clear CS hr8 hb8
            go_wp2_with fail
            refine CE.out.mono ?_
            rintro e w9 ⟨rfl, hb9⟩
            have HM9 := Lib.hid (HM8.out.below hb9)
            have HQ9 := Lib.hid (HQ8.out.below hb9)
            have HB9 := Lib.hid (HB8.out.trans (hb9.mono HB8.out.size))
            clear CE hb9
            go_wp2
            go_roundw
            case rel => exact ⟨i + 1, _, by omega, by go_num, HM9.out, HQ9.out, HB9.out, HOKt.out, by have := HLt.out; omega⟩
            case measure => simp [intOf]; omega
          · rw [decide_eq_false hno] at CVR
            have HQ6 := Lib.hid (HQ5.out.below hb6)
            have HB6 := Lib.hid (HB5.out.trans (hb6.mono HB5.out.size))
            have HM6 := Lib.hid (HOM5.out.below hb6)
            have y1 := bc hb6 z1
            have y2 := bc hb6 z2
            have y3 := bc hb6 z3
            have y4 := bc hb6 z4
            have y5 := bc hb6 z5
            have y6 := bc hb6 z6
            have y7 := bc hb6 z7
            clear hno hb6 z0 z1 z2 z3 z4 z5 z6 z7 z8
            go_wp2_with fail
            refine (CPL.out _).mono ?_
            rintro e w7 ⟨rfl, hb7⟩
            go_wp2_with fail
            refine (CVR.out _).mono ?_
            rintro e w8 ⟨rfl, hb8⟩
            have hb68 := hb7.trans (hb8.mono hb7.size)
            have HQ8 := Lib.hid (HQ6.out.below hb68)
            have HB8 := Lib.hid (HB6.out.trans (hb68.mono HB6.out.size))
            have HM8 := Lib.hid (HM6.out.below hb68)
            clear CVR CPL hb7 hb8 hb68 y1 y2 y3 y4 y5 y6 y7
            go_wp2
            go_roundw
            case rel => exact ⟨i + 1, M, by omega, by go_num, HM8.out, HQ8.out, HB8.out, HOKM.out, by have := HLM.out; omega⟩
            case measure => simp [intOf]; omega
        by_cases k2 : kind = 2
        · subst k2
          have CR := Lib.hid (Remove_any b m M tt.pc wr HQ5.out)
          have HLB := Lib.hid (delS_lt tt.pc M)
          obtain ⟨rb, hrb⟩ : ∃ rb, rb = decide (tt.pc ∈ M.map Tk.pc) := ⟨_, rfl⟩
          rw [← hrb] at CR
          have HRB := Lib.hid hrb
          clear hrb
          have hpc : tt.pc.v = .agg #[.string tst, .int .i64 tix] := by rw [HTT.out]; rfl
          rw [hpc] at CR
          clear hpc
          obtain ⟨a7, c7, rfl⟩ := HOTH.out.slice
          go_wp2_with fail
          refine CR.out.mono ?_
          rintro e w6 ⟨rfl, hq6, hg6⟩
          have HQt := Lib.hid hq6
          have HBt := Lib.hid (HB5.out.trans (gb_to_below hg6 HBM.out HB5.out.size))
          have HMt := Lib.hid ((HOTH.out.grown (HQ5.out.own HOTH.out).2 hg6).low HB4.out.size)
          have HOKt := Lib.hid (delS_ok HOKM.out tt.pc)
          have HLt := Lib.hid (show (delS tt.pc M).length ≤ i + 1 by have := delS_len tt.pc M; have := HLM.out; omega)
          have q2 : decide ((delS tt.pc M).length < M.length) = rb := by
            rw [HRB.out]; exact decide_eq_decide.2 HLB.out
          clear hq6 hg6 CR z1 z2 z3 z4 z5 z6 z7 z8
          cases rb
          all_goals
            have CO := Lib.hid (Order_ref _ _ _ (HMt.out.reads (by have := HLt.out; omega)) (by have := HLt.out; omega))
            go_wp2_with fail
            refine CO.out.mono ?_
            rintro e w6 ⟨hb6, ⟨hno, -⟩ | ⟨-, u, rfl, hru⟩⟩
            · exact absurd HOKt.out hno
            obtain ⟨ua, uc, _, _, rfl, -⟩ := hru.at
            have HM6 := Lib.hid (HMt.out.below hb6)
            have HQ6 := Lib.hid (HQt.out.below hb6)
            have HB6 := Lib.hid (HBt.out.trans (hb6.mono HBt.out.size))
            have HRU := Lib.hid hru
            have CL := Lib.hid (Len_any b m _ w6 HQ6.out)
            have CS := Lib.hid (List_any b m _ w6 HQ6.out HOKt.out (by have := HLt.out; omega))
            clear CO hru hb6
            go_wp2_with fail
            refine CL.out.mono ?_
            rintro e w7 ⟨rfl, rfl⟩
            clear CL
            go_wp2_with fail
            refine CS.out.mono ?_
            rintro e w8 ⟨u2', rfl, hr8, hb8⟩
            have CE := Lib.hid (same_same _ _ _ w8 hr8 (HRU.out.below hb8))
            obtain ⟨ua2, uc2, _, _, rfl, -⟩ := hr8.at
            have HM8 := Lib.hid (HM6.out.below hb8)
            have HQ8 := Lib.hid (HQ6.out.below hb8)
            have HB8 := Lib.hid (HB6.out.trans (hb8.mono HB6.out.size))
            clear CS hr8 hb8
            go_wp2_with fail
            refine CE.out.mono ?_
            rintro e w9 ⟨rfl, hb9⟩
            have HM9 := Lib.hid (HM8.out.below hb9)
            have HQ9 := Lib.hid (HQ8.out.below hb9)
            have HB9 := Lib.hid (HB8.out.trans (hb9.mono HB8.out.size))
            clear CE hb9
            go_wp2
            go_roundw
            case rel => exact ⟨i + 1, _, by omega, by go_num, HM9.out, HQ9.out, HB9.out, HOKt.out, by have := HLt.out; omega⟩
            case measure => simp [intOf]; omega
        by_cases k3 : kind = 3
        · subst k3
          have CX := Lib.hid (Next_any b m M room wr HQ5.out HOKM.out)
          go_wp2_with fail
          refine CX.out.mono ?_
          rintro e w6 hcase
          clear CX
          obtain ⟨f, ec, S', hbp, rfl, hq6, hg6⟩ : ∃ (f : Tk) (ec : Int) (S' : List Tk), ((ec = 4 ∧ f = zT ∧ S' = M ∧ BestP M room none) ∨ (ec = 0 ∧ S' = delS f.pc M ∧ BestP M room (some f))) ∧ e = .returned (.tuple #[f.v, .int .i64 ec]) ∧ QAt w6 b m S' ∧ wr.grownBy w6 (some m) := by
            rcases hcase with ⟨h1, h2, h3, h4⟩ | ⟨f, h1, h2, h3, h4⟩
            · exact ⟨zT, 4, M, .inl ⟨rfl, rfl, rfl, h1⟩, h2, h3, gb_of h4 _⟩
            · exact ⟨f, 0, _, .inr ⟨rfl, rfl, h1⟩, h2, h3, h4⟩
          have HBP := Lib.hid hbp
          have HQ6 := Lib.hid hq6
          have HB6 := Lib.hid (HB5.out.trans (gb_to_below hg6 HBM.out HB5.out.size))
          have HM6 := Lib.hid (HOM5.out.grown (HQ5.out.own HOM5.out).2 hg6)
          have HX6 := Lib.hid ((hg6.block X (Array.getElem?_eq_some_iff.1 HX5.out).1 (fun e => by have := HMX.out; injection e; omega)).trans HX5.out)
          obtain ⟨ff, hff⟩ : ∃ ff, ff = f := ⟨_, rfl⟩
          have HFF := Lib.hid hff
          rw [← hff] at HBP
          clear hff hcase hbp hq6 hg6 z0 z1 z2 z3 z4 z5 z6 z7 z8
          obtain ⟨fst, fix, fsz, fsp, fnum, fden, fday⟩ := f
          unfold Tk.v
          simp only
          have hA : Below w6.heap.size w6 (w6.alloc (.cells #[.string fst, .int .i64 fix, .int .i64 fsz, .int .i64 fsp, .int .i64 fnum, .int .i64 fden, .int .i64 fday] 27)) := sb0 _
          have HF7 := Lib.hid (heap_alloc_new w6 (.cells #[.string fst, .int .i64 fix, .int .i64 fsz, .int .i64 fsp, .int .i64 fnum, .int .i64 fden, .int .i64 fday] 27))
          have HQ7 := Lib.hid (HQ6.out.below hA)
          have HM7 := Lib.hid (HM6.out.below hA)
          have HB7 := Lib.hid (HB6.out.trans (hA.mono HB6.out.size))
          have HX7 := Lib.hid (bb hA HX6.out)
          have CO3 := Lib.hid (Order_ref _ _ _ (HM7.out.reads (by have := HLM.out; omega)) (by have := HLM.out; omega))
          obtain ⟨N, hN⟩ : ∃ N, N = w6.heap.size := ⟨_, rfl⟩
          obtain ⟨w7, hw7⟩ : ∃ w7, w7 = w6.alloc (.cells #[.string fst, .int .i64 fix, .int .i64 fsz, .int .i64 fsp, .int .i64 fnum, .int .i64 fden, .int .i64 fday] 27) := ⟨_, rfl⟩
          rw [← hw7] at HF7 HQ7 HM7 HB7 HX7 CO3
          rw [← hN] at HF7
          have HW7 := Lib.hid hw7
          have HNN := Lib.hid hN
          clear hA hw7 hN
          go_upto_region 33 with fail
          rw [← HW7.out]
          try rw [← HNN.out]
          go_wp2_with fail
          refine CO3.out.mono ?_
          rintro e w8 ⟨hb8, ⟨hno, -⟩ | ⟨-, u, rfl, hru⟩⟩
          · exact absurd HOKM.out hno
          have HQ8 := Lib.hid (HQ7.out.below hb8)
          have HM8 := Lib.hid (HM7.out.below hb8)
          have HB8 := Lib.hid (HB7.out.trans (hb8.mono HB7.out.size))
          have HX8 := Lib.hid (bb hb8 HX7.out)
          have HF8 := Lib.hid (bb hb8 HF7.out)
          obtain ⟨l, hl⟩ : ∃ l, l = orderP M := ⟨_, rfl⟩
          have HLS := Lib.hid (show Srt l by rw [hl]; exact orderP_srt HOKM.out)
          have HLP := Lib.hid (show l.Perm M by rw [hl]; exact order_perm HQM.out.nodup HOKM.out)
          have HLO := Lib.hid (show AllOk l by rw [hl]; exact orderP_ok HOKM.out)
          have HLL := Lib.hid (show l.length = M.length from HLP.out.length_eq)
          rw [← hl] at hru
          have HRL := Lib.hid hru
          obtain ⟨la, lc, lb, lo, rfl, hlc, lm, lcell⟩ := hru.at
          have LC := Lib.hid lcell
          clear hl hru lcell CO3 hb8
          go_wp2
          go_loopw [15] (fun v15 wx => ∃ kx : Nat, kx ≤ l.length ∧ v15 = .int .i64 kx ∧ (∀ j, j < kx → ¬ (l.getD j default).size ≤ room) ∧ Below w8.heap.size w8 wx) (fun v15 _ => l.length - (intOf v15).toNat)
          case atStart => exact ⟨0, Nat.zero_le _, rfl, fun j hj => by omega, Below.refl _ _⟩
          case round =>
            obtain ⟨kx, hkx, rfl, hno, hb9⟩ := hrel
            have HNO := Lib.hid hno
            have HB9 := Lib.hid (HB8.out.trans (hb9.mono HB8.out.size))
            have HQ9 := Lib.hid (HQ8.out.below hb9)
            have HM9 := Lib.hid (HM8.out.below hb9)
            have HBR := Lib.hid hb9.drew
            clear hno
            by_cases hkl : kx < l.length
            · obtain ⟨rfl, e0, e1, e2, e3, e4, e5, e6⟩ := LC.out kx hkl
              have E0 := Lib.hid (bc hb9 e0)
              have E1 := Lib.hid (bc hb9 e1)
              have E2 := Lib.hid (bc hb9 e2)
              have E3 := Lib.hid (bc hb9 e3)
              have E4 := Lib.hid (bc hb9 e4)
              have E5 := Lib.hid (bc hb9 e5)
              have E6 := Lib.hid (bc hb9 e6)
              have hx9 := bb hb9 HX8.out
              have x8 := cell_of_row wr _ 8 _ _ _ hx9
              have HF9 := Lib.hid (bb hb9 HF8.out)
              have d2 := E2.out
              obtain ⟨sz, hsz⟩ : ∃ sz, sz = (l.getD kx default).size := ⟨_, rfl⟩
              have HSZ := Lib.hid hsz
              rw [← hsz] at d2
              have hbd : Below wr.heap.size wr wr.drew := (Below.refl _ _).drew
              have HQD := Lib.hid (HQ9.out.below hbd)
              have HBD := Lib.hid HB9.out.drew
              have HRD := Lib.hid ((HRL.out.below hb9).below hbd)
              have E0 := Lib.hid (bc hbd E0.out)
              have E1 := Lib.hid (bc hbd E1.out)
              have E2 := Lib.hid (bc hbd E2.out)
              have E3 := Lib.hid (bc hbd E3.out)
              have E4 := Lib.hid (bc hbd E4.out)
              have E5 := Lib.hid (bc hbd E5.out)
              have E6 := Lib.hid (bc hbd E6.out)
              have HF9 := Lib.hid (bb hbd HF9.out)
              clear hsz e0 e1 e2 e3 e4 e5 e6 hx9 hb9 hbd
              go_upto_region 35 with fail
              have HSB0 : ∀ w' : World, Below (wr).drew.heap.size (wr).drew w' → (w'.cell? ⟨lb, lo + kx * 7 + 2, none⟩ = some (.int .i64 sz) ∧ w'.cell? ⟨X, 8, none⟩ = some (.int .i64 room)) := fun w' hb => ⟨bc hb d2, bc hb x8⟩
              refine wp_region_held_drew (S := fun w' => w'.cell? ⟨lb, lo + kx * 7 + 2, none⟩ = some (.int .i64 sz) ∧ w'.cell? ⟨X, 8, none⟩ = some (.int .i64 room)) (by kernel_rfl) (HSB0 _ (Below.refl _ _)) (fun hHeld => ?_)
              have HSB := Lib.hid HSB0
              clear HSB0
              generalize (wr).drew = Wd at *
              clear d2 x8
              refine wpAnyH_take (i := 0) (v := ?_) rfl (by kernel_rfl) (by kernel_rfl) (by kernel_rfl) (fun _ _ _ h => h) (Or.inl ⟨by rfl, ?_⟩) (by assumption) ?_
              rotate_left; · (intro w hSw; (try dsimp only at hSw); go_simp; try with_reducible rfl)
              try simp only [Act.put, List.getElem_toArray, List.getElem_cons_zero, List.getElem_cons_succ, List.setIfInBounds_toArray, List.set_cons_zero, List.set_cons_succ]
              refine wpAnyH_take (i := 1) (v := ?_) rfl (by kernel_rfl) (by kernel_rfl) (by kernel_rfl) (fun _ _ _ h => h) (Or.inl ⟨by rfl, ?_⟩) (by assumption) ?_
              rotate_left; · (intro w hSw; (try dsimp only at hSw); go_simp; try with_reducible rfl)
              try simp only [Act.put, List.getElem_toArray, List.getElem_cons_zero, List.getElem_cons_succ, List.setIfInBounds_toArray, List.set_cons_zero, List.set_cons_succ]
              refine wpAnyH_take (i := 2) (v := ?_) rfl (by kernel_rfl) (by kernel_rfl) (by kernel_rfl) (fun _ _ _ h => h) (Or.inl ⟨by rfl, ?_⟩) (by assumption) ?_
              rotate_left; · (intro w hSw; (try dsimp only at hSw); go_simp; try with_reducible rfl)
              try simp only [Act.put, List.getElem_toArray, List.getElem_cons_zero, List.getElem_cons_succ, List.setIfInBounds_toArray, List.set_cons_zero, List.set_cons_succ]
              refine wpAnyH_take (i := 3) (v := ?_) rfl (by kernel_rfl) (by kernel_rfl) (by kernel_rfl) (fun _ _ _ h => h) (Or.inl ⟨by rfl, ?_⟩) (by assumption) ?_
              rotate_left; · (intro w hSw; (try dsimp only at hSw); go_simp; try with_reducible rfl)
              try simp only [Act.put, List.getElem_toArray, List.getElem_cons_zero, List.getElem_cons_succ, List.setIfInBounds_toArray, List.set_cons_zero, List.set_cons_succ]
              refine wpAnyH_take (i := 4) (v := ?_) rfl (by kernel_rfl) (by kernel_rfl) (by kernel_rfl) (fun _ _ _ h => h) (Or.inl ⟨by rfl, ?_⟩) (by assumption) ?_
              rotate_left; · (intro w hSw; (try dsimp only at hSw); go_simp; try with_reducible rfl)
              try simp only [Act.put, List.getElem_toArray, List.getElem_cons_zero, List.getElem_cons_succ, List.setIfInBounds_toArray, List.set_cons_zero, List.set_cons_succ]
              refine wpAnyH_take (i := 5) (v := ?_) rfl (by kernel_rfl) (by kernel_rfl) (by kernel_rfl) (fun _ _ _ h => h) (Or.inl ⟨by rfl, ?_⟩) (by assumption) ?_
              rotate_left; · (intro w hSw; (try dsimp only at hSw); go_simp; try with_reducible rfl)
              try simp only [Act.put, List.getElem_toArray, List.getElem_cons_zero, List.getElem_cons_succ, List.setIfInBounds_toArray, List.set_cons_zero, List.set_cons_succ]
              refine wpAnyH_take (i := 6) (v := ?_) rfl (by kernel_rfl) (by kernel_rfl) (by kernel_rfl) (fun _ _ _ h => h) (Or.inl ⟨by rfl, ?_⟩) (by assumption) ?_
              rotate_left; · (intro w hSw; (try dsimp only at hSw); go_simp; try with_reducible rfl)
              try simp only [Act.put, List.getElem_toArray, List.getElem_cons_zero, List.getElem_cons_succ, List.setIfInBounds_toArray, List.set_cons_zero, List.set_cons_succ]
              refine wpAnyH_take (i := 7) (v := ?_) rfl (by kernel_rfl) (by kernel_rfl) (by kernel_rfl) (fun _ _ _ h => h) (Or.inl ⟨by rfl, ?_⟩) (by assumption) ?_
              rotate_left; · (intro w hSw; (try dsimp only at hSw); go_simp; try with_reducible rfl)
              try simp only [Act.put, List.getElem_toArray, List.getElem_cons_zero, List.getElem_cons_succ, List.setIfInBounds_toArray, List.set_cons_zero, List.set_cons_succ]
              refine wpAnyH_take (i := 8) (v := ?_) rfl (by kernel_rfl) (by kernel_rfl) (by kernel_rfl) (fun _ _ _ h => h) (Or.inl ⟨by rfl, ?_⟩) (by assumption) ?_
              rotate_left; · (intro w hSw; (try dsimp only at hSw); go_simp; try with_reducible rfl)
              try simp only [Act.put, List.getElem_toArray, List.getElem_cons_zero, List.getElem_cons_succ, List.setIfInBounds_toArray, List.set_cons_zero, List.set_cons_succ]
              refine wpAnyH_take (i := 9) (v := ?_) rfl (by kernel_rfl) (by kernel_rfl) (by kernel_rfl) (fun _ _ _ h => h) (Or.inl ⟨by rfl, ?_⟩) (by assumption) ?_
              rotate_left; · (intro w hSw; (try dsimp only at hSw); go_simp; try with_reducible rfl)
              try simp only [Act.put, List.getElem_toArray, List.getElem_cons_zero, List.getElem_cons_succ, List.setIfInBounds_toArray, List.set_cons_zero, List.set_cons_succ]
              refine wpAnyH_take (i := 10) (v := ?_) rfl (by kernel_rfl) (by kernel_rfl) (by kernel_rfl) (fun _ _ _ h => h) (Or.inl ⟨by rfl, ?_⟩) (by assumption) ?_
              rotate_left; · (intro w hSw; (try dsimp only at hSw); go_simp; try with_reducible rfl)
              try simp only [Act.put, List.getElem_toArray, List.getElem_cons_zero, List.getElem_cons_succ, List.setIfInBounds_toArray, List.set_cons_zero, List.set_cons_succ]
              refine wpAnyH_take (i := 11) (v := ?_) rfl (by kernel_rfl) (by kernel_rfl) (by kernel_rfl) (fun _ _ _ h => h) (Or.inl ⟨by rfl, ?_⟩) (by assumption) ?_
              rotate_left; · (intro w hSw; (try dsimp only at hSw); go_simp; try with_reducible rfl)
              try simp only [Act.put, List.getElem_toArray, List.getElem_cons_zero, List.getElem_cons_succ, List.setIfInBounds_toArray, List.set_cons_zero, List.set_cons_succ]
              refine wpAnyH_take (i := 12) (v := ?_) rfl (by kernel_rfl) (by kernel_rfl) (by kernel_rfl) (fun _ _ _ h => h) (Or.inl ⟨by rfl, ?_⟩) (by assumption) ?_
              rotate_left; · (intro w hSw; (try dsimp only at hSw); go_simp; try with_reducible rfl)
              try simp only [Act.put, List.getElem_toArray, List.getElem_cons_zero, List.getElem_cons_succ, List.setIfInBounds_toArray, List.set_cons_zero, List.set_cons_succ]
              refine wpAnyH_take (i := 13) (v := ?_) rfl (by kernel_rfl) (by kernel_rfl) (by kernel_rfl) (fun _ _ _ h => h) (Or.inl ⟨by rfl, ?_⟩) (by assumption) ?_
              rotate_left; · (intro w hSw; (try dsimp only at hSw); go_simp; try with_reducible rfl)
              try simp only [Act.put, List.getElem_toArray, List.getElem_cons_zero, List.getElem_cons_succ, List.setIfInBounds_toArray, List.set_cons_zero, List.set_cons_succ]
              refine wpAnyH_done (by kernel_rfl) ?_ _
              clear hHeld HSB
              by_cases hgt : room < sz
              · have q1 : decide (room < sz) = true := decide_eq_true hgt
                have HN := Lib.hid (show ∀ j, j < kx + 1 → ¬ (l.getD j default).size ≤ room from fun j hj => by
                  by_cases e : j = kx
                  · subst e; rw [← HSZ.out]; omega
                  · exact HNO.out j (by omega))
                clear hgt
                rw [q1]
                go_wp2
                go_roundw
                case rel => exact ⟨kx + 1, by omega, by go_num, HN.out, HBR.out⟩
                case measure => simp [intOf]; omega
              · have q1 : decide (room < sz) = false := decide_eq_false hgt
                have HKN := Lib.hid (show ((kx : Int) == (l.length : Int)) = false by simp; omega)
                obtain ⟨rfl, hS, hfl⟩ : ec = 0 ∧ S' = delS (l.getD kx default).pc M ∧ ff = l.getD kx default := by
                  rcases HBP.out with ⟨_, _, _, h⟩ | ⟨h1, h2, h3⟩
                  · exact absurd (by rw [← HSZ.out]; omega) (best_no h HLP.out hkl)
                  · have := best_first h3 HLP.out HLS.out hkl HNO.out (by rw [← HSZ.out]; omega)
                    exact ⟨h1, by rw [h2, this], this⟩
                clear hgt
                rw [q1]
                have p5 := HKN.out
                have CPL2 := Lib.hid (fun W => plain_any ff W)
                have HEQ2 := fun W => eqIn32 ff ff W
                rw [HFF.out] at CPL2 HEQ2
                unfold Tk.v at CPL2 HEQ2
                simp only [decide_true] at CPL2 HEQ2
                have hcell := hfl.symm.trans HFF.out
                have e0 := E0.out
                have e1 := E1.out
                have e2 := E2.out
                have e3 := E3.out
                have e4 := E4.out
                have e5 := E5.out
                have e6 := E6.out
                rw [hcell] at e0 e1 e2 e3 e4 e5 e6
                simp only at e0 e1 e2 e3 e4 e5 e6
                have hfn := HF9.out
                have n0 := cell_of_row Wd _ 0 _ _ _ hfn
                have n1 := cell_of_row Wd _ 1 _ _ _ hfn
                have n2 := cell_of_row Wd _ 2 _ _ _ hfn
                have n3 := cell_of_row Wd _ 3 _ _ _ hfn
                have n4 := cell_of_row Wd _ 4 _ _ _ hfn
                have n5 := cell_of_row Wd _ 5 _ _ _ hfn
                have n6 := cell_of_row Wd _ 6 _ _ _ hfn
                clear hfn hcell
                have hbd2 : Below Wd.heap.size Wd Wd.drew := (Below.refl _ _).drew
                have HQD := Lib.hid (HQD.out.below hbd2)
                have HBD := Lib.hid HBD.out.drew
                have HRD := Lib.hid (HRD.out.below hbd2)
                clear hbd2
                go_upto_region 40 with fail
                have HSB0 : ∀ w' : World, Below (Wd).drew.heap.size (Wd).drew w' → (w'.cell? ⟨N, 0, none⟩ = some (.string fst) ∧ w'.cell? ⟨N, 1, none⟩ = some (.int .i64 fix) ∧ w'.cell? ⟨N, 2, none⟩ = some (.int .i64 fsz) ∧ w'.cell? ⟨N, 3, none⟩ = some (.int .i64 fsp) ∧ w'.cell? ⟨N, 4, none⟩ = some (.int .i64 fnum) ∧ w'.cell? ⟨N, 5, none⟩ = some (.int .i64 fden) ∧ w'.cell? ⟨N, 6, none⟩ = some (.int .i64 fday) ∧ w'.cell? ⟨lb, lo + kx * 7, none⟩ = some (.string fst) ∧ w'.cell? ⟨lb, lo + kx * 7 + 1, none⟩ = some (.int .i64 fix) ∧ w'.cell? ⟨lb, lo + kx * 7 + 2, none⟩ = some (.int .i64 fsz) ∧ w'.cell? ⟨lb, lo + kx * 7 + 3, none⟩ = some (.int .i64 fsp) ∧ w'.cell? ⟨lb, lo + kx * 7 + 4, none⟩ = some (.int .i64 fnum) ∧ w'.cell? ⟨lb, lo + kx * 7 + 5, none⟩ = some (.int .i64 fden) ∧ w'.cell? ⟨lb, lo + kx * 7 + 6, none⟩ = some (.int .i64 fday)) := fun w' hb => ⟨bc hb n0, bc hb n1, bc hb n2, bc hb n3, bc hb n4, bc hb n5, bc hb n6, bc hb e0, bc hb e1, bc hb e2, bc hb e3, bc hb e4, bc hb e5, bc hb e6⟩
                refine wp_region_held_drew (S := fun w' => w'.cell? ⟨N, 0, none⟩ = some (.string fst) ∧ w'.cell? ⟨N, 1, none⟩ = some (.int .i64 fix) ∧ w'.cell? ⟨N, 2, none⟩ = some (.int .i64 fsz) ∧ w'.cell? ⟨N, 3, none⟩ = some (.int .i64 fsp) ∧ w'.cell? ⟨N, 4, none⟩ = some (.int .i64 fnum) ∧ w'.cell? ⟨N, 5, none⟩ = some (.int .i64 fden) ∧ w'.cell? ⟨N, 6, none⟩ = some (.int .i64 fday) ∧ w'.cell? ⟨lb, lo + kx * 7, none⟩ = some (.string fst) ∧ w'.cell? ⟨lb, lo + kx * 7 + 1, none⟩ = some (.int .i64 fix) ∧ w'.cell? ⟨lb, lo + kx * 7 + 2, none⟩ = some (.int .i64 fsz) ∧ w'.cell? ⟨lb, lo + kx * 7 + 3, none⟩ = some (.int .i64 fsp) ∧ w'.cell? ⟨lb, lo + kx * 7 + 4, none⟩ = some (.int .i64 fnum) ∧ w'.cell? ⟨lb, lo + kx * 7 + 5, none⟩ = some (.int .i64 fden) ∧ w'.cell? ⟨lb, lo + kx * 7 + 6, none⟩ = some (.int .i64 fday)) (by kernel_rfl) (HSB0 _ (Below.refl _ _)) (fun hHeld => ?_)
                have HSB := Lib.hid HSB0
                clear HSB0
                generalize (Wd).drew = We at *
                clear n0 n1 n2 n3 n4 n5 n6 e0 e1 e2 e3 e4 e5 e6
                refine wpAnyH_take (i := 0) (v := ?_) rfl (by kernel_rfl) (by kernel_rfl) (by kernel_rfl) (fun _ _ _ h => h) (Or.inl ⟨by rfl, ?_⟩) (by assumption) ?_
                rotate_left; · (intro w hSw; (try dsimp only at hSw); go_simp; try with_reducible rfl)
                try simp only [Act.put, List.getElem_toArray, List.getElem_cons_zero, List.getElem_cons_succ, List.setIfInBounds_toArray, List.set_cons_zero, List.set_cons_succ]
                refine wpAnyH_take (i := 1) (v := ?_) rfl (by kernel_rfl) (by kernel_rfl) (by kernel_rfl) (fun _ _ _ h => h) (Or.inl ⟨by rfl, ?_⟩) (by assumption) ?_
                rotate_left; · (intro w hSw; (try dsimp only at hSw); go_simp; try with_reducible rfl)
                try simp only [Act.put, List.getElem_toArray, List.getElem_cons_zero, List.getElem_cons_succ, List.setIfInBounds_toArray, List.set_cons_zero, List.set_cons_succ]
                refine wpAnyH_take (i := 2) (v := ?_) rfl (by kernel_rfl) (by kernel_rfl) (by kernel_rfl) (fun _ _ _ h => h) (Or.inl ⟨by rfl, ?_⟩) (by assumption) ?_
                rotate_left; · (intro w hSw; (try dsimp only at hSw); go_simp; try with_reducible rfl)
                try simp only [Act.put, List.getElem_toArray, List.getElem_cons_zero, List.getElem_cons_succ, List.setIfInBounds_toArray, List.set_cons_zero, List.set_cons_succ]
                refine wpAnyH_take (i := 3) (v := ?_) rfl (by kernel_rfl) (by kernel_rfl) (by kernel_rfl) (fun _ _ _ h => h) (Or.inl ⟨by rfl, ?_⟩) (by assumption) ?_
                rotate_left; · (intro w hSw; (try dsimp only at hSw); go_simp; try with_reducible rfl)
                try simp only [Act.put, List.getElem_toArray, List.getElem_cons_zero, List.getElem_cons_succ, List.setIfInBounds_toArray, List.set_cons_zero, List.set_cons_succ]
                refine wpAnyH_take (i := 5) (v := ?_) rfl (by kernel_rfl) (by kernel_rfl) (by kernel_rfl) (fun _ _ _ h => h) (Or.inl ⟨by rfl, ?_⟩) (by assumption) ?_
                rotate_left; · (intro w hSw; (try dsimp only at hSw); go_simp; try with_reducible rfl)
                try simp only [Act.put, List.getElem_toArray, List.getElem_cons_zero, List.getElem_cons_succ, List.setIfInBounds_toArray, List.set_cons_zero, List.set_cons_succ]
                refine wpAnyH_take (i := 6) (v := ?_) rfl (by kernel_rfl) (by kernel_rfl) (by kernel_rfl) (fun _ _ _ h => h) (Or.inl ⟨by rfl, ?_⟩) (by assumption) ?_
                rotate_left; · (intro w hSw; (try dsimp only at hSw); go_simp; try with_reducible rfl)
                try simp only [Act.put, List.getElem_toArray, List.getElem_cons_zero, List.getElem_cons_succ, List.setIfInBounds_toArray, List.set_cons_zero, List.set_cons_succ]
                refine wpAnyH_take (i := 7) (v := ?_) rfl (by kernel_rfl) (by kernel_rfl) (by kernel_rfl) (fun _ _ _ h => h) (Or.inl ⟨by rfl, ?_⟩) (by assumption) ?_
                rotate_left; · (intro w hSw; (try dsimp only at hSw); go_simp; try with_reducible rfl)
                try simp only [Act.put, List.getElem_toArray, List.getElem_cons_zero, List.getElem_cons_succ, List.setIfInBounds_toArray, List.set_cons_zero, List.set_cons_succ]
                refine wpAnyH_take (i := 8) (v := ?_) rfl (by kernel_rfl) (by kernel_rfl) (by kernel_rfl) (fun _ _ _ h => h) (Or.inl ⟨by rfl, ?_⟩) (by assumption) ?_
                rotate_left; · (intro w hSw; (try dsimp only at hSw); go_simp; try with_reducible rfl)
                try simp only [Act.put, List.getElem_toArray, List.getElem_cons_zero, List.getElem_cons_succ, List.setIfInBounds_toArray, List.set_cons_zero, List.set_cons_succ]
                refine wpAnyH_ready (rs := [4]) (by kernel_rfl) (by simp) ?_
                refine AllReadyH.cons rfl (fun K hK => ?_) AllReadyH.nil
                go_simp
                refine (CPL2.out _).mono ?_; rintro e w10 ⟨rfl, hb10⟩
                go_wp2_with fail
                refine hK.out _ _ (HSB.out _ hb10) (fun hNew => ?_)
                clear hK K hHeld
                have hHeld := hNew
                clear hNew
                try simp only [Act.put, List.getElem_toArray, List.getElem_cons_zero, List.getElem_cons_succ, List.setIfInBounds_toArray, List.set_cons_zero, List.set_cons_succ]
                refine wpAnyH_take (i := 9) (v := ?_) rfl (by kernel_rfl) (by kernel_rfl) (by kernel_rfl) (fun _ _ _ h => h) (Or.inl ⟨by rfl, ?_⟩) (by assumption) ?_
                rotate_left; · (intro w hSw; (try dsimp only at hSw); go_simp; try with_reducible rfl)
                try simp only [Act.put, List.getElem_toArray, List.getElem_cons_zero, List.getElem_cons_succ, List.setIfInBounds_toArray, List.set_cons_zero, List.set_cons_succ]
                refine wpAnyH_take (i := 10) (v := ?_) rfl (by kernel_rfl) (by kernel_rfl) (by kernel_rfl) (fun _ _ _ h => h) (Or.inl ⟨by rfl, ?_⟩) (by assumption) ?_
                rotate_left; · (intro w hSw; (try dsimp only at hSw); go_simp; try with_reducible rfl)
                try simp only [Act.put, List.getElem_toArray, List.getElem_cons_zero, List.getElem_cons_succ, List.setIfInBounds_toArray, List.set_cons_zero, List.set_cons_succ]
                refine wpAnyH_done (by kernel_rfl) ?_ _
                have HQ10 := Lib.hid (HQD.out.below hb10)
                have HB10 := Lib.hid (HBD.out.trans (hb10.mono HBD.out.size))
                have HR10 := Lib.hid (HRD.out.below hb10)
                clear hHeld HSB CPL2 HEQ2 hb10
                have hbd : Below w10.heap.size w10 w10.drew := (Below.refl _ _).drew
                have HQ11 := Lib.hid (HQ10.out.below hbd)
                have HB11 := Lib.hid HB10.out.drew
                have HR11 := Lib.hid (HR10.out.below hbd)
                have hklc : kx ≤ lc := by omega
                have hk1 : kx + 1 ≤ l.length := hkl
                have hwk : IntKind.i64.wrap ((kx : Int) + 1) = (kx : Int) + 1 := by rw [IntKind.wrap_i64]; have := HLL.out; have := HLM.out; omega
                have hk2 : (0 : Int) ≤ (kx : Int) + 1 := by omega
                have hk3 : (kx : Int) + 1 ≤ (l.length : Int) := by omega
                have hk4 : ((kx : Int) + 1).toNat = kx + 1 := by omega
                clear hbd
                go_upto_region 42 with fail
                refine wp_region_held_drew (S := fun _ => True) (by kernel_rfl) trivial (fun hHeld => ?_)
                generalize w10.drew = Wf at *
                refine wpAnyH_take (i := 1) (v := ?_) rfl (by kernel_rfl) (by kernel_rfl) (by kernel_rfl) (fun _ _ _ h => h) (Or.inl ⟨by rfl, ?_⟩) (by assumption) ?_
                rotate_left; · (intro w hSw; (try dsimp only at hSw); go_simp; try with_reducible rfl)
                try simp only [Act.put, List.getElem_toArray, List.getElem_cons_zero, List.getElem_cons_succ, List.setIfInBounds_toArray, List.set_cons_zero, List.set_cons_succ]
                refine wpAnyH_take (i := 2) (v := ?_) rfl (by kernel_rfl) (by kernel_rfl) (by kernel_rfl) (fun _ _ _ h => h) (Or.inl ⟨by rfl, ?_⟩) (by assumption) ?_
                rotate_left; · (intro w hSw; (try dsimp only at hSw); go_simp; try with_reducible rfl)
                try simp only [Act.put, List.getElem_toArray, List.getElem_cons_zero, List.getElem_cons_succ, List.setIfInBounds_toArray, List.set_cons_zero, List.set_cons_succ]
                refine wpAnyH_take (i := 3) (v := ?_) rfl (by kernel_rfl) (by kernel_rfl) (by kernel_rfl) (fun _ _ _ h => h) (Or.inl ⟨by rfl, ?_⟩) (by assumption) ?_
                rotate_left; · (intro w hSw; (try dsimp only at hSw); go_simp; try with_reducible rfl)
                try simp only [Act.put, List.getElem_toArray, List.getElem_cons_zero, List.getElem_cons_succ, List.setIfInBounds_toArray, List.set_cons_zero, List.set_cons_succ]
                refine wpAnyH_take (i := 5) (v := ?_) rfl (by kernel_rfl) (by kernel_rfl) (by kernel_rfl) (fun _ _ _ h => h) (Or.inl ⟨by rfl, ?_⟩) (by assumption) ?_
                rotate_left; · (intro w hSw; (try dsimp only at hSw); go_simp; try with_reducible rfl)
                try simp only [Act.put, List.getElem_toArray, List.getElem_cons_zero, List.getElem_cons_succ, List.setIfInBounds_toArray, List.set_cons_zero, List.set_cons_succ]
                refine wpAnyH_take (i := 6) (v := ?_) rfl (by kernel_rfl) (by kernel_rfl) (by kernel_rfl) (fun _ _ _ h => h) (Or.inl ⟨by rfl, ?_⟩) (by assumption) ?_
                rotate_left; · (intro w hSw; (try dsimp only at hSw); go_simp; try with_reducible rfl)
                try simp only [Act.put, List.getElem_toArray, List.getElem_cons_zero, List.getElem_cons_succ, List.setIfInBounds_toArray, List.set_cons_zero, List.set_cons_succ]
                refine wpAnyH_take (i := 7) (v := ?_) rfl (by kernel_rfl) (by kernel_rfl) (by kernel_rfl) (fun _ _ _ h => h) (Or.inl ⟨by rfl, ?_⟩) (by assumption) ?_
                rotate_left; · (intro w hSw; (try dsimp only at hSw); go_simp; try with_reducible rfl)
                try simp only [Act.put, List.getElem_toArray, List.getElem_cons_zero, List.getElem_cons_succ, List.setIfInBounds_toArray, List.set_cons_zero, List.set_cons_succ]
                refine wpAnyH_take (i := 8) (v := ?_) rfl (by kernel_rfl) (by kernel_rfl) (by kernel_rfl) (fun _ _ _ h => h) (Or.inl ⟨by rfl, ?_⟩) (by assumption) ?_
                rotate_left; · (intro w hSw; (try dsimp only at hSw); go_simp; try with_reducible rfl)
                try simp only [Act.put, List.getElem_toArray, List.getElem_cons_zero, List.getElem_cons_succ, List.setIfInBounds_toArray, List.set_cons_zero, List.set_cons_succ]
                generalize hla : (if lc = kx + 1 then some (⟨lb, lo, none⟩ : Addr) else some ⟨lb, lo + (kx + 1) * 7, none⟩) = la2 at *
                have HLA := Lib.hid hla
                clear hla
                refine wpAnyH_ready (rs := [0]) (by kernel_rfl) (by simp) ?_
                refine AllReadyH.cons rfl (fun K hK => ?_) AllReadyH.nil
                go_simp
                have hs := sb0 (w := Wf) (.cells #[] 32)
                have o0 := OwnT.lit0 32 Wf
                have HQ12 := Lib.hid (HQ11.out.below hs)
                obtain ⟨g0, hg0⟩ : ∃ g, g = Wf.heap.size := ⟨_, rfl⟩
                have HG0 := Lib.hid hg0
                rw [← hg0] at o0 hs
                try rw [← hg0]
                clear hg0
                generalize Wf.alloc (.cells #[] 32) = Wg at *
                have HGS := Lib.hid (show g0 ≤ Wg.heap.size by rw [HG0.out]; exact hs.size)
                refine hK.out _ _ trivial (fun hNew => ?_)
                clear hK K hNew
                (try clear hHeld)
                have hHeld := trivial
                try simp only [Act.put, List.getElem_toArray, List.getElem_cons_zero, List.getElem_cons_succ, List.setIfInBounds_toArray, List.set_cons_zero, List.set_cons_succ]
                refine wpAnyH_ready (rs := [4]) (by kernel_rfl) (by simp) ?_
                refine AllReadyH.cons rfl (fun K hK => ?_) AllReadyH.nil
                obtain ⟨v4, Wh, r4, o4, b4, k4⟩ := o0.appR32 (reads_take (HR11.out.below (HG0.out ▸ hs)) kx (by omega)) (by simp) (by rw [List.length_take]; have := HLL.out; have := HLM.out; omega) HGS.out
                rw [List.nil_append] at o4
                have HQ13 := Lib.hid (HQ12.out.same (HQ12.out.own o0).1 (HQ12.out.own o0).2 k4)
                refine step_append_run (by rfl) (.tmp 151) (.tmp 154) 41 (by rfl) (.slice (some ⟨g0, 0, none⟩) 0 0) (.slice (some ⟨lb, lo, none⟩) kx lc) v4 Wh (by rfl) (by rfl) r4 ?_
                have hd4 := hs.trans b4
                have HHS := Lib.hid (Nat.le_trans HGS.out b4.size)
                clear r4 k4 b4 o0 hs HQ12
                refine hK.out _ _ trivial (fun hNew => ?_)
                clear hK K hNew
                (try clear hHeld)
                have hHeld := trivial
                try simp only [Act.put, List.getElem_toArray, List.getElem_cons_zero, List.getElem_cons_succ, List.setIfInBounds_toArray, List.set_cons_zero, List.set_cons_succ]
                refine wpAnyH_ready (rs := [9]) (by kernel_rfl) (by simp) ?_
                refine AllReadyH.cons rfl (fun K hK => ?_) AllReadyH.nil
                have hlw := reads_low (HR11.out.below (HG0.out ▸ hd4)) (kx + 1) hk1
                unfold lowV at hlw
                have hlw : ReadsT Wh (.slice (if lc = kx + 1 then some ⟨lb, lo, none⟩ else some ⟨lb, lo + (kx + 1) * 7, none⟩) (l.length - (kx + 1)) (lc - (kx + 1))) (l.drop (kx + 1)) := by simpa only [Option.map_some, add_at] using hlw
                rw [HLA.out] at hlw
                obtain ⟨v9, Wi, r9, o9, b9, k9⟩ := o4.appR32 hlw (by rw [List.length_take]; have := HLL.out; have := HLM.out; omega) (by rw [List.length_drop]; have := HLL.out; have := HLM.out; omega) HHS.out
                have hn13 := HQ13.out.own o4
                have HQ14 := Lib.hid (HQ13.out.same hn13.1 hn13.2 k9)
                refine step_append_run (by rfl) (.tmp 155) (.tmp 159) 41 (by rfl) v4 _ v9 Wi (by rfl) (by rfl) r9 ?_
                have hd9 := hd4.trans b9
                clear r9 k9 b9 o4 hd4 hlw hn13
                refine hK.out _ _ trivial (fun hNew => ?_)
                clear hK K hNew
                (try clear hHeld)
                have hHeld := trivial
                try simp only [Act.put, List.getElem_toArray, List.getElem_cons_zero, List.getElem_cons_succ, List.setIfInBounds_toArray, List.set_cons_zero, List.set_cons_succ]
                refine wpAnyH_take (i := 10) (v := ?_) rfl (by kernel_rfl) (by kernel_rfl) (by kernel_rfl) (fun _ _ _ h => h) (Or.inl ⟨by rfl, ?_⟩) (by assumption) ?_
                rotate_left; · (intro w hSw; (try dsimp only at hSw); go_simp; try with_reducible rfl)
                try simp only [Act.put, List.getElem_toArray, List.getElem_cons_zero, List.getElem_cons_succ, List.setIfInBounds_toArray, List.set_cons_zero, List.set_cons_succ]
                refine wpAnyH_done (by kernel_rfl) ?_ _
                clear hHeld
                have hwg : w.heap.size ≤ g0 := by rw [HG0.out]; exact HB11.out.size
                have hnl := nodup_perm HLP.out HQM.out.nodup
                have hcut := cut_del hnl hkl
                obtain ⟨T', hT'⟩ : ∃ T', T' = l.take kx ++ l.drop (kx + 1) := ⟨_, rfl⟩
                rw [← hT'] at hcut o9
                have o9 : OwnT 32 Wi w.heap.size v9 T' := Own.base o9 hwg
                obtain ⟨a9, c9, rfl⟩ := o9.slice
                have HMt := Lib.hid o9
                have HBt := Lib.hid (HB11.out.trans (hd9.mono hwg))
                have HQt := Lib.hid (show QAt Wi b m T' from HQ14.out.perm (by rw [hS, ← hcut]; exact (HLP.out.filter _).symm))
                have HOKt := Lib.hid (show AllOk T' by rw [← hcut]; exact delS_ok HLO.out _)
                have HLt := Lib.hid (show T'.length ≤ i + 1 by rw [← hcut]; have := delS_len (l.getD kx default).pc l; have := HLL.out; have := HLM.out; omega)
                clear hT'
                clear hwg hnl hcut o9 hd9 hS hfl
                have CO := Lib.hid (Order_ref _ _ _ (HMt.out.reads (by have := HLt.out; omega)) (by have := HLt.out; omega))
                go_wp2_with fail
                refine CO.out.mono ?_
                rintro e w6 ⟨hb6, ⟨hno, -⟩ | ⟨-, u, rfl, hru⟩⟩
                · exact absurd HOKt.out hno
                obtain ⟨ua, uc, _, _, rfl, -⟩ := hru.at
                have HM6 := Lib.hid (HMt.out.below hb6)
                have HQ6 := Lib.hid (HQt.out.below hb6)
                have HB6 := Lib.hid (HBt.out.trans (hb6.mono HBt.out.size))
                have HRU := Lib.hid hru
                have CL := Lib.hid (Len_any b m _ w6 HQ6.out)
                have CS := Lib.hid (List_any b m _ w6 HQ6.out HOKt.out (by have := HLt.out; omega))
                clear CO hru hb6
                go_wp2_with fail
                refine CL.out.mono ?_
                rintro e w7 ⟨rfl, rfl⟩
                clear CL
                go_wp2_with fail
                refine CS.out.mono ?_
                rintro e w8 ⟨u2', rfl, hr8, hb8⟩
                have CE := Lib.hid (same_same _ _ _ w8 hr8 (HRU.out.below hb8))
                obtain ⟨ua2, uc2, _, _, rfl, -⟩ := hr8.at
                have HM8 := Lib.hid (HM6.out.below hb8)
                have HQ8 := Lib.hid (HQ6.out.below hb8)
                have HB8 := Lib.hid (HB6.out.trans (hb8.mono HB6.out.size))
                clear CS hr8 hb8
                go_wp2_with fail
                refine CE.out.mono ?_
                rintro e w9 ⟨rfl, hb9⟩
                have HM9 := Lib.hid (HM8.out.below hb9)
                have HQ9 := Lib.hid (HQ8.out.below hb9)
                have HB9 := Lib.hid (HB8.out.trans (hb9.mono HB8.out.size))
                clear CE hb9
                go_wp2
                go_roundw
                case rel => exact ⟨i + 1, _, by omega, by go_num, HM9.out, HQ9.out, HB9.out, HOKt.out, by have := HLt.out; omega⟩
                case measure => simp [intOf]; omega
            · have HALL := Lib.hid (show ∀ j, j < l.length → ¬ (l.getD j default).size ≤ room from fun j hj => HNO.out j (by omega))
              obtain ⟨rfl, hfz, hSM⟩ : ec = 4 ∧ ff = zT ∧ S' = M := by
                rcases HBP.out with ⟨h1, h2, h3, _⟩ | ⟨_, _, h3⟩
                · exact ⟨h1, h2, h3⟩
                · exact (best_all h3 HLP.out HALL.out).elim
              have q0 : decide ((kx : Int) < l.length) = false := by simp; omega
              have q0n : decide (kx < l.length) = false := by simp; omega
              have HKE := Lib.hid (show kx = l.length by omega)
              have hz := HFF.out.symm.trans hfz
              unfold zT at hz
              obtain ⟨rfl, rfl, rfl, rfl, rfl, rfl, rfl⟩ : fst = ⟨#[]⟩ ∧ fix = 0 ∧ fsz = 0 ∧ fsp = 0 ∧ fnum = 0 ∧ fden = 0 ∧ fday = 0 := by simpa using hz
              have HEQ2 := fun W => eqIn27 zT zT W
              unfold zT Tk.v at HEQ2
              simp only [decide_true] at HEQ2
              have hfn := bb hb9 HF8.out
              have hbd : Below wr.heap.size wr wr.drew := (Below.refl _ _).drew
              have HQt := Lib.hid (show QAt wr.drew b m M by rw [← hSM]; exact HQ9.out.below hbd)
              have HMt := Lib.hid (HM9.out.below hbd)
              clear hSM
              have HBt := Lib.hid HB9.out.drew
              have hfn := bb hbd hfn
              clear hkx hkl hb9 hz hbd
              go_upto_region 35 with fail
              refine wp_region_held_drew (S := fun _ => True) (by kernel_rfl) trivial (fun hHeld => ?_)
              generalize wr.drew = Wd at *
              refine wpAnyH_take (i := 0) (v := ?_) rfl (by kernel_rfl) (by kernel_rfl) (by kernel_rfl) (fun _ _ _ h => h) (Or.inl ⟨by rfl, ?_⟩) (by assumption) ?_
              rotate_left; · (intro w hSw; (try dsimp only at hSw); go_simp; try with_reducible rfl)
              try simp only [Act.put, List.getElem_toArray, List.getElem_cons_zero, List.getElem_cons_succ, List.setIfInBounds_toArray, List.set_cons_zero, List.set_cons_succ]
              refine wpAnyH_take (i := 1) (v := ?_) rfl (by kernel_rfl) (by kernel_rfl) (by kernel_rfl) (fun _ _ _ h => h) (Or.inl ⟨by rfl, ?_⟩) (by assumption) ?_
              rotate_left; · (intro w hSw; (try dsimp only at hSw); go_simp; try with_reducible rfl)
              try simp only [Act.put, List.getElem_toArray, List.getElem_cons_zero, List.getElem_cons_succ, List.setIfInBounds_toArray, List.set_cons_zero, List.set_cons_succ]
              refine wpAnyH_take (i := 2) (v := ?_) rfl (by kernel_rfl) (by kernel_rfl) (by kernel_rfl) (fun _ _ _ h => h) (Or.inl ⟨by rfl, ?_⟩) (by assumption) ?_
              rotate_left; · (intro w hSw; (try dsimp only at hSw); go_simp; try with_reducible rfl)
              try simp only [Act.put, List.getElem_toArray, List.getElem_cons_zero, List.getElem_cons_succ, List.setIfInBounds_toArray, List.set_cons_zero, List.set_cons_succ]
              refine wpAnyH_take (i := 3) (v := ?_) rfl (by kernel_rfl) (by kernel_rfl) (by kernel_rfl) (fun _ _ _ h => h) (Or.inl ⟨by rfl, ?_⟩) (by assumption) ?_
              rotate_left; · (intro w hSw; (try dsimp only at hSw); go_simp; try with_reducible rfl)
              try simp only [Act.put, List.getElem_toArray, List.getElem_cons_zero, List.getElem_cons_succ, List.setIfInBounds_toArray, List.set_cons_zero, List.set_cons_succ]
              refine wpAnyH_take (i := 4) (v := ?_) rfl (by kernel_rfl) (by kernel_rfl) (by kernel_rfl) (fun _ _ _ h => h) (Or.inl ⟨by rfl, ?_⟩) (by assumption) ?_
              rotate_left; · (intro w hSw; (try dsimp only at hSw); go_simp; try with_reducible rfl)
              try simp only [Act.put, List.getElem_toArray, List.getElem_cons_zero, List.getElem_cons_succ, List.setIfInBounds_toArray, List.set_cons_zero, List.set_cons_succ]
              refine wpAnyH_take (i := 5) (v := undef) rfl (by kernel_rfl) (by kernel_rfl) (by kernel_rfl) (fun _ _ _ h => h) (Or.inr ⟨by rfl, rfl⟩) (by assumption) ?_
              try simp only [Act.put, List.getElem_toArray, List.getElem_cons_zero, List.getElem_cons_succ, List.setIfInBounds_toArray, List.set_cons_zero, List.set_cons_succ]
              refine wpAnyH_take (i := 6) (v := undef) rfl (by kernel_rfl) (by kernel_rfl) (by kernel_rfl) (fun _ _ _ h => h) (Or.inr ⟨by rfl, rfl⟩) (by assumption) ?_
              try simp only [Act.put, List.getElem_toArray, List.getElem_cons_zero, List.getElem_cons_succ, List.setIfInBounds_toArray, List.set_cons_zero, List.set_cons_succ]
              refine wpAnyH_take (i := 7) (v := undef) rfl (by kernel_rfl) (by kernel_rfl) (by kernel_rfl) (fun _ _ _ h => h) (Or.inr ⟨by rfl, rfl⟩) (by assumption) ?_
              try simp only [Act.put, List.getElem_toArray, List.getElem_cons_zero, List.getElem_cons_succ, List.setIfInBounds_toArray, List.set_cons_zero, List.set_cons_succ]
              refine wpAnyH_take (i := 8) (v := undef) rfl (by kernel_rfl) (by kernel_rfl) (by kernel_rfl) (fun _ _ _ h => h) (Or.inr ⟨by rfl, rfl⟩) (by assumption) ?_
              try simp only [Act.put, List.getElem_toArray, List.getElem_cons_zero, List.getElem_cons_succ, List.setIfInBounds_toArray, List.set_cons_zero, List.set_cons_succ]
              refine wpAnyH_take (i := 9) (v := undef) rfl (by kernel_rfl) (by kernel_rfl) (by kernel_rfl) (fun _ _ _ h => h) (Or.inr ⟨by rfl, rfl⟩) (by assumption) ?_
              try simp only [Act.put, List.getElem_toArray, List.getElem_cons_zero, List.getElem_cons_succ, List.setIfInBounds_toArray, List.set_cons_zero, List.set_cons_succ]
              refine wpAnyH_take (i := 10) (v := undef) rfl (by kernel_rfl) (by kernel_rfl) (by kernel_rfl) (fun _ _ _ h => h) (Or.inr ⟨by rfl, rfl⟩) (by assumption) ?_
              try simp only [Act.put, List.getElem_toArray, List.getElem_cons_zero, List.getElem_cons_succ, List.setIfInBounds_toArray, List.set_cons_zero, List.set_cons_succ]
              refine wpAnyH_take (i := 11) (v := undef) rfl (by kernel_rfl) (by kernel_rfl) (by kernel_rfl) (fun _ _ _ h => h) (Or.inr ⟨by rfl, rfl⟩) (by assumption) ?_
              try simp only [Act.put, List.getElem_toArray, List.getElem_cons_zero, List.getElem_cons_succ, List.setIfInBounds_toArray, List.set_cons_zero, List.set_cons_succ]
              refine wpAnyH_take (i := 12) (v := undef) rfl (by kernel_rfl) (by kernel_rfl) (by kernel_rfl) (fun _ _ _ h => h) (Or.inr ⟨by rfl, rfl⟩) (by assumption) ?_
              try simp only [Act.put, List.getElem_toArray, List.getElem_cons_zero, List.getElem_cons_succ, List.setIfInBounds_toArray, List.set_cons_zero, List.set_cons_succ]
              refine wpAnyH_take (i := 13) (v := ?_) rfl (by kernel_rfl) (by kernel_rfl) (by kernel_rfl) (fun _ _ _ h => h) (Or.inl ⟨by rfl, ?_⟩) (by assumption) ?_
              rotate_left; · (intro w hSw; (try dsimp only at hSw); go_simp; try with_reducible rfl)
              try simp only [Act.put, List.getElem_toArray, List.getElem_cons_zero, List.getElem_cons_succ, List.setIfInBounds_toArray, List.set_cons_zero, List.set_cons_succ]
              refine wpAnyH_done (by kernel_rfl) ?_ _
              clear hHeld
              have n0 := cell_of_row Wd _ 0 _ _ _ hfn
              have n1 := cell_of_row Wd _ 1 _ _ _ hfn
              have n2 := cell_of_row Wd _ 2 _ _ _ hfn
              have n3 := cell_of_row Wd _ 3 _ _ _ hfn
              have n4 := cell_of_row Wd _ 4 _ _ _ hfn
              have n5 := cell_of_row Wd _ 5 _ _ _ hfn
              have n6 := cell_of_row Wd _ 6 _ _ _ hfn
              clear hfn q0 q0n
              have p5 : ((kx : Int) == (l.length : Int)) = true := by rw [HKE.out]; simp
              go_wp2
              go_roundw
              case rel => exact ⟨i + 1, M, by omega, by go_num, HMt.out, HQt.out, HBt.out, HOKM.out, by have := HLM.out; omega⟩
              case measure => simp [intOf]; omega
        have p1 : (kind == 1) = false := by simp [k1]
        have p2 : (kind == 2) = false := by simp [k2]
        have p3 : (kind == 3) = false := by simp [k3]
        have HMt := HOM5
        have HQt := HQ5
        have HBt := HB5
        have HOKt := HOKM
        have HLt := Lib.hid (show M.length ≤ i + 1 by have := HLM.out; omega)
        clear z1 z2 z3 z4 z5 z6 z7 z8
        have CO := Lib.hid (Order_ref _ _ _ (HMt.out.reads (by have := HLt.out; omega)) (by have := HLt.out; omega))
        go_wp2_with fail
        refine CO.out.mono ?_
        rintro e w6 ⟨hb6, ⟨hno, -⟩ | ⟨-, u, rfl, hru⟩⟩
        · exact absurd HOKt.out hno
        obtain ⟨ua, uc, _, _, rfl, -⟩ := hru.at
        have HM6 := Lib.hid (HMt.out.below hb6)
        have HQ6 := Lib.hid (HQt.out.below hb6)
        have HB6 := Lib.hid (HBt.out.trans (hb6.mono HBt.out.size))
        have HRU := Lib.hid hru
        have CL := Lib.hid (Len_any b m _ w6 HQ6.out)
        have CS := Lib.hid (List_any b m _ w6 HQ6.out HOKt.out (by have := HLt.out; omega))
        clear CO hru hb6
        go_wp2_with fail
        refine CL.out.mono ?_
        rintro e w7 ⟨rfl, rfl⟩
        clear CL
        go_wp2_with fail
        refine CS.out.mono ?_
        rintro e w8 ⟨u2', rfl, hr8, hb8⟩
        have CE := Lib.hid (same_same _ _ _ w8 hr8 (HRU.out.below hb8))
        obtain ⟨ua2, uc2, _, _, rfl, -⟩ := hr8.at
        have HM8 := Lib.hid (HM6.out.below hb8)
        have HQ8 := Lib.hid (HQ6.out.below hb8)
        have HB8 := Lib.hid (HB6.out.trans (hb8.mono HB6.out.size))
        clear CS hr8 hb8
        go_wp2_with fail
        refine CE.out.mono ?_
        rintro e w9 ⟨rfl, hb9⟩
        have HM9 := Lib.hid (HM8.out.below hb9)
        have HQ9 := Lib.hid (HQ8.out.below hb9)
        have HB9 := Lib.hid (HB8.out.trans (hb9.mono HB8.out.size))
        clear CE hb9
        go_wp2
        go_roundw
        case rel => exact ⟨i + 1, _, by omega, by go_num, HM9.out, HQ9.out, HB9.out, HOKt.out, by have := HLt.out; omega⟩
        case measure => simp [intOf]; omega

end Go.Proofs.Ytcgilfnhbliadaa
