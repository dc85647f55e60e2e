/- The law Possible, walked. -/
import Derived.Test.YtijcicgbhcphjaaP1
import Derived.Test.YtijcicgbhcphjaaL1
namespace Go.Proofs.Ytijcicgbhcphjaa
open Go.RowKit Go.Lib Go.ChangeMaps
set_option linter.unusedSimpArgs false

theorem Small.refs {V : Vp} {ls : List Int} {js : List Jp} (h : Small V ls js) : ∀ x ∈ V.held, x.refs.length ≤ 1000 := fun x hx => by
  have := (h.2.2.2.2.2.2.1 x hx).2.1
  omega

set_option maxRecDepth 100000 in
set_option maxHeartbeats 8000000 in
theorem law_possible (v lv : Value) (V : Vp) (ls : List Int) (w : World) (hv : VwAt w v V) (hl : ReadsI w lv ls) :
    Calls Try.prog 5 #[v, lv] w fun e w' => e = .returned (.bool true) ∧ Below w.heap.size w w' := by
  have HV := Lib.hid hv
  have HL := Lib.hid hl
  obtain ⟨ma, mc, ha, hc, ra, rl, rc, wa, wl, wc, rfl⟩ := hv.val
  obtain ⟨la, lc, lb, lo, rfl, ll1, lm1, lcell⟩ := hl.at
  have LC := Lib.hid lcell
  obtain ⟨hb, ho, hha, HC⟩ : ∃ hb ho, (∀ i, i < V.held.length → ha = some ⟨hb, ho, none⟩) ∧ ∀ i, i < V.held.length → ∃ rv av, w.cell? ⟨hb, ho + i * 7, none⟩ = some (.string (V.held.getD i default).id) ∧ w.cell? ⟨hb, ho + i * 7 + 1, none⟩ = some (.int .i64 (V.held.getD i default).vault) ∧
      w.cell? ⟨hb, ho + i * 7 + 2, none⟩ = some (.int .i64 (V.held.getD i default).block) ∧ w.cell? ⟨hb, ho + i * 7 + 3, none⟩ = some (.int .i64 (V.held.getD i default).data) ∧
      w.cell? ⟨hb, ho + i * 7 + 4, none⟩ = some (.int .i64 (V.held.getD i default).total) ∧ w.cell? ⟨hb, ho + i * 7 + 5, none⟩ = some rv ∧ w.cell? ⟨hb, ho + i * 7 + 6, none⟩ = some av ∧ (∃ a n c, rv = .slice a n c) ∧ ∃ a n c, av = .slice a n c := by
    obtain ⟨_, _, _, _, e, _, hH, _, _⟩ := hv
    cases e
    obtain ⟨ao, c, b, off, e, _, _, hcell⟩ := hH.at
    cases e
    refine ⟨b, off, fun i hi => (hcell i hi).1, fun i hi => ?_⟩
    obtain ⟨_, e2, e3, e4, e5, e6, rv, av, e7, e8, hr, ha⟩ := hcell i hi
    obtain ⟨_, _, _, _, er, _⟩ := hr.at
    obtain ⟨_, _, _, _, ea, _⟩ := ha.at
    exact ⟨rv, av, e2, e3, e4, e5, e6, e7, e8, ⟨_, _, _, er⟩, ⟨_, _, _, ea⟩⟩
  have HHA := Lib.hid hha
  have HHC := Lib.hid HC
  have hcn : V.held.length ≤ hc := by
    obtain ⟨_, _, _, _, e, _, hH, _, _⟩ := hv
    cases e
    obtain ⟨_, _, _, _, e, h1, _⟩ := hH.at
    cases e
    exact h1
  clear hv hl lcell hha HC
  obtain ⟨ml, hml⟩ : ∃ ml, ml = V.mem.length := ⟨_, rfl⟩
  obtain ⟨nh, hnh⟩ : ∃ nh, nh = V.held.length := ⟨_, rfl⟩
  have HNH := Lib.hid hnh
  rw [← hml, ← hnh] at HV ⊢
  rw [← hnh] at hcn
  clear hml hnh
  have CA := Lib.hid (fun W => awake_any W)
  have hA : Below w.heap.size w (w.alloc (.cells #[.slice ma ml mc, .slice ha nh hc, .slice ra rl rc, .slice wa wl wc] 26)) := (Below.refl _ _).alloc (Nat.le_refl _) _
  have hbx := heap_alloc_new w (.cells #[.slice ma ml mc, .slice ha nh hc, .slice ra rl rc, .slice wa wl wc] 26)
  go_enter Try.func5, Try.ntmps5
  go_wp2_with fail
  refine (CA.out _).mono ?_
  rintro e w1 ⟨rfl, hb1⟩
  have hbw1 := hA.trans (hb1.mono hA.size)
  have hbx1 := (hb1.block w.heap.size (by rw [World.size_alloc]; omega)).trans hbx
  have HBX := Lib.hid hbx1
  have hlt1 := (Array.getElem?_eq_some_iff.1 hbx1).1
  have d0 := cell_of_row w1 _ 0 _ _ _ hbx1
  have d1 := cell_of_row w1 _ 1 _ _ _ hbx1
  have d2 := cell_of_row w1 _ 2 _ _ _ hbx1
  have d3 := cell_of_row w1 _ 3 _ _ _ hbx1
  have CS := Lib.hid (small_any _ _ (.slice none 0 0) V ls [] w1 (HV.out.below hbw1) (HL.out.below hbw1) (nil_jobs _))
  clear hb1 hA hbx hbx1
  by_cases hsm : Small V ls []
  rotate_left
  · rw [decide_eq_false hsm] at CS
    clear hsm
    go_wp2_with fail
    refine CS.out.mono ?_
    rintro e w2 ⟨rfl, hb2⟩
    go_wp2_with fail
    refine (CA.out _).mono ?_
    rintro e w3 ⟨rfl, hb3⟩
    go_wp2
    go_ret
    exact ⟨rfl, hbw1.trans ((hb2.trans (hb3.mono hb2.size)).mono hbw1.size)⟩
  rw [decide_eq_true hsm] at CS
  have HREF := Lib.hid (Small.refs hsm)
  have hnh6 : nh ≤ 6 := by rw [HNH.out]; exact hsm.2.1
  have hll20 : ls.length ≤ 20 := hsm.2.2.2.2.1
  clear hsm
  go_wp2_with fail
  refine CS.out.mono ?_
  rintro e w2 ⟨rfl, hb2⟩
  have hbw2 := hbw1.trans (hb2.mono hbw1.size)
  have hbx2 := (hb2.block w.heap.size hlt1).trans HBX.out
  have CP := Lib.hid (plan_any _ _ V ls w2 (HV.out.below hbw2) (HL.out.below hbw2) HREF.out)
  have d0 := (hb2.cell (p := ⟨w.heap.size, 0, none⟩) hlt1).trans d0
  have d1 := (hb2.cell (p := ⟨w.heap.size, 1, none⟩) hlt1).trans d1
  have d2 := (hb2.cell (p := ⟨w.heap.size, 2, none⟩) hlt1).trans d2
  have d3 := (hb2.cell (p := ⟨w.heap.size, 3, none⟩) hlt1).trans d3
  have hlt2 := (Array.getElem?_eq_some_iff.1 hbx2).1
  have HBX2 := Lib.hid hbx2
  clear CS hbx2
  go_wp2_with fail
  refine CP.out.mono ?_
  rintro e w3 ⟨hb3, hcase⟩
  have hbw3 := hbw2.trans (hb3.mono hbw2.size)
  have hbx3 := (hb3.block w.heap.size hlt2).trans HBX2.out
  have HBX3 := Lib.hid hbx3
  have d0 := (hb3.cell (p := ⟨w.heap.size, 0, none⟩) hlt2).trans d0
  have d1 := (hb3.cell (p := ⟨w.heap.size, 1, none⟩) hlt2).trans d1
  have d2 := (hb3.cell (p := ⟨w.heap.size, 2, none⟩) hlt2).trans d2
  have d3 := (hb3.cell (p := ⟨w.heap.size, 3, none⟩) hlt2).trans d3
  have hlt3 := (Array.getElem?_eq_some_iff.1 hbx3).1
  clear CP hbx3
  rcases hcase with ⟨hno, rfl⟩ | ⟨hfit, u, rfl, hu⟩
  · have CC := Lib.hid (check_any _ _ (.slice none 0 0) V ls [] w3 (HV.out.below hbw3) (HL.out.below hbw3) (nil_jobs _) HREF.out)
    rw [check_bad hno] at CC
    clear hno
    go_wp2_with fail
    refine CC.out.mono ?_
    rintro e w4 ⟨rfl, hb4⟩
    go_wp2
    go_ret
    exact ⟨rfl, hbw3.trans (hb4.mono hbw3.size)⟩
  have HFIT := Lib.hid hfit
  have HALL := Lib.hid (fun j hj => pjob_facts hfit.1 ((planR_all (goneB V.mem ls) hfit.1).2.2.2 j hj))
  have hjl := planR_len (goneB V.mem ls) hfit.1
  have hck := check_plan hfit
  clear hfit
  generalize (planR V (goneB V.mem ls)).2 = js at *
  have hrj : ReadsJ w3 u js := hu.reads (by omega) fun j hj => by have := (HALL.out j hj).2.1; omega
  have CC := Lib.hid (check_any _ _ u V ls js w3 (HV.out.below hbw3) (HL.out.below hbw3) hrj HREF.out)
  rw [hck] at CC
  obtain ⟨ja, jc, jb, jo, rfl, jl1, jm1, jcell⟩ := hrj.at
  have JC := Lib.hid jcell
  clear hu hck hrj jcell
  go_wp2_with fail
  refine CC.out.mono ?_
  rintro e w4 ⟨rfl, hb4⟩
  have hbw4 := hbw3.trans (hb4.mono hbw3.size)
  have hbx4 := (hb4.block w.heap.size hlt3).trans HBX3.out
  clear d0 d1 d2 d3 CC
  go_wp2
  go_loopw [46, 8] (fun v46 _ wr => ∃ i : Nat, i ≤ js.length ∧ v46 = .int .i64 i ∧ Below w3.heap.size w3 wr) (fun v46 _ _ => js.length - (intOf v46).toNat)
  case atStart => exact ⟨0, Nat.zero_le _, rfl, hb4⟩
  case round =>
    obtain ⟨i, hi, rfl, hbel⟩ := hrel
    clear hb4 hbw4 hbx4
    have hbwr := hbw3.trans (hbel.mono hbw3.size)
    have hbxr := (hbel.block w.heap.size hlt3).trans HBX3.out
    have hltr := (Array.getElem?_eq_some_iff.1 hbxr).1
    have d1 := cell_of_row wr _ 1 _ _ _ hbxr
    have zr := hbwr.size
    clear hbxr
    by_cases hlt : i < js.length
    · obtain ⟨e1, e2, e3, fv, e4, e5, e6, hfv⟩ := JC.out i hlt
      subst e1
      obtain ⟨fa, fc, _, _, rfl, -⟩ := hfv.at
      have hfacts := HALL.out (js.getD i default) (by rw [getD_at _ _ _ hlt]; exact List.getElem_mem hlt)
      have HF := Lib.hid hfacts
      rw [← hbel.cell (p := ⟨jb, _, none⟩) (cell_lt e2)] at e2
      rw [← hbel.cell (p := ⟨jb, _, none⟩) (cell_lt e3)] at e3
      rw [← hbel.cell (p := ⟨jb, _, none⟩) (cell_lt e4)] at e4
      rw [← hbel.cell (p := ⟨jb, _, none⟩) (cell_lt e5)] at e5
      rw [← hbel.cell (p := ⟨jb, _, none⟩) (cell_lt e6)] at e6
      clear hfacts hfv
      generalize js.getD i default = jj at *
      obtain ⟨⟨st, ix⟩, fs, dst, size⟩ := jj
      simp only at e2 e3 e4 e5 e6 HF
      generalize hfl : fs.length = fl at *
      have hJ0 := heap_alloc_new wr (.cells #[.string st, .int .i64 ix, .slice fa fl fc, .int .i64 dst, .int .i64 size] 47)
      have hAJ : Below wr.heap.size wr (wr.alloc (.cells #[.string st, .int .i64 ix, .slice fa fl fc, .int .i64 dst, .int .i64 size] 47)) := (Below.refl _ _).alloc (Nat.le_refl _) _
      have hzJ : (wr.alloc (.cells #[.string st, .int .i64 ix, .slice fa fl fc, .int .i64 dst, .int .i64 size] 47)).heap.size = wr.heap.size + 1 := World.size_alloc _ _
      go_wp2
      generalize wr.alloc (.cells #[.string st, .int .i64 ix, .slice fa fl fc, .int .i64 dst, .int .i64 size] 47) = Wj at *
      have g0 := cell_of_row Wj _ 0 _ _ _ hJ0
      have g2 := cell_of_row Wj _ 2 _ _ _ hJ0
      have g3 := cell_of_row Wj _ 3 _ _ _ hJ0
      have g4 := cell_of_row Wj _ 4 _ _ _ hJ0
      have hltJ := (Array.getElem?_eq_some_iff.1 hJ0).1
      have d1 := (hAJ.cell (p := ⟨w.heap.size, 1, none⟩) hltr).trans d1
      have hbJ := hbwr.trans (hAJ.mono zr)
      have hb3J := hbel.trans (hAJ.mono hbel.size)
      clear e2 e3 e4 e5 e6 hJ0
      obtain ⟨wo, hwo⟩ : ∃ wo, wo = wr := ⟨_, rfl⟩
      subst hwo
      go_loop [52, 10] (fun v52 _ => ∃ k : Nat, k ≤ ls.length ∧ v52 = .int .i64 k) (fun v52 _ => ls.length - (intOf v52).toNat)
      case atStart => exact ⟨0, Nat.zero_le _, rfl⟩
      case round =>
        obtain ⟨k, hk, rfl⟩ := hrel
        by_cases hltk : k < ls.length
        · obtain ⟨q1, q2⟩ := LC.out k hltk
          subst q1
          have hne : dst ≠ ls.getD k 0 := fun e => HF.out.1 (by rw [e, getD_at _ _ _ hltk]; exact List.getElem_mem hltk)
          rw [← hbJ.cell (p := ⟨lb, _, none⟩) (cell_lt q2)] at q2
          generalize ls.getD k 0 = x at *
          have q3 : (dst == x) = false := by simpa using hne
          clear hne
          go_wp2
          go_round
          case rel => exact ⟨k + 1, by omega, by go_num⟩
          case measure => simp [intOf]; omega
        · have hkl : k = ls.length := by omega
          subst hkl
          go_wp2
          go_loopw [64, 12] (fun v64 _ wi => ∃ m : Nat, m ≤ nh ∧ v64 = .int .i64 m ∧ Below Wj.heap.size Wj wi) (fun v64 _ _ => nh - (intOf v64).toNat)
          case atStart => exact ⟨0, Nat.zero_le _, rfl, Below.refl _ _⟩
          case round =>
            obtain ⟨m, hm, rfl, hbi⟩ := hrel
            have hbw := hbJ.trans (hbi.mono hbJ.size)
            have zi := hbw.size
            have g0i := (hbi.cell (p := ⟨wo.heap.size, 0, none⟩) hltJ).trans g0
            have g2i := (hbi.cell (p := ⟨wo.heap.size, 2, none⟩) hltJ).trans g2
            have g3i := (hbi.cell (p := ⟨wo.heap.size, 3, none⟩) hltJ).trans g3
            have g4i := (hbi.cell (p := ⟨wo.heap.size, 4, none⟩) hltJ).trans g4
            have gl := cell_lt g0i
            by_cases hltm : m < nh
            · have hml : m < V.held.length := by rw [← HNH.out]; exact hltm
              have hfm := HF.out.2.2 (V.held.getD m default) (by rw [getD_at _ _ _ hml]; exact List.getElem_mem hml)
              have HFM := Lib.hid hfm
              obtain ⟨rv, av, e2, e3, e4, e5, e6, e7, e8, ⟨_, _, _, rfl⟩, ⟨_, _, _, rfl⟩⟩ := HHC.out m hml
              obtain rfl := HHA.out m hml
              rw [← hbw.cell (p := ⟨hb, _, none⟩) (cell_lt e2)] at e2
              rw [← hbw.cell (p := ⟨hb, _, none⟩) (cell_lt e3)] at e3
              rw [← hbw.cell (p := ⟨hb, _, none⟩) (cell_lt e4)] at e4
              rw [← hbw.cell (p := ⟨hb, _, none⟩) (cell_lt e5)] at e5
              rw [← hbw.cell (p := ⟨hb, _, none⟩) (cell_lt e6)] at e6
              rw [← hbw.cell (p := ⟨hb, _, none⟩) (cell_lt e7)] at e7
              rw [← hbw.cell (p := ⟨hb, _, none⟩) (cell_lt e8)] at e8
              clear hfm
              generalize V.held.getD m default = y at *
              obtain ⟨id, vault, block, data, total, refs, at_⟩ := y
              simp only at e2 e3 e4 e5 e6 HFM
              have hq := str_eq id st
              by_cases hxy : id = st
              · rw [decide_eq_true hxy] at hq
                obtain ⟨k1, k2⟩ := HFM.out hxy
                have p1 : ((fl : Int) != data) = false := by simpa using k1
                have p2 : (size != block) = false := by simpa using k2
                clear hxy k1 k2
                go_wp2
                go_roundw
                case rel => exact ⟨m + 1, by omega, by go_num, by have zz := hbi.size; (repeat' (first | (with_reducible exact Below.refl _ _) | (with_reducible assumption) | (with_reducible refine Below.alloc ?_ ?_ _) | (with_reducible refine Below.drew ?_) | (with_reducible refine below_drewN ?_ _) | (with_reducible refine Below.setCell ?_ ?_ _) | (with_reducible refine below_step ?_ (by with_reducible assumption) ?_) | go_size))⟩
                case measure => simp [intOf]; omega
              · rw [decide_eq_false hxy] at hq
                clear hxy
                go_wp2
                go_roundw
                case rel => exact ⟨m + 1, by omega, by go_num, by have zz := hbi.size; (repeat' (first | (with_reducible exact Below.refl _ _) | (with_reducible assumption) | (with_reducible refine Below.alloc ?_ ?_ _) | (with_reducible refine Below.drew ?_) | (with_reducible refine below_drewN ?_ _) | (with_reducible refine Below.setCell ?_ ?_ _) | (with_reducible refine below_step ?_ (by with_reducible assumption) ?_) | go_size))⟩
                case measure => simp [intOf]; omega
            · have hmn : m = nh := by omega
              subst hmn
              go_wp2
              go_roundw
              case rel => exact ⟨i + 1, by omega, by go_num, hb3J.trans (hbi.mono hb3J.size)⟩
              case measure => simp [intOf]; omega
    · have hil : i = js.length := by omega
      subst hil
      go_wp2
      go_ret
      exact ⟨rfl, hbwr⟩

end Go.Proofs.Ytijcicgbhcphjaa
