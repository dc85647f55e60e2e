/- The reference's Next. -/
import Derived.Test.YtijcicgbhcphjaaV3
import Derived.Test.YtijcicgbhcphjaaR1
import Derived.Deep.DeepCutAuto
import Derived.Deep.CutBlock
namespace Go.Proofs.Ytijcicgbhcphjaa
open Go.RowKit Go.Lib Go.ChangeMaps
set_option linter.unusedSimpArgs false

/-- Jobs of the call's own, the lists of which lie in the world that it met. -/
def OwnJr (w0 : World) (base : Nat) (w : World) (v : Value) (js : List Jp) : Prop := ∃ xs : List Value, xs.length = js.length ∧ Own w base 107 v 5 js.length (jpCell js xs) ∧ ∀ i, i < js.length → ReadsI w0 (xs.getD i undef) (js.getD i default).from_
theorem OwnJr.lit0 (w0 : World) (base : Nat) (w : World) (hb : base ≤ w.heap.size) : OwnJr w0 base (w.alloc (.cells #[] 107)) (.slice (some ⟨w.heap.size, 0, none⟩) 0 0) [] := ⟨[], rfl, Own.lit0 w _ 107 5 _ hb, fun i hi => by simp at hi⟩
theorem OwnJr.below {w0 : World} {base : Nat} {w w' : World} {v : Value} {js : List Jp} (h : OwnJr w0 base w v js) (hb : Below w.heap.size w w') : OwnJr w0 base w' v js := by
  obtain ⟨xs, h1, h2, h3⟩ := h
  exact ⟨xs, h1, h2.below hb, h3⟩
theorem OwnJr.slice {w0 : World} {base : Nat} {w : World} {v : Value} {js : List Jp} (h : OwnJr w0 base w v js) (hn : js.length ≤ 1000000) : ∃ a c, v = .slice a js.length c := by
  obtain ⟨xs, _, h2, _⟩ := h
  obtain ⟨a, c, e, _⟩ := Own.row h2 (by omega)
  exact ⟨a, c, e⟩
theorem OwnJr.reads {w0 : World} {base : Nat} {w : World} {v : Value} {js : List Jp} (h : OwnJr w0 base w v js) (hn : js.length ≤ 1000000) (hb : Below w0.heap.size w0 w) : ReadsJ w v js := by
  obtain ⟨xs, h1, h2, h3⟩ := h
  exact ⟨xs, h1, Own.row h2 (by omega), fun i hi => (h3 i hi).below hb⟩
theorem OwnJr.app {w0 : World} {base : Nat} {V : World} {v : Value} {js : List Jp} (h : OwnJr w0 base V v js) (y : Jp) (fv : Value) (hfv : ReadsI w0 fv y.from_) (hn : js.length ≤ 1000000) (hbase : base ≤ V.heap.size) :
    ∃ v' w', (Builtin.append_ #[39, 39] 39 #[v, .slice (some ⟨V.heap.size, 0, none⟩) 1 1]).run Try.prog (V.alloc (.cells #[.string y.pc.st, .int .i64 y.pc.ix, fv, .int .i64 y.to, .int .i64 y.size] 107)) = .ok v' w' ∧ OwnJr w0 base w' v' (js ++ [y]) ∧ Below base V w' := by
  obtain ⟨xs, hx, ho, hf⟩ := h
  have h' : Own V base 107 v 5 js.length (jpCell (js ++ [y]) (xs ++ [fv])) := Own.congr ho fun i j hi _ => (jpCell_old hx y fv hi j).symm
  have h1 : fv.oneCell' = true := by
    obtain ⟨_, _, _, rfl⟩ := ReadsI.val hfv
    rfl
  have hgy : (js ++ [y]).getD js.length default = y := by simp [List.getD]
  have hgx : (xs ++ [fv]).getD js.length undef = fv := by rw [← hx]; simp [List.getD]
  obtain ⟨v3, w3, r3, o1, o2, o3, _⟩ := Own.append (V := V) (t := 39) (e := 107) (z := .agg #[.string ⟨#[]⟩, .int .i64 0, .slice none 0 0, .int .i64 0, .int .i64 0]) (k := 5) (bytes := 64) Try.underlying39 info107 rfl (by omega) (by omega) h' 39
    [.string y.pc.st, .int .i64 y.pc.ix, fv, .int .i64 y.to, .int .i64 y.size] rfl (fun q hq => by
      match q, hq with
      | 0, _ => simp only [jpCell, hgy]; rfl
      | 1, _ => simp only [jpCell, hgy]; rfl
      | 2, _ => simp only [jpCell, hgx]; rfl
      | 3, _ => simp only [jpCell, hgy]; rfl
      | 4, _ => simp only [jpCell, hgy]; rfl) (by
      intro u hu
      simp at hu
      rcases hu with rfl | rfl | rfl | rfl | rfl
      · rfl
      · rfl
      · exact h1
      · rfl
      · rfl) (by omega) hbase
  refine ⟨v3, w3, r3, ⟨xs ++ [fv], by simp [hx], by rw [List.length_append]; exact o1, fun i hi => ?_⟩, o2⟩
  by_cases e : i < js.length
  · rw [getD_at _ _ _ (by rw [List.length_append]; omega), List.getElem_append_left (by omega), getD_at _ _ _ (by rw [List.length_append]; omega), List.getElem_append_left e]
    have := hf i e
    rw [getD_at _ _ _ (by omega), getD_at _ _ _ e] at this
    exact this
  · have hi2 : i = js.length := by rw [List.length_append, List.length_singleton] at hi; omega
    subst hi2
    rw [hgx, hgy]
    exact hfv

/-- The piece x lies at the device d. -/
def hitB (V : Vp) (st : ByteArray) (d x : Int) : Bool := match findP V.held st with
  | none => false
  | some k => decide (helpX (V.held.getD k default).at_ d x)
theorem helpB_any (V : Vp) (d : Int) (j : Jp) : helpB V d j = j.from_.any (hitB V j.pc.st d) := by
  unfold helpB hitB
  cases findP V.held j.pc.st with
  | none => simp
  | some k =>
    simp only
    rw [Bool.eq_iff_iff]
    simp
theorem any_snoc {α : Type} (p : α → Bool) (xs : List α) (d : α) (i : Nat) (h : i < xs.length) : (xs.take (i + 1)).any p = ((xs.take i).any p || p (xs.getD i d)) := by
  rw [List.take_succ_eq_append_getElem h, List.any_append, getD_at _ _ _ h]
  simp

set_option maxRecDepth 100000 in
set_option maxHeartbeats 16000000 in
theorem next_ref (v lv jv : Value) (V : Vp) (ls : List Int) (js : List Jp) (a b : Int) (w : World) (hv : VwAt w v V) (hl : ReadsI w lv ls) (hj : ReadsJ w jv js) (hjs : js.length ≤ 1000) (hfr : ∀ j ∈ js, j.from_.length ≤ 1000) :
    Calls Try.prog 34 #[v, lv, jv, .int .i64 a, .int .i64 b] w fun e w' => Below w.heap.size w w' ∧ ((¬ NxOk V ls a b ∧ e = .returned (.tuple #[.slice none 0 0, .int .i64 1])) ∨
      (NxOk V ls a b ∧ ∃ u, e = .returned (.tuple #[u, .int .i64 0]) ∧ ReadsJ w' u (js.filter (nextB V ls a b)))) := by
  have HV := Lib.hid hv
  have HL := Lib.hid hl
  obtain ⟨ma, mc, ha0, hc0, ra, rl, rc, wa, wl, wc, rfl⟩ := hv.val
  obtain ⟨_, _, _, _, e, _, hH, _, _⟩ := hv
  cases e
  obtain ⟨ha, hc, hb, ho, e, hl1, hm1, hcell⟩ := hH.at
  cases e
  have HC := Lib.hid hcell
  obtain ⟨ja, jc, jb, jo, rfl, -, -, jcell⟩ := hj.at
  have JC := Lib.hid jcell
  obtain ⟨la, lc, _, _, rfl, -⟩ := hl.at
  have HFR := Lib.hid hfr
  clear hcell hH hj jcell hl hfr hm1 hl1
  obtain ⟨nh, hnh⟩ : ∃ nh, nh = V.held.length := ⟨_, rfl⟩
  have HNH := Lib.hid hnh
  rw [← hnh] at HV ⊢
  clear hnh
  obtain ⟨ml, hml⟩ : ∃ ml, ml = V.mem.length := ⟨_, rfl⟩
  have HML := Lib.hid hml
  rw [← hml] at HV ⊢
  clear hml
  generalize ls.length = ll at *
  have hA : Below w.heap.size w (w.alloc (.cells #[.slice ma ml mc, .slice ha0 nh hc0, .slice ra rl rc, .slice wa wl wc] 33)) := (Below.refl _ _).alloc (Nat.le_refl _) _
  have hbx := heap_alloc_new w (.cells #[.slice ma ml mc, .slice ha0 nh hc0, .slice ra rl rc, .slice wa wl wc] 33)
  have CF := Lib.hid (fits_any _ _ V ls _ (HV.out.below hA) (HL.out.below hA))
  have CW := Lib.hid (fun (x : Int) W => within_any x 0 ((ml : Int) - 1) W)
  go_enter Try.func34, Try.ntmps34
  by_cases hf : Fits V ls
  rotate_left
  · rw [decide_eq_false hf] at CF
    have HNO := Lib.hid (show ¬ NxOk V ls a b from fun h => hf h.1)
    clear hf
    go_wp2_with fail
    refine CF.out.mono ?_
    rintro e w1 ⟨rfl, hb1⟩
    go_wp2
    refine bodyPost_ret (results_tmp2 Try.results34 _ _ _) rfl ?_
    exact ⟨hA.trans (hb1.mono hA.size), .inl ⟨HNO.out, rfl⟩⟩
  rw [decide_eq_true hf] at CF
  have HFIT := Lib.hid hf
  have hm12 : ml ≤ 12 := by rw [HML.out]; exact hf.1.1.1
  have hn256 : nh ≤ 256 := by rw [HNH.out]; exact hf.1.1.2
  clear hf
  go_wp2_with fail
  refine CF.out.mono ?_
  rintro e w1 ⟨rfl, hb1⟩
  have hbw1 := hA.trans (hb1.mono hA.size)
  have hbx1 := bb hb1 hbx
  have d0 : w1.cell? ⟨w.heap.size, 0, none⟩ = some (.slice ma ml mc) := cell_of_row w1 _ 0 _ _ _ hbx1
  have d1 : w1.cell? ⟨w.heap.size, 1, none⟩ = some (.slice ha0 nh hc0) := cell_of_row w1 _ 1 _ _ _ hbx1
  have d2 : w1.cell? ⟨w.heap.size, 2, none⟩ = some (.slice ra rl rc) := cell_of_row w1 _ 2 _ _ _ hbx1
  have d3 : w1.cell? ⟨w.heap.size, 3, none⟩ = some (.slice wa wl wc) := cell_of_row w1 _ 3 _ _ _ hbx1
  clear hb1 hA hbx hbx1 CF
  by_cases hab : a = b
  · have q5 : (a == b) = true := by simp [hab]
    have HNO := Lib.hid (show ¬ NxOk V ls a b from fun h => h.2.1 hab)
    clear hab
    go_wp2
    refine bodyPost_ret (results_tmp2 Try.results34 _ _ _) rfl ?_
    exact ⟨hbw1, .inl ⟨HNO.out, rfl⟩⟩
  have q5 : (a == b) = false := by simp [hab]
  have HAB := Lib.hid hab
  clear hab
  go_wp2_with fail
  refine (CW.out a _).mono ?_
  rintro e w2 ⟨rfl, rfl⟩
  by_cases hwa : 0 ≤ a ∧ a ≤ (ml : Int) - 1
  rotate_left
  · rw [decide_eq_false hwa]
    have HNO := Lib.hid (show ¬ NxOk V ls a b from fun h => hwa (by have := h.2.2.1; rw [← HML.out] at this; omega))
    clear hwa
    go_wp2
    refine bodyPost_ret (results_tmp2 Try.results34 _ _ _) rfl ?_
    exact ⟨hbw1, .inl ⟨HNO.out, rfl⟩⟩
  rw [decide_eq_true hwa]
  have HWA := Lib.hid hwa
  clear hwa
  go_wp2_with fail
  refine (CW.out b _).mono ?_
  rintro e w2 ⟨rfl, rfl⟩
  by_cases hwb : 0 ≤ b ∧ b ≤ (ml : Int) - 1
  rotate_left
  · rw [decide_eq_false hwb]
    have HNO := Lib.hid (show ¬ NxOk V ls a b from fun h => hwb (by have := h.2.2.2; rw [← HML.out] at this; omega))
    clear hwb
    go_wp2
    refine bodyPost_ret (results_tmp2 Try.results34 _ _ _) rfl ?_
    exact ⟨hbw1, .inl ⟨HNO.out, rfl⟩⟩
  rw [decide_eq_true hwb]
  have HWB := Lib.hid hwb
  clear hwb
  have HOKN := Lib.hid (show NxOk V ls a b from ⟨HFIT.out, HAB.out, by have := HWA.out; rw [← HML.out]; omega, by have := HWB.out; rw [← HML.out]; omega⟩)
  have HD0 := Lib.hid d0
  have HD1 := Lib.hid d1
  have HD2 := Lib.hid d2
  have HD3 := Lib.hid d3
  have CFD := Lib.hid (fun st W (h : Below w.heap.size w W) => find_any _ V st W (HV.out.below h) (by rw [← HNH.out]; omega))
  have CTH := Lib.hid (fun o W (h : Below w.heap.size w W) => there_any _ _ V ls o W (HV.out.below h) (HL.out.below h))
  clear CW d0 d1 d2 d3
  have hlit := OwnJr.lit0 w w1.heap.size w1 (Nat.le_refl _)
  have HLIT := Lib.hid hlit
  clear hlit
  go_wp2
  go_loopw [50, 12, 14, 15, 16, 17, 19] (fun v50 v12 _ _ _ _ _ wr => ∃ i : Nat, i ≤ js.length ∧ v50 = .int .i64 i ∧ Below w1.heap.size w1 wr ∧ OwnJr w w1.heap.size wr v12 ((js.take i).filter (nextB V ls a b))) (fun v50 _ _ _ _ _ _ _ => js.length - (intOf v50).toNat)
  case atStart => exact ⟨0, Nat.zero_le _, rfl, (Below.refl _ _).alloc (Nat.le_refl _) _, HLIT.out⟩
  case round =>
    obtain ⟨i, hi, rfl, hbel, hown⟩ := hrel
    have hbwr := hbw1.trans (hbel.mono hbw1.size)
    have hosl : ((js.take i).filter (nextB V ls a b)).length ≤ 1000 := by
      refine Nat.le_trans (List.length_filter_le _ _) ?_
      rw [List.length_take]
      omega
    obtain ⟨os, hos⟩ : ∃ os, os = (js.take i).filter (nextB V ls a b) := ⟨_, rfl⟩
    rw [← hos] at hown hosl
    have HOS := Lib.hid hos
    have HO := Lib.hid hown
    obtain ⟨a12, c12, rfl⟩ := hown.slice (by omega)
    obtain ⟨ol, hol⟩ : ∃ ol, ol = os.length := ⟨_, rfl⟩
    rw [← hol] at HO hosl ⊢
    have HOLE := Lib.hid hol
    have HOL := Lib.hid hosl
    clear hol hown hos hosl
    by_cases hlt : i < js.length
    · obtain ⟨e1, e2, e3, fv, e4, e5, e6, hfv⟩ := JC.out i hlt
      subst e1
      have hfl : (js.getD i default).from_.length ≤ 1000 := HFR.out _ (by rw [getD_at _ _ _ hlt]; exact List.getElem_mem hlt)
      have HSN := Lib.hid (filter_snoc V ls a b js i hlt)
      obtain ⟨y, hy⟩ : ∃ y, y = js.getD i default := ⟨_, rfl⟩
      rw [← hy] at e2 e3 e5 e6 hfv hfl HSN
      clear hy
      have e2 := bc hbwr e2
      have e3 := bc hbwr e3
      have e4 := bc hbwr e4
      have e5 := bc hbwr e5
      have e6 := bc hbwr e6
      have HFV := Lib.hid hfv
      obtain ⟨fa, fc, _, _, rfl, -⟩ := hfv.at
      have HYD := Lib.hid (show nextB V ls a b y = (decide (0 ≤ otherD a b y) && thereB V ls (otherD a b y) && y.from_.any (hitB V y.pc.st (otherD a b y))) from by unfold nextB; rw [helpB_any])
      obtain ⟨o, ho⟩ : ∃ o, o = otherD a b y := ⟨_, rfl⟩
      rw [← ho] at HYD
      have HOT := Lib.hid ho
      clear ho hfv
      obtain ⟨⟨st, ix⟩, fs, dst, size⟩ := y
      simp only at e2 e3 e4 e5 e6 HFV hfl HSN HYD HOT
      have HOT2 := Lib.hid (show o = if dst = b then a else if dst = a then b else -1 from HOT.out)
      clear HOT
      obtain ⟨fl, hfle⟩ : ∃ fl, fl = fs.length := ⟨_, rfl⟩
      rw [← hfle] at e4 HFV hfl
      have HFLE := Lib.hid hfle
      clear hfle
      have hA : Below wr.heap.size wr (wr.alloc (.cells #[.string st, .int .i64 ix, .slice fa fl fc, .int .i64 dst, .int .i64 size] 107)) := (Below.refl _ _).alloc (Nat.le_refl _) _
      have hkj := heap_alloc_new wr (.cells #[.string st, .int .i64 ix, .slice fa fl fc, .int .i64 dst, .int .i64 size] 107)
      obtain ⟨WJ, hWJ⟩ : ∃ WJ, WJ = wr.alloc (.cells #[.string st, .int .i64 ix, .slice fa fl fc, .int .i64 dst, .int .i64 size] 107) := ⟨_, rfl⟩
      rw [← hWJ] at hA hkj
      have HWJ := Lib.hid hWJ
      clear hWJ
      obtain ⟨N, hN⟩ : ∃ N, N = wr.heap.size := ⟨_, rfl⟩
      rw [← hN] at hkj
      have HN := Lib.hid hN
      clear hN
      have HKJ := Lib.hid hkj
      have HA := Lib.hid hA
      have hbwj := hbwr.trans (hA.mono hbwr.size)
      clear hkj hA
      obtain ⟨o1, ho1⟩ : ∃ o1, o1 = if dst = a then b else -1 := ⟨_, rfl⟩
      have HO1 := Lib.hid ho1
      clear ho1
      go_upto_if 57 with fail
      rw [← HWJ.out]
      try rw [← HN.out]
      go_cut [15] (fun v15 wx => v15 = .int .i64 o1 ∧ WJ = wx)
      case first =>
        by_cases hta : dst = a
        · have q6 : (dst == a) = true := by simp [hta]
          rw [if_pos hta] at HO1
          clear hta
          go_wp2
          go_meet
          case rel => exact ⟨by rw [HO1.out], rfl⟩
        · have q6 : (dst == a) = false := by simp [hta]
          rw [if_neg hta] at HO1
          clear hta
          go_wp2
          go_meet
          case rel => exact ⟨by rw [HO1.out], rfl⟩
      case rest =>
      obtain ⟨rfl, rfl⟩ := hcut
      have m0 : WJ.cell? ⟨N, 0, none⟩ = some (.string st) := cell_of_row WJ _ 0 _ _ _ HKJ.out
      have m1 : WJ.cell? ⟨N, 1, none⟩ = some (.int .i64 ix) := cell_of_row WJ _ 1 _ _ _ HKJ.out
      have m2 : WJ.cell? ⟨N, 2, none⟩ = some (.slice fa fl fc) := cell_of_row WJ _ 2 _ _ _ HKJ.out
      have m3 : WJ.cell? ⟨N, 3, none⟩ = some (.int .i64 dst) := cell_of_row WJ _ 3 _ _ _ HKJ.out
      have m4 : WJ.cell? ⟨N, 4, none⟩ = some (.int .i64 size) := cell_of_row WJ _ 4 _ _ _ HKJ.out
      have h1J := hbel.trans (HA.out.mono hbel.size)
      have d0 := bc h1J HD0.out
      have d1 := bc h1J HD1.out
      have d2 := bc h1J HD2.out
      have d3 := bc h1J HD3.out
      go_upto_if 62 with fail
      go_cut [15] (fun v15 wx => v15 = .int .i64 o ∧ WJ = wx)
      case first =>
        by_cases htb : dst = b
        · have q6 : (dst == b) = true := by simp [htb]
          rw [if_pos htb] at HOT2
          clear htb
          go_wp2
          go_meet
          case rel => exact ⟨by rw [HOT2.out], rfl⟩
        · have q6 : (dst == b) = false := by simp [htb]
          rw [if_neg htb, ← HO1.out] at HOT2
          clear htb
          go_wp2
          go_meet
          case rel => exact ⟨by rw [HOT2.out], rfl⟩
      case rest =>
      obtain ⟨rfl, rfl⟩ := hcut
      have HOR := Lib.hid (show o = -1 ∨ (0 ≤ o ∧ o < ml) from by
        have h1 := HOT2.out
        have h2 := HWA.out
        have h3 := HWB.out
        split at h1
        · omega
        · split at h1 <;> omega)
      have HOT3 := HOT2
      clear HOT2 HO1
      have C60 := Lib.hid (CFD.out st WJ hbwj)
      obtain ⟨k, hk⟩ : ∃ k, k = findI V st := ⟨_, rfl⟩
      rw [← hk] at C60
      have HK := Lib.hid hk
      clear hk
      go_wp2_with fail
      refine C60.out.mono ?_
      rintro e w5 ⟨rfl, hb5⟩
      have m0 := bc hb5 m0
      have m1 := bc hb5 m1
      have m2 := bc hb5 m2
      have m3 := bc hb5 m3
      have m4 := bc hb5 m4
      have d0 := bc hb5 d0
      have d1 := bc hb5 d1
      have d2 := bc hb5 d2
      have d3 := bc hb5 d3
      have h15 := h1J.trans (hb5.mono h1J.size)
      have hbw5 := hbwj.trans (hb5.mono hbwj.size)
      have HO5 := Lib.hid (HO.out.below (HA.out.trans (hb5.mono HA.out.size)))
      have hfv5 := (HFV.out.below hbw5).at
      rw [← HFLE.out] at hfv5
      obtain ⟨_, _, fb, fo, e, -, -, fcell⟩ := hfv5
      cases e
      have FCL := Lib.hid fcell
      clear C60 hb5 fcell h1J
      obtain ⟨Hb, hHb⟩ : ∃ Hb, Hb = fs.any (hitB V st o) := ⟨_, rfl⟩
      rw [← hHb] at HYD
      have HHB := Lib.hid hHb
      clear hHb
      go_upto_block 2 with fail
      go_cut [17] (fun v17 wx => v17 = .bool Hb ∧ w5 = wx)
      case first =>
        have hhb := HHB.out
        unfold hitB at hhb
        have hk2 := HK.out
        unfold findI at hk2
        cases hf : findP V.held st with
        | none =>
          rw [hf] at hhb hk2
          obtain rfl : k = -1 := hk2
          obtain rfl : Hb = false := by rw [hhb]; simp
          clear hhb hf
          go_wp2_with fail
          go_loop [72, 17, 19] (fun v72 v17 _ => ∃ x : Nat, x ≤ fl ∧ v72 = .int .i64 x ∧ v17 = .bool false) (fun v72 _ _ => fl - (intOf v72).toNat)
          case atStart => exact ⟨0, Nat.zero_le _, rfl, rfl⟩
          case round =>
            obtain ⟨x, hx, rfl, rfl⟩ := hrel
            by_cases hlx : x < fl
            · obtain ⟨e1, f1⟩ := FCL.out x hlx
              subst e1
              go_wp2
              go_round
              case rel => exact ⟨x + 1, by omega, by go_num, rfl⟩
              case measure => simp [intOf]; omega
            · go_wp2
              go_meet
              case rel => exact ⟨rfl, rfl⟩
        | some kk =>
          rw [hf] at hhb hk2
          obtain rfl : k = kk := hk2
          have hkl := (findP_some hf).1
          obtain ⟨e1, _, _, _, _, _, xr, av, _, e8, _, hra⟩ := HC.out kk hkl
          subst e1
          have e8 := bc hbw5 e8
          have hkn : kk < nh := by rw [HNH.out]; exact hkl
          obtain ⟨ua, uc, ub, uo, rfl, -, -, ucell⟩ := (hra.below hbw5).at
          have UCL := Lib.hid ucell
          simp only at hhb
          have HHB2 := Lib.hid hhb
          clear hhb hf hkl hra ucell
          obtain ⟨zs, hzs⟩ : ∃ zs, zs = (V.held.getD kk default).at_ := ⟨_, rfl⟩
          rw [← hzs] at e8 UCL HHB2
          clear hzs
          go_wp2_with fail
          go_loop [72, 17, 19] (fun v72 v17 _ => ∃ x : Nat, x ≤ fl ∧ v72 = .int .i64 x ∧ v17 = .bool ((fs.take x).any fun y => decide (helpX zs o y))) (fun v72 _ _ => fl - (intOf v72).toNat)
          case atStart => exact ⟨0, Nat.zero_le _, rfl, rfl⟩
          case round =>
            obtain ⟨x, hx, rfl, rfl⟩ := hrel
            by_cases hlx : x < fl
            · obtain ⟨e1, f1⟩ := FCL.out x hlx
              subst e1
              have HS2 := Lib.hid (any_snoc (fun y => decide (helpX zs o y)) fs 0 x (by rw [← HFLE.out]; exact hlx))
              generalize fs.getD x 0 = y at *
              generalize ((fs.take x).any fun y => decide (helpX zs o y)) = B at *
              cases B with
              | true =>
                go_wp2
                go_round
                case rel => exact ⟨x + 1, by omega, by go_num, by rw [HS2.out]; rfl⟩
                case measure => simp [intOf]; omega
              | false =>
                by_cases h1 : 0 ≤ y
                rotate_left
                · have HB2 := Lib.hid (show ((fs.take (x + 1)).any fun y => decide (helpX zs o y)) = false by rw [HS2.out]; simp; exact fun h => h1 h.1)
                  have q1 : decide (0 ≤ y) = false := decide_eq_false h1
                  clear h1
                  go_wp2
                  go_round
                  case rel => exact ⟨x + 1, by omega, by go_num, by rw [HB2.out]⟩
                  case measure => simp [intOf]; omega
                obtain ⟨yn, rfl⟩ : ∃ yn : Nat, y = yn := ⟨y.toNat, by omega⟩
                clear h1
                by_cases h2 : yn < zs.length
                rotate_left
                · have HB2 := Lib.hid (show ((fs.take (x + 1)).any fun y => decide (helpX zs o y)) = false by rw [HS2.out]; simp; exact fun h => h2 (by have := h.2.1; omega))
                  have q2 : decide (yn < zs.length) = false := decide_eq_false h2
                  clear h2
                  go_wp2
                  go_round
                  case rel => exact ⟨x + 1, by omega, by go_num, by rw [HB2.out]⟩
                  case measure => simp [intOf]; omega
                obtain ⟨e2, g2⟩ := UCL.out yn h2
                subst e2
                have HB2 := Lib.hid (show ((fs.take (x + 1)).any fun y => decide (helpX zs o y)) = decide (zs.getD yn 0 = o) by
                  rw [HS2.out]
                  simp only [Bool.false_or]
                  exact decide_eq_decide.2 ⟨fun h => h.2.2, fun h => ⟨by omega, by omega, h⟩⟩)
                generalize zs.getD yn 0 = z at *
                by_cases h3 : z = o
                · have q3 : (z == o) = true := by simp [h3]
                  rw [decide_eq_true h3] at HB2
                  clear h3
                  go_wp2
                  go_round
                  case rel => exact ⟨x + 1, by omega, by go_num, by rw [HB2.out]⟩
                  case measure => simp [intOf]; omega
                · have q3 : (z == o) = false := by simp [h3]
                  rw [decide_eq_false h3] at HB2
                  clear h3
                  go_wp2
                  go_round
                  case rel => exact ⟨x + 1, by omega, by go_num, by rw [HB2.out]⟩
                  case measure => simp [intOf]; omega
            · have HE := Lib.hid (show fs.take x = fs from List.take_of_length_le (by rw [← HFLE.out]; omega))
              go_wp2
              go_meet
              case rel => exact ⟨by rw [HHB2.out, HE.out], rfl⟩
      case rest =>
      obtain ⟨rfl, rfl⟩ := hcut
      have hosn := HO5.out
      by_cases ho0 : 0 ≤ o
      rotate_left
      · have q7 : decide (0 ≤ o) = false := decide_eq_false ho0
        have HNX := Lib.hid (show nextB V ls a b ⟨⟨st, ix⟩, fs, dst, size⟩ = false by rw [HYD.out, q7]; rfl)
        clear ho0 hosn
        go_wp2
        go_roundw
        case rel => exact ⟨i + 1, by omega, by go_num, h15, by rw [HSN.out, HNX.out, ← HOS.out]; simpa using HO5.out⟩
        case measure => simp [intOf]; omega
      have q7 : decide (0 ≤ o) = true := decide_eq_true ho0
      have C57 := Lib.hid (CTH.out o w5 hbw5)
      obtain ⟨th, hth⟩ : ∃ th, th = thereB V ls o := ⟨_, rfl⟩
      rw [← hth] at C57 HYD
      have HNX := Lib.hid (show nextB V ls a b ⟨⟨st, ix⟩, fs, dst, size⟩ = (th && Hb) by rw [HYD.out, q7]; rfl)
      clear ho0 hth hosn HYD
      go_wp2_with fail
      refine C57.out.mono ?_
      rintro e w6 ⟨rfl, hb6⟩
      have h16 := h15.trans (hb6.mono h15.size)
      have HO6 := Lib.hid (HO5.out.below hb6)
      have m0 := bc hb6 m0
      have m1 := bc hb6 m1
      have m2 := bc hb6 m2
      have m3 := bc hb6 m3
      have m4 := bc hb6 m4
      clear C57 d0 d1 d2 d3 hb6 HO5
      cases th with
      | false =>
        go_wp2
        go_roundw
        case rel => exact ⟨i + 1, by omega, by go_num, h16, by rw [HSN.out, HNX.out, ← HOS.out]; simpa using HO6.out⟩
        case measure => simp [intOf]; omega
      | true =>
        cases Hb with
        | false =>
          go_wp2
          go_roundw
          case rel => exact ⟨i + 1, by omega, by go_num, h16, by rw [HSN.out, HNX.out, ← HOS.out]; simpa using HO6.out⟩
          case measure => simp [intOf]; omega
        | true =>
          have hz6 := h16.size
          obtain ⟨v10, w10, r10, oj10, b10⟩ := HO6.out.app ⟨⟨st, ix⟩, fs, dst, size⟩ _ HFV.out (by have := HOL.out; have := HOLE.out; omega) hz6
          obtain ⟨j10a, j10c, e10⟩ := oj10.slice (by have := HOL.out; have := HOLE.out; rw [List.length_append, List.length_singleton]; omega)
          rw [List.length_append, List.length_singleton, ← HOLE.out] at e10
          simp only at r10
          subst e10
          have OJ := Lib.hid oj10
          clear oj10 hz6
          go_wp2_with (at_builtin; refine wpList_append_run (by rfl) (.tmp 121) (.tmp 123) 39 (by rfl) _ (.slice (some ⟨w6.heap.size, 0, none⟩) 1 1) (.slice j10a (ol + 1) j10c) w10 (by rfl) (by rfl) r10 ?_)
          go_roundw
          case rel => exact ⟨i + 1, by omega, by go_num, h16.trans b10, by rw [HSN.out, HNX.out, ← HOS.out]; exact OJ.out⟩
          case measure => simp [intOf]; omega
    · have hil : i = js.length := by omega
      subst hil
      rw [List.take_length] at HOS
      go_wp2
      refine bodyPost_ret (results_tmp2 Try.results34 _ _ _) rfl ?_
      exact ⟨hbwr, .inr ⟨HOKN.out, _, rfl, by rw [← HOS.out]; exact OwnJr.reads HO.out (by have := HOL.out; have := HOLE.out; omega) hbwr⟩⟩

end Go.Proofs.Ytijcicgbhcphjaa
