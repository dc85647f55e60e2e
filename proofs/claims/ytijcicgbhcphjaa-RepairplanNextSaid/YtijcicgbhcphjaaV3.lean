/- Next. -/
import Derived.Test.YtijcicgbhcphjaaV2
namespace Go.Proofs.Ytijcicgbhcphjaa
open Go.RowKit Go.Lib Go.ChangeMaps
set_option linter.unusedSimpArgs false

theorem there_nat {V : Vp} {ls : List Int} {d : Nat} (hd : d < V.mem.length) : thereB V ls d = !goneB V.mem ls d := by
  unfold thereB goodB
  rw [Int.toNat_natCast, decide_eq_true (show (0 : Int) ≤ d by omega), decide_eq_true (show (d : Int) < V.mem.length by omega)]
  simp
theorem next_a {V : Vp} {ls : List Int} {a b : Nat} {j : Jp} (hb : b < V.mem.length) (hab : (a : Int) ≠ b) (h : j.to = a) : nextB V ls a b j = givesB V (goneB V.mem ls) b j := by
  unfold nextB otherD givesB
  rw [h, if_neg hab, if_pos rfl, there_nat hb, decide_eq_true (show (0 : Int) ≤ b by omega)]
  simp
theorem next_b {V : Vp} {ls : List Int} {a b : Nat} {j : Jp} (ha : a < V.mem.length) (h : j.to = b) : nextB V ls a b j = givesB V (goneB V.mem ls) a j := by
  unfold nextB otherD givesB
  rw [h, if_pos rfl, there_nat ha, decide_eq_true (show (0 : Int) ≤ a by omega)]
  simp
theorem next_no {V : Vp} {ls : List Int} {a b : Int} {j : Jp} (h1 : j.to ≠ a) (h2 : j.to ≠ b) : nextB V ls a b j = false := by
  unfold nextB otherD
  rw [if_neg h2, if_neg h1]
  rfl
theorem OwnJ.same {w w' : World} {base : Nat} {v : Value} {js : List Jp} (h : OwnJ w base v js) (hs : ∀ q, q < w.heap.size → w'.heap[q]? = w.heap[q]?) : OwnJ w' base v js := by
  obtain ⟨xs, h1, h2, h3⟩ := h
  exact ⟨xs, h1, h2.same fun q hq => hs q (h2.lt q hq).2, fun i hi => Own.same (h3 i hi) fun q hq => hs q (Own.lt (h3 i hi) q hq).2⟩
/-- When Next answers. -/
def NxOk (V : Vp) (ls : List Int) (a b : Int) : Prop := Fits V ls ∧ a ≠ b ∧ (0 ≤ a ∧ a < V.mem.length) ∧ (0 ≤ b ∧ b < V.mem.length)
instance (V : Vp) (ls : List Int) (a b : Int) : Decidable (NxOk V ls a b) := inferInstanceAs (Decidable (_ ∧ _))
theorem filter_snoc (V : Vp) (ls : List Int) (a b : Int) (js : List Jp) (i : Nat) (h : i < js.length) : (js.take (i + 1)).filter (nextB V ls a b) = (js.take i).filter (nextB V ls a b) ++ if nextB V ls a b (js.getD i default) = true then [js.getD i default] else [] := by
  rw [List.take_succ_eq_append_getElem h, List.filter_append, getD_at _ _ _ h]
  congr 1
  simp only [List.filter_cons, List.filter_nil]

theorem one_set {w : World} {g : Nat} {z0 z1 z2 z3 z4 : Value} {t : TypeId} (h : w.heap[g]? = some (.cells #[z0, z1, z2, z3, z4] t (0, 0))) (c : Value) :
    (w.setCell ⟨g, 2, none⟩ c).heap[g]? = some (.cells #[z0, z1, c, z3, z4] t (0, 0)) ∧
    (∀ q, q ≠ g → (w.setCell ⟨g, 2, none⟩ c).heap[q]? = w.heap[q]?) ∧
    ∀ B w0, B ≤ g → Below B w0 w → Below B w0 (w.setCell ⟨g, 2, none⟩ c) :=
  ⟨setCell_block h c, fun q hq => setCell_other _ _ hq, fun B w0 hB hb => hb.setCell hB _⟩
set_option maxRecDepth 100000 in
set_option maxHeartbeats 16000000 in
theorem next_any (v lv jv : Value) (V : Vp) (ls : List Int) (js : List Jp) (a b : Int) (w : World) (hv : VwAt w v V) (hl : ReadsI w lv ls) (hj : ReadsJ w jv js) (hrf : ∀ h ∈ V.held, h.refs.length ≤ 1000) (hjs : js.length ≤ 1000) (hfr : ∀ j ∈ js, j.from_.length ≤ 1000) :
    Calls Try.prog 33 #[v, lv, jv, .int .i64 a, .int .i64 b] w fun e w' => Below w.heap.size w w' ∧ ((¬ NxOk V ls a b ∧ e = .returned (.tuple #[.slice none 0 0, .int .i64 1])) ∨
      (NxOk V ls a b ∧ ∃ u, e = .returned (.tuple #[u, .int .i64 0]) ∧ OwnJ w' w.heap.size u (js.filter (nextB V ls a b)))) := by
  have hA := fun o => (Below.refl w.heap.size w).alloc (Nat.le_refl _) o
  have CR := Lib.hid (fun o => read_any v lv V ls (w.alloc o) (hv.below (hA o)) (hl.below (hA o)) hrf)
  have HA := Lib.hid hA
  obtain ⟨ma, mc, ha, hc, ra, rl, rc, wa, wl, wc, rfl⟩ := hv.val
  obtain ⟨la, lc, _, _, rfl, -⟩ := hl.at
  obtain ⟨ja, jc, jb, jo, rfl, -, -, jcell⟩ := hj.at
  have JC := Lib.hid jcell
  have HFR := Lib.hid hfr
  clear hA hv hl hj jcell hfr hrf
  obtain ⟨ml, hml⟩ : ∃ ml, ml = V.mem.length := ⟨_, rfl⟩
  have HML := Lib.hid hml
  rw [← hml] at CR ⊢
  clear hml
  generalize V.held.length = nh at *
  generalize ls.length = ll at *
  have hb1 := HA.out (.cells #[.slice ma ml mc, .slice ha nh hc, .slice ra rl rc, .slice wa wl wc] 26)
  go_enter Try.func33, Try.ntmps33
  go_wp2_with fail
  refine (CR.out _).mono ?_
  rintro e w3 ⟨hb3, hcase⟩
  have hbw := hb1.trans (hb3.mono hb1.size)
  clear CR HA
  rcases hcase with ⟨hno, rfl⟩ | ⟨hfit, p, rfl, hp, hst⟩
  · have HNO := Lib.hid (show ¬ NxOk V ls a b from fun h => hno h.1)
    clear hno
    go_wp2
    refine bodyPost_ret (results_tmp2 Try.results33 _ _ _) rfl ?_
    exact ⟨hbw, .inl ⟨HNO.out, rfl⟩⟩
  have HFIT := Lib.hid hfit
  have HST := Lib.hid hst
  have hm12 : ml ≤ 12 := by rw [HML.out]; exact hfit.1.1.1
  obtain ⟨mv, hv, rv, wv, gv, mp, c0, c1, c2, c3, c4, c5, hM, hH, hR, hW, hG, hmp⟩ := hst.at
  obtain ⟨ga, gc, _, _, rfl, -⟩ := hG.at
  rw [← HML.out] at c4
  clear hM hH hR hW hG hmp c0 c1 c2 c3 c5 hst hfit hb1 hb3
  by_cases ha0 : a < 0
  · have h9 : True := trivial
    have HNO := Lib.hid (show ¬ NxOk V ls a b from fun h => by have := h.2.2.1.1; omega)
    have q1 : decide (a < 0) = true := decide_eq_true ha0
    go_wp2
    refine bodyPost_ret (results_tmp2 Try.results33 _ _ _) rfl ?_
    exact ⟨hbw, .inl ⟨HNO.out, rfl⟩⟩
  obtain ⟨an, rfl⟩ : ∃ an : Nat, a = an := ⟨a.toNat, by omega⟩
  by_cases ha1 : an < ml
  rotate_left
  · have h9 : True := trivial
    have HNO := Lib.hid (show ¬ NxOk V ls an b from fun h => by have := h.2.2.1.2; rw [← HML.out] at this; omega)
    have q2 : decide ((ml : Int) ≤ (an : Int)) = true := decide_eq_true (by omega)
    go_wp2
    refine bodyPost_ret (results_tmp2 Try.results33 _ _ _) rfl ?_
    exact ⟨hbw, .inl ⟨HNO.out, rfl⟩⟩
  by_cases hb0 : b < 0
  · have h9 : True := trivial
    have HNO := Lib.hid (show ¬ NxOk V ls an b from fun h => by have := h.2.2.2.1; omega)
    have q3 : decide (b < 0) = true := decide_eq_true hb0
    go_wp2
    refine bodyPost_ret (results_tmp2 Try.results33 _ _ _) rfl ?_
    exact ⟨hbw, .inl ⟨HNO.out, rfl⟩⟩
  obtain ⟨bn, rfl⟩ : ∃ bn : Nat, b = bn := ⟨b.toNat, by omega⟩
  by_cases hb1 : bn < ml
  rotate_left
  · have h9 : True := trivial
    have HNO := Lib.hid (show ¬ NxOk V ls an bn from fun h => by have := h.2.2.2.2; rw [← HML.out] at this; omega)
    have q4 : decide ((ml : Int) ≤ (bn : Int)) = true := decide_eq_true (by omega)
    go_wp2
    refine bodyPost_ret (results_tmp2 Try.results33 _ _ _) rfl ?_
    exact ⟨hbw, .inl ⟨HNO.out, rfl⟩⟩
  by_cases hab : an = bn
  · have h9 : True := trivial
    have HNO := Lib.hid (show ¬ NxOk V ls an bn from fun h => h.2.1 (by omega))
    have q5 : ((an : Int) == (bn : Int)) = true := by simp [hab]
    go_wp2
    refine bodyPost_ret (results_tmp2 Try.results33 _ _ _) rfl ?_
    exact ⟨hbw, .inl ⟨HNO.out, rfl⟩⟩
  have q5 : ((an : Int) == (bn : Int)) = false := by simp; omega
  have HOKN := Lib.hid (show NxOk V ls an bn from ⟨HFIT.out, by omega, ⟨by omega, by rw [← HML.out]; omega⟩, by omega, by rw [← HML.out]; omega⟩)
  have HAB := Lib.hid hab
  have q1 : decide ((an : Int) < 0) = false := decide_eq_false (by omega)
  have q2 : decide (ml ≤ an) = false := decide_eq_false (by omega)
  have q3 : decide ((bn : Int) < 0) = false := decide_eq_false (by omega)
  have q4 : decide (ml ≤ bn) = false := decide_eq_false (by omega)
  clear hab ha0 hb0
  go_wp2
  go_loopw [55, 15, 17] (fun v55 v15 _ wr => ∃ i : Nat, i ≤ js.length ∧ v55 = .int .i64 i ∧ Below w3.heap.size w3 wr ∧ OwnJ wr w3.heap.size v15 ((js.take i).filter (nextB V ls an bn))) (fun v55 _ _ _ => js.length - (intOf v55).toNat)
  case atStart => exact ⟨0, Nat.zero_le _, rfl, Below.refl _ _, OwnJ.nil _ _⟩
  case round =>
    obtain ⟨i, hi, rfl, hbel, hown⟩ := hrel
    have hbwr := hbw.trans (hbel.mono hbw.size)
    have hosl : ((js.take i).filter (nextB V ls an bn)).length ≤ 1000 := by
      refine Nat.le_trans (List.length_filter_le _ _) ?_
      rw [List.length_take]
      omega
    obtain ⟨os, hos⟩ : ∃ os, os = (js.take i).filter (nextB V ls an bn) := ⟨_, rfl⟩
    rw [← hos] at hown hosl
    have HOS := Lib.hid hos
    have HOL := Lib.hid hosl
    clear hos hosl
    have HO := Lib.hid hown
    obtain ⟨a15, c15, rfl⟩ := hown.slice (by have := HOL.out; omega)
    clear hown
    obtain ⟨ol, hol⟩ : ∃ ol, ol = os.length := ⟨_, rfl⟩
    rw [← hol] at HO HOL ⊢
    have HOLE := Lib.hid hol
    clear hol
    by_cases hlt : i < js.length
    · obtain ⟨e1, e2, e3, fv, e4, e5, e6, hfv⟩ := JC.out i hlt
      subst e1
      have hfl : (js.getD i default).from_.length ≤ 1000 := HFR.out _ (by rw [getD_at _ _ _ hlt]; exact List.getElem_mem hlt)
      have HSN := Lib.hid (filter_snoc V ls an bn js i hlt)
      obtain ⟨y, hy⟩ : ∃ y, y = js.getD i default := ⟨_, rfl⟩
      rw [← hy] at e2 e3 e5 e6 hfv hfl HSN
      clear hy
      have hr := hbwr
      rw [← hr.cell (p := ⟨jb, _, none⟩) (cell_lt e2)] at e2
      rw [← hr.cell (p := ⟨jb, _, none⟩) (cell_lt e3)] at e3
      rw [← hr.cell (p := ⟨jb, _, none⟩) (cell_lt e4)] at e4
      rw [← hr.cell (p := ⟨jb, _, none⟩) (cell_lt e5)] at e5
      rw [← hr.cell (p := ⟨jb, _, none⟩) (cell_lt e6)] at e6
      clear hr
      have hfv1 : ReadsI wr fv y.from_ := hfv.below hbwr
      obtain ⟨fa, fc, _, _, rfl, -⟩ := hfv1.at
      have HST4 := HST.out.below hbel
      have HFV := Lib.hid hfv1
      obtain ⟨⟨st, ix⟩, fs, dst, size⟩ := y
      simp only at e2 e3 e4 e5 e6 HFV hfl HSN hfv1
      have CI := Lib.hid (fun W hW => cloneI (.slice fa fs.length fc) _ _ W (RowAt.below hfv1 (w' := W) hW) (fun i j _ _ => rfl) (by omega))
      obtain ⟨fl, hfle⟩ : ∃ fl, fl = fs.length := ⟨_, rfl⟩
      try simp only at CI
      rw [← hfle] at e4 HFV hfl CI
      have HFLE := Lib.hid hfle
      have hofl : ∀ (w1 w2 : World) (v : Value), Own w2 w1.heap.size 3 v 1 fl (fun i _ => .int .i64 (fs.getD i 0)) → OwnI w2 w1.heap.size v fs := fun w1 w2 v h => by
        unfold OwnI
        rw [← HFLE.out]
        exact h
      have HOF := Lib.hid hofl
      clear hofl
      clear hfle hfv hfv1
      have hA : Below wr.heap.size wr (wr.alloc (.cells #[.string st, .int .i64 ix, .slice fa fl fc, .int .i64 dst, .int .i64 size] 47)) := (Below.refl _ _).alloc (Nat.le_refl _) _
      have hkj := heap_alloc_new wr (.cells #[.string st, .int .i64 ix, .slice fa fl fc, .int .i64 dst, .int .i64 size] 47)
      have m0 : (wr.alloc (.cells #[.string st, .int .i64 ix, .slice fa fl fc, .int .i64 dst, .int .i64 size] 47)).cell? ⟨wr.heap.size, 0, none⟩ = some (.string st) := cell_of_row _ wr.heap.size 0 _ _ _ hkj
      have m1 : (wr.alloc (.cells #[.string st, .int .i64 ix, .slice fa fl fc, .int .i64 dst, .int .i64 size] 47)).cell? ⟨wr.heap.size, 1, none⟩ = some (.int .i64 ix) := cell_of_row _ wr.heap.size 1 _ _ _ hkj
      have m2 : (wr.alloc (.cells #[.string st, .int .i64 ix, .slice fa fl fc, .int .i64 dst, .int .i64 size] 47)).cell? ⟨wr.heap.size, 2, none⟩ = some (.slice fa fl fc) := cell_of_row _ wr.heap.size 2 _ _ _ hkj
      have m3 : (wr.alloc (.cells #[.string st, .int .i64 ix, .slice fa fl fc, .int .i64 dst, .int .i64 size] 47)).cell? ⟨wr.heap.size, 3, none⟩ = some (.int .i64 dst) := cell_of_row _ wr.heap.size 3 _ _ _ hkj
      have m4 : (wr.alloc (.cells #[.string st, .int .i64 ix, .slice fa fl fc, .int .i64 dst, .int .i64 size] 47)).cell? ⟨wr.heap.size, 4, none⟩ = some (.int .i64 size) := cell_of_row _ wr.heap.size 4 _ _ _ hkj
      have hst4 := HST4.below hA
      have CGa := Lib.hid (gives_any an ⟨⟨st, ix⟩, fs, dst, size⟩ (.slice fa fl fc) _ hst4 (HFV.out.below hA) (by rw [← HML.out]; exact ha1))
      have CGb := Lib.hid (gives_any bn ⟨⟨st, ix⟩, fs, dst, size⟩ (.slice fa fl fc) _ hst4 (HFV.out.below hA) (by rw [← HML.out]; exact hb1))
      have HFVW := Lib.hid (HFV.out.below hA)
      unfold Jp.v at CGa CGb
      simp only at CGa CGb
      have HKJ := Lib.hid hkj
      clear HST4 hkj
      by_cases hta : dst = an
      · have q6 : (dst == (an : Int)) = true := by simp [hta]
        have q7 : (dst == (bn : Int)) = false := by have := HAB.out; simp; omega
        have HNX := Lib.hid (next_a (V := V) (ls := ls) (a := an) (b := bn) (j := ⟨⟨st, ix⟩, fs, dst, size⟩) (by rw [← HML.out]; exact hb1) (by have := HAB.out; omega) hta)
        clear hst4 hta
        go_wp2_with fail
        refine CGb.out.mono ?_
        rintro e w5 ⟨rfl, hb5⟩
        have m0 := bc hb5 m0
        have m1 := bc hb5 m1
        have m2 := bc hb5 m2
        have m3 := bc hb5 m3
        have m4 := bc hb5 m4
        have hr5 := hA.trans (hb5.mono hA.size)
        generalize givesB V (goneB V.mem ls) bn ⟨⟨st, ix⟩, fs, dst, size⟩ = r at *
        cases r with
        | false =>
          go_wp2
          go_roundw
          case rel => exact ⟨i + 1, by omega, by go_num, hbel.trans (hr5.mono hbel.size), by rw [HSN.out, HNX.out, ← HOS.out]; simpa using HO.out.below hr5⟩
          case measure => simp [intOf]; omega
        | true =>
          go_wp2_with fail
          refine (CI.out _ hr5).mono ?_
          rintro e w6 ⟨u, rfl, ou, hb6⟩
          have hr6 := hr5.trans (hb6.mono hr5.size)
          have hk6 := bb hb6 (bb hb5 HKJ.out)
          have m0 := bc hb6 m0
          have m1 := bc hb6 m1
          have m2 := bc hb6 m2
          have m3 := bc hb6 m3
          have m4 := bc hb6 m4
          have f2 := frozen_of_row w6 wr.heap.size 2 _ _ hk6
          obtain ⟨y1, y2, y3⟩ := one_set hk6 u
          have hbS := y3 wr.heap.size wr (Nat.le_refl _) hr6
          have hoW := OwnJ.same HO.out (w' := w6.setCell ⟨wr.heap.size, 2, none⟩ u) (fun q hq => (y2 q (by omega)).trans (hr6.block q hq))
          have ou6 := HOF.out _ _ _ ou
          have hz5 := hr5.size
          have houW : OwnI (w6.setCell ⟨wr.heap.size, 2, none⟩ u) w3.heap.size u fs := Own.base (Own.same ou6 fun q hq => y2 q (fun e => by have := (Own.lt ou6 q hq).1; have := hA.size; have := hb5.size; rw [World.size_alloc] at *; omega)) (by have := hbel.size; omega)
          obtain ⟨ua, uc, rfl⟩ := ou6.slice
          have HY1 := Lib.hid y1
          have HOW := Lib.hid hoW
          have HOUW := Lib.hid houW
          have HBS := Lib.hid hbS
          clear ou ou6 y2 y3 hk6 hb6 y1 hoW houW hbS hr6 hz5
          go_upto_region 13 with fail
          generalize w6.setCell ⟨wr.heap.size, 2, none⟩ (.slice ua fs.length uc) = W at *
          have j0 := cell_of_row W _ 0 _ _ _ HY1.out
          have j1 := cell_of_row W _ 1 _ _ _ HY1.out
          have j2 := cell_of_row W _ 2 _ _ _ HY1.out
          have j3 := cell_of_row W _ 3 _ _ _ HY1.out
          have j4 := cell_of_row W _ 4 _ _ _ HY1.out
          have hWs := HBS.out.size
          have hls := hbel.size
          obtain ⟨v10, w10, r10, oj10, b10, -⟩ := HOW.out.app ⟨⟨st, ix⟩, fs, dst, size⟩ (.slice ua fs.length uc) HOUW.out (by have := HOL.out; have := HOLE.out; omega) (by omega)
          obtain ⟨j10a, j10c, e10⟩ := oj10.slice (by have := HOL.out; have := HOLE.out; rw [List.length_append, List.length_singleton]; omega)
          rw [List.length_append, List.length_singleton, ← HOLE.out] at e10
          simp only at r10
          subst e10
          have OJ := Lib.hid oj10
          clear oj10 hWs hls
          go_wp2_with (at_builtin; refine wpList_append_run (by rfl) (.tmp 85) (.tmp 87) 35 (by rfl) _ (.slice (some ⟨W.heap.size, 0, none⟩) 1 1) (.slice j10a (ol + 1) j10c) w10 (by rfl) (by rfl) r10 ?_)
          go_roundw
          case rel => exact ⟨i + 1, by omega, by go_num, (hbel.trans (HBS.out.mono hbel.size)).trans b10, by rw [HSN.out, HNX.out, ← HOS.out, if_pos rfl]; exact OJ.out⟩
          case measure => simp [intOf]; omega
      by_cases htb : dst = bn
      · have q6 : (dst == (an : Int)) = false := by simp [hta]
        have q7 : (dst == (bn : Int)) = true := by simp [htb]
        have HNX := Lib.hid (next_b (V := V) (ls := ls) (a := an) (b := bn) (j := ⟨⟨st, ix⟩, fs, dst, size⟩) (by rw [← HML.out]; exact ha1) htb)
        clear hst4 htb hta
        go_wp2_with fail
        refine CGa.out.mono ?_
        rintro e w5 ⟨rfl, hb5⟩
        have m0 := bc hb5 m0
        have m1 := bc hb5 m1
        have m2 := bc hb5 m2
        have m3 := bc hb5 m3
        have m4 := bc hb5 m4
        have hr5 := hA.trans (hb5.mono hA.size)
        generalize givesB V (goneB V.mem ls) an ⟨⟨st, ix⟩, fs, dst, size⟩ = r at *
        cases r with
        | false =>
          go_wp2
          go_roundw
          case rel => exact ⟨i + 1, by omega, by go_num, hbel.trans (hr5.mono hbel.size), by rw [HSN.out, HNX.out, ← HOS.out]; simpa using HO.out.below hr5⟩
          case measure => simp [intOf]; omega
        | true =>
          go_wp2_with fail
          refine (CI.out _ hr5).mono ?_
          rintro e w6 ⟨u, rfl, ou, hb6⟩
          have hr6 := hr5.trans (hb6.mono hr5.size)
          have hk6 := bb hb6 (bb hb5 HKJ.out)
          have m0 := bc hb6 m0
          have m1 := bc hb6 m1
          have m2 := bc hb6 m2
          have m3 := bc hb6 m3
          have m4 := bc hb6 m4
          have f2 := frozen_of_row w6 wr.heap.size 2 _ _ hk6
          obtain ⟨y1, y2, y3⟩ := one_set hk6 u
          have hbS := y3 wr.heap.size wr (Nat.le_refl _) hr6
          have hoW := OwnJ.same HO.out (w' := w6.setCell ⟨wr.heap.size, 2, none⟩ u) (fun q hq => (y2 q (by omega)).trans (hr6.block q hq))
          have ou6 := HOF.out _ _ _ ou
          have hz5 := hr5.size
          have houW : OwnI (w6.setCell ⟨wr.heap.size, 2, none⟩ u) w3.heap.size u fs := Own.base (Own.same ou6 fun q hq => y2 q (fun e => by have := (Own.lt ou6 q hq).1; have := hA.size; have := hb5.size; rw [World.size_alloc] at *; omega)) (by have := hbel.size; omega)
          obtain ⟨ua, uc, rfl⟩ := ou6.slice
          have HY1 := Lib.hid y1
          have HOW := Lib.hid hoW
          have HOUW := Lib.hid houW
          have HBS := Lib.hid hbS
          clear ou ou6 y2 y3 hk6 hb6 y1 hoW houW hbS hr6 hz5
          go_upto_region 13 with fail
          generalize w6.setCell ⟨wr.heap.size, 2, none⟩ (.slice ua fs.length uc) = W at *
          have j0 := cell_of_row W _ 0 _ _ _ HY1.out
          have j1 := cell_of_row W _ 1 _ _ _ HY1.out
          have j2 := cell_of_row W _ 2 _ _ _ HY1.out
          have j3 := cell_of_row W _ 3 _ _ _ HY1.out
          have j4 := cell_of_row W _ 4 _ _ _ HY1.out
          have hWs := HBS.out.size
          have hls := hbel.size
          obtain ⟨v10, w10, r10, oj10, b10, -⟩ := HOW.out.app ⟨⟨st, ix⟩, fs, dst, size⟩ (.slice ua fs.length uc) HOUW.out (by have := HOL.out; have := HOLE.out; omega) (by omega)
          obtain ⟨j10a, j10c, e10⟩ := oj10.slice (by have := HOL.out; have := HOLE.out; rw [List.length_append, List.length_singleton]; omega)
          rw [List.length_append, List.length_singleton, ← HOLE.out] at e10
          simp only at r10
          subst e10
          have OJ := Lib.hid oj10
          clear oj10 hWs hls
          go_wp2_with (at_builtin; refine wpList_append_run (by rfl) (.tmp 85) (.tmp 87) 35 (by rfl) _ (.slice (some ⟨W.heap.size, 0, none⟩) 1 1) (.slice j10a (ol + 1) j10c) w10 (by rfl) (by rfl) r10 ?_)
          go_roundw
          case rel => exact ⟨i + 1, by omega, by go_num, (hbel.trans (HBS.out.mono hbel.size)).trans b10, by rw [HSN.out, HNX.out, ← HOS.out, if_pos rfl]; exact OJ.out⟩
          case measure => simp [intOf]; omega
      have q6 : (dst == (an : Int)) = false := by simp [hta]
      have q7 : (dst == (bn : Int)) = false := by simp [htb]
      have HNX := Lib.hid (next_no (V := V) (ls := ls) (a := an) (b := bn) (j := ⟨⟨st, ix⟩, fs, dst, size⟩) hta htb)
      clear hst4 hta htb
      go_wp2
      go_roundw
      case rel => exact ⟨i + 1, by omega, by go_num, hbel.trans (hA.mono hbel.size), by rw [HSN.out, HNX.out, ← HOS.out]; simpa using HO.out.below hA⟩
      case measure => simp [intOf]; omega
    · have hil : i = js.length := by omega
      subst hil
      rw [List.take_length] at HOS
      go_wp2
      refine bodyPost_ret (results_tmp2 Try.results33 _ _ _) rfl ?_
      exact ⟨hbwr, .inr ⟨HOKN.out, _, rfl, by rw [← HOS.out]; exact HO.out.lower hbw.size⟩⟩

end Go.Proofs.Ytijcicgbhcphjaa
