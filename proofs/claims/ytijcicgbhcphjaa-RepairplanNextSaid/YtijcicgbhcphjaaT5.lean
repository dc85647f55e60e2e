/- The reference's apply. -/
import Derived.Test.YtijcicgbhcphjaaT2
import Derived.Test.YtijcicgbhcphjaaT4
import Derived.Test.YtijcicgbhcphjaaM2
namespace Go.Proofs.Ytijcicgbhcphjaa
open Go.RowKit Go.Lib Go.ChangeMaps
set_option linter.unusedSimpArgs false

theorem RowAt.off {w w' : World} {N : Nat} {v : Value} {k n : Nat} {f : Nat → Nat → Value} (h : RowAt w v k n f) (hk : 0 < k) (hN : ∀ o u, w.cell? ⟨N, o, none⟩ = some u → ∃ a l c, u = .slice a l c) (hf : ∀ a l c, 0 < n → f 0 0 ≠ .slice a l c)
    (hs : ∀ q, q ≠ N → w'.heap[q]? = w.heap[q]?) : RowAt w' v k n f := by
  obtain ⟨ao, c, rfl, hl, hm, hc⟩ := h
  refine ⟨ao, c, rfl, hl, hm, fun h0 => ?_⟩
  obtain ⟨b, off, e, hh⟩ := hc h0
  have hb : b ≠ N := fun e => by
    subst e
    obtain ⟨a, l, c, e⟩ := hN _ _ (hh 0 0 h0 hk)
    exact hf a l c h0 e
  refine ⟨b, off, e, fun i j hi hj => ?_⟩
  have h1 := hh i j hi hj
  unfold World.cell? at h1 ⊢
  rw [hs b hb]
  exact h1
theorem VwAt.off {w w' : World} {N : Nat} {v : Value} {V : Vp} (h : VwAt w v V) (hN : ∀ o u, w.cell? ⟨N, o, none⟩ = some u → ∃ a l c, u = .slice a l c) (hs : ∀ q, q ≠ N → w'.heap[q]? = w.heap[q]?) : VwAt w' v V := by
  obtain ⟨mv, hv, rv, wv, e, h1, ⟨xs, h2, h3, h4⟩, h5, h6⟩ := h
  have hI : ∀ {v : Value} {zs : List Int}, ReadsI w v zs → ReadsI w' v zs := fun h => RowAt.off h (by omega) hN (fun _ _ _ _ e => by cases e) hs
  refine ⟨mv, hv, rv, wv, e, RowAt.off h1 (by omega) hN (fun _ _ _ _ e => by cases e) hs, ⟨xs, h2, RowAt.off h3 (by omega) hN (fun _ _ _ _ e => by cases e) hs, fun i hi => ⟨RowAt.off (h4 i hi).1 (by omega) hN (fun _ _ _ _ e => by cases e) hs, hI (h4 i hi).2⟩⟩, hI h5, hI h6⟩

/-- A view in a block. -/
def NowAt (w : World) (N : Nat) (V : Vp) : Prop := ∃ ma ml mc ha hl hc ra rl rc wa wl wc, w.heap[N]? = some (.cells #[.slice ma ml mc, .slice ha hl hc, .slice ra rl rc, .slice wa wl wc] 33 (0, 0)) ∧ VwAt w (.agg #[.slice ma ml mc, .slice ha hl hc, .slice ra rl rc, .slice wa wl wc]) V
theorem NowAt.below {w w' : World} {N : Nat} {V : Vp} (h : NowAt w N V) (hb : Below w.heap.size w w') : NowAt w' N V := by
  obtain ⟨ma, ml, mc, ha, hl, hc, ra, rl, rc, wa, wl, wc, h1, h2⟩ := h
  exact ⟨ma, ml, mc, ha, hl, hc, ra, rl, rc, wa, wl, wc, bb hb h1, h2.below hb⟩
theorem four_slices {w : World} {N : Nat} {ma : Option Addr} {ml mc : Nat} {ha : Option Addr} {hl hc : Nat} {ra : Option Addr} {rl rc : Nat} {wa : Option Addr} {wl wc : Nat} {t : TypeId}
    (h : w.heap[N]? = some (.cells #[.slice ma ml mc, .slice ha hl hc, .slice ra rl rc, .slice wa wl wc] t (0, 0))) : ∀ o u, w.cell? ⟨N, o, none⟩ = some u → ∃ a l c, u = .slice a l c := fun o u hu => by
  rw [cell_of_row _ N o _ _ _ h] at hu
  match o with
  | 0 => cases hu; exact ⟨_, _, _, rfl⟩
  | 1 => cases hu; exact ⟨_, _, _, rfl⟩
  | 2 => cases hu; exact ⟨_, _, _, rfl⟩
  | 3 => cases hu; exact ⟨_, _, _, rfl⟩
  | n + 4 => simp at hu
/-- A view is stored. -/
theorem NowAt.store {w : World} {N : Nat} {V0 V : Vp} (h : NowAt w N V0) {ma : Option Addr} {ml mc : Nat} {ha : Option Addr} {hl hc : Nat} {ra : Option Addr} {rl rc : Nat} {wa : Option Addr} {wl wc : Nat} (hu : VwAt w (.agg #[.slice ma ml mc, .slice ha hl hc, .slice ra rl rc, .slice wa wl wc]) V) :
    NowAt ((((w.setCell ⟨N, 0, none⟩ (.slice ma ml mc)).setCell ⟨N, 1, none⟩ (.slice ha hl hc)).setCell ⟨N, 2, none⟩ (.slice ra rl rc)).setCell ⟨N, 3, none⟩ (.slice wa wl wc)) N V := by
  obtain ⟨_, _, _, _, _, _, _, _, _, _, _, _, h1, _⟩ := h
  obtain ⟨y1, y2, _⟩ := four_set h1 (.slice ma ml mc) (.slice ha hl hc) (.slice ra rl rc) (.slice wa wl wc)
  exact ⟨_, _, _, _, _, _, _, _, _, _, _, _, y1, hu.off (four_slices h1) y2⟩

def zeroV : Value := .agg #[.slice none 0 0, .slice none 0 0, .slice none 0 0, .slice none 0 0]

set_option maxRecDepth 100000 in
set_option maxHeartbeats 16000000 in
theorem apply_ref (v lv jv : Value) (V : Vp) (ls : List Int) (js : List Jp) (w : World) (hv : VwAt w v V) (hl : ReadsI w lv ls) (hjs : ReadsJ w jv js) (hok : VOk V) :
    Calls Try.prog 58 #[v, lv, jv] w fun e w' => Below w.heap.size w w' ∧ ((doAllP (goneB V.mem ls) (cleanV (goneB V.mem ls) V) js = none ∧ e = .returned (.tuple #[zeroV, .bool false])) ∨
      ∃ V' u, doAllP (goneB V.mem ls) (cleanV (goneB V.mem ls) V) js = some V' ∧ e = .returned (.tuple #[u, .bool true]) ∧ VwAt w' u V') := by
  have CC := Lib.hid (fun W (h : Below w.heap.size w W) => clean_ref _ _ V ls W (hv.below h) (hl.below h) hok)
  have CPO := Lib.hid (fun W (u fv : Value) (Vi : Vp) (j : Jp) (hu : VwAt W u Vi) (hf : ReadsI W fv j.from_) (hk : VOk Vi) (hW : Below w.heap.size w W) => possible_ref u _ fv Vi ls j W hu (hl.below hW) hf hk)
  have HOK := Lib.hid (cleanV_ok (gone := goneB V.mem ls) hok)
  obtain ⟨gone, hgone⟩ : ∃ gone, gone = goneB V.mem ls := ⟨_, rfl⟩
  rw [← hgone] at CC HOK ⊢
  have HG := Lib.hid hgone
  clear hgone hok
  obtain ⟨q, hq⟩ : ∃ q, q = doAllP gone (cleanV gone V) js := ⟨_, rfl⟩
  rw [← hq]
  have HQ := Lib.hid hq
  clear hq
  have HMEM := Lib.hid (show (cleanV gone V).mem = V.mem from rfl)
  generalize cleanV gone V = Vc at *
  obtain ⟨ma, mc, ha, hc, ra, rl, rc, wa, wl, wc, rfl⟩ := hv.val
  obtain ⟨la, lc, _, _, rfl, -⟩ := hl.at
  obtain ⟨ja, jc, jb, jo, rfl, jl, jm, jcell⟩ := hjs.at
  have JC := Lib.hid jcell
  clear jcell hjs hl hv
  obtain ⟨nh, hnh⟩ : ∃ nh, nh = V.held.length := ⟨_, rfl⟩
  rw [← hnh] at CC ⊢
  clear hnh
  obtain ⟨ml, hml⟩ : ∃ ml, ml = V.mem.length := ⟨_, rfl⟩
  rw [← hml] at CC ⊢
  clear hml
  generalize ls.length = ll at *
  have hb0 : Below w.heap.size w ((w.alloc (.cells #[.slice ma ml mc, .slice ha nh hc, .slice ra rl rc, .slice wa wl wc] 33)).alloc (.cells #[.slice none 0 0, .slice none 0 0, .slice none 0 0, .slice none 0 0] 33)) := by (repeat' (first | (with_reducible exact Below.refl _ _) | (with_reducible assumption) | (with_reducible refine Below.alloc ?_ ?_ _) | (with_reducible refine Below.drew ?_) | (with_reducible refine below_drewN ?_ _) | (with_reducible refine Below.setCell ?_ ?_ _) | (with_reducible refine below_step ?_ (by with_reducible assumption) ?_) | go_size))
  have kC : ((w.alloc (.cells #[.slice ma ml mc, .slice ha nh hc, .slice ra rl rc, .slice wa wl wc] 33)).alloc (.cells #[.slice none 0 0, .slice none 0 0, .slice none 0 0, .slice none 0 0] 33)).heap[w.heap.size + 1]? = some (.cells #[.slice none 0 0, .slice none 0 0, .slice none 0 0, .slice none 0 0] 33 (0, 0)) := by
    show ((w.heap.push _).push _)[_]? = _; simp only [Array.getElem?_push, Array.size_push]; repeat (first | rw [if_pos trivial] | rw [if_pos (by omega)] | rw [if_neg (by omega)])
  have HKC := Lib.hid kC
  clear kC
  go_enter Try.func58, Try.ntmps58
  go_wp2_with fail
  refine (CC.out _ hb0).mono ?_
  rintro e w1 ⟨u1, rfl, hu1, hb1⟩
  have hbw1 := hb0.trans (hb1.mono hb0.size)
  have HC1 := Lib.hid (bb hb1 HKC.out)
  obtain ⟨ma1, mc1, ha1, hc1, ra1, rl1, rc1, wa1, wl1, wc1, rfl⟩ := hu1.val
  generalize Vc.mem.length = ml1 at *
  generalize Vc.held.length = nh1 at *
  have hnow : NowAt (w1.alloc (.cells #[.slice ma1 ml1 mc1, .slice ha1 nh1 hc1, .slice ra1 rl1 rc1, .slice wa1 wl1 wc1] 33)) w1.heap.size Vc := ⟨_, _, _, _, _, _, _, _, _, _, _, _, heap_alloc_new _ _, hu1.below (sbell _)⟩
  have HNOW := Lib.hid hnow
  have HCA := Lib.hid (bb (sbell (.cells #[.slice ma1 ml1 mc1, .slice ha1 nh1 hc1, .slice ra1 rl1 rc1, .slice wa1 wl1 wc1] 33)) HC1.out)
  have hbA := hbw1.alloc hbw1.size (.cells #[.slice ma1 ml1 mc1, .slice ha1 nh1 hc1, .slice ra1 rl1 rc1, .slice wa1 wl1 wc1] 33)
  have hz1 : w.heap.size + 2 ≤ w1.heap.size := by have := (Array.getElem?_eq_some_iff.1 HC1.out).1; omega
  clear hnow hu1 hb0 hb1 hbw1 HKC HC1 CC
  go_wp2
  generalize w1.alloc (.cells #[.slice ma1 ml1 mc1, .slice ha1 nh1 hc1, .slice ra1 rl1 rc1, .slice wa1 wl1 wc1] 33) = WA at *
  go_loopw [16, 10] (fun v16 _ wr => ∃ (i : Nat) (Vi : Vp), i ≤ js.length ∧ v16 = .int .i64 i ∧ Below w.heap.size w wr ∧ w1.heap.size < wr.heap.size ∧ NowAt wr w1.heap.size Vi ∧ VOk Vi ∧ Vi.mem = V.mem ∧ q = doAllP gone Vi (js.drop i) ∧ wr.heap[w.heap.size + 1]? = some (.cells #[.slice none 0 0, .slice none 0 0, .slice none 0 0, .slice none 0 0] 33 (0, 0))) (fun v16 _ _ => js.length - (intOf v16).toNat)
  case atStart => exact ⟨0, Vc, Nat.zero_le _, rfl, hbA, (by obtain ⟨_, _, _, _, _, _, _, _, _, _, _, _, h1, _⟩ := HNOW.out; exact (Array.getElem?_eq_some_iff.1 h1).1), HNOW.out, HOK.out, HMEM.out, by rw [HQ.out, List.drop_zero], HCA.out⟩
  case round =>
    obtain ⟨i, Vi, hi, rfl, hbel, hzr, hnow, hoki, hmem, hqi, hkC⟩ := hrel
    have HQI := Lib.hid hqi
    have HMI := Lib.hid hmem
    have HOKI := Lib.hid hoki
    have HKC := Lib.hid hkC
    have zr := hbel.size
    obtain ⟨na, nl, nc, qa, ql, qc, pa, pl, pc, oa, ol, oc, hn1, hn2⟩ := hnow
    have HN1 := Lib.hid hn1
    have HN2 := Lib.hid hn2
    have s0 := cell_of_row _ w1.heap.size 0 _ _ _ hn1
    have s1 := cell_of_row _ w1.heap.size 1 _ _ _ hn1
    have s2 := cell_of_row _ w1.heap.size 2 _ _ _ hn1
    have s3 := cell_of_row _ w1.heap.size 3 _ _ _ hn1
    clear hqi hmem hoki hkC hn1 hn2 HNOW HCA hbA HQ HOK HMEM
    by_cases hlt : i < js.length
    · obtain ⟨e1, e2, e3, fv, e4, e5, e6, hfv⟩ := JC.out i hlt
      subst e1
      have hd : js.drop i = js.getD i default :: js.drop (i + 1) := drop_at js default i hlt
      have hq2 := HQI.out
      rw [hd] at hq2
      have hstep : doAllP gone Vi (js.getD i default :: js.drop (i + 1)) = if possB Vi gone (js.getD i default) = true then doAllP gone (doP Vi (js.getD i default)) (js.drop (i + 1)) else none := rfl
      rw [hstep] at hq2
      have HQ2 := Lib.hid hq2
      have e2 := bc hbel e2
      have e3 := bc hbel e3
      have e4 := bc hbel e4
      have e5 := bc hbel e5
      have e6 := bc hbel e6
      have HFR := Lib.hid (hfv.below hbel)
      obtain ⟨fa, fc, _, _, rfl, -⟩ := hfv.at
      clear hd hstep hq2 hfv HQI
      generalize js.getD i default = jj at *
      have CP := Lib.hid (fun W (h : Below wr.heap.size wr W) => CPO.out W _ (.slice fa jj.from_.length fc) Vi jj (HN2.out.below h) (HFR.out.below h) HOKI.out (hbel.trans (h.mono zr)))
      rw [HMI.out, ← HG.out] at CP
      have CD := Lib.hid (fun W (h : Below wr.heap.size wr W) (hp : possB Vi gone jj = true) => do_ref _ (.slice fa jj.from_.length fc) Vi gone jj W (HN2.out.below h) ⟨_, _, _, rfl⟩ HOKI.out hp)
      unfold Jp.v at CP CD
      have HDOK := Lib.hid (fun hp => doP_ok (gone := gone) (j := jj) HOKI.out hp)
      have HDM := Lib.hid ((doP_same Vi jj).2.trans HMI.out)
      generalize hfl : jj.from_.length = fl at *
      generalize doP Vi jj = Vn at *
      generalize hps : possB Vi gone jj = ps at *
      obtain ⟨⟨st, ix⟩, fs, dst, size⟩ := jj
      simp only at e2 e3 e5 e6 CP CD
      have hA := sbell (w := wr) (.cells #[.string st, .int .i64 ix, .slice fa fl fc, .int .i64 dst, .int .i64 size] 107)
      have hkj := heap_alloc_new wr (.cells #[.string st, .int .i64 ix, .slice fa fl fc, .int .i64 dst, .int .i64 size] 107)
      clear hfl HFR
      go_wp2_with fail
      refine (CP.out _ hA).mono ?_
      rintro e w3 ⟨rfl, hb3⟩
      have hr3 := hA.trans (hb3.mono hA.size)
      have hbw3 := hbel.trans (hr3.mono zr)
      have hkj3 := bb hb3 hkj
      have HN3 := Lib.hid (bb hr3 HN1.out)
      have HC3 := Lib.hid (bb hr3 HKC.out)
      have j0 := cell_of_row _ wr.heap.size 0 _ _ _ hkj3
      have j1 := cell_of_row _ wr.heap.size 1 _ _ _ hkj3
      have j2 := cell_of_row _ wr.heap.size 2 _ _ _ hkj3
      have j3 := cell_of_row _ wr.heap.size 3 _ _ _ hkj3
      have j4 := cell_of_row _ wr.heap.size 4 _ _ _ hkj3
      have s0 := bc hr3 s0
      have s1 := bc hr3 s1
      have s2 := bc hr3 s2
      have s3 := bc hr3 s3
      have zr3 := hr3.size
      clear hkj hkj3 hb3 hA e2 e3 e4 e5 e6 CP
      cases ps with
      | false =>
        have hq : q = none := by rw [HQ2.out, if_neg (by simp)]
        have HQ := Lib.hid hq
        have r0 := cell_of_row _ (w.heap.size + 1) 0 _ _ _ HC3.out
        have r1 := cell_of_row _ (w.heap.size + 1) 1 _ _ _ HC3.out
        have r2 := cell_of_row _ (w.heap.size + 1) 2 _ _ _ HC3.out
        have r3 := cell_of_row _ (w.heap.size + 1) 3 _ _ _ HC3.out
        have f0 := frozen_of_row _ (w.heap.size + 1) 0 _ _ HC3.out
        have f1 := frozen_of_row _ (w.heap.size + 1) 1 _ _ HC3.out
        have f2 := frozen_of_row _ (w.heap.size + 1) 2 _ _ HC3.out
        have f3 := frozen_of_row _ (w.heap.size + 1) 3 _ _ HC3.out
        obtain ⟨x1, x2, x3⟩ := four_set HC3.out (.slice none 0 0) (.slice none 0 0) (.slice none 0 0) (.slice none 0 0)
        have HBF := Lib.hid (x3 w.heap.size w (by omega) hbw3)
        have HY1 := Lib.hid x1
        clear x1 x2 x3 hq j0 j1 j2 j3 j4 s0 s1 s2 s3
        go_wp2
        refine bodyPost_ret (results_row_tmp (P := Try.prog) Try.results58 _ _ (w.heap.size + 1) 33 _ (0, 0) _ (by rfl) HY1.out Try.underlying33 rfl (by kernel_rfl)) rfl ?_
        exact ⟨HBF.out, .inl ⟨HQ.out, rfl⟩⟩
      | true =>
        have hq2 : q = doAllP gone Vn (js.drop (i + 1)) := by rw [HQ2.out, if_pos rfl]
        have HQ3 := Lib.hid hq2
        have CD2 := Lib.hid (CD.out w3 hr3 rfl)
        clear hq2 HQ2 CD
        go_wp2_with fail
        refine CD2.out.mono ?_
        rintro e w4 ⟨u4, rfl, hu4, hb4⟩
        obtain ⟨ma4, mc4, ha4, hc4, ra4, rl4, rc4, wa4, wl4, wc4, rfl⟩ := hu4.val
        have HN4 := Lib.hid (bb hb4 HN3.out)
        have hbw4 := hbw3.trans (hb4.mono hbw3.size)
        have s0 := bc hb4 s0
        have s1 := bc hb4 s1
        have s2 := bc hb4 s2
        have s3 := bc hb4 s3
        have f0 := frozen_of_row _ w1.heap.size 0 _ _ HN4.out
        have f1 := frozen_of_row _ w1.heap.size 1 _ _ HN4.out
        have f2 := frozen_of_row _ w1.heap.size 2 _ _ HN4.out
        have f3 := frozen_of_row _ w1.heap.size 3 _ _ HN4.out
        obtain ⟨x1, x2, x3⟩ := four_set HN4.out (.slice ma4 Vn.mem.length mc4) (.slice ha4 Vn.held.length hc4) (.slice ra4 rl4 rc4) (.slice wa4 wl4 wc4)
        have HBF := Lib.hid (x3 w.heap.size w (by omega) hbw4)
        have HNF := Lib.hid (NowAt.store (V0 := Vi) ⟨_, _, _, _, _, _, _, _, _, _, _, _, HN4.out, (HN2.out.below hr3).below hb4⟩ hu4)
        have HCF := Lib.hid ((x2 (w.heap.size + 1) (by omega)).trans (bb hb4 HC3.out))
        have z34 := hb4.size
        have HZF := Lib.hid (show w1.heap.size < ((((w4.setCell ⟨w1.heap.size, 0, none⟩ (.slice ma4 Vn.mem.length mc4)).setCell ⟨w1.heap.size, 1, none⟩ (.slice ha4 Vn.held.length hc4)).setCell ⟨w1.heap.size, 2, none⟩ (.slice ra4 rl4 rc4)).setCell ⟨w1.heap.size, 3, none⟩ (.slice wa4 wl4 wc4)).heap.size by rw [setCell_size, setCell_size, setCell_size, setCell_size]; omega)
        have HOKN := Lib.hid (HDOK.out (by trivial))
        clear x1 x2 x3 j0 j1 j2 j3 j4 HDOK hu4 HN4 HN3 HC3 HN2 HN1 CPO
        go_wp2
        go_roundw
        case rel => exact ⟨i + 1, Vn, by omega, by go_num, HBF.out, HZF.out, HNF.out, HOKN.out, HDM.out, HQ3.out, HCF.out⟩
        case measure => simp [intOf]; omega
    · have hil : i = js.length := by omega
      have hq2 := HQI.out
      rw [hil, List.drop_length] at hq2
      have hq3 : q = some Vi := hq2
      have HQ3 := Lib.hid hq3
      have r0 := cell_of_row _ (w.heap.size + 1) 0 _ _ _ HKC.out
      have r1 := cell_of_row _ (w.heap.size + 1) 1 _ _ _ HKC.out
      have r2 := cell_of_row _ (w.heap.size + 1) 2 _ _ _ HKC.out
      have r3 := cell_of_row _ (w.heap.size + 1) 3 _ _ _ HKC.out
      have f0 := frozen_of_row _ (w.heap.size + 1) 0 _ _ HKC.out
      have f1 := frozen_of_row _ (w.heap.size + 1) 1 _ _ HKC.out
      have f2 := frozen_of_row _ (w.heap.size + 1) 2 _ _ HKC.out
      have f3 := frozen_of_row _ (w.heap.size + 1) 3 _ _ HKC.out
      obtain ⟨x1, x2, x3⟩ := four_set HKC.out (.slice na nl nc) (.slice qa ql qc) (.slice pa pl pc) (.slice oa ol oc)
      have HBF := Lib.hid (x3 w.heap.size w (by omega) hbel)
      have HVF := Lib.hid (HN2.out.off (four_slices HKC.out) x2)
      have HY1 := Lib.hid x1
      clear x1 x2 x3 hq2 hq3
      go_wp2
      refine bodyPost_ret (results_row_tmp (P := Try.prog) Try.results58 _ _ (w.heap.size + 1) 33 _ (0, 0) _ (by rfl) HY1.out Try.underlying33 rfl (by kernel_rfl)) rfl ?_
      exact ⟨HBF.out, .inr ⟨Vi, _, HQ3.out, rfl, HVF.out⟩⟩

end Go.Proofs.Ytijcicgbhcphjaa

/- The reference's Apply. -/
namespace Go.Proofs.Ytijcicgbhcphjaa
open Go.RowKit Go.Lib Go.ChangeMaps
set_option linter.unusedSimpArgs false

set_option maxRecDepth 100000 in
set_option maxHeartbeats 16000000 in
theorem Apply_ref (v lv jv : Value) (V : Vp) (ls : List Int) (js : List Jp) (w : World) (hv : VwAt w v V) (hl : ReadsI w lv ls) (hjs : ReadsJ w jv js) :
    Calls Try.prog 28 #[v, lv, jv] w fun e w' => Below w.heap.size w w' ∧ ((¬ Fits V ls ∧ e = .returned (.tuple #[zeroV, .int .i64 1])) ∨ (Fits V ls ∧ doAllP (goneB V.mem ls) V js = none ∧ e = .returned (.tuple #[zeroV, .int .i64 6])) ∨
      (Fits V ls ∧ ∃ V' u, doAllP (goneB V.mem ls) V js = some V' ∧ e = .returned (.tuple #[u, .int .i64 0]) ∧ VwAt w' u (cleanV (goneB V.mem ls) V'))) := by
  have CF := Lib.hid (fun W (h : Below w.heap.size w W) => fits_any _ _ V ls W (hv.below h) (hl.below h))
  have CA := Lib.hid (fun W (hok : VOk V) (h : Below w.heap.size w W) => apply_ref _ _ _ V ls js W (hv.below h) (hl.below h) (hjs.below h) hok)
  have HCD := Lib.hid (clean_doAll (gone := goneB V.mem ls) js V)
  obtain ⟨ma, mc, ha, hc, ra, rl, rc, wa, wl, wc, rfl⟩ := hv.val
  obtain ⟨la, lc, _, _, rfl, -⟩ := hl.at
  obtain ⟨ja, jc, _, _, rfl, -⟩ := hjs.at
  clear hjs hl hv
  obtain ⟨nh, hnh⟩ : ∃ nh, nh = V.held.length := ⟨_, rfl⟩
  rw [← hnh] at CF CA ⊢
  clear hnh
  obtain ⟨ml, hml⟩ : ∃ ml, ml = V.mem.length := ⟨_, rfl⟩
  rw [← hml] at CF CA ⊢
  clear hml
  obtain ⟨ll, hll⟩ : ∃ ll, ll = ls.length := ⟨_, rfl⟩
  rw [← hll] at CF CA ⊢
  clear hll
  obtain ⟨jl, hjl⟩ : ∃ jl, jl = js.length := ⟨_, rfl⟩
  rw [← hjl] at CA ⊢
  clear hjl
  have hb0 : Below w.heap.size w ((w.alloc (.cells #[.slice ma ml mc, .slice ha nh hc, .slice ra rl rc, .slice wa wl wc] 33)).alloc (.cells #[.slice none 0 0, .slice none 0 0, .slice none 0 0, .slice none 0 0] 33)) := by (repeat' (first | (with_reducible exact Below.refl _ _) | (with_reducible assumption) | (with_reducible refine Below.alloc ?_ ?_ _) | (with_reducible refine Below.drew ?_) | (with_reducible refine below_drewN ?_ _) | (with_reducible refine Below.setCell ?_ ?_ _) | (with_reducible refine below_step ?_ (by with_reducible assumption) ?_) | go_size))
  have kA : ((w.alloc (.cells #[.slice ma ml mc, .slice ha nh hc, .slice ra rl rc, .slice wa wl wc] 33)).alloc (.cells #[.slice none 0 0, .slice none 0 0, .slice none 0 0, .slice none 0 0] 33)).heap[w.heap.size]? = some (.cells #[.slice ma ml mc, .slice ha nh hc, .slice ra rl rc, .slice wa wl wc] 33 (0, 0)) := by
    show ((w.heap.push _).push _)[_]? = _; simp only [Array.getElem?_push, Array.size_push]; repeat (first | rw [if_pos trivial] | rw [if_pos (by omega)] | rw [if_neg (by omega)])
  have kC : ((w.alloc (.cells #[.slice ma ml mc, .slice ha nh hc, .slice ra rl rc, .slice wa wl wc] 33)).alloc (.cells #[.slice none 0 0, .slice none 0 0, .slice none 0 0, .slice none 0 0] 33)).heap[w.heap.size + 1]? = some (.cells #[.slice none 0 0, .slice none 0 0, .slice none 0 0, .slice none 0 0] 33 (0, 0)) := by
    show ((w.heap.push _).push _)[_]? = _; simp only [Array.getElem?_push, Array.size_push]; repeat (first | rw [if_pos trivial] | rw [if_pos (by omega)] | rw [if_neg (by omega)])
  have HKC := Lib.hid kC
  have HKA := Lib.hid kA
  clear kC kA
  go_enter Try.func28, Try.ntmps28
  go_wp2_with fail
  refine (CF.out _ hb0).mono ?_
  rintro e w1 ⟨rfl, hb1⟩
  have hbw1 := hb0.trans (hb1.mono hb0.size)
  have HC1 := Lib.hid (bb hb1 HKC.out)
  have HA1 := Lib.hid (bb hb1 HKA.out)
  clear hb0 hb1 HKC HKA CF
  by_cases hfit : Fits V ls
  rotate_left
  · rw [decide_eq_false hfit]
    have HNO := Lib.hid hfit
    clear hfit
    have r0 := cell_of_row _ (w.heap.size + 1) 0 _ _ _ HC1.out
    have r1 := cell_of_row _ (w.heap.size + 1) 1 _ _ _ HC1.out
    have r2 := cell_of_row _ (w.heap.size + 1) 2 _ _ _ HC1.out
    have r3 := cell_of_row _ (w.heap.size + 1) 3 _ _ _ HC1.out
    have f0 := frozen_of_row _ (w.heap.size + 1) 0 _ _ HC1.out
    have f1 := frozen_of_row _ (w.heap.size + 1) 1 _ _ HC1.out
    have f2 := frozen_of_row _ (w.heap.size + 1) 2 _ _ HC1.out
    have f3 := frozen_of_row _ (w.heap.size + 1) 3 _ _ HC1.out
    obtain ⟨x1, x2, x3⟩ := four_set HC1.out (.slice none 0 0) (.slice none 0 0) (.slice none 0 0) (.slice none 0 0)
    have HBF := Lib.hid (x3 w.heap.size w (by omega) hbw1)
    have HY1 := Lib.hid x1
    clear x1 x2 x3
    go_wp2
    refine bodyPost_ret (results_row_tmp (P := Try.prog) Try.results28 _ _ (w.heap.size + 1) 33 _ (0, 0) _ (by rfl) HY1.out Try.underlying33 rfl (by kernel_rfl)) rfl ?_
    exact ⟨HBF.out, .inl ⟨HNO.out, rfl⟩⟩
  rw [decide_eq_true hfit]
  have HFIT := Lib.hid hfit
  have CA1 := Lib.hid (CA.out w1 hfit.1 hbw1)
  have d0 := cell_of_row _ w.heap.size 0 _ _ _ HA1.out
  have d1 := cell_of_row _ w.heap.size 1 _ _ _ HA1.out
  have d2 := cell_of_row _ w.heap.size 2 _ _ _ HA1.out
  have d3 := cell_of_row _ w.heap.size 3 _ _ _ HA1.out
  clear hfit CA
  go_wp2_with fail
  refine CA1.out.mono ?_
  rintro e w2 ⟨hb2, hcase⟩
  have hbw2 := hbw1.trans (hb2.mono hbw1.size)
  have HC2 := Lib.hid (bb hb2 HC1.out)
  have z2 := (Array.getElem?_eq_some_iff.1 HC2.out).1
  clear CA1 d0 d1 d2 d3 HC1 HA1 hb2
  rcases hcase with ⟨hn, rfl⟩ | ⟨V', u, hs, rfl, hu⟩
  · have hn' : doAllP (goneB V.mem ls) V js = none := by
      rw [HCD.out] at hn
      cases hd : doAllP (goneB V.mem ls) V js with
      | none => rfl
      | some x => rw [hd] at hn; cases hn
    have HN := Lib.hid hn'
    have r0 := cell_of_row _ (w.heap.size + 1) 0 _ _ _ HC2.out
    have r1 := cell_of_row _ (w.heap.size + 1) 1 _ _ _ HC2.out
    have r2 := cell_of_row _ (w.heap.size + 1) 2 _ _ _ HC2.out
    have r3 := cell_of_row _ (w.heap.size + 1) 3 _ _ _ HC2.out
    have f0 := frozen_of_row _ (w.heap.size + 1) 0 _ _ HC2.out
    have f1 := frozen_of_row _ (w.heap.size + 1) 1 _ _ HC2.out
    have f2 := frozen_of_row _ (w.heap.size + 1) 2 _ _ HC2.out
    have f3 := frozen_of_row _ (w.heap.size + 1) 3 _ _ HC2.out
    obtain ⟨x1, x2, x3⟩ := four_set HC2.out (.slice none 0 0) (.slice none 0 0) (.slice none 0 0) (.slice none 0 0)
    have hb3 := x3 w.heap.size w (by omega) hbw2
    have HBF := Lib.hid (hb3.alloc hb3.size (.cells #[.slice none 0 0, .slice none 0 0, .slice none 0 0, .slice none 0 0] 33))
    have HY1 := Lib.hid (bb (sbell (.cells #[.slice none 0 0, .slice none 0 0, .slice none 0 0, .slice none 0 0] 33)) x1)
    clear x1 x2 x3 hn hn' hb3
    unfold zeroV
    go_wp2
    refine bodyPost_ret (results_row_tmp (P := Try.prog) Try.results28 _ _ (w.heap.size + 1) 33 _ (0, 0) _ (by rfl) HY1.out Try.underlying33 rfl (by kernel_rfl)) rfl ?_
    exact ⟨HBF.out, .inr (.inl ⟨HFIT.out, HN.out, rfl⟩)⟩
  · have hn' : ∃ V2, doAllP (goneB V.mem ls) V js = some V2 ∧ V' = cleanV (goneB V.mem ls) V2 := by
      rw [HCD.out] at hs
      cases hd : doAllP (goneB V.mem ls) V js with
      | none => rw [hd] at hs; cases hs
      | some x => rw [hd] at hs; cases hs; exact ⟨x, rfl, rfl⟩
    obtain ⟨V2, hV2, rfl⟩ := hn'
    have HN := Lib.hid hV2
    obtain ⟨ma4, mc4, ha4, hc4, ra4, rl4, rc4, wa4, wl4, wc4, rfl⟩ := hu.val
    have HU := Lib.hid hu
    generalize (cleanV (goneB V.mem ls) V2).mem.length = ml4 at *
    generalize (cleanV (goneB V.mem ls) V2).held.length = nh4 at *
    have r0 := cell_of_row _ (w.heap.size + 1) 0 _ _ _ HC2.out
    have r1 := cell_of_row _ (w.heap.size + 1) 1 _ _ _ HC2.out
    have r2 := cell_of_row _ (w.heap.size + 1) 2 _ _ _ HC2.out
    have r3 := cell_of_row _ (w.heap.size + 1) 3 _ _ _ HC2.out
    have f0 := frozen_of_row _ (w.heap.size + 1) 0 _ _ HC2.out
    have f1 := frozen_of_row _ (w.heap.size + 1) 1 _ _ HC2.out
    have f2 := frozen_of_row _ (w.heap.size + 1) 2 _ _ HC2.out
    have f3 := frozen_of_row _ (w.heap.size + 1) 3 _ _ HC2.out
    obtain ⟨x1, x2, x3⟩ := four_set HC2.out (.slice ma4 ml4 mc4) (.slice ha4 nh4 hc4) (.slice ra4 rl4 rc4) (.slice wa4 wl4 wc4)
    have hb3 := x3 w.heap.size w (by omega) hbw2
    have HBF := Lib.hid (hb3.alloc hb3.size (.cells #[.slice ma4 ml4 mc4, .slice ha4 nh4 hc4, .slice ra4 rl4 rc4, .slice wa4 wl4 wc4] 33))
    have HVF := Lib.hid ((HU.out.off (four_slices HC2.out) x2).below (sbell (.cells #[.slice ma4 ml4 mc4, .slice ha4 nh4 hc4, .slice ra4 rl4 rc4, .slice wa4 wl4 wc4] 33)))
    have HY1 := Lib.hid (bb (sbell (.cells #[.slice ma4 ml4 mc4, .slice ha4 nh4 hc4, .slice ra4 rl4 rc4, .slice wa4 wl4 wc4] 33)) x1)
    clear x1 x2 x3 hV2 hs hu hb3
    go_wp2
    refine bodyPost_ret (results_row_tmp (P := Try.prog) Try.results28 _ _ (w.heap.size + 1) 33 _ (0, 0) _ (by rfl) HY1.out Try.underlying33 rfl (by kernel_rfl)) rfl ?_
    exact ⟨HBF.out, .inr (.inr ⟨HFIT.out, V2, _, HN.out, rfl, HVF.out⟩)⟩

end Go.Proofs.Ytijcicgbhcphjaa
