/- Match. -/
import Derived.Test.YtcgilfnhbliadaaE1
import Derived.Deep.CutBlock
namespace Go.Proofs.Ytcgilfnhbliadaa
open Go.RowKit Go.Lib Go.ChangeMaps
set_option linter.unusedSimpArgs false

/-- Whose turn it is. -/
def MStep (xs ys : List Tk) (s : Int) (t : Tk) (xs' ys' : List Tk) : Prop :=
  (s = 0 ∧ xs = t :: xs' ∧ ys = ys' ∨ s = 1 ∧ ys = t :: ys' ∧ xs = xs') ∧ mrgP xs ys = (s, t) :: mrgP xs' ys'
theorem mstep_a {y : Tk} {s : List Tk} : MStep [] (y :: s) 1 y [] s := ⟨.inr ⟨rfl, rfl, rfl⟩, by rw [mrgP]⟩
theorem mstep_b {x : Tk} {r : List Tk} : MStep (x :: r) [] 0 x r [] := ⟨.inl ⟨rfl, rfl, rfl⟩, by rw [mrgP]⟩
theorem mstep_c {x y : Tk} {r s : List Tk} (h : cmpT y x < 0) : MStep (x :: r) (y :: s) 1 y (x :: r) s := ⟨.inr ⟨rfl, rfl, rfl⟩, by rw [mrgP, if_pos h]⟩
theorem mstep_d {x y : Tk} {r s : List Tk} (h : ¬ cmpT y x < 0) : MStep (x :: r) (y :: s) 0 x r (y :: s) := ⟨.inl ⟨rfl, rfl, rfl⟩, by rw [mrgP, if_neg h]⟩

def lenV : Value → Nat
  | .slice _ n _ => n
  | _ => 0
/-- How many tasks are left: read off the block of both lists. -/
def restLen (w : World) (R : Nat) : Nat := match w.heap[R]? with
  | some (.cells cs _ _) => lenV (cs.getD 0 undef) + lenV (cs.getD 1 undef)
  | _ => 0
theorem restLen_eq {w wO : World} {R : Nat} {va vb : Value} {xs ys : List Tk} (h : w.heap[R]? = some (.cells #[va, vb] 81)) (ha : ReadsT wO va xs) (hb : ReadsT wO vb ys) : restLen w R = xs.length + ys.length := by
  obtain ⟨_, _, rfl, _⟩ := ha
  obtain ⟨_, _, rfl, _⟩ := hb
  unfold restLen
  rw [h]
  rfl
/-- The head and the rest of a list of tasks. -/
theorem reads_tail {w : World} {a : Option Addr} {c : Nat} {x : Tk} {r : List Tk} (h : ReadsT w (.slice a (r.length + 1) c) (x :: r)) : ∃ b off, a = some ⟨b, off, none⟩ ∧ 1 ≤ c ∧ r.length + 1 ≤ c ∧
    (w.cell? ⟨b, off, none⟩ = some (.string x.st) ∧ w.cell? ⟨b, off + 1, none⟩ = some (.int .i64 x.ix) ∧ w.cell? ⟨b, off + 2, none⟩ = some (.int .i64 x.size) ∧ w.cell? ⟨b, off + 3, none⟩ = some (.int .i64 x.spare) ∧ w.cell? ⟨b, off + 4, none⟩ = some (.int .i64 x.num) ∧ w.cell? ⟨b, off + 5, none⟩ = some (.int .i64 x.den) ∧ w.cell? ⟨b, off + 6, none⟩ = some (.int .i64 x.day)) ∧
    (c = 1 → ReadsT w (.slice (some ⟨b, off, none⟩) 0 0) r) ∧ (c ≠ 1 → ReadsT w (.slice (some ⟨b, off + 7, none⟩) r.length (c - 1)) r) := by
  obtain ⟨ao, c', e, hl, hm, hc⟩ := h
  cases e
  obtain ⟨b, off, rfl, hh⟩ := hc (by simp)
  have h0 := fun j hj => hh 0 j (by simp) hj
  simp only [Nat.zero_mul, Nat.add_zero] at h0
  simp only [List.length_cons] at hl hm
  refine ⟨b, off, rfl, by omega, hl, ⟨h0 0 (by omega), h0 1 (by omega), h0 2 (by omega), h0 3 (by omega), h0 4 (by omega), h0 5 (by omega), h0 6 (by omega)⟩, fun hc1 => ?_, fun hc1 => ?_⟩
  · have hr : r = [] := List.length_eq_zero_iff.1 (by omega)
    subst hr
    exact ⟨_, 0, rfl, Nat.le_refl _, by simp, fun h => by simp at h⟩
  · refine ⟨_, c - 1, rfl, by omega, by omega, fun _ => ⟨b, off + 7, rfl, fun i j hi hj => ?_⟩⟩
    have := hh (i + 1) j (by simp; omega) hj
    rw [show off + (i + 1) * 7 + j = off + 7 + i * 7 + j by omega] at this
    rw [this]
    exact congrArg some (tkCell_congr (by simp [List.getD]) j)
theorem pair_rows {w : World} {R : Nat} {va vb : Value} (h : w.heap[R]? = some (.cells #[va, vb] 81)) : w.cell? ⟨R, 0, none⟩ = some va ∧ w.cell? ⟨R, 1, none⟩ = some vb ∧ w.frozen? ⟨R, 0, none⟩ = false ∧ w.frozen? ⟨R, 1, none⟩ = false :=
  ⟨cell_of_row w _ 0 _ _ _ h, cell_of_row w _ 1 _ _ _ h, frozen_of_row w _ 0 _ _ h, frozen_of_row w _ 1 _ _ h⟩

/-- What is taken of both sides. -/
def matP (a b : List Tk) (bud : Int) : List (Int × Tk) := takP (mrgP (orderP a) (orderP b)) bud

set_option maxRecDepth 100000 in
set_option maxHeartbeats 16000000 in
theorem Match_any (va vb : Value) (al bl : List Tk) (bud : Int) (w : World) (ha : ReadsT w va al) (hb : ReadsT w vb bl) (hna : al.length ≤ 1000) (hnb : bl.length ≤ 1000) (hbud : bud ≤ 9223372036854775807) :
    Calls Try.prog 25 #[va, vb, .int .i64 bud] w fun e w' => Below w.heap.size w w' ∧ ((¬ (AllOk al ∧ AllOk bl ∧ 0 ≤ bud) ∧ e = .returned (.tuple #[.slice none 0 0, .slice none 0 0, .int .i64 1])) ∨
      ((AllOk al ∧ AllOk bl ∧ 0 ≤ bud) ∧ ∃ u v, e = .returned (.tuple #[u, v, .int .i64 0]) ∧ ReadsI w' u ((matP al bl bud).map (·.1)) ∧ ReadsT w' v ((matP al bl bud).map (·.2)))) := by
  have CVA := Lib.hid (fun W (h : Below w.heap.size w W) => allValid_any va al W (ha.below h))
  have CVB := Lib.hid (fun W (h : Below w.heap.size w W) => allValid_any vb bl W (hb.below h))
  have HA := Lib.hid ha
  have HB := Lib.hid hb
  obtain ⟨ja, jc, _, _, rfl, -⟩ := ha.at
  obtain ⟨ka, kc, _, _, rfl, -⟩ := hb.at
  clear ha hb
  have HBUD := Lib.hid hbud
  clear hbud
  by_cases hoa : AllOk al
  rotate_left
  · rw [decide_eq_false hoa] at CVA
    have HO := Lib.hid hoa
    clear hoa
    go_enter Try.func25, Try.ntmps25
    go_wp2_with fail
    refine (CVA.out _ (Below.refl _ _)).mono ?_
    rintro e w1 ⟨rfl, hb1⟩
    go_wp2
    refine bodyPost_ret (results_tmp3 Try.results25 _ _ _) rfl ?_
    exact ⟨hb1, .inl ⟨fun h => HO.out h.1, rfl⟩⟩
  rw [decide_eq_true hoa] at CVA
  have HOA := Lib.hid hoa
  clear hoa
  by_cases hob : AllOk bl
  rotate_left
  · rw [decide_eq_false hob] at CVB
    have HO := Lib.hid hob
    clear hob
    go_enter Try.func25, Try.ntmps25
    go_wp2_with fail
    refine (CVA.out _ (Below.refl _ _)).mono ?_
    rintro e w1 ⟨rfl, hb1⟩
    go_wp2_with fail
    refine (CVB.out _ hb1).mono ?_
    rintro e w2 ⟨rfl, hb2⟩
    go_wp2
    refine bodyPost_ret (results_tmp3 Try.results25 _ _ _) rfl ?_
    exact ⟨hb1.trans (hb2.mono hb1.size), .inl ⟨fun h => HO.out h.2.1, rfl⟩⟩
  rw [decide_eq_true hob] at CVB
  have HOB := Lib.hid hob
  clear hob
  by_cases hb0 : bud < 0
  · have q0 : decide (bud < 0) = true := decide_eq_true hb0
    have H0 := Lib.hid hb0
    clear hb0
    go_enter Try.func25, Try.ntmps25
    go_wp2_with fail
    refine (CVA.out _ (Below.refl _ _)).mono ?_
    rintro e w1 ⟨rfl, hb1⟩
    go_wp2_with fail
    refine (CVB.out _ hb1).mono ?_
    rintro e w2 ⟨rfl, hb2⟩
    go_wp2
    refine bodyPost_ret (results_tmp3 Try.results25 _ _ _) rfl ?_
    exact ⟨hb1.trans (hb2.mono hb1.size), .inl ⟨fun h => by have := H0.out; have := h.2.2; omega, rfl⟩⟩
  have q0 : decide (bud < 0) = false := decide_eq_false hb0
  have h0b : 0 ≤ bud := by omega
  clear hb0
  go_enter Try.func25, Try.ntmps25
  go_wp2_with fail
  refine (CVA.out _ (Below.refl _ _)).mono ?_
  rintro e w1 ⟨rfl, hb1⟩
  go_wp2_with fail
  refine (CVB.out _ hb1).mono ?_
  rintro e w2 ⟨rfl, hb2⟩
  have hbw2 := hb1.trans (hb2.mono hb1.size)
  have CO1 := Lib.hid (order_any _ al w2 (HA.out.below hbw2) HOA.out (by omega))
  clear CVA CVB hb1 hb2
  go_wp2_with fail
  refine CO1.out.mono ?_
  rintro e w3 ⟨u3, rfl, hr3, hb3⟩
  have hbw3 := hbw2.trans (hb3.mono hbw2.size)
  have CO2 := Lib.hid (order_any _ bl w3 (HB.out.below hbw3) HOB.out (by omega))
  have HR3 := Lib.hid hr3
  obtain ⟨a3, c3, _, _, rfl, -⟩ := hr3.at
  clear CO1 hb3 hr3
  go_wp2_with fail
  refine CO2.out.mono ?_
  rintro e wO ⟨u4, rfl, hr4, hb4⟩
  have hbwO := hbw3.trans (hb4.mono hbw3.size)
  have HR3 := Lib.hid (HR3.out.below hb4)
  have HR4 := Lib.hid hr4
  obtain ⟨a4, c4, _, _, rfl, -⟩ := hr4.at
  have HLA := Lib.hid (orderP_len HOA.out)
  have HLB := Lib.hid (orderP_len HOB.out)
  have HKA := Lib.hid (orderP_ok HOA.out)
  have HKB := Lib.hid (orderP_ok HOB.out)
  obtain ⟨D, hD⟩ : ∃ D, D = matP al bl bud := ⟨_, rfl⟩
  have HD := Lib.hid (show takP (mrgP (orderP al) (orderP bl)) bud = D from hD.symm)
  have HDD := Lib.hid hD
  clear hD CO2 hr4 hb4 hbw3 hbw2
  generalize orderP al = xs0 at *
  generalize orderP bl = ys0 at *
  obtain ⟨R, hR⟩ : ∃ R, R = wO.heap.size := ⟨_, rfl⟩
  have HRR := Lib.hid hR
  have hra := heap_alloc_new wO (.cells #[.slice a3 xs0.length c3, .slice a4 ys0.length c4] 81)
  have hbO : Below R wO (wO.alloc (.cells #[.slice a3 xs0.length c3, .slice a4 ys0.length c4] 81)) := (Below.refl _ _).alloc (by omega) _
  have HWO := Lib.hid hbwO
  rw [← hR] at hra
  have HRA := Lib.hid hra
  have HBO := Lib.hid hbO
  have hzO : wO.heap.size = R := hR.symm
  have HZO := Lib.hid hzO
  clear hR hra hbO hbwO hzO
  go_wp2
  rw [← HRR.out]
  go_loopw [2, 10, 11, 12, 13] (fun v2 v10 v11 _ _ wr => ∃ (va vb : Value) (xs ys : List Tk) (left : Int) (done : List (Int × Tk)), v2 = .int .i64 left ∧ (0 ≤ left ∧ left ≤ bud) ∧ D = done ++ takP (mrgP xs ys) left ∧ done.length + (xs.length + ys.length) ≤ 2000 ∧ AllOk xs ∧ AllOk ys ∧ ReadsT wO va xs ∧ ReadsT wO vb ys ∧ Below R wO wr ∧ R < wr.heap.size ∧ wr.heap[R]? = some (.cells #[va, vb] 81) ∧ OwnI wr (R + 1) v10 (done.map (·.1)) ∧ OwnT 27 wr (R + 1) v11 (done.map (·.2))) (fun _ _ _ _ _ wr => restLen wr R)
  case atStart => exact ⟨_, _, xs0, ys0, bud, [], rfl, ⟨h0b, Int.le_refl _⟩, by rw [HD.out]; rfl, by have := HLA.out; have := HLB.out; simp; omega, HKA.out, HKB.out, HR3.out, HR4.out, HBO.out, by rw [World.size_alloc, HZO.out]; omega, HRA.out, OwnI.nil _ _, OwnT.nil _ _ _⟩
  case round =>
    obtain ⟨va, vb, xs, ys, left, done, rfl, ⟨h0l, hlb⟩, hDD, hlen, hkx, hky, hrx, hry, hbel, hRlt, hrow, hoi, hot⟩ := hrel
    have HDR := Lib.hid hDD
    have HKX := Lib.hid hkx
    have HKY := Lib.hid hky
    have HRX := Lib.hid hrx
    have HRY := Lib.hid hry
    have HB := Lib.hid hbel
    have HRW := Lib.hid hrow
    have HOI := Lib.hid hoi
    have HOT := Lib.hid hot
    have HML := Lib.hid (restLen_eq hrow hrx hry)
    have HLEN := Lib.hid hlen
    have HRLT := Lib.hid hRlt
    obtain ⟨r0, r1, -, -⟩ := pair_rows hrow
    obtain ⟨xa, xc, rfl, -, hxm, -⟩ := hrx
    obtain ⟨ya, yc, rfl, -, hym, -⟩ := hry
    clear hDD hkx hky hbel hrow hoi hot hRlt
    have hw : IntKind.i64.wrap ((xs.length : Int) + ys.length) = (xs.length : Int) + ys.length := by rw [IntKind.wrap_i64]; omega
    by_cases hpos : 0 < xs.length + ys.length
    rotate_left
    · have hx0 : xs = [] := List.length_eq_zero_iff.1 (by omega)
      have hy0 : ys = [] := List.length_eq_zero_iff.1 (by omega)
      subst hx0 hy0
      have HF := Lib.hid (show D = done by have := HDR.out; rw [mrgP, takP, List.append_nil] at this; exact this)
      obtain ⟨a9, l9, c9, rfl⟩ := Own.slice HOI.out
      obtain ⟨a8, l8, c8, rfl⟩ := Own.slice HOT.out
      clear hpos HML HDR
      go_wp2
      refine bodyPost_ret (results_tmp3 Try.results25 _ _ _) rfl ?_
      refine ⟨HWO.out.trans (HB.out.mono (by rw [HRR.out]; exact HWO.out.size)), .inr ⟨⟨HOA.out, HOB.out, h0b⟩, .slice a9 l9 c9, .slice a8 l8 c8, rfl, ?_, ?_⟩⟩
      · rw [← HDD.out, HF.out]; exact HOI.out.reads (by rw [List.length_map]; omega)
      · rw [← HDD.out, HF.out]; exact HOT.out.reads (by rw [List.length_map]; omega)
    go_upto_region 8 with fail
    go_cut [60] (fun v60 wx => ∃ (sd : Int) (t : Tk) (xs1 ys1 : List Tk), v60 = .bool (decide (sd = 1)) ∧ MStep xs ys sd t xs1 ys1 ∧ Below wr.heap.size wr wx)
    case first =>
      rcases xs with _ | ⟨x, xr⟩
      · rcases ys with _ | ⟨y, yr⟩
        · simp at hpos
        have HBD := Lib.hid ((Below.refl wr.heap.size wr).drew)
        have z0 : (([] : List Tk).length : Int) = 0 := rfl
        refine wp_region_held_drew (S := fun w' => w'.cell? ⟨R, 0, none⟩ = some (.slice xa 0 xc)) (by kernel_rfl) r0 (fun hHeld => ?_)
        generalize wr.drew = Wd at *
        refine wpAnyH_take (i := 0) (v := ?_) rfl (by kernel_rfl) (by kernel_rfl) (by kernel_rfl) (fun _ _ _ h => h) (Or.inl ⟨by rfl, ?_⟩) (by assumption) ?_
        rotate_left; · (intro w hSw; (try dsimp only at hSw); go_simp; try with_reducible rfl)
        try simp only [Act.put, List.getElem_toArray, List.getElem_cons_zero, List.getElem_cons_succ, List.setIfInBounds_toArray, List.set_cons_zero, List.set_cons_succ]
        refine wpAnyH_take (i := 1) (v := ?_) rfl (by kernel_rfl) (by kernel_rfl) (by kernel_rfl) (fun _ _ _ h => h) (Or.inl ⟨by rfl, ?_⟩) (by assumption) ?_
        rotate_left; · (intro w hSw; (try dsimp only at hSw); go_simp; try with_reducible rfl)
        try simp only [Act.put, List.getElem_toArray, List.getElem_cons_zero, List.getElem_cons_succ, List.setIfInBounds_toArray, List.set_cons_zero, List.set_cons_succ]
        refine wpAnyH_take (i := 2) (v := ?_) rfl (by kernel_rfl) (by kernel_rfl) (by kernel_rfl) (fun _ _ _ h => h) (Or.inl ⟨by rfl, ?_⟩) (by assumption) ?_
        rotate_left; · (intro w hSw; (try dsimp only at hSw); go_simp; try with_reducible rfl)
        try simp only [Act.put, List.getElem_toArray, List.getElem_cons_zero, List.getElem_cons_succ, List.setIfInBounds_toArray, List.set_cons_zero, List.set_cons_succ]
        refine wpAnyH_take (i := 3) (v := ?_) rfl (by kernel_rfl) (by kernel_rfl) (by kernel_rfl) (fun _ _ _ h => h) (Or.inl ⟨by rfl, ?_⟩) (by assumption) ?_
        rotate_left; · (intro w hSw; (try dsimp only at hSw); go_simp; try with_reducible rfl)
        try simp only [Act.put, List.getElem_toArray, List.getElem_cons_zero, List.getElem_cons_succ, List.setIfInBounds_toArray, List.set_cons_zero, List.set_cons_succ]
        refine wpAnyH_take (i := 4) (v := ?_) rfl (by kernel_rfl) (by kernel_rfl) (by kernel_rfl) (fun _ _ _ h => h) (Or.inl ⟨by rfl, ?_⟩) (by assumption) ?_
        rotate_left; · (intro w hSw; (try dsimp only at hSw); go_simp; try with_reducible rfl)
        try simp only [Act.put, List.getElem_toArray, List.getElem_cons_zero, List.getElem_cons_succ, List.setIfInBounds_toArray, List.set_cons_zero, List.set_cons_succ]
        refine wpAnyH_take (i := 5) (v := undef) rfl (by kernel_rfl) (by kernel_rfl) (by kernel_rfl) (fun _ _ _ h => h) (Or.inr ⟨by rfl, rfl⟩) (by assumption) ?_
        try simp only [Act.put, List.getElem_toArray, List.getElem_cons_zero, List.getElem_cons_succ, List.setIfInBounds_toArray, List.set_cons_zero, List.set_cons_succ]
        refine wpAnyH_take (i := 6) (v := undef) rfl (by kernel_rfl) (by kernel_rfl) (by kernel_rfl) (fun _ _ _ h => h) (Or.inr ⟨by rfl, rfl⟩) (by assumption) ?_
        try simp only [Act.put, List.getElem_toArray, List.getElem_cons_zero, List.getElem_cons_succ, List.setIfInBounds_toArray, List.set_cons_zero, List.set_cons_succ]
        refine wpAnyH_take (i := 7) (v := undef) rfl (by kernel_rfl) (by kernel_rfl) (by kernel_rfl) (fun _ _ _ h => h) (Or.inr ⟨by rfl, rfl⟩) (by assumption) ?_
        try simp only [Act.put, List.getElem_toArray, List.getElem_cons_zero, List.getElem_cons_succ, List.setIfInBounds_toArray, List.set_cons_zero, List.set_cons_succ]
        refine wpAnyH_take (i := 8) (v := undef) rfl (by kernel_rfl) (by kernel_rfl) (by kernel_rfl) (fun _ _ _ h => h) (Or.inr ⟨by rfl, rfl⟩) (by assumption) ?_
        try simp only [Act.put, List.getElem_toArray, List.getElem_cons_zero, List.getElem_cons_succ, List.setIfInBounds_toArray, List.set_cons_zero, List.set_cons_succ]
        refine wpAnyH_take (i := 9) (v := undef) rfl (by kernel_rfl) (by kernel_rfl) (by kernel_rfl) (fun _ _ _ h => h) (Or.inr ⟨by rfl, rfl⟩) (by assumption) ?_
        try simp only [Act.put, List.getElem_toArray, List.getElem_cons_zero, List.getElem_cons_succ, List.setIfInBounds_toArray, List.set_cons_zero, List.set_cons_succ]
        refine wpAnyH_take (i := 10) (v := undef) rfl (by kernel_rfl) (by kernel_rfl) (by kernel_rfl) (fun _ _ _ h => h) (Or.inr ⟨by rfl, rfl⟩) (by assumption) ?_
        try simp only [Act.put, List.getElem_toArray, List.getElem_cons_zero, List.getElem_cons_succ, List.setIfInBounds_toArray, List.set_cons_zero, List.set_cons_succ]
        refine wpAnyH_take (i := 11) (v := undef) rfl (by kernel_rfl) (by kernel_rfl) (by kernel_rfl) (fun _ _ _ h => h) (Or.inr ⟨by rfl, rfl⟩) (by assumption) ?_
        try simp only [Act.put, List.getElem_toArray, List.getElem_cons_zero, List.getElem_cons_succ, List.setIfInBounds_toArray, List.set_cons_zero, List.set_cons_succ]
        refine wpAnyH_take (i := 12) (v := undef) rfl (by kernel_rfl) (by kernel_rfl) (by kernel_rfl) (fun _ _ _ h => h) (Or.inr ⟨by rfl, rfl⟩) (by assumption) ?_
        try simp only [Act.put, List.getElem_toArray, List.getElem_cons_zero, List.getElem_cons_succ, List.setIfInBounds_toArray, List.set_cons_zero, List.set_cons_succ]
        refine wpAnyH_take (i := 13) (v := undef) rfl (by kernel_rfl) (by kernel_rfl) (by kernel_rfl) (fun _ _ _ h => h) (Or.inr ⟨by rfl, rfl⟩) (by assumption) ?_
        try simp only [Act.put, List.getElem_toArray, List.getElem_cons_zero, List.getElem_cons_succ, List.setIfInBounds_toArray, List.set_cons_zero, List.set_cons_succ]
        refine wpAnyH_take (i := 14) (v := undef) rfl (by kernel_rfl) (by kernel_rfl) (by kernel_rfl) (fun _ _ _ h => h) (Or.inr ⟨by rfl, rfl⟩) (by assumption) ?_
        try simp only [Act.put, List.getElem_toArray, List.getElem_cons_zero, List.getElem_cons_succ, List.setIfInBounds_toArray, List.set_cons_zero, List.set_cons_succ]
        refine wpAnyH_take (i := 15) (v := undef) rfl (by kernel_rfl) (by kernel_rfl) (by kernel_rfl) (fun _ _ _ h => h) (Or.inr ⟨by rfl, rfl⟩) (by assumption) ?_
        try simp only [Act.put, List.getElem_toArray, List.getElem_cons_zero, List.getElem_cons_succ, List.setIfInBounds_toArray, List.set_cons_zero, List.set_cons_succ]
        refine wpAnyH_take (i := 16) (v := undef) rfl (by kernel_rfl) (by kernel_rfl) (by kernel_rfl) (fun _ _ _ h => h) (Or.inr ⟨by rfl, rfl⟩) (by assumption) ?_
        try simp only [Act.put, List.getElem_toArray, List.getElem_cons_zero, List.getElem_cons_succ, List.setIfInBounds_toArray, List.set_cons_zero, List.set_cons_succ]
        refine wpAnyH_take (i := 17) (v := undef) rfl (by kernel_rfl) (by kernel_rfl) (by kernel_rfl) (fun _ _ _ h => h) (Or.inr ⟨by rfl, rfl⟩) (by assumption) ?_
        try simp only [Act.put, List.getElem_toArray, List.getElem_cons_zero, List.getElem_cons_succ, List.setIfInBounds_toArray, List.set_cons_zero, List.set_cons_succ]
        refine wpAnyH_take (i := 18) (v := undef) rfl (by kernel_rfl) (by kernel_rfl) (by kernel_rfl) (fun _ _ _ h => h) (Or.inr ⟨by rfl, rfl⟩) (by assumption) ?_
        try simp only [Act.put, List.getElem_toArray, List.getElem_cons_zero, List.getElem_cons_succ, List.setIfInBounds_toArray, List.set_cons_zero, List.set_cons_succ]
        refine wpAnyH_take (i := 19) (v := undef) rfl (by kernel_rfl) (by kernel_rfl) (by kernel_rfl) (fun _ _ _ h => h) (Or.inr ⟨by rfl, rfl⟩) (by assumption) ?_
        try simp only [Act.put, List.getElem_toArray, List.getElem_cons_zero, List.getElem_cons_succ, List.setIfInBounds_toArray, List.set_cons_zero, List.set_cons_succ]
        refine wpAnyH_take (i := 20) (v := undef) rfl (by kernel_rfl) (by kernel_rfl) (by kernel_rfl) (fun _ _ _ h => h) (Or.inr ⟨by rfl, rfl⟩) (by assumption) ?_
        try simp only [Act.put, List.getElem_toArray, List.getElem_cons_zero, List.getElem_cons_succ, List.setIfInBounds_toArray, List.set_cons_zero, List.set_cons_succ]
        refine wpAnyH_take (i := 21) (v := ?_) rfl (by kernel_rfl) (by kernel_rfl) (by kernel_rfl) (fun _ _ _ h => h) (Or.inl ⟨by rfl, ?_⟩) (by assumption) ?_
        rotate_left; · (intro w hSw; (try dsimp only at hSw); go_simp; try with_reducible rfl)
        try simp only [Act.put, List.getElem_toArray, List.getElem_cons_zero, List.getElem_cons_succ, List.setIfInBounds_toArray, List.set_cons_zero, List.set_cons_succ]
        refine wpAnyH_done (by kernel_rfl) ?_ _
        clear hHeld
        go_wp2
        go_meet
        case rel => exact ⟨1, y, [], yr, by first | (simp; done) | (simp; omega), mstep_a, HBD.out⟩
      obtain ⟨xb, xo, rfl, hxc, hxl, ⟨p0, p1, p2, p3, p4, p5, p6⟩, -, -⟩ := reads_tail HRX.out
      rcases ys with _ | ⟨y, yr⟩
      · have HBD := Lib.hid ((Below.refl wr.heap.size wr).drew)
        clear p0 p1 p2 p3 p4 p5 p6
        have HSB0 : ∀ w' : World, Below (wr).drew.heap.size (wr).drew w' → (w'.cell? ⟨R, 0, none⟩ = some (.slice (some ⟨xb, xo, none⟩) (xr.length + 1) xc) ∧ w'.cell? ⟨R, 1, none⟩ = some (.slice ya 0 yc)) := fun w' hb => ⟨bc hb r0, bc hb r1⟩
        refine wp_region_held_drew (S := fun w' => w'.cell? ⟨R, 0, none⟩ = some (.slice (some ⟨xb, xo, none⟩) (xr.length + 1) xc) ∧ w'.cell? ⟨R, 1, none⟩ = some (.slice ya 0 yc)) (by kernel_rfl) (HSB0 _ (Below.refl _ _)) (fun hHeld => ?_)
        have HSB := Lib.hid HSB0
        clear HSB0
        generalize (wr).drew = Wd at *
        refine wpAnyH_take (i := 0) (v := ?_) rfl (by kernel_rfl) (by kernel_rfl) (by kernel_rfl) (fun _ _ _ h => h) (Or.inl ⟨by rfl, ?_⟩) (by assumption) ?_
        rotate_left; · (intro w hSw; (try dsimp only at hSw); go_simp; try with_reducible rfl)
        try simp only [Act.put, List.getElem_toArray, List.getElem_cons_zero, List.getElem_cons_succ, List.setIfInBounds_toArray, List.set_cons_zero, List.set_cons_succ]
        refine wpAnyH_take (i := 1) (v := ?_) rfl (by kernel_rfl) (by kernel_rfl) (by kernel_rfl) (fun _ _ _ h => h) (Or.inl ⟨by rfl, ?_⟩) (by assumption) ?_
        rotate_left; · (intro w hSw; (try dsimp only at hSw); go_simp; try with_reducible rfl)
        try simp only [Act.put, List.getElem_toArray, List.getElem_cons_zero, List.getElem_cons_succ, List.setIfInBounds_toArray, List.set_cons_zero, List.set_cons_succ]
        refine wpAnyH_take (i := 2) (v := ?_) rfl (by kernel_rfl) (by kernel_rfl) (by kernel_rfl) (fun _ _ _ h => h) (Or.inl ⟨by rfl, ?_⟩) (by assumption) ?_
        rotate_left; · (intro w hSw; (try dsimp only at hSw); go_simp; try with_reducible rfl)
        try simp only [Act.put, List.getElem_toArray, List.getElem_cons_zero, List.getElem_cons_succ, List.setIfInBounds_toArray, List.set_cons_zero, List.set_cons_succ]
        refine wpAnyH_take (i := 3) (v := ?_) rfl (by kernel_rfl) (by kernel_rfl) (by kernel_rfl) (fun _ _ _ h => h) (Or.inl ⟨by rfl, ?_⟩) (by assumption) ?_
        rotate_left; · (intro w hSw; (try dsimp only at hSw); go_simp; try with_reducible rfl)
        try simp only [Act.put, List.getElem_toArray, List.getElem_cons_zero, List.getElem_cons_succ, List.setIfInBounds_toArray, List.set_cons_zero, List.set_cons_succ]
        refine wpAnyH_take (i := 4) (v := ?_) rfl (by kernel_rfl) (by kernel_rfl) (by kernel_rfl) (fun _ _ _ h => h) (Or.inl ⟨by rfl, ?_⟩) (by assumption) ?_
        rotate_left; · (intro w hSw; (try dsimp only at hSw); go_simp; try with_reducible rfl)
        try simp only [Act.put, List.getElem_toArray, List.getElem_cons_zero, List.getElem_cons_succ, List.setIfInBounds_toArray, List.set_cons_zero, List.set_cons_succ]
        refine wpAnyH_take (i := 5) (v := ?_) rfl (by kernel_rfl) (by kernel_rfl) (by kernel_rfl) (fun _ _ _ h => h) (Or.inl ⟨by rfl, ?_⟩) (by assumption) ?_
        rotate_left; · (intro w hSw; (try dsimp only at hSw); go_simp; try with_reducible rfl)
        try simp only [Act.put, List.getElem_toArray, List.getElem_cons_zero, List.getElem_cons_succ, List.setIfInBounds_toArray, List.set_cons_zero, List.set_cons_succ]
        refine wpAnyH_take (i := 6) (v := ?_) rfl (by kernel_rfl) (by kernel_rfl) (by kernel_rfl) (fun _ _ _ h => h) (Or.inl ⟨by rfl, ?_⟩) (by assumption) ?_
        rotate_left; · (intro w hSw; (try dsimp only at hSw); go_simp; try with_reducible rfl)
        try simp only [Act.put, List.getElem_toArray, List.getElem_cons_zero, List.getElem_cons_succ, List.setIfInBounds_toArray, List.set_cons_zero, List.set_cons_succ]
        refine wpAnyH_take (i := 7) (v := ?_) rfl (by kernel_rfl) (by kernel_rfl) (by kernel_rfl) (fun _ _ _ h => h) (Or.inl ⟨by rfl, ?_⟩) (by assumption) ?_
        rotate_left; · (intro w hSw; (try dsimp only at hSw); go_simp; try with_reducible rfl)
        try simp only [Act.put, List.getElem_toArray, List.getElem_cons_zero, List.getElem_cons_succ, List.setIfInBounds_toArray, List.set_cons_zero, List.set_cons_succ]
        refine wpAnyH_take (i := 8) (v := ?_) rfl (by kernel_rfl) (by kernel_rfl) (by kernel_rfl) (fun _ _ _ h => h) (Or.inl ⟨by rfl, ?_⟩) (by assumption) ?_
        rotate_left; · (intro w hSw; (try dsimp only at hSw); go_simp; try with_reducible rfl)
        try simp only [Act.put, List.getElem_toArray, List.getElem_cons_zero, List.getElem_cons_succ, List.setIfInBounds_toArray, List.set_cons_zero, List.set_cons_succ]
        refine wpAnyH_take (i := 9) (v := ?_) rfl (by kernel_rfl) (by kernel_rfl) (by kernel_rfl) (fun _ _ _ h => h) (Or.inl ⟨by rfl, ?_⟩) (by assumption) ?_
        rotate_left; · (intro w hSw; (try dsimp only at hSw); go_simp; try with_reducible rfl)
        try simp only [Act.put, List.getElem_toArray, List.getElem_cons_zero, List.getElem_cons_succ, List.setIfInBounds_toArray, List.set_cons_zero, List.set_cons_succ]
        refine wpAnyH_take (i := 10) (v := undef) rfl (by kernel_rfl) (by kernel_rfl) (by kernel_rfl) (fun _ _ _ h => h) (Or.inr ⟨by rfl, rfl⟩) (by assumption) ?_
        try simp only [Act.put, List.getElem_toArray, List.getElem_cons_zero, List.getElem_cons_succ, List.setIfInBounds_toArray, List.set_cons_zero, List.set_cons_succ]
        refine wpAnyH_take (i := 11) (v := undef) rfl (by kernel_rfl) (by kernel_rfl) (by kernel_rfl) (fun _ _ _ h => h) (Or.inr ⟨by rfl, rfl⟩) (by assumption) ?_
        try simp only [Act.put, List.getElem_toArray, List.getElem_cons_zero, List.getElem_cons_succ, List.setIfInBounds_toArray, List.set_cons_zero, List.set_cons_succ]
        refine wpAnyH_take (i := 12) (v := undef) rfl (by kernel_rfl) (by kernel_rfl) (by kernel_rfl) (fun _ _ _ h => h) (Or.inr ⟨by rfl, rfl⟩) (by assumption) ?_
        try simp only [Act.put, List.getElem_toArray, List.getElem_cons_zero, List.getElem_cons_succ, List.setIfInBounds_toArray, List.set_cons_zero, List.set_cons_succ]
        refine wpAnyH_take (i := 13) (v := undef) rfl (by kernel_rfl) (by kernel_rfl) (by kernel_rfl) (fun _ _ _ h => h) (Or.inr ⟨by rfl, rfl⟩) (by assumption) ?_
        try simp only [Act.put, List.getElem_toArray, List.getElem_cons_zero, List.getElem_cons_succ, List.setIfInBounds_toArray, List.set_cons_zero, List.set_cons_succ]
        refine wpAnyH_take (i := 14) (v := undef) rfl (by kernel_rfl) (by kernel_rfl) (by kernel_rfl) (fun _ _ _ h => h) (Or.inr ⟨by rfl, rfl⟩) (by assumption) ?_
        try simp only [Act.put, List.getElem_toArray, List.getElem_cons_zero, List.getElem_cons_succ, List.setIfInBounds_toArray, List.set_cons_zero, List.set_cons_succ]
        refine wpAnyH_take (i := 15) (v := undef) rfl (by kernel_rfl) (by kernel_rfl) (by kernel_rfl) (fun _ _ _ h => h) (Or.inr ⟨by rfl, rfl⟩) (by assumption) ?_
        try simp only [Act.put, List.getElem_toArray, List.getElem_cons_zero, List.getElem_cons_succ, List.setIfInBounds_toArray, List.set_cons_zero, List.set_cons_succ]
        refine wpAnyH_take (i := 16) (v := undef) rfl (by kernel_rfl) (by kernel_rfl) (by kernel_rfl) (fun _ _ _ h => h) (Or.inr ⟨by rfl, rfl⟩) (by assumption) ?_
        try simp only [Act.put, List.getElem_toArray, List.getElem_cons_zero, List.getElem_cons_succ, List.setIfInBounds_toArray, List.set_cons_zero, List.set_cons_succ]
        refine wpAnyH_take (i := 17) (v := undef) rfl (by kernel_rfl) (by kernel_rfl) (by kernel_rfl) (fun _ _ _ h => h) (Or.inr ⟨by rfl, rfl⟩) (by assumption) ?_
        try simp only [Act.put, List.getElem_toArray, List.getElem_cons_zero, List.getElem_cons_succ, List.setIfInBounds_toArray, List.set_cons_zero, List.set_cons_succ]
        refine wpAnyH_take (i := 18) (v := undef) rfl (by kernel_rfl) (by kernel_rfl) (by kernel_rfl) (fun _ _ _ h => h) (Or.inr ⟨by rfl, rfl⟩) (by assumption) ?_
        try simp only [Act.put, List.getElem_toArray, List.getElem_cons_zero, List.getElem_cons_succ, List.setIfInBounds_toArray, List.set_cons_zero, List.set_cons_succ]
        refine wpAnyH_take (i := 19) (v := undef) rfl (by kernel_rfl) (by kernel_rfl) (by kernel_rfl) (fun _ _ _ h => h) (Or.inr ⟨by rfl, rfl⟩) (by assumption) ?_
        try simp only [Act.put, List.getElem_toArray, List.getElem_cons_zero, List.getElem_cons_succ, List.setIfInBounds_toArray, List.set_cons_zero, List.set_cons_succ]
        refine wpAnyH_take (i := 20) (v := ?_) rfl (by kernel_rfl) (by kernel_rfl) (by kernel_rfl) (fun _ _ _ h => h) (Or.inl ⟨by rfl, ?_⟩) (by assumption) ?_
        rotate_left; · (intro w hSw; (try dsimp only at hSw); go_simp; try with_reducible rfl)
        try simp only [Act.put, List.getElem_toArray, List.getElem_cons_zero, List.getElem_cons_succ, List.setIfInBounds_toArray, List.set_cons_zero, List.set_cons_succ]
        refine wpAnyH_take (i := 21) (v := ?_) rfl (by kernel_rfl) (by kernel_rfl) (by kernel_rfl) (fun _ _ _ h => h) (Or.inl ⟨by rfl, ?_⟩) (by assumption) ?_
        rotate_left; · (intro w hSw; (try dsimp only at hSw); go_simp; try with_reducible rfl)
        try simp only [Act.put, List.getElem_toArray, List.getElem_cons_zero, List.getElem_cons_succ, List.setIfInBounds_toArray, List.set_cons_zero, List.set_cons_succ]
        refine wpAnyH_done (by kernel_rfl) ?_ _
        clear hHeld HSB
        go_wp2
        go_meet
        case rel => exact ⟨0, x, xr, [], by first | (simp; done) | (simp; omega), mstep_b, HBD.out⟩
      obtain ⟨yb, yo, rfl, hyc, hyl, ⟨s0, s1, s2, s3, s4, s5, s6⟩, -, -⟩ := reads_tail HRY.out
      have HBD := Lib.hid ((Below.refl wr.heap.size wr).drew)
      have CC := Lib.hid (fun W => compare_any y x W (HKY.out y (List.mem_cons_self ..)) (HKX.out x (List.mem_cons_self ..)))
      obtain ⟨c, hc⟩ : ∃ c, c = cmpT y x := ⟨_, rfl⟩
      rw [← hc] at CC
      have HC := Lib.hid hc
      obtain ⟨xx, hxx⟩ : ∃ t, t = x := ⟨_, rfl⟩
      obtain ⟨yy, hyy⟩ : ∃ t, t = y := ⟨_, rfl⟩
      rw [← hxx] at p0 p1 p2 p3 p4 p5 p6 CC
      rw [← hyy] at s0 s1 s2 s3 s4 s5 s6 CC
      clear hxx hyy hc
      obtain ⟨xst, xix, xsz, xsp, xnum, xden, xday⟩ := xx
      obtain ⟨yst, yix, ysz, ysp, ynum, yden, yday⟩ := yy
      unfold Tk.v at CC
      simp only at p0 p1 p2 p3 p4 p5 p6 s0 s1 s2 s3 s4 s5 s6 CC
      have p0 := bc (HB.out.mono (Nat.le_of_eq HZO.out)) p0
      have p1 := bc (HB.out.mono (Nat.le_of_eq HZO.out)) p1
      have p2 := bc (HB.out.mono (Nat.le_of_eq HZO.out)) p2
      have p3 := bc (HB.out.mono (Nat.le_of_eq HZO.out)) p3
      have p4 := bc (HB.out.mono (Nat.le_of_eq HZO.out)) p4
      have p5 := bc (HB.out.mono (Nat.le_of_eq HZO.out)) p5
      have p6 := bc (HB.out.mono (Nat.le_of_eq HZO.out)) p6
      have s0 := bc (HB.out.mono (Nat.le_of_eq HZO.out)) s0
      have s1 := bc (HB.out.mono (Nat.le_of_eq HZO.out)) s1
      have s2 := bc (HB.out.mono (Nat.le_of_eq HZO.out)) s2
      have s3 := bc (HB.out.mono (Nat.le_of_eq HZO.out)) s3
      have s4 := bc (HB.out.mono (Nat.le_of_eq HZO.out)) s4
      have s5 := bc (HB.out.mono (Nat.le_of_eq HZO.out)) s5
      have s6 := bc (HB.out.mono (Nat.le_of_eq HZO.out)) s6
      have HSB0 : ∀ w' : World, Below (wr).drew.heap.size (wr).drew w' → (w'.cell? ⟨R, 0, none⟩ = some (.slice (some ⟨xb, xo, none⟩) (xr.length + 1) xc) ∧ w'.cell? ⟨R, 1, none⟩ = some (.slice (some ⟨yb, yo, none⟩) (yr.length + 1) yc) ∧ w'.cell? ⟨xb, xo, none⟩ = some (.string xst) ∧ w'.cell? ⟨xb, xo + 1, none⟩ = some (.int .i64 xix) ∧ w'.cell? ⟨xb, xo + 2, none⟩ = some (.int .i64 xsz) ∧ w'.cell? ⟨xb, xo + 3, none⟩ = some (.int .i64 xsp) ∧ w'.cell? ⟨xb, xo + 4, none⟩ = some (.int .i64 xnum) ∧ w'.cell? ⟨xb, xo + 5, none⟩ = some (.int .i64 xden) ∧ w'.cell? ⟨xb, xo + 6, none⟩ = some (.int .i64 xday) ∧ w'.cell? ⟨yb, yo, none⟩ = some (.string yst) ∧ w'.cell? ⟨yb, yo + 1, none⟩ = some (.int .i64 yix) ∧ w'.cell? ⟨yb, yo + 2, none⟩ = some (.int .i64 ysz) ∧ w'.cell? ⟨yb, yo + 3, none⟩ = some (.int .i64 ysp) ∧ w'.cell? ⟨yb, yo + 4, none⟩ = some (.int .i64 ynum) ∧ w'.cell? ⟨yb, yo + 5, none⟩ = some (.int .i64 yden) ∧ w'.cell? ⟨yb, yo + 6, none⟩ = some (.int .i64 yday)) := fun w' hb => ⟨bc hb r0, bc hb r1, bc hb p0, bc hb p1, bc hb p2, bc hb p3, bc hb p4, bc hb p5, bc hb p6, bc hb s0, bc hb s1, bc hb s2, bc hb s3, bc hb s4, bc hb s5, bc hb s6⟩
      refine wp_region_held_drew (S := fun w' => w'.cell? ⟨R, 0, none⟩ = some (.slice (some ⟨xb, xo, none⟩) (xr.length + 1) xc) ∧ w'.cell? ⟨R, 1, none⟩ = some (.slice (some ⟨yb, yo, none⟩) (yr.length + 1) yc) ∧ w'.cell? ⟨xb, xo, none⟩ = some (.string xst) ∧ w'.cell? ⟨xb, xo + 1, none⟩ = some (.int .i64 xix) ∧ w'.cell? ⟨xb, xo + 2, none⟩ = some (.int .i64 xsz) ∧ w'.cell? ⟨xb, xo + 3, none⟩ = some (.int .i64 xsp) ∧ w'.cell? ⟨xb, xo + 4, none⟩ = some (.int .i64 xnum) ∧ w'.cell? ⟨xb, xo + 5, none⟩ = some (.int .i64 xden) ∧ w'.cell? ⟨xb, xo + 6, none⟩ = some (.int .i64 xday) ∧ w'.cell? ⟨yb, yo, none⟩ = some (.string yst) ∧ w'.cell? ⟨yb, yo + 1, none⟩ = some (.int .i64 yix) ∧ w'.cell? ⟨yb, yo + 2, none⟩ = some (.int .i64 ysz) ∧ w'.cell? ⟨yb, yo + 3, none⟩ = some (.int .i64 ysp) ∧ w'.cell? ⟨yb, yo + 4, none⟩ = some (.int .i64 ynum) ∧ w'.cell? ⟨yb, yo + 5, none⟩ = some (.int .i64 yden) ∧ w'.cell? ⟨yb, yo + 6, none⟩ = some (.int .i64 yday)) (by kernel_rfl) (HSB0 _ (Below.refl _ _)) (fun hHeld => ?_)
      have HSB := Lib.hid HSB0
      clear HSB0
      generalize (wr).drew = Wd at *
      clear p0 p1 p2 p3 p4 p5 p6 s0 s1 s2 s3 s4 s5 s6
      refine wpAnyH_take (i := 0) (v := ?_) rfl (by kernel_rfl) (by kernel_rfl) (by kernel_rfl) (fun _ _ _ h => h) (Or.inl ⟨by rfl, ?_⟩) (by assumption) ?_
      rotate_left; · (intro w hSw; (try dsimp only at hSw); go_simp; try with_reducible rfl)
      try simp only [Act.put, List.getElem_toArray, List.getElem_cons_zero, List.getElem_cons_succ, List.setIfInBounds_toArray, List.set_cons_zero, List.set_cons_succ]
      refine wpAnyH_take (i := 1) (v := ?_) rfl (by kernel_rfl) (by kernel_rfl) (by kernel_rfl) (fun _ _ _ h => h) (Or.inl ⟨by rfl, ?_⟩) (by assumption) ?_
      rotate_left; · (intro w hSw; (try dsimp only at hSw); go_simp; try with_reducible rfl)
      try simp only [Act.put, List.getElem_toArray, List.getElem_cons_zero, List.getElem_cons_succ, List.setIfInBounds_toArray, List.set_cons_zero, List.set_cons_succ]
      refine wpAnyH_take (i := 2) (v := ?_) rfl (by kernel_rfl) (by kernel_rfl) (by kernel_rfl) (fun _ _ _ h => h) (Or.inl ⟨by rfl, ?_⟩) (by assumption) ?_
      rotate_left; · (intro w hSw; (try dsimp only at hSw); go_simp; try with_reducible rfl)
      try simp only [Act.put, List.getElem_toArray, List.getElem_cons_zero, List.getElem_cons_succ, List.setIfInBounds_toArray, List.set_cons_zero, List.set_cons_succ]
      refine wpAnyH_take (i := 3) (v := ?_) rfl (by kernel_rfl) (by kernel_rfl) (by kernel_rfl) (fun _ _ _ h => h) (Or.inl ⟨by rfl, ?_⟩) (by assumption) ?_
      rotate_left; · (intro w hSw; (try dsimp only at hSw); go_simp; try with_reducible rfl)
      try simp only [Act.put, List.getElem_toArray, List.getElem_cons_zero, List.getElem_cons_succ, List.setIfInBounds_toArray, List.set_cons_zero, List.set_cons_succ]
      refine wpAnyH_take (i := 4) (v := ?_) rfl (by kernel_rfl) (by kernel_rfl) (by kernel_rfl) (fun _ _ _ h => h) (Or.inl ⟨by rfl, ?_⟩) (by assumption) ?_
      rotate_left; · (intro w hSw; (try dsimp only at hSw); go_simp; try with_reducible rfl)
      try simp only [Act.put, List.getElem_toArray, List.getElem_cons_zero, List.getElem_cons_succ, List.setIfInBounds_toArray, List.set_cons_zero, List.set_cons_succ]
      refine wpAnyH_take (i := 5) (v := ?_) rfl (by kernel_rfl) (by kernel_rfl) (by kernel_rfl) (fun _ _ _ h => h) (Or.inl ⟨by rfl, ?_⟩) (by assumption) ?_
      rotate_left; · (intro w hSw; (try dsimp only at hSw); go_simp; try with_reducible rfl)
      try simp only [Act.put, List.getElem_toArray, List.getElem_cons_zero, List.getElem_cons_succ, List.setIfInBounds_toArray, List.set_cons_zero, List.set_cons_succ]
      refine wpAnyH_take (i := 6) (v := ?_) rfl (by kernel_rfl) (by kernel_rfl) (by kernel_rfl) (fun _ _ _ h => h) (Or.inl ⟨by rfl, ?_⟩) (by assumption) ?_
      rotate_left; · (intro w hSw; (try dsimp only at hSw); go_simp; try with_reducible rfl)
      try simp only [Act.put, List.getElem_toArray, List.getElem_cons_zero, List.getElem_cons_succ, List.setIfInBounds_toArray, List.set_cons_zero, List.set_cons_succ]
      refine wpAnyH_take (i := 7) (v := ?_) rfl (by kernel_rfl) (by kernel_rfl) (by kernel_rfl) (fun _ _ _ h => h) (Or.inl ⟨by rfl, ?_⟩) (by assumption) ?_
      rotate_left; · (intro w hSw; (try dsimp only at hSw); go_simp; try with_reducible rfl)
      try simp only [Act.put, List.getElem_toArray, List.getElem_cons_zero, List.getElem_cons_succ, List.setIfInBounds_toArray, List.set_cons_zero, List.set_cons_succ]
      refine wpAnyH_take (i := 8) (v := ?_) rfl (by kernel_rfl) (by kernel_rfl) (by kernel_rfl) (fun _ _ _ h => h) (Or.inl ⟨by rfl, ?_⟩) (by assumption) ?_
      rotate_left; · (intro w hSw; (try dsimp only at hSw); go_simp; try with_reducible rfl)
      try simp only [Act.put, List.getElem_toArray, List.getElem_cons_zero, List.getElem_cons_succ, List.setIfInBounds_toArray, List.set_cons_zero, List.set_cons_succ]
      refine wpAnyH_take (i := 9) (v := ?_) rfl (by kernel_rfl) (by kernel_rfl) (by kernel_rfl) (fun _ _ _ h => h) (Or.inl ⟨by rfl, ?_⟩) (by assumption) ?_
      rotate_left; · (intro w hSw; (try dsimp only at hSw); go_simp; try with_reducible rfl)
      try simp only [Act.put, List.getElem_toArray, List.getElem_cons_zero, List.getElem_cons_succ, List.setIfInBounds_toArray, List.set_cons_zero, List.set_cons_succ]
      refine wpAnyH_take (i := 10) (v := ?_) rfl (by kernel_rfl) (by kernel_rfl) (by kernel_rfl) (fun _ _ _ h => h) (Or.inl ⟨by rfl, ?_⟩) (by assumption) ?_
      rotate_left; · (intro w hSw; (try dsimp only at hSw); go_simp; try with_reducible rfl)
      try simp only [Act.put, List.getElem_toArray, List.getElem_cons_zero, List.getElem_cons_succ, List.setIfInBounds_toArray, List.set_cons_zero, List.set_cons_succ]
      refine wpAnyH_take (i := 11) (v := ?_) rfl (by kernel_rfl) (by kernel_rfl) (by kernel_rfl) (fun _ _ _ h => h) (Or.inl ⟨by rfl, ?_⟩) (by assumption) ?_
      rotate_left; · (intro w hSw; (try dsimp only at hSw); go_simp; try with_reducible rfl)
      try simp only [Act.put, List.getElem_toArray, List.getElem_cons_zero, List.getElem_cons_succ, List.setIfInBounds_toArray, List.set_cons_zero, List.set_cons_succ]
      refine wpAnyH_take (i := 12) (v := ?_) rfl (by kernel_rfl) (by kernel_rfl) (by kernel_rfl) (fun _ _ _ h => h) (Or.inl ⟨by rfl, ?_⟩) (by assumption) ?_
      rotate_left; · (intro w hSw; (try dsimp only at hSw); go_simp; try with_reducible rfl)
      try simp only [Act.put, List.getElem_toArray, List.getElem_cons_zero, List.getElem_cons_succ, List.setIfInBounds_toArray, List.set_cons_zero, List.set_cons_succ]
      refine wpAnyH_take (i := 13) (v := ?_) rfl (by kernel_rfl) (by kernel_rfl) (by kernel_rfl) (fun _ _ _ h => h) (Or.inl ⟨by rfl, ?_⟩) (by assumption) ?_
      rotate_left; · (intro w hSw; (try dsimp only at hSw); go_simp; try with_reducible rfl)
      try simp only [Act.put, List.getElem_toArray, List.getElem_cons_zero, List.getElem_cons_succ, List.setIfInBounds_toArray, List.set_cons_zero, List.set_cons_succ]
      refine wpAnyH_take (i := 14) (v := ?_) rfl (by kernel_rfl) (by kernel_rfl) (by kernel_rfl) (fun _ _ _ h => h) (Or.inl ⟨by rfl, ?_⟩) (by assumption) ?_
      rotate_left; · (intro w hSw; (try dsimp only at hSw); go_simp; try with_reducible rfl)
      try simp only [Act.put, List.getElem_toArray, List.getElem_cons_zero, List.getElem_cons_succ, List.setIfInBounds_toArray, List.set_cons_zero, List.set_cons_succ]
      refine wpAnyH_take (i := 15) (v := ?_) rfl (by kernel_rfl) (by kernel_rfl) (by kernel_rfl) (fun _ _ _ h => h) (Or.inl ⟨by rfl, ?_⟩) (by assumption) ?_
      rotate_left; · (intro w hSw; (try dsimp only at hSw); go_simp; try with_reducible rfl)
      try simp only [Act.put, List.getElem_toArray, List.getElem_cons_zero, List.getElem_cons_succ, List.setIfInBounds_toArray, List.set_cons_zero, List.set_cons_succ]
      refine wpAnyH_take (i := 16) (v := ?_) rfl (by kernel_rfl) (by kernel_rfl) (by kernel_rfl) (fun _ _ _ h => h) (Or.inl ⟨by rfl, ?_⟩) (by assumption) ?_
      rotate_left; · (intro w hSw; (try dsimp only at hSw); go_simp; try with_reducible rfl)
      try simp only [Act.put, List.getElem_toArray, List.getElem_cons_zero, List.getElem_cons_succ, List.setIfInBounds_toArray, List.set_cons_zero, List.set_cons_succ]
      refine wpAnyH_take (i := 17) (v := ?_) rfl (by kernel_rfl) (by kernel_rfl) (by kernel_rfl) (fun _ _ _ h => h) (Or.inl ⟨by rfl, ?_⟩) (by assumption) ?_
      rotate_left; · (intro w hSw; (try dsimp only at hSw); go_simp; try with_reducible rfl)
      try simp only [Act.put, List.getElem_toArray, List.getElem_cons_zero, List.getElem_cons_succ, List.setIfInBounds_toArray, List.set_cons_zero, List.set_cons_succ]
      refine wpAnyH_ready (rs := [18]) (by kernel_rfl) (by simp) ?_
      refine AllReadyH.cons rfl (fun K hK => ?_) AllReadyH.nil
      go_simp
      refine (CC.out _).mono ?_; rintro e w5 ⟨rfl, hb5⟩
      go_wp2_with fail
      refine hK.out _ _ (HSB.out _ hb5) (fun hNew => ?_)
      clear hK K hHeld
      have hHeld := hNew
      clear hNew
      try simp only [Act.put, List.getElem_toArray, List.getElem_cons_zero, List.getElem_cons_succ, List.setIfInBounds_toArray, List.set_cons_zero, List.set_cons_succ]
      refine wpAnyH_take (i := 19) (v := ?_) rfl (by kernel_rfl) (by kernel_rfl) (by kernel_rfl) (fun _ _ _ h => h) (Or.inl ⟨by rfl, ?_⟩) (by assumption) ?_
      rotate_left; · (intro w hSw; (try dsimp only at hSw); go_simp; try with_reducible rfl)
      try simp only [Act.put, List.getElem_toArray, List.getElem_cons_zero, List.getElem_cons_succ, List.setIfInBounds_toArray, List.set_cons_zero, List.set_cons_succ]
      refine wpAnyH_take (i := 20) (v := ?_) rfl (by kernel_rfl) (by kernel_rfl) (by kernel_rfl) (fun _ _ _ h => h) (Or.inl ⟨by rfl, ?_⟩) (by assumption) ?_
      rotate_left; · (intro w hSw; (try dsimp only at hSw); go_simp; try with_reducible rfl)
      try simp only [Act.put, List.getElem_toArray, List.getElem_cons_zero, List.getElem_cons_succ, List.setIfInBounds_toArray, List.set_cons_zero, List.set_cons_succ]
      refine wpAnyH_take (i := 21) (v := ?_) rfl (by kernel_rfl) (by kernel_rfl) (by kernel_rfl) (fun _ _ _ h => h) (Or.inl ⟨by rfl, ?_⟩) (by assumption) ?_
      rotate_left; · (intro w hSw; (try dsimp only at hSw); go_simp; try with_reducible rfl)
      try simp only [Act.put, List.getElem_toArray, List.getElem_cons_zero, List.getElem_cons_succ, List.setIfInBounds_toArray, List.set_cons_zero, List.set_cons_succ]
      refine wpAnyH_done (by kernel_rfl) ?_ _
      clear hHeld HSB
      have hbx := HBD.out.trans (hb5.mono HBD.out.size)
      by_cases hc0 : c < 0
      · have q1 : decide (c < 0) = true := decide_eq_true hc0
        have HC0 := Lib.hid (show cmpT _ _ < 0 by rw [← HC.out]; exact hc0)
        clear CC hb5
        rw [q1]
        go_wp2
        go_meet
        case rel => exact ⟨1, _, _, _, by first | (simp; done) | (simp; omega), mstep_c HC0.out, hbx⟩
      · have q1 : decide (c < 0) = false := decide_eq_false hc0
        have HC0 := Lib.hid (show ¬ cmpT _ _ < 0 by rw [← HC.out]; exact hc0)
        clear CC hb5
        rw [q1]
        go_wp2
        go_meet
        case rel => exact ⟨0, _, _, _, by first | (simp; done) | (simp; omega), mstep_d (by have := HC0.out; omega), hbx⟩
    case rest =>
    obtain ⟨sd, t, xs1, ys1, rfl, hst, hbc⟩ := hcut
    obtain ⟨hsd, hm⟩ := hst
    have HM := Lib.hid hm
    clear hm r0 r1 hw
    rcases hsd with ⟨rfl, rfl, rfl⟩ | ⟨rfl, rfl, rfl⟩
    · have e0 : decide ((0 : Int) = 1) = false := by decide
      rw [e0]
      clear e0
      obtain ⟨tb, tq, rfl, htc, htl, ⟨p0, p1, p2, p3, p4, p5, p6⟩, hc1, hc2⟩ := reads_tail HRX.out
      have p0 := bc hbc (bc (HB.out.mono (Nat.le_of_eq HZO.out)) p0)
      have p1 := bc hbc (bc (HB.out.mono (Nat.le_of_eq HZO.out)) p1)
      have p2 := bc hbc (bc (HB.out.mono (Nat.le_of_eq HZO.out)) p2)
      have p3 := bc hbc (bc (HB.out.mono (Nat.le_of_eq HZO.out)) p3)
      have p4 := bc hbc (bc (HB.out.mono (Nat.le_of_eq HZO.out)) p4)
      have p5 := bc hbc (bc (HB.out.mono (Nat.le_of_eq HZO.out)) p5)
      have p6 := bc hbc (bc (HB.out.mono (Nat.le_of_eq HZO.out)) p6)
      have HTO := Lib.hid (HKX.out t (List.mem_cons_self ..))
      have HTS := Lib.hid HTO.out.2.2.1
      have HKT := Lib.hid (show AllOk xs1 from fun u hu => HKX.out u (List.mem_cons_of_mem _ hu))
      have hrc := bb hbc HRW.out
      obtain ⟨r0, r1, f0, f1⟩ := pair_rows hrc
      have hoic := HOI.out.below hbc
      have hotc := HOT.out.below hbc
      have hRc : R < wc.heap.size := Nat.lt_of_lt_of_le HRLT.out hbc.size
      have hbOc := HB.out.trans (hbc.mono (Nat.le_of_lt HRLT.out))
      clear f1 hbc HTO
      obtain ⟨tst, tix, tsz, tsp, tnum, tden, tday⟩ := t
      simp only at p0 p1 p2 p3 p4 p5 p6 HTS
      by_cases hc0 : xc = 1
      · have hrd1 := hc1 hc0
        have hT0 : xs1 = [] := List.length_eq_zero_iff.1 (by omega)
        clear hc1 hc2
        subst hc0
        have hrow5 := setCell_block (i := 0) hrc (.slice (some ⟨tb, tq, none⟩) 0 0)
        have hb5 := below_setCell hbOc (Nat.le_refl R) (i := 0) (.slice (some ⟨tb, tq, none⟩) 0 0)
        have hoi5 := Own.same hoic (w' := wc.setCell ⟨R, 0, none⟩ (.slice (some ⟨tb, tq, none⟩) 0 0)) (fun g hg => setCell_other _ _ (by have := (Own.lt hoic g hg).1; omega))
        have hot5 := Own.same hotc (w' := wc.setCell ⟨R, 0, none⟩ (.slice (some ⟨tb, tq, none⟩) 0 0)) (fun g hg => setCell_other _ _ (by have := (Own.lt hotc g hg).1; omega))
        have hz5 : (wc.setCell ⟨R, 0, none⟩ (.slice (some ⟨tb, tq, none⟩) 0 0)).heap.size = wc.heap.size := setCell_size _ _ _
        have hrow5 : (wc.setCell ⟨R, 0, none⟩ (.slice (some ⟨tb, tq, none⟩) 0 0)).heap[R]? = some (.cells #[.slice (some ⟨tb, tq, none⟩) 0 0, .slice ya ys.length yc] 81) := hrow5
        obtain ⟨w5, hw5⟩ : ∃ w5, w5 = wc.setCell ⟨R, 0, none⟩ (.slice (some ⟨tb, tq, none⟩) 0 0) := ⟨_, rfl⟩
        rw [← hw5] at hrow5 hb5 hoi5 hot5 hz5
        have HW5 := Lib.hid hw5
        have hrow6 := bb (sb0 (w := w5) (.cells #[.string tst, .int .i64 tix, .int .i64 tsz, .int .i64 tsp, .int .i64 tnum, .int .i64 tden, .int .i64 tday] 27)) hrow5
        have hn6 := heap_alloc_new w5 (.cells #[.string tst, .int .i64 tix, .int .i64 tsz, .int .i64 tsp, .int .i64 tnum, .int .i64 tden, .int .i64 tday] 27)
        have hb6 := hb5.alloc (by omega) (.cells #[.string tst, .int .i64 tix, .int .i64 tsz, .int .i64 tsp, .int .i64 tnum, .int .i64 tden, .int .i64 tday] 27)
        have hoi6 := Own.alloc hoi5 (.cells #[.string tst, .int .i64 tix, .int .i64 tsz, .int .i64 tsp, .int .i64 tnum, .int .i64 tden, .int .i64 tday] 27)
        have hot6 := Own.alloc hot5 (.cells #[.string tst, .int .i64 tix, .int .i64 tsz, .int .i64 tsp, .int .i64 tnum, .int .i64 tden, .int .i64 tday] 27)
        have hne6 : u11.ownBlock ≠ some w5.heap.size := fun e => by have := (Own.lt hot5 _ e).2; omega
        have hz6 : (w5.alloc (.cells #[.string tst, .int .i64 tix, .int .i64 tsz, .int .i64 tsp, .int .i64 tnum, .int .i64 tden, .int .i64 tday] 27)).heap.size = w5.heap.size + 1 := World.size_alloc _ _
        obtain ⟨N, hN⟩ : ∃ N, N = w5.heap.size := ⟨_, rfl⟩
        have hNc : wc.heap.size = N := by rw [hN, hz5]
        rw [← hN] at hn6 hne6 hz6
        obtain ⟨w6, hw6⟩ : ∃ w6, w6 = w5.alloc (.cells #[.string tst, .int .i64 tix, .int .i64 tsz, .int .i64 tsp, .int .i64 tnum, .int .i64 tden, .int .i64 tday] 27) := ⟨_, rfl⟩
        rw [← hw6] at hrow6 hn6 hb6 hoi6 hot6 hz6
        have HW6 := Lib.hid hw6
        have HNC := Lib.hid hNc
        have HB6 := Lib.hid hb6
        have HOI6 := Lib.hid hoi6
        have HOT6 := Lib.hid hot6
        have HRW6 := Lib.hid hrow6
        have HN6 := Lib.hid hn6
        have HNE6 := Lib.hid hne6
        have hRN : R < N := by rw [← hNc]; omega
        have HRD := Lib.hid hrd1
        clear hw5 hw6 hN hNc hrow5 hb5 hoi5 hot5 hz5 hrow6 hn6 hb6 hoi6 hot6 hne6 hoic hotc hbOc hrc hrd1
        go_upto_region 12 with fail
        rw [← HW5.out, ← HW6.out]
        try rw [HNC.out]
        clear HW5 HW6 HNC f0 r0 r1 p0 p1 p2 p3 p4 p5 p6
        have d2 := cell_of_row w6 _ 2 _ _ _ HN6.out
        by_cases hle : tsz ≤ left
        · have q1 : decide (tsz ≤ left) = true := decide_eq_true hle
          have hw2 : IntKind.i64.wrap (left - tsz) = left - tsz := by have := HBUD.out; have := HTS.out; rw [IntKind.wrap_i64]; omega
          have hts0 := HTS.out
          obtain ⟨v7, w7, r7, o7, b7, k7, z7⟩ := OwnI.append HOI6.out 0 (by rw [List.length_map]; omega) (by rw [hz6]; omega)
          have hot7 := Own.same HOT6.out (w' := w7) (fun g hg => k7 g (Own.lt HOT6.out g hg).2 (own_apart' HOT6.out HOI6.out (by decide) g hg))
          have hrow7 := (b7.block R (by omega)).trans HRW6.out
          have hn7 := (k7 N (by rw [hz6]; omega) (own_ne HOI6.out HN6.out (by decide))).trans HN6.out
          have hb67 := HB6.out.trans (b7.mono (by omega))
          have hz7 : w6.heap.size ≤ w7.heap.size := by omega
          have hot7 : OwnT 27 w7 (R + 1) u11 (done.map (·.2)) := hot7
          obtain ⟨v8, w8, r8, o8, b8, k8⟩ := OwnT.app27 hot7 ⟨tst, tix, tsz, tsp, tnum, tden, tday⟩ (by rw [List.length_map]; omega) (by rw [hz6] at hz7; omega)
          (try simp only at r8)
          have hoi8 := Own.same o7 (w' := w8) (fun g hg => k8 g (Own.lt o7 g hg).2 (own_apart' o7 hot7 (by decide) g hg))
          have hrow8 := (b8.block R (by omega)).trans hrow7
          have hn8 := (k8 N (Array.getElem?_eq_some_iff.1 hn7).1 HNE6.out).trans hn7
          have hb68 := hb67.trans (b8.mono (by omega))
          have hz8 := (Array.getElem?_eq_some_iff.1 hn8).1
          have HO8 := Lib.hid o8
          have HOI8 := Lib.hid (show OwnI w8 (R + 1) v7 (done.map (·.1) ++ [0]) from hoi8)
          have HRW8 := Lib.hid hrow8
          have HB8 := Lib.hid hb68
          have HDN := Lib.hid (show D = (done ++ [(0, ⟨tst, tix, tsz, tsp, tnum, tden, tday⟩)]) ++ takP (mrgP xs1 ys) (left - tsz) by have := HDR.out; rw [HM.out, takP, if_pos hle] at this; rw [this, List.append_assoc]; rfl)
          obtain ⟨a7, l7, c7, rfl⟩ := Own.slice o7
          obtain ⟨a8, l8, c8, rfl⟩ := Own.slice o8
          have e2 := cell_of_row w8 _ 2 _ _ _ hn8
          have d0 := cell_of_row w6 _ 0 _ _ _ HN6.out
          have d1 := cell_of_row w6 _ 1 _ _ _ HN6.out
          have d3 := cell_of_row w6 _ 3 _ _ _ HN6.out
          have d4 := cell_of_row w6 _ 4 _ _ _ HN6.out
          have d5 := cell_of_row w6 _ 5 _ _ _ HN6.out
          have d6 := cell_of_row w6 _ 6 _ _ _ HN6.out
          have x0 := cell_of_row w7 _ 0 _ _ _ hn7
          have x1 := cell_of_row w7 _ 1 _ _ _ hn7
          have x2 := cell_of_row w7 _ 2 _ _ _ hn7
          have x3 := cell_of_row w7 _ 3 _ _ _ hn7
          have x4 := cell_of_row w7 _ 4 _ _ _ hn7
          have x5 := cell_of_row w7 _ 5 _ _ _ hn7
          have x6 := cell_of_row w7 _ 6 _ _ _ hn7
          clear o7 o8 b7 k7 z7 b8 k8 hot7 hoi8 hrow7 hrow8 hn7 hn8 hb67 hb68 HOI6 HOT6 HRW6 HN6 HNE6 HDR HB6 HTS hz6 hz7
          go_upto_region 14 with (at_builtin; refine wpList_append_run (by rfl) (.tmp 76) (.tmp 78) 53 (by rfl) _ (.slice (some ⟨w6.heap.size, 0, none⟩) 1 1) (.slice a7 l7 c7) w7 (by rfl) (by rfl) r7 ?_)
          go_wp2_with (at_builtin; refine wpList_append_run (by rfl) (.tmp 80) (.tmp 82) 36 (by rfl) _ (.slice (some ⟨w7.heap.size, 0, none⟩) 1 1) (.slice a8 l8 c8) w8 (by rfl) (by rfl) r8 ?_)
          go_roundw
          case rel => exact ⟨_, _, xs1, ys, left - tsz, done ++ [(0, ⟨tst, tix, tsz, tsp, tnum, tden, tday⟩)], rfl, ⟨by omega, by omega⟩, HDN.out, by have := HLEN.out; simp at this ⊢; omega, HKT.out, HKY.out, HRD.out, HRY.out, HB8.out, by omega, HRW8.out, by rw [List.map_append]; exact HOI8.out, by rw [List.map_append]; exact HO8.out⟩
          case measure => rw [restLen_eq HRW8.out (HRD.out) (HRY.out), HML.out]; simp; try omega
        · have q1 : decide (tsz ≤ left) = false := decide_eq_false hle
          have HDN := Lib.hid (show D = done ++ takP (mrgP xs1 ys) left by have := HDR.out; rw [HM.out, takP, if_neg hle] at this; exact this)
          clear hle HDR
          go_wp2
          go_roundw
          case rel => exact ⟨_, _, xs1, ys, left, done, rfl, ⟨h0l, hlb⟩, HDN.out, by have := HLEN.out; simp at this ⊢; omega, HKT.out, HKY.out, HRD.out, HRY.out, HB6.out, by omega, HRW6.out, HOI6.out, HOT6.out⟩
          case measure => rw [restLen_eq HRW6.out (HRD.out) (HRY.out), HML.out]; simp; try omega
      · have hrd1 := hc2 hc0
        clear hc1 hc2
        have hrow5 := setCell_block (i := 0) hrc (.slice (some ⟨tb, tq + 7, none⟩) xs1.length (xc - 1))
        have hb5 := below_setCell hbOc (Nat.le_refl R) (i := 0) (.slice (some ⟨tb, tq + 7, none⟩) xs1.length (xc - 1))
        have hoi5 := Own.same hoic (w' := wc.setCell ⟨R, 0, none⟩ (.slice (some ⟨tb, tq + 7, none⟩) xs1.length (xc - 1))) (fun g hg => setCell_other _ _ (by have := (Own.lt hoic g hg).1; omega))
        have hot5 := Own.same hotc (w' := wc.setCell ⟨R, 0, none⟩ (.slice (some ⟨tb, tq + 7, none⟩) xs1.length (xc - 1))) (fun g hg => setCell_other _ _ (by have := (Own.lt hotc g hg).1; omega))
        have hz5 : (wc.setCell ⟨R, 0, none⟩ (.slice (some ⟨tb, tq + 7, none⟩) xs1.length (xc - 1))).heap.size = wc.heap.size := setCell_size _ _ _
        have hrow5 : (wc.setCell ⟨R, 0, none⟩ (.slice (some ⟨tb, tq + 7, none⟩) xs1.length (xc - 1))).heap[R]? = some (.cells #[.slice (some ⟨tb, tq + 7, none⟩) xs1.length (xc - 1), .slice ya ys.length yc] 81) := hrow5
        obtain ⟨w5, hw5⟩ : ∃ w5, w5 = wc.setCell ⟨R, 0, none⟩ (.slice (some ⟨tb, tq + 7, none⟩) xs1.length (xc - 1)) := ⟨_, rfl⟩
        rw [← hw5] at hrow5 hb5 hoi5 hot5 hz5
        have HW5 := Lib.hid hw5
        have hrow6 := bb (sb0 (w := w5) (.cells #[.string tst, .int .i64 tix, .int .i64 tsz, .int .i64 tsp, .int .i64 tnum, .int .i64 tden, .int .i64 tday] 27)) hrow5
        have hn6 := heap_alloc_new w5 (.cells #[.string tst, .int .i64 tix, .int .i64 tsz, .int .i64 tsp, .int .i64 tnum, .int .i64 tden, .int .i64 tday] 27)
        have hb6 := hb5.alloc (by omega) (.cells #[.string tst, .int .i64 tix, .int .i64 tsz, .int .i64 tsp, .int .i64 tnum, .int .i64 tden, .int .i64 tday] 27)
        have hoi6 := Own.alloc hoi5 (.cells #[.string tst, .int .i64 tix, .int .i64 tsz, .int .i64 tsp, .int .i64 tnum, .int .i64 tden, .int .i64 tday] 27)
        have hot6 := Own.alloc hot5 (.cells #[.string tst, .int .i64 tix, .int .i64 tsz, .int .i64 tsp, .int .i64 tnum, .int .i64 tden, .int .i64 tday] 27)
        have hne6 : u11.ownBlock ≠ some w5.heap.size := fun e => by have := (Own.lt hot5 _ e).2; omega
        have hz6 : (w5.alloc (.cells #[.string tst, .int .i64 tix, .int .i64 tsz, .int .i64 tsp, .int .i64 tnum, .int .i64 tden, .int .i64 tday] 27)).heap.size = w5.heap.size + 1 := World.size_alloc _ _
        obtain ⟨N, hN⟩ : ∃ N, N = w5.heap.size := ⟨_, rfl⟩
        have hNc : wc.heap.size = N := by rw [hN, hz5]
        rw [← hN] at hn6 hne6 hz6
        obtain ⟨w6, hw6⟩ : ∃ w6, w6 = w5.alloc (.cells #[.string tst, .int .i64 tix, .int .i64 tsz, .int .i64 tsp, .int .i64 tnum, .int .i64 tden, .int .i64 tday] 27) := ⟨_, rfl⟩
        rw [← hw6] at hrow6 hn6 hb6 hoi6 hot6 hz6
        have HW6 := Lib.hid hw6
        have HNC := Lib.hid hNc
        have HB6 := Lib.hid hb6
        have HOI6 := Lib.hid hoi6
        have HOT6 := Lib.hid hot6
        have HRW6 := Lib.hid hrow6
        have HN6 := Lib.hid hn6
        have HNE6 := Lib.hid hne6
        have hRN : R < N := by rw [← hNc]; omega
        have HRD := Lib.hid hrd1
        clear hw5 hw6 hN hNc hrow5 hb5 hoi5 hot5 hz5 hrow6 hn6 hb6 hoi6 hot6 hne6 hoic hotc hbOc hrc hrd1
        go_upto_region 12 with fail
        rw [← HW5.out, ← HW6.out]
        try rw [HNC.out]
        clear HW5 HW6 HNC f0 r0 r1 p0 p1 p2 p3 p4 p5 p6
        have d2 := cell_of_row w6 _ 2 _ _ _ HN6.out
        by_cases hle : tsz ≤ left
        · have q1 : decide (tsz ≤ left) = true := decide_eq_true hle
          have hw2 : IntKind.i64.wrap (left - tsz) = left - tsz := by have := HBUD.out; have := HTS.out; rw [IntKind.wrap_i64]; omega
          have hts0 := HTS.out
          obtain ⟨v7, w7, r7, o7, b7, k7, z7⟩ := OwnI.append HOI6.out 0 (by rw [List.length_map]; omega) (by rw [hz6]; omega)
          have hot7 := Own.same HOT6.out (w' := w7) (fun g hg => k7 g (Own.lt HOT6.out g hg).2 (own_apart' HOT6.out HOI6.out (by decide) g hg))
          have hrow7 := (b7.block R (by omega)).trans HRW6.out
          have hn7 := (k7 N (by rw [hz6]; omega) (own_ne HOI6.out HN6.out (by decide))).trans HN6.out
          have hb67 := HB6.out.trans (b7.mono (by omega))
          have hz7 : w6.heap.size ≤ w7.heap.size := by omega
          have hot7 : OwnT 27 w7 (R + 1) u11 (done.map (·.2)) := hot7
          obtain ⟨v8, w8, r8, o8, b8, k8⟩ := OwnT.app27 hot7 ⟨tst, tix, tsz, tsp, tnum, tden, tday⟩ (by rw [List.length_map]; omega) (by rw [hz6] at hz7; omega)
          (try simp only at r8)
          have hoi8 := Own.same o7 (w' := w8) (fun g hg => k8 g (Own.lt o7 g hg).2 (own_apart' o7 hot7 (by decide) g hg))
          have hrow8 := (b8.block R (by omega)).trans hrow7
          have hn8 := (k8 N (Array.getElem?_eq_some_iff.1 hn7).1 HNE6.out).trans hn7
          have hb68 := hb67.trans (b8.mono (by omega))
          have hz8 := (Array.getElem?_eq_some_iff.1 hn8).1
          have HO8 := Lib.hid o8
          have HOI8 := Lib.hid (show OwnI w8 (R + 1) v7 (done.map (·.1) ++ [0]) from hoi8)
          have HRW8 := Lib.hid hrow8
          have HB8 := Lib.hid hb68
          have HDN := Lib.hid (show D = (done ++ [(0, ⟨tst, tix, tsz, tsp, tnum, tden, tday⟩)]) ++ takP (mrgP xs1 ys) (left - tsz) by have := HDR.out; rw [HM.out, takP, if_pos hle] at this; rw [this, List.append_assoc]; rfl)
          obtain ⟨a7, l7, c7, rfl⟩ := Own.slice o7
          obtain ⟨a8, l8, c8, rfl⟩ := Own.slice o8
          have e2 := cell_of_row w8 _ 2 _ _ _ hn8
          have d0 := cell_of_row w6 _ 0 _ _ _ HN6.out
          have d1 := cell_of_row w6 _ 1 _ _ _ HN6.out
          have d3 := cell_of_row w6 _ 3 _ _ _ HN6.out
          have d4 := cell_of_row w6 _ 4 _ _ _ HN6.out
          have d5 := cell_of_row w6 _ 5 _ _ _ HN6.out
          have d6 := cell_of_row w6 _ 6 _ _ _ HN6.out
          have x0 := cell_of_row w7 _ 0 _ _ _ hn7
          have x1 := cell_of_row w7 _ 1 _ _ _ hn7
          have x2 := cell_of_row w7 _ 2 _ _ _ hn7
          have x3 := cell_of_row w7 _ 3 _ _ _ hn7
          have x4 := cell_of_row w7 _ 4 _ _ _ hn7
          have x5 := cell_of_row w7 _ 5 _ _ _ hn7
          have x6 := cell_of_row w7 _ 6 _ _ _ hn7
          clear o7 o8 b7 k7 z7 b8 k8 hot7 hoi8 hrow7 hrow8 hn7 hn8 hb67 hb68 HOI6 HOT6 HRW6 HN6 HNE6 HDR HB6 HTS hz6 hz7
          go_upto_region 14 with (at_builtin; refine wpList_append_run (by rfl) (.tmp 76) (.tmp 78) 53 (by rfl) _ (.slice (some ⟨w6.heap.size, 0, none⟩) 1 1) (.slice a7 l7 c7) w7 (by rfl) (by rfl) r7 ?_)
          go_wp2_with (at_builtin; refine wpList_append_run (by rfl) (.tmp 80) (.tmp 82) 36 (by rfl) _ (.slice (some ⟨w7.heap.size, 0, none⟩) 1 1) (.slice a8 l8 c8) w8 (by rfl) (by rfl) r8 ?_)
          go_roundw
          case rel => exact ⟨_, _, xs1, ys, left - tsz, done ++ [(0, ⟨tst, tix, tsz, tsp, tnum, tden, tday⟩)], rfl, ⟨by omega, by omega⟩, HDN.out, by have := HLEN.out; simp at this ⊢; omega, HKT.out, HKY.out, HRD.out, HRY.out, HB8.out, by omega, HRW8.out, by rw [List.map_append]; exact HOI8.out, by rw [List.map_append]; exact HO8.out⟩
          case measure => rw [restLen_eq HRW8.out (HRD.out) (HRY.out), HML.out]; simp; try omega
        · have q1 : decide (tsz ≤ left) = false := decide_eq_false hle
          have HDN := Lib.hid (show D = done ++ takP (mrgP xs1 ys) left by have := HDR.out; rw [HM.out, takP, if_neg hle] at this; exact this)
          clear hle HDR
          go_wp2
          go_roundw
          case rel => exact ⟨_, _, xs1, ys, left, done, rfl, ⟨h0l, hlb⟩, HDN.out, by have := HLEN.out; simp at this ⊢; omega, HKT.out, HKY.out, HRD.out, HRY.out, HB6.out, by omega, HRW6.out, HOI6.out, HOT6.out⟩
          case measure => rw [restLen_eq HRW6.out (HRD.out) (HRY.out), HML.out]; simp; try omega
    · have e0 : decide ((1 : Int) = 1) = true := by decide
      rw [e0]
      clear e0
      obtain ⟨tb, tq, rfl, htc, htl, ⟨p0, p1, p2, p3, p4, p5, p6⟩, hc1, hc2⟩ := reads_tail HRY.out
      have p0 := bc hbc (bc (HB.out.mono (Nat.le_of_eq HZO.out)) p0)
      have p1 := bc hbc (bc (HB.out.mono (Nat.le_of_eq HZO.out)) p1)
      have p2 := bc hbc (bc (HB.out.mono (Nat.le_of_eq HZO.out)) p2)
      have p3 := bc hbc (bc (HB.out.mono (Nat.le_of_eq HZO.out)) p3)
      have p4 := bc hbc (bc (HB.out.mono (Nat.le_of_eq HZO.out)) p4)
      have p5 := bc hbc (bc (HB.out.mono (Nat.le_of_eq HZO.out)) p5)
      have p6 := bc hbc (bc (HB.out.mono (Nat.le_of_eq HZO.out)) p6)
      have HTO := Lib.hid (HKY.out t (List.mem_cons_self ..))
      have HTS := Lib.hid HTO.out.2.2.1
      have HKT := Lib.hid (show AllOk ys1 from fun u hu => HKY.out u (List.mem_cons_of_mem _ hu))
      have hrc := bb hbc HRW.out
      obtain ⟨r0, r1, f0, f1⟩ := pair_rows hrc
      have hoic := HOI.out.below hbc
      have hotc := HOT.out.below hbc
      have hRc : R < wc.heap.size := Nat.lt_of_lt_of_le HRLT.out hbc.size
      have hbOc := HB.out.trans (hbc.mono (Nat.le_of_lt HRLT.out))
      clear f0 hbc HTO
      obtain ⟨tst, tix, tsz, tsp, tnum, tden, tday⟩ := t
      simp only at p0 p1 p2 p3 p4 p5 p6 HTS
      have f0 := f1
      by_cases hc0 : yc = 1
      · have hrd1 := hc1 hc0
        have hT0 : ys1 = [] := List.length_eq_zero_iff.1 (by omega)
        clear hc1 hc2
        subst hc0
        have hrow5 := setCell_block (i := 1) hrc (.slice (some ⟨tb, tq, none⟩) 0 0)
        have hb5 := below_setCell hbOc (Nat.le_refl R) (i := 1) (.slice (some ⟨tb, tq, none⟩) 0 0)
        have hoi5 := Own.same hoic (w' := wc.setCell ⟨R, 1, none⟩ (.slice (some ⟨tb, tq, none⟩) 0 0)) (fun g hg => setCell_other _ _ (by have := (Own.lt hoic g hg).1; omega))
        have hot5 := Own.same hotc (w' := wc.setCell ⟨R, 1, none⟩ (.slice (some ⟨tb, tq, none⟩) 0 0)) (fun g hg => setCell_other _ _ (by have := (Own.lt hotc g hg).1; omega))
        have hz5 : (wc.setCell ⟨R, 1, none⟩ (.slice (some ⟨tb, tq, none⟩) 0 0)).heap.size = wc.heap.size := setCell_size _ _ _
        have hrow5 : (wc.setCell ⟨R, 1, none⟩ (.slice (some ⟨tb, tq, none⟩) 0 0)).heap[R]? = some (.cells #[.slice xa xs.length xc, .slice (some ⟨tb, tq, none⟩) 0 0] 81) := hrow5
        obtain ⟨w5, hw5⟩ : ∃ w5, w5 = wc.setCell ⟨R, 1, none⟩ (.slice (some ⟨tb, tq, none⟩) 0 0) := ⟨_, rfl⟩
        rw [← hw5] at hrow5 hb5 hoi5 hot5 hz5
        have HW5 := Lib.hid hw5
        have hrow6 := bb (sb0 (w := w5) (.cells #[.string tst, .int .i64 tix, .int .i64 tsz, .int .i64 tsp, .int .i64 tnum, .int .i64 tden, .int .i64 tday] 27)) hrow5
        have hn6 := heap_alloc_new w5 (.cells #[.string tst, .int .i64 tix, .int .i64 tsz, .int .i64 tsp, .int .i64 tnum, .int .i64 tden, .int .i64 tday] 27)
        have hb6 := hb5.alloc (by omega) (.cells #[.string tst, .int .i64 tix, .int .i64 tsz, .int .i64 tsp, .int .i64 tnum, .int .i64 tden, .int .i64 tday] 27)
        have hoi6 := Own.alloc hoi5 (.cells #[.string tst, .int .i64 tix, .int .i64 tsz, .int .i64 tsp, .int .i64 tnum, .int .i64 tden, .int .i64 tday] 27)
        have hot6 := Own.alloc hot5 (.cells #[.string tst, .int .i64 tix, .int .i64 tsz, .int .i64 tsp, .int .i64 tnum, .int .i64 tden, .int .i64 tday] 27)
        have hne6 : u11.ownBlock ≠ some w5.heap.size := fun e => by have := (Own.lt hot5 _ e).2; omega
        have hz6 : (w5.alloc (.cells #[.string tst, .int .i64 tix, .int .i64 tsz, .int .i64 tsp, .int .i64 tnum, .int .i64 tden, .int .i64 tday] 27)).heap.size = w5.heap.size + 1 := World.size_alloc _ _
        obtain ⟨N, hN⟩ : ∃ N, N = w5.heap.size := ⟨_, rfl⟩
        have hNc : wc.heap.size = N := by rw [hN, hz5]
        rw [← hN] at hn6 hne6 hz6
        obtain ⟨w6, hw6⟩ : ∃ w6, w6 = w5.alloc (.cells #[.string tst, .int .i64 tix, .int .i64 tsz, .int .i64 tsp, .int .i64 tnum, .int .i64 tden, .int .i64 tday] 27) := ⟨_, rfl⟩
        rw [← hw6] at hrow6 hn6 hb6 hoi6 hot6 hz6
        have HW6 := Lib.hid hw6
        have HNC := Lib.hid hNc
        have HB6 := Lib.hid hb6
        have HOI6 := Lib.hid hoi6
        have HOT6 := Lib.hid hot6
        have HRW6 := Lib.hid hrow6
        have HN6 := Lib.hid hn6
        have HNE6 := Lib.hid hne6
        have hRN : R < N := by rw [← hNc]; omega
        have HRD := Lib.hid hrd1
        clear hw5 hw6 hN hNc hrow5 hb5 hoi5 hot5 hz5 hrow6 hn6 hb6 hoi6 hot6 hne6 hoic hotc hbOc hrc hrd1
        go_upto_region 12 with fail
        rw [← HW5.out, ← HW6.out]
        try rw [HNC.out]
        clear HW5 HW6 HNC f0 r0 r1 p0 p1 p2 p3 p4 p5 p6
        have d2 := cell_of_row w6 _ 2 _ _ _ HN6.out
        by_cases hle : tsz ≤ left
        · have q1 : decide (tsz ≤ left) = true := decide_eq_true hle
          have hw2 : IntKind.i64.wrap (left - tsz) = left - tsz := by have := HBUD.out; have := HTS.out; rw [IntKind.wrap_i64]; omega
          have hts0 := HTS.out
          obtain ⟨v7, w7, r7, o7, b7, k7, z7⟩ := OwnI.append HOI6.out 1 (by rw [List.length_map]; omega) (by rw [hz6]; omega)
          have hot7 := Own.same HOT6.out (w' := w7) (fun g hg => k7 g (Own.lt HOT6.out g hg).2 (own_apart' HOT6.out HOI6.out (by decide) g hg))
          have hrow7 := (b7.block R (by omega)).trans HRW6.out
          have hn7 := (k7 N (by rw [hz6]; omega) (own_ne HOI6.out HN6.out (by decide))).trans HN6.out
          have hb67 := HB6.out.trans (b7.mono (by omega))
          have hz7 : w6.heap.size ≤ w7.heap.size := by omega
          have hot7 : OwnT 27 w7 (R + 1) u11 (done.map (·.2)) := hot7
          obtain ⟨v8, w8, r8, o8, b8, k8⟩ := OwnT.app27 hot7 ⟨tst, tix, tsz, tsp, tnum, tden, tday⟩ (by rw [List.length_map]; omega) (by rw [hz6] at hz7; omega)
          (try simp only at r8)
          have hoi8 := Own.same o7 (w' := w8) (fun g hg => k8 g (Own.lt o7 g hg).2 (own_apart' o7 hot7 (by decide) g hg))
          have hrow8 := (b8.block R (by omega)).trans hrow7
          have hn8 := (k8 N (Array.getElem?_eq_some_iff.1 hn7).1 HNE6.out).trans hn7
          have hb68 := hb67.trans (b8.mono (by omega))
          have hz8 := (Array.getElem?_eq_some_iff.1 hn8).1
          have HO8 := Lib.hid o8
          have HOI8 := Lib.hid (show OwnI w8 (R + 1) v7 (done.map (·.1) ++ [1]) from hoi8)
          have HRW8 := Lib.hid hrow8
          have HB8 := Lib.hid hb68
          have HDN := Lib.hid (show D = (done ++ [(1, ⟨tst, tix, tsz, tsp, tnum, tden, tday⟩)]) ++ takP (mrgP xs ys1) (left - tsz) by have := HDR.out; rw [HM.out, takP, if_pos hle] at this; rw [this, List.append_assoc]; rfl)
          obtain ⟨a7, l7, c7, rfl⟩ := Own.slice o7
          obtain ⟨a8, l8, c8, rfl⟩ := Own.slice o8
          have e2 := cell_of_row w8 _ 2 _ _ _ hn8
          have d0 := cell_of_row w6 _ 0 _ _ _ HN6.out
          have d1 := cell_of_row w6 _ 1 _ _ _ HN6.out
          have d3 := cell_of_row w6 _ 3 _ _ _ HN6.out
          have d4 := cell_of_row w6 _ 4 _ _ _ HN6.out
          have d5 := cell_of_row w6 _ 5 _ _ _ HN6.out
          have d6 := cell_of_row w6 _ 6 _ _ _ HN6.out
          have x0 := cell_of_row w7 _ 0 _ _ _ hn7
          have x1 := cell_of_row w7 _ 1 _ _ _ hn7
          have x2 := cell_of_row w7 _ 2 _ _ _ hn7
          have x3 := cell_of_row w7 _ 3 _ _ _ hn7
          have x4 := cell_of_row w7 _ 4 _ _ _ hn7
          have x5 := cell_of_row w7 _ 5 _ _ _ hn7
          have x6 := cell_of_row w7 _ 6 _ _ _ hn7
          clear o7 o8 b7 k7 z7 b8 k8 hot7 hoi8 hrow7 hrow8 hn7 hn8 hb67 hb68 HOI6 HOT6 HRW6 HN6 HNE6 HDR HB6 HTS hz6 hz7
          go_upto_region 14 with (at_builtin; refine wpList_append_run (by rfl) (.tmp 76) (.tmp 78) 53 (by rfl) _ (.slice (some ⟨w6.heap.size, 0, none⟩) 1 1) (.slice a7 l7 c7) w7 (by rfl) (by rfl) r7 ?_)
          go_wp2_with (at_builtin; refine wpList_append_run (by rfl) (.tmp 80) (.tmp 82) 36 (by rfl) _ (.slice (some ⟨w7.heap.size, 0, none⟩) 1 1) (.slice a8 l8 c8) w8 (by rfl) (by rfl) r8 ?_)
          go_roundw
          case rel => exact ⟨_, _, xs, ys1, left - tsz, done ++ [(1, ⟨tst, tix, tsz, tsp, tnum, tden, tday⟩)], rfl, ⟨by omega, by omega⟩, HDN.out, by have := HLEN.out; simp at this ⊢; omega, HKX.out, HKT.out, HRX.out, HRD.out, HB8.out, by omega, HRW8.out, by rw [List.map_append]; exact HOI8.out, by rw [List.map_append]; exact HO8.out⟩
          case measure => rw [restLen_eq HRW8.out (HRX.out) (HRD.out), HML.out]; simp; try omega
        · have q1 : decide (tsz ≤ left) = false := decide_eq_false hle
          have HDN := Lib.hid (show D = done ++ takP (mrgP xs ys1) left by have := HDR.out; rw [HM.out, takP, if_neg hle] at this; exact this)
          clear hle HDR
          go_wp2
          go_roundw
          case rel => exact ⟨_, _, xs, ys1, left, done, rfl, ⟨h0l, hlb⟩, HDN.out, by have := HLEN.out; simp at this ⊢; omega, HKX.out, HKT.out, HRX.out, HRD.out, HB6.out, by omega, HRW6.out, HOI6.out, HOT6.out⟩
          case measure => rw [restLen_eq HRW6.out (HRX.out) (HRD.out), HML.out]; simp; try omega
      · have hrd1 := hc2 hc0
        clear hc1 hc2
        have hrow5 := setCell_block (i := 1) hrc (.slice (some ⟨tb, tq + 7, none⟩) ys1.length (yc - 1))
        have hb5 := below_setCell hbOc (Nat.le_refl R) (i := 1) (.slice (some ⟨tb, tq + 7, none⟩) ys1.length (yc - 1))
        have hoi5 := Own.same hoic (w' := wc.setCell ⟨R, 1, none⟩ (.slice (some ⟨tb, tq + 7, none⟩) ys1.length (yc - 1))) (fun g hg => setCell_other _ _ (by have := (Own.lt hoic g hg).1; omega))
        have hot5 := Own.same hotc (w' := wc.setCell ⟨R, 1, none⟩ (.slice (some ⟨tb, tq + 7, none⟩) ys1.length (yc - 1))) (fun g hg => setCell_other _ _ (by have := (Own.lt hotc g hg).1; omega))
        have hz5 : (wc.setCell ⟨R, 1, none⟩ (.slice (some ⟨tb, tq + 7, none⟩) ys1.length (yc - 1))).heap.size = wc.heap.size := setCell_size _ _ _
        have hrow5 : (wc.setCell ⟨R, 1, none⟩ (.slice (some ⟨tb, tq + 7, none⟩) ys1.length (yc - 1))).heap[R]? = some (.cells #[.slice xa xs.length xc, .slice (some ⟨tb, tq + 7, none⟩) ys1.length (yc - 1)] 81) := hrow5
        obtain ⟨w5, hw5⟩ : ∃ w5, w5 = wc.setCell ⟨R, 1, none⟩ (.slice (some ⟨tb, tq + 7, none⟩) ys1.length (yc - 1)) := ⟨_, rfl⟩
        rw [← hw5] at hrow5 hb5 hoi5 hot5 hz5
        have HW5 := Lib.hid hw5
        have hrow6 := bb (sb0 (w := w5) (.cells #[.string tst, .int .i64 tix, .int .i64 tsz, .int .i64 tsp, .int .i64 tnum, .int .i64 tden, .int .i64 tday] 27)) hrow5
        have hn6 := heap_alloc_new w5 (.cells #[.string tst, .int .i64 tix, .int .i64 tsz, .int .i64 tsp, .int .i64 tnum, .int .i64 tden, .int .i64 tday] 27)
        have hb6 := hb5.alloc (by omega) (.cells #[.string tst, .int .i64 tix, .int .i64 tsz, .int .i64 tsp, .int .i64 tnum, .int .i64 tden, .int .i64 tday] 27)
        have hoi6 := Own.alloc hoi5 (.cells #[.string tst, .int .i64 tix, .int .i64 tsz, .int .i64 tsp, .int .i64 tnum, .int .i64 tden, .int .i64 tday] 27)
        have hot6 := Own.alloc hot5 (.cells #[.string tst, .int .i64 tix, .int .i64 tsz, .int .i64 tsp, .int .i64 tnum, .int .i64 tden, .int .i64 tday] 27)
        have hne6 : u11.ownBlock ≠ some w5.heap.size := fun e => by have := (Own.lt hot5 _ e).2; omega
        have hz6 : (w5.alloc (.cells #[.string tst, .int .i64 tix, .int .i64 tsz, .int .i64 tsp, .int .i64 tnum, .int .i64 tden, .int .i64 tday] 27)).heap.size = w5.heap.size + 1 := World.size_alloc _ _
        obtain ⟨N, hN⟩ : ∃ N, N = w5.heap.size := ⟨_, rfl⟩
        have hNc : wc.heap.size = N := by rw [hN, hz5]
        rw [← hN] at hn6 hne6 hz6
        obtain ⟨w6, hw6⟩ : ∃ w6, w6 = w5.alloc (.cells #[.string tst, .int .i64 tix, .int .i64 tsz, .int .i64 tsp, .int .i64 tnum, .int .i64 tden, .int .i64 tday] 27) := ⟨_, rfl⟩
        rw [← hw6] at hrow6 hn6 hb6 hoi6 hot6 hz6
        have HW6 := Lib.hid hw6
        have HNC := Lib.hid hNc
        have HB6 := Lib.hid hb6
        have HOI6 := Lib.hid hoi6
        have HOT6 := Lib.hid hot6
        have HRW6 := Lib.hid hrow6
        have HN6 := Lib.hid hn6
        have HNE6 := Lib.hid hne6
        have hRN : R < N := by rw [← hNc]; omega
        have HRD := Lib.hid hrd1
        clear hw5 hw6 hN hNc hrow5 hb5 hoi5 hot5 hz5 hrow6 hn6 hb6 hoi6 hot6 hne6 hoic hotc hbOc hrc hrd1
        go_upto_region 12 with fail
        rw [← HW5.out, ← HW6.out]
        try rw [HNC.out]
        clear HW5 HW6 HNC f0 r0 r1 p0 p1 p2 p3 p4 p5 p6
        have d2 := cell_of_row w6 _ 2 _ _ _ HN6.out
        by_cases hle : tsz ≤ left
        · have q1 : decide (tsz ≤ left) = true := decide_eq_true hle
          have hw2 : IntKind.i64.wrap (left - tsz) = left - tsz := by have := HBUD.out; have := HTS.out; rw [IntKind.wrap_i64]; omega
          have hts0 := HTS.out
          obtain ⟨v7, w7, r7, o7, b7, k7, z7⟩ := OwnI.append HOI6.out 1 (by rw [List.length_map]; omega) (by rw [hz6]; omega)
          have hot7 := Own.same HOT6.out (w' := w7) (fun g hg => k7 g (Own.lt HOT6.out g hg).2 (own_apart' HOT6.out HOI6.out (by decide) g hg))
          have hrow7 := (b7.block R (by omega)).trans HRW6.out
          have hn7 := (k7 N (by rw [hz6]; omega) (own_ne HOI6.out HN6.out (by decide))).trans HN6.out
          have hb67 := HB6.out.trans (b7.mono (by omega))
          have hz7 : w6.heap.size ≤ w7.heap.size := by omega
          have hot7 : OwnT 27 w7 (R + 1) u11 (done.map (·.2)) := hot7
          obtain ⟨v8, w8, r8, o8, b8, k8⟩ := OwnT.app27 hot7 ⟨tst, tix, tsz, tsp, tnum, tden, tday⟩ (by rw [List.length_map]; omega) (by rw [hz6] at hz7; omega)
          (try simp only at r8)
          have hoi8 := Own.same o7 (w' := w8) (fun g hg => k8 g (Own.lt o7 g hg).2 (own_apart' o7 hot7 (by decide) g hg))
          have hrow8 := (b8.block R (by omega)).trans hrow7
          have hn8 := (k8 N (Array.getElem?_eq_some_iff.1 hn7).1 HNE6.out).trans hn7
          have hb68 := hb67.trans (b8.mono (by omega))
          have hz8 := (Array.getElem?_eq_some_iff.1 hn8).1
          have HO8 := Lib.hid o8
          have HOI8 := Lib.hid (show OwnI w8 (R + 1) v7 (done.map (·.1) ++ [1]) from hoi8)
          have HRW8 := Lib.hid hrow8
          have HB8 := Lib.hid hb68
          have HDN := Lib.hid (show D = (done ++ [(1, ⟨tst, tix, tsz, tsp, tnum, tden, tday⟩)]) ++ takP (mrgP xs ys1) (left - tsz) by have := HDR.out; rw [HM.out, takP, if_pos hle] at this; rw [this, List.append_assoc]; rfl)
          obtain ⟨a7, l7, c7, rfl⟩ := Own.slice o7
          obtain ⟨a8, l8, c8, rfl⟩ := Own.slice o8
          have e2 := cell_of_row w8 _ 2 _ _ _ hn8
          have d0 := cell_of_row w6 _ 0 _ _ _ HN6.out
          have d1 := cell_of_row w6 _ 1 _ _ _ HN6.out
          have d3 := cell_of_row w6 _ 3 _ _ _ HN6.out
          have d4 := cell_of_row w6 _ 4 _ _ _ HN6.out
          have d5 := cell_of_row w6 _ 5 _ _ _ HN6.out
          have d6 := cell_of_row w6 _ 6 _ _ _ HN6.out
          have x0 := cell_of_row w7 _ 0 _ _ _ hn7
          have x1 := cell_of_row w7 _ 1 _ _ _ hn7
          have x2 := cell_of_row w7 _ 2 _ _ _ hn7
          have x3 := cell_of_row w7 _ 3 _ _ _ hn7
          have x4 := cell_of_row w7 _ 4 _ _ _ hn7
          have x5 := cell_of_row w7 _ 5 _ _ _ hn7
          have x6 := cell_of_row w7 _ 6 _ _ _ hn7
          clear o7 o8 b7 k7 z7 b8 k8 hot7 hoi8 hrow7 hrow8 hn7 hn8 hb67 hb68 HOI6 HOT6 HRW6 HN6 HNE6 HDR HB6 HTS hz6 hz7
          go_upto_region 14 with (at_builtin; refine wpList_append_run (by rfl) (.tmp 76) (.tmp 78) 53 (by rfl) _ (.slice (some ⟨w6.heap.size, 0, none⟩) 1 1) (.slice a7 l7 c7) w7 (by rfl) (by rfl) r7 ?_)
          go_wp2_with (at_builtin; refine wpList_append_run (by rfl) (.tmp 80) (.tmp 82) 36 (by rfl) _ (.slice (some ⟨w7.heap.size, 0, none⟩) 1 1) (.slice a8 l8 c8) w8 (by rfl) (by rfl) r8 ?_)
          go_roundw
          case rel => exact ⟨_, _, xs, ys1, left - tsz, done ++ [(1, ⟨tst, tix, tsz, tsp, tnum, tden, tday⟩)], rfl, ⟨by omega, by omega⟩, HDN.out, by have := HLEN.out; simp at this ⊢; omega, HKX.out, HKT.out, HRX.out, HRD.out, HB8.out, by omega, HRW8.out, by rw [List.map_append]; exact HOI8.out, by rw [List.map_append]; exact HO8.out⟩
          case measure => rw [restLen_eq HRW8.out (HRX.out) (HRD.out), HML.out]; simp; try omega
        · have q1 : decide (tsz ≤ left) = false := decide_eq_false hle
          have HDN := Lib.hid (show D = done ++ takP (mrgP xs ys1) left by have := HDR.out; rw [HM.out, takP, if_neg hle] at this; exact this)
          clear hle HDR
          go_wp2
          go_roundw
          case rel => exact ⟨_, _, xs, ys1, left, done, rfl, ⟨h0l, hlb⟩, HDN.out, by have := HLEN.out; simp at this ⊢; omega, HKX.out, HKT.out, HRX.out, HRD.out, HB6.out, by omega, HRW6.out, HOI6.out, HOT6.out⟩
          case measure => rw [restLen_eq HRW6.out (HRX.out) (HRD.out), HML.out]; simp; try omega

end Go.Proofs.Ytcgilfnhbliadaa
