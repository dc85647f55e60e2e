/- Sufficient, Gain, Sum: the sum of what lacks. -/
import Derived.Test.YtapjgjjmlbhanaaL0
import Derived.Test.YtapjgjjmlbhanaaH2
import Derived.Test.YtapjgjjmlbhanaaH6
import Derived.Test.YtapjgjjmlbhanaaJ1
namespace Go.Proofs.Ytapjgjjmlbhanaa
open Go.RowKit Go.Lib

/-- All that lacks, by the reference. -/
def sumR (g : Gl) (hs : List Hd) (devs : List Int) : Int := shR g hs devs + (ndR g hs devs).sum + ixR g hs devs

theorem lackTo_sum (ns : List Nd) (s : Sup) : ∀ n, lackTo ns s n = ((List.range n).map fun i => lackN (ns.getD i default).d (s.pc i)).sum
  | 0 => rfl
  | n + 1 => by
    rw [lackTo, lackTo_sum ns s n, List.range_succ, List.map_append, List.sum_append]
    simp
section
variable {g : Gl} {hs L : List Hd} {devs : List Int} (hok : Ok g hs) (hp : L.Perm hs)
include hok hp
theorem sumD_eq (devs : List Int) : sumS g.thr g.ns (supD g L devs) = sumR g hs devs := by
  unfold sumS sumR
  rw [lackS_eq hok hp, lackTo_sum]
  have h1 : ((List.range g.ns.length).map fun i => lackN (g.ns.getD i default).d ((supD g L devs).pc i)) = ndR g hs devs := by
    unfold ndR
    refine List.map_congr_left fun i hi => ?_
    rw [lackN_eq hok hp i (List.mem_range.1 hi)]
  have h2 : (if (supD g L devs).ix = true then (0 : Int) else 1) = ixR g hs devs := by
    unfold ixR
    rw [supD_ix hp]
  rw [h1, h2]
  rfl
end
theorem ofL_set (g : Gl) (L : List Hd) (devs : List Int) : ofL g L (setN devs L L.length) = supD g L devs := rfl
theorem sumL_eq {g : Gl} {hs L : List Hd} (hok : Ok g hs) (hp : L.Perm hs) (devs : List Int) : sumL g L (setN devs L L.length) = sumR g hs devs := by
  unfold sumL
  rw [ofL_set, sumD_eq hok hp]
theorem setN_app (devs es : List Int) (L : List Hd) (n : Nat) : setN devs L n ||| setN es L n = setN (devs ++ es) L n := by
  refine Nat.eq_of_testBit_eq fun m => ?_
  rw [Nat.testBit_or, setN_bit, setN_bit, setN_bit, Bool.eq_iff_iff]
  simp only [Bool.or_eq_true, decide_eq_true_eq, List.mem_append]
  constructor
  · rintro (⟨a, b⟩ | ⟨a, b⟩)
    · exact ⟨a, .inl b⟩
    · exact ⟨a, .inr b⟩
  · rintro ⟨a, b | b⟩
    · exact .inl ⟨a, b⟩
    · exact .inr ⟨a, b⟩
theorem setN_lt12 (devs : List Int) {L : List Hd} (h : L.length ≤ 12) : setN devs L L.length < 4096 := by
  have h1 := setN_lt devs L L.length
  have h2 := two12 h
  omega

theorem set_plan {g : Gl} {hs : List Hd} {b : Nat} {x : PlanV} {pl : List Nat} {L : List Hd} {w : World} (hok : Ok g hs) (h : PlanOf g hs b x pl L w) (dv : Value) (devs : List Int) (hd : ReadsI w dv devs) :
    Calls Try.prog 43 #[.pointer (some ⟨b, 0, none⟩), dv] w fun e w' => e = .returned (.int .i64 ((setN devs L L.length : Nat) : Int)) ∧ Below w.heap.size w w' :=
  set_any b x.lv dv L devs w (h.plan.cell 6 (by omega)) h.list (by have := h.len; have := hok.1.2.2; omega) hd

set_option maxRecDepth 100000 in
set_option maxHeartbeats 2000000 in
theorem suffic_bad (g : Gl) (v dv : Value) (hs : List Hd) (w : World) (hg : GlAt w g) (hv : ReadsH w v hs) (hok : ¬ Ok g hs) :
    Calls Try.prog 21 #[g.v, v, dv] w fun e w' => e = .returned (.tuple #[.bool false, .int .i64 1]) ∧ Below w.heap.size w w' := by
  have cc := fun W h1 h2 => read_bad g v hs W h1 h2 hok
  obtain ⟨na, n1, nc, pa, n2, pc, sa, n3, sc, e1⟩ := hg.val
  obtain ⟨ao, n4, c4, rfl⟩ := hv.val
  rw [e1] at cc ⊢
  have CC := Lib.hid cc
  have HG := Lib.hid hg
  have HV := Lib.hid hv
  clear hg hv hok cc e1
  go_enter Try.func21, Try.ntmps21
  go_wp2_with fail
  refine (CC.out _ (HG.out.below (by (repeat' (first | (with_reducible exact Below.refl _ _) | (with_reducible assumption) | (with_reducible refine Below.alloc ?_ ?_ _) | (with_reducible refine Below.drew ?_) | (with_reducible refine below_drewN ?_ _) | (with_reducible refine Below.setCell ?_ ?_ _) | (with_reducible refine below_step ?_ (by with_reducible assumption) ?_) | go_size)))) (HV.out.below (by (repeat' (first | (with_reducible exact Below.refl _ _) | (with_reducible assumption) | (with_reducible refine Below.alloc ?_ ?_ _) | (with_reducible refine Below.drew ?_) | (with_reducible refine below_drewN ?_ _) | (with_reducible refine Below.setCell ?_ ?_ _) | (with_reducible refine below_step ?_ (by with_reducible assumption) ?_) | go_size))))).mono ?_
  rintro e w1 ⟨rfl, hb⟩
  go_wp2
  go_ret2
  exact ⟨rfl, by (repeat' (first | (with_reducible exact Below.refl _ _) | (with_reducible assumption) | (with_reducible refine Below.alloc ?_ ?_ _) | (with_reducible refine Below.drew ?_) | (with_reducible refine below_drewN ?_ _) | (with_reducible refine Below.setCell ?_ ?_ _) | (with_reducible refine below_step ?_ (by with_reducible assumption) ?_) | go_size))⟩

set_option maxRecDepth 100000 in
set_option maxHeartbeats 4000000 in
theorem suffic_ok (g : Gl) (v dv : Value) (hs : List Hd) (devs : List Int) (w : World) (hg : GlAt w g) (hv : ReadsH w v hs) (hd : ReadsI w dv devs) (hok : Ok g hs) :
    Calls Try.prog 21 #[g.v, v, dv] w fun e w' => e = .returned (.tuple #[.bool (decide (sumR g hs devs = 0)), .int .i64 0]) ∧ Below w.heap.size w w' := by
  have cc := fun W h1 h2 => read_ok g v hs W h1 h2 hok
  obtain ⟨na, n1, nc, pa, n2, pc, sa, n3, sc, e1⟩ := hg.val
  obtain ⟨ao, n4, c4, rfl⟩ := hv.val
  obtain ⟨dao, dn, dc, rfl⟩ := hd.val
  rw [e1] at cc ⊢
  have CC := Lib.hid cc
  have HG := Lib.hid hg
  have HV := Lib.hid hv
  have HD := Lib.hid hd
  have HOK := Lib.hid hok
  obtain ⟨r, hr⟩ : ∃ r, r = decide (sumR g hs devs = 0) := ⟨_, rfl⟩
  rw [← hr]
  have HR := Lib.hid hr
  clear hg hv hd hok cc e1 hr
  go_enter Try.func21, Try.ntmps21
  go_wp2_with fail
  refine (CC.out _ (HG.out.below (by (repeat' (first | (with_reducible exact Below.refl _ _) | (with_reducible assumption) | (with_reducible refine Below.alloc ?_ ?_ _) | (with_reducible refine Below.drew ?_) | (with_reducible refine below_drewN ?_ _) | (with_reducible refine Below.setCell ?_ ?_ _) | (with_reducible refine below_step ?_ (by with_reducible assumption) ?_) | go_size)))) (HV.out.below (by (repeat' (first | (with_reducible exact Below.refl _ _) | (with_reducible assumption) | (with_reducible refine Below.alloc ?_ ?_ _) | (with_reducible refine Below.drew ?_) | (with_reducible refine below_drewN ?_ _) | (with_reducible refine Below.setCell ?_ ?_ _) | (with_reducible refine below_step ?_ (by with_reducible assumption) ?_) | go_size))))).mono ?_
  rintro e w1 ⟨b, x, pl, L, rfl, hpo, hb⟩
  have hw1 : Below w.heap.size w w1 := by (repeat' (first | (with_reducible exact Below.refl _ _) | (with_reducible assumption) | (with_reducible refine Below.alloc ?_ ?_ _) | (with_reducible refine Below.drew ?_) | (with_reducible refine below_drewN ?_ _) | (with_reducible refine Below.setCell ?_ ?_ _) | (with_reducible refine below_step ?_ (by with_reducible assumption) ?_) | go_size))
  have z1 := hw1.size
  have C43 := Lib.hid (set_plan HOK.out hpo _ devs (HD.out.below hw1))
  have hs12 := setN_lt12 devs (L := L) (by have := hpo.len; have := HOK.out.1.2.2; omega)
  have C52 := fun W (hW : Below w1.heap.size w1 W) => suffices_plan (w := W) HOK.out (hpo.below hW) (setN devs L L.length) hs12
  have hsf : sufB g L (setN devs L L.length) = r := by
    rw [HR.out]
    unfold sufB
    rw [sumL_eq HOK.out hpo.permL]
  rw [hsf] at C52
  have C52 := Lib.hid C52
  clear hpo hb hsf
  generalize setN devs L L.length = k at *
  go_wp2_with fail
  refine C43.out.mono ?_
  rintro e w2 ⟨rfl, hb2⟩
  go_wp2_with fail
  refine (C52.out _ hb2).mono ?_
  rintro e w3 ⟨rfl, hb3⟩
  go_wp2
  go_ret2
  exact ⟨rfl, hw1.trans ((hb2.trans (hb3.mono hb2.size)).mono z1)⟩

theorem sumTake (nd : List Int) (j : Nat) (h : j < nd.length) : (nd.take (j + 1)).sum = (nd.take j).sum + nd[j] := by
  rw [List.take_succ_eq_append_getElem h, List.sum_append]; simp

set_option maxRecDepth 100000 in
set_option maxHeartbeats 4000000 in
/-- Sum of the reference. -/
theorem sum_ref (g : Gl) (v dv : Value) (hs : List Hd) (devs : List Int) (w : World) (hg : GlAt w g) (hv : ReadsH w v hs) (hd : ReadsI w dv devs) (hok : Ok g hs) :
    Calls Try.prog 32 #[g.v, v, dv] w fun e w' => e = .returned (.int .i64 (sumR g hs devs)) ∧ Below w.heap.size w w' := by
  have cc : ∀ W : World, GlAt W g → ReadsH W v hs → ReadsI W dv devs → Calls Try.prog 18 #[g.v, v, dv] W fun e w' => ∃ u, e = .returned (.tuple #[u, .int .i64 (shR g hs devs), .int .i64 (ixR g hs devs)]) ∧ ReadsI w' u (ndR g hs devs) ∧ Below W.heap.size W w' :=
    fun W h1 h2 h3 => lacks_any g v dv hs devs W h1 h2 h3 hok.1.1 hok.2.1.2 hok.1.2.1.1 hok.1.2.1.2 (thereS_zero devs hok)
  obtain ⟨na, n1, nc, pa, n2, pc, sa, n3, sc, e1⟩ := hg.val
  obtain ⟨ao, n4, c4, rfl⟩ := hv.val
  obtain ⟨dao, dn, dc, rfl⟩ := hd.val
  rw [e1] at cc ⊢
  have hndl : (ndR g hs devs).length ≤ 64 := by have := hok.1.1; simp [ndR]; exact this
  have hsh : 0 ≤ shR g hs devs ∧ shR g hs devs ≤ 255 := by
    have h1 := hok.1.2.1
    unfold shR
    rw [down_eq _ _ h1.1]
    omega
  have hnb : ∀ x ∈ ndR g hs devs, 0 ≤ x ∧ x ≤ 8 := fun x hx => by
    unfold ndR at hx
    obtain ⟨i, hi, rfl⟩ := List.mem_map.1 hx
    have hi := List.mem_range.1 hi
    have := hok.2.1.2 (g.ns.getD i default) (by rw [getD_at _ _ _ hi]; exact List.getElem_mem _)
    rw [down_eq _ _ (by have := this.1; omega)]
    have := this.2
    omega
  have hix : 0 ≤ ixR g hs devs ∧ ixR g hs devs ≤ 1 := by unfold ixR; split <;> omega
  have hsb : ∀ j, j ≤ (ndR g hs devs).length → 0 ≤ ((ndR g hs devs).take j).sum ∧ ((ndR g hs devs).take j).sum ≤ 8 * j := by
    intro j
    induction j with
    | zero => intro _; simp
    | succ j ih =>
      intro hj
      have h1 := ih (by omega)
      have h2 := hnb _ (List.getElem_mem (show j < (ndR g hs devs).length by omega))
      rw [sumTake _ _ (by omega)]
      omega
  have CC := Lib.hid cc
  have HG := Lib.hid hg
  have HV := Lib.hid hv
  have HD := Lib.hid hd
  have HNB := Lib.hid hnb
  have HSB := Lib.hid hsb
  obtain ⟨r, hr⟩ : ∃ r, r = sumR g hs devs := ⟨_, rfl⟩
  rw [← hr]
  unfold sumR at hr
  have HR := Lib.hid hr
  clear hg hv hd hok cc e1 hr hnb hsb
  have b0 : Below w.heap.size w (w.alloc (.cells #[.slice na n1 nc, .int .i64 g.thr, .bool g.idx, .slice pa n2 pc, .slice sa n3 sc] 37)) := (Below.refl _ _).alloc (Nat.le_refl _) _
  go_enter Try.func32, Try.ntmps32
  go_wp2_with fail
  refine (CC.out _ (HG.out.below b0) (HV.out.below b0) (HD.out.below b0)).mono ?_
  rintro e w1 ⟨u, rfl, hu, hb1⟩
  have b1 := b0.trans (hb1.mono b0.size)
  obtain ⟨ua, uc, ub, uo, rfl, hul, hum, hucell⟩ := hu.at
  have HUC := Lib.hid hucell
  clear hb1 b0 hu hucell
  generalize ndR g hs devs = nd at *
  generalize shR g hs devs = sh at *
  generalize ixR g hs devs = ix at *
  go_wp2
  go_loop [8, 10] (fun v8 v10 => ∃ j : Nat, j ≤ nd.length ∧ v10 = .int .i64 j ∧ v8 = .int .i64 (sh + (nd.take j).sum)) (fun _ v10 => nd.length - (intOf v10).toNat)
  case atStart => exact ⟨0, Nat.zero_le _, rfl, by simp⟩
  case round =>
    obtain ⟨j, hj, rfl, rfl⟩ := hrel
    have hb := HSB.out j hj
    by_cases hlt : j < nd.length
    · obtain ⟨e1, e2⟩ := HUC.out j hlt
      subst e1
      have hst := sumTake nd j hlt
      have hx := HNB.out _ (List.getElem_mem hlt)
      rw [getD_at _ _ _ hlt] at e2
      have HST := Lib.hid hst
      clear hst
      generalize (nd.take j).sum = t at *
      generalize nd[j] = y at *
      go_wp2
      go_round
      case rel => exact ⟨j + 1, by omega, by go_num, by rw [HST.out, Int.add_assoc]⟩
      case measure => simp [intOf]; omega
    · have hjl : nd.length = j := by omega
      subst hjl
      have hr := HR.out
      rw [List.take_length] at hb ⊢
      generalize nd.sum = t at *
      subst hr
      go_wp2
      go_ret
      exact ⟨rfl, b1⟩

end Go.Proofs.Ytapjgjjmlbhanaa

/- Gain, Lacking. -/
namespace Go.Proofs.Ytapjgjjmlbhanaa
open Go.RowKit Go.Lib
set_option linter.unusedSimpArgs false

theorem lit_nums (w : World) (zs : List Int) (hn : zs.length ≤ 100) : ReadsI (w.alloc (.cells (zs.map (Value.int .i64)).toArray 3)) (.slice (some ⟨w.heap.size, 0, none⟩) zs.length zs.length) zs := by
  refine ⟨some ⟨w.heap.size, 0, none⟩, zs.length, rfl, Nat.le_refl _, by omega, fun _ => ⟨w.heap.size, 0, rfl, fun i j hi hj => ?_⟩⟩
  rw [cell_of_row _ _ _ _ _ _ (heap_alloc_last w _), Nat.zero_add, Nat.mul_one]
  obtain rfl : j = 0 := by omega
  simp [List.getD, hi]

set_option maxRecDepth 100000 in
set_option maxHeartbeats 2000000 in
theorem gain_bad (g : Gl) (v dv : Value) (d : Int) (hs : List Hd) (w : World) (hg : GlAt w g) (hv : ReadsH w v hs) (hok : ¬ Ok g hs) :
    Calls Try.prog 31 #[g.v, v, dv, .int .i64 d] w fun e w' => e = .returned (.tuple #[.int .i64 0, .int .i64 1]) ∧ Below w.heap.size w w' := by
  have cc := fun W h1 h2 => read_bad g v hs W h1 h2 hok
  obtain ⟨na, n1, nc, pa, n2, pc, sa, n3, sc, e1⟩ := hg.val
  obtain ⟨ao, n4, c4, rfl⟩ := hv.val
  rw [e1] at cc ⊢
  have CC := Lib.hid cc
  have HG := Lib.hid hg
  have HV := Lib.hid hv
  clear hg hv hok cc e1
  go_enter Try.func31, Try.ntmps31
  go_wp2_with fail
  refine (CC.out _ (HG.out.below (by (repeat' (first | (with_reducible exact Below.refl _ _) | (with_reducible assumption) | (with_reducible refine Below.alloc ?_ ?_ _) | (with_reducible refine Below.drew ?_) | (with_reducible refine below_drewN ?_ _) | (with_reducible refine Below.setCell ?_ ?_ _) | (with_reducible refine below_step ?_ (by with_reducible assumption) ?_) | go_size)))) (HV.out.below (by (repeat' (first | (with_reducible exact Below.refl _ _) | (with_reducible assumption) | (with_reducible refine Below.alloc ?_ ?_ _) | (with_reducible refine Below.drew ?_) | (with_reducible refine below_drewN ?_ _) | (with_reducible refine Below.setCell ?_ ?_ _) | (with_reducible refine below_step ?_ (by with_reducible assumption) ?_) | go_size))))).mono ?_
  rintro e w1 ⟨rfl, hb⟩
  go_wp2
  go_ret2
  exact ⟨rfl, by (repeat' (first | (with_reducible exact Below.refl _ _) | (with_reducible assumption) | (with_reducible refine Below.alloc ?_ ?_ _) | (with_reducible refine Below.drew ?_) | (with_reducible refine below_drewN ?_ _) | (with_reducible refine Below.setCell ?_ ?_ _) | (with_reducible refine below_step ?_ (by with_reducible assumption) ?_) | go_size))⟩

theorem sumL_bd0 {g : Gl} {hs L : List Hd} (hok : Ok g hs) (set : Nat) : 0 ≤ sumL g L set ∧ sumL g L set ≤ 1000 := by
  unfold sumL sumS
  have h1 := lackS_bd g.thr (ofL g L set) hok.1.2.1.2
  have h2 := lackTo_bd g.ns (ofL g L set) hok.2.1.2 g.ns.length (Nat.le_refl _)
  have h3 := hok.1.1
  split <;> omega
theorem sumR_bd {g : Gl} {hs : List Hd} (hok : Ok g hs) (devs : List Int) : 0 ≤ sumR g hs devs ∧ sumR g hs devs ≤ 1000 := by
  have := sumL_bd0 (L := hs) hok (setN devs hs hs.length)
  rw [sumL_eq hok (List.Perm.refl _)] at this
  exact this

set_option maxRecDepth 100000 in
set_option maxHeartbeats 4000000 in
theorem gain_ok (g : Gl) (v dv : Value) (d : Int) (hs : List Hd) (devs : List Int) (w : World) (hg : GlAt w g) (hv : ReadsH w v hs) (hd : ReadsI w dv devs) (hok : Ok g hs) :
    Calls Try.prog 31 #[g.v, v, dv, .int .i64 d] w fun e w' => e = .returned (.tuple #[.int .i64 (sumR g hs devs - sumR g hs (devs ++ [d])), .int .i64 0]) ∧ Below w.heap.size w w' := by
  have cc := fun W h1 h2 => read_ok g v hs W h1 h2 hok
  obtain ⟨na, n1, nc, pa, n2, pc, sa, n3, sc, e1⟩ := hg.val
  obtain ⟨ao, n4, c4, rfl⟩ := hv.val
  obtain ⟨dao, dn, dc, rfl⟩ := hd.val
  rw [e1] at cc ⊢
  have CC := Lib.hid cc
  have HG := Lib.hid hg
  have HV := Lib.hid hv
  have HD := Lib.hid hd
  have HOK := Lib.hid hok
  have k1 := sumR_bd hok devs
  have k2 := sumR_bd hok (devs ++ [d])
  obtain ⟨ra, hra⟩ : ∃ ra, ra = sumR g hs devs := ⟨_, rfl⟩
  obtain ⟨rb, hrb⟩ : ∃ rb, rb = sumR g hs (devs ++ [d]) := ⟨_, rfl⟩
  rw [← hra] at k1 ⊢
  rw [← hrb] at k2 ⊢
  have HRA := Lib.hid hra
  have HRB := Lib.hid hrb
  clear hra hrb
  clear hg hv hd hok cc e1
  go_enter Try.func31, Try.ntmps31
  go_wp2_with fail
  refine (CC.out _ (HG.out.below (by (repeat' (first | (with_reducible exact Below.refl _ _) | (with_reducible assumption) | (with_reducible refine Below.alloc ?_ ?_ _) | (with_reducible refine Below.drew ?_) | (with_reducible refine below_drewN ?_ _) | (with_reducible refine Below.setCell ?_ ?_ _) | (with_reducible refine below_step ?_ (by with_reducible assumption) ?_) | go_size)))) (HV.out.below (by (repeat' (first | (with_reducible exact Below.refl _ _) | (with_reducible assumption) | (with_reducible refine Below.alloc ?_ ?_ _) | (with_reducible refine Below.drew ?_) | (with_reducible refine below_drewN ?_ _) | (with_reducible refine Below.setCell ?_ ?_ _) | (with_reducible refine below_step ?_ (by with_reducible assumption) ?_) | go_size))))).mono ?_
  rintro e w1 ⟨b, x, pl, L, rfl, hpo, hb⟩
  have hw1 : Below w.heap.size w w1 := by (repeat' (first | (with_reducible exact Below.refl _ _) | (with_reducible assumption) | (with_reducible refine Below.alloc ?_ ?_ _) | (with_reducible refine Below.drew ?_) | (with_reducible refine below_drewN ?_ _) | (with_reducible refine Below.setCell ?_ ?_ _) | (with_reducible refine below_step ?_ (by with_reducible assumption) ?_) | go_size))
  have z1 := hw1.size
  have hl12 : L.length ≤ 12 := by have := hpo.len; have := HOK.out.1.2.2; omega
  have PO := Lib.hid hpo
  have C43 := Lib.hid (set_plan HOK.out hpo _ devs (HD.out.below hw1))
  have ha := setN_lt12 devs hl12
  have hb12 := setN_lt12 [d] hl12
  have hc12 := setN_lt12 (devs ++ [d]) hl12
  have hor := orN12 _ _ ha hb12
  rw [setN_app] at hor
  have q1 : sumS g.thr g.ns (ofL g L (setN devs L L.length)) = ra := (sumL_eq HOK.out hpo.permL devs).trans HRA.out.symm
  have q2 : sumS g.thr g.ns (ofL g L (setN (devs ++ [d]) L L.length)) = rb := (sumL_eq HOK.out hpo.permL (devs ++ [d])).trans HRB.out.symm
  have C42a := fun W (hW : Below w1.heap.size w1 W) => of_plan (w := W) HOK.out (hpo.below hW) (setN devs L L.length) ha
  have C42b := fun W (hW : Below w1.heap.size w1 W) => of_plan (w := W) HOK.out (hpo.below hW) (setN (devs ++ [d]) L L.length) hc12
  have C54a := fun W (hW : Below w1.heap.size w1 W) => sum_plan (w := W) HOK.out (hpo.below hW) (ofL g L (setN devs L L.length)) (ofL_wf HOK.out hpo.permL _)
  have C54b := fun W (hW : Below w1.heap.size w1 W) => sum_plan (w := W) HOK.out (hpo.below hW) (ofL g L (setN (devs ++ [d]) L L.length)) (ofL_wf HOK.out hpo.permL _)
  have C43b := fun W (hW : Below w1.heap.size w1 W) => set_plan (w := W.alloc (.cells #[.int .i64 d] 3)) HOK.out (hpo.below (hW.alloc hW.size _)) (.slice (some ⟨W.heap.size, 0, none⟩) 1 1) [d] (lit_nums W [d] (by simp))
  rw [q1] at C54a
  rw [q2] at C54b
  have C42a := Lib.hid C42a
  have C42b := Lib.hid C42b
  have C54a := Lib.hid C54a
  have C54b := Lib.hid C54b
  have C43b := Lib.hid C43b
  clear hpo hb q1 q2
  generalize ofL g L (setN devs L L.length) = sa' at *
  generalize ofL g L (setN (devs ++ [d]) L L.length) = sb' at *
  generalize setN devs L L.length = ka at *
  generalize setN [d] L L.length = kd at *
  generalize setN (devs ++ [d]) L L.length = kb at *
  go_wp2_with fail
  refine C43.out.mono ?_
  rintro e w2 ⟨rfl, hb2⟩
  go_wp2_with fail
  refine (C42a.out _ hb2).mono ?_
  rintro e w3 ⟨rfl, hb3⟩
  have b3 := hb2.trans (hb3.mono hb2.size)
  go_wp2_with fail
  refine (C54a.out _ b3).mono ?_
  rintro e w4 ⟨rfl, hb4⟩
  have b4 := b3.trans (hb4.mono b3.size)
  clear hb2 hb3 hb4 b3
  go_wp2_with fail
  refine (C43b.out _ b4).mono ?_
  rintro e w5 ⟨rfl, hb5⟩
  have b4a : Below w1.heap.size w1 (w4.alloc (.cells #[.int .i64 d] 3)) := b4.alloc b4.size _
  have b5 := b4a.trans (hb5.mono b4a.size)
  clear hb5 b4a
  go_wp2_with fail
  refine (C42b.out _ b5).mono ?_
  rintro e w6 ⟨rfl, hb6⟩
  have b6 := b5.trans (hb6.mono b5.size)
  go_wp2_with fail
  refine (C54b.out _ b6).mono ?_
  rintro e w7 ⟨rfl, hb7⟩
  have b7 := b6.trans (hb7.mono b6.size)
  clear hb6 hb7 hor
  go_wp2
  go_ret2
  exact ⟨rfl, hw1.trans (b7.mono z1)⟩

end Go.Proofs.Ytapjgjjmlbhanaa

/- A row that came in, appended to one of the call's own; more devices never lack more. -/
namespace Go.Proofs.Ytapjgjjmlbhanaa
open Go.RowKit Go.Lib

theorem run_append_nilsrc {w : World} {base : Nat} {t ty e : TypeId} {i : TypeInfo} {size : Nat} (ht : Try.prog.underlying t = some (.slice e)) (hi : Try.prog.info? e = some i)
    {v : Value} {n : Nat} {xs : List Value} (hown : w.ownsRow base e size v n xs) (c : Nat) : (Builtin.append_ #[t, t] ty #[v, .slice none 0 c]).run Try.prog w = .ok v w := by
  rcases hown.2 with ⟨rfl, rfl⟩ | ⟨g, cap, cur, rfl, _, _, hnc, _⟩
  · simp [Builtin.append_, run_underlying ht, sizeOf, typeInfo, hi, Builtin.lenOf, Builtin.firstCells]
  · simp [Builtin.append_, run_underlying ht, sizeOf, typeInfo, hi, Builtin.lenOf, Builtin.firstCells, hnc, storeCells]

/-- A row that came in, appended. -/
theorem Own.appendR {t e : TypeId} {z : Value} {k bytes : Nat} (ht : Try.prog.underlying t = some (.slice e)) (hinfo : (Try.prog.info? e).map (fun i => (i.zero, i.size, i.bytes)) = some (some z, k, bytes)) (hz : z.cells.size = k) (hk : 0 < k) (hby : bytes ≤ 1000)
    {V : World} {base : Nat} {v u : Value} {n m : Nat} {f q : Nat → Nat → Value} (h : Own V base e v k n f) (ty : TypeId) (hsrc : RowAt V u k m q) (hf : ∀ i j, i < m → j < k → f (n + i) j = q i j) (h1 : ∀ i j, (q i j).oneCell' = true) (hn : n ≤ 1000000000) (hm : m ≤ 1000000000) (hbase : base ≤ V.heap.size) :
    ∃ v' w', (Builtin.append_ #[t, t] ty #[v, u]).run Try.prog V = .ok v' w' ∧ Own w' base e v' k (n + m) f ∧ Below base V w' ∧ (∀ b, b < V.heap.size → v.ownBlock ≠ some b → w'.heap[b]? = V.heap[b]?) := by
  obtain ⟨i0, hi, hz0, hz1, hz2⟩ := info_parts hinfo
  obtain ⟨xs, hown, hxs⟩ := h
  obtain ⟨ao, c, rfl, hmc, _, hcell⟩ := hsrc
  by_cases hm0 : m = 0
  · subst hm0
    rcases ao with _ | ad
    · exact ⟨v, V, run_append_nilsrc ht hi hown c, ⟨xs, hown, hxs⟩, Below.refl _ _, fun _ _ _ => rfl⟩
    · obtain ⟨v', w', r, o1, o2, _, _⟩ := run_append_own_at (P := Try.prog) V base t ty e i0 z k bytes ht hi hz0 hz1 hz2 hz hk v _ _ hown ad 0 c [] (by simp) (fun j x hj => by simp at hj) (by simp) (by unfold maxLen; omega) (by
        have := Nat.mul_le_mul (show n + 0 ≤ 1000000000 by omega) hby
        omega) hbase
      rw [List.append_nil] at o1
      exact ⟨v', w', r, ⟨xs, o1, hxs⟩, ⟨o2.os, o2.tape, o2.output, o2.size, fun i hi => o2.block i (by omega) (fun e => by have := (hown.lt i e.symm).1; omega)⟩, fun b hb hn' => o2.block b hb (fun e => hn' e.symm)⟩
  · obtain ⟨b, off, rfl, hc⟩ := hcell (by omega)
    have hnl : ((List.range (m * k)).map fun c => q (c / k) (c % k)).length = m * k := by simp
    have hbb : (n + m) * bytes ≤ 140737488355328 := by
      have := Nat.mul_le_mul (show n + m ≤ 2000000000 by omega) hby
      omega
    obtain ⟨v', w', r, o1, o2, _, _⟩ := run_append_own_at (P := Try.prog) V base t ty e i0 z k bytes ht hi hz0 hz1 hz2 hz hk v _ _ hown ⟨b, off, none⟩ m c ((List.range (m * k)).map fun c => q (c / k) (c % k)) hnl (by
      intro j x hj
      have hjl : j < m * k := by have := (List.getElem?_eq_some_iff.1 hj).1; rw [hnl] at this; exact this
      have hadd : (⟨b, off, none⟩ : Addr).add j = ⟨b, off + j, none⟩ := by unfold Addr.add; split <;> simp_all
      have h1' : j / k < m := Nat.div_lt_of_lt_mul (by rw [Nat.mul_comm]; exact hjl)
      have h2' : j % k < k := Nat.mod_lt _ hk
      have := hc (j / k) (j % k) h1' h2'
      have hjk : j / k * k + j % k = j := by have := Nat.div_add_mod j k; rw [Nat.mul_comm] at this; exact this
      rw [hadd, show off + j = off + j / k * k + j % k by omega, this]
      simp [hjl] at hj
      rw [hj]) (by
      intro x hx
      obtain ⟨j, _, rfl⟩ := List.mem_map.1 hx
      exact h1 _ _) (by unfold maxLen; omega) hbb hbase
    have hlen := hown.1
    refine ⟨v', w', r, ⟨xs ++ (List.range (m * k)).map fun c => q (c / k) (c % k), o1, fun i j hi' hj => ?_⟩, ⟨o2.os, o2.tape, o2.output, o2.size, fun i hi => o2.block i (by omega) (fun e => by have := (hown.lt i e.symm).1; omega)⟩, fun b hb hn' => o2.block b hb (fun e => hn' e.symm)⟩
    by_cases hin : i < n
    · have hlt : i * k + j < n * k := by
        have : (i + 1) * k ≤ n * k := Nat.mul_le_mul_right k hin
        rw [Nat.add_mul] at this
        omega
      rw [List.getElem?_append_left (by omega)]
      exact hxs i j hin hj
    · obtain ⟨i', rfl⟩ : ∃ i', i = n + i' := ⟨i - n, by omega⟩
      have hi2 : i' < m := by omega
      have hlt : i' * k + j < m * k := by
        have : (i' + 1) * k ≤ m * k := Nat.mul_le_mul_right k hi2
        rw [Nat.add_mul] at this
        omega
      rw [List.getElem?_append_right (by rw [hlen, Nat.add_mul]; omega), hlen, show (n + i') * k + j - n * k = i' * k + j by rw [Nat.add_mul]; omega, List.getElem?_map, List.getElem?_range hlt]
      have d1 : (i' * k + j) / k = i' := by rw [Nat.mul_comm, Nat.mul_add_div hk, Nat.div_eq_of_lt hj, Nat.add_zero]
      have d2 : (i' * k + j) % k = j := by rw [Nat.mul_comm, Nat.mul_add_mod, Nat.mod_eq_of_lt hj]
      simp only [Option.map_some, d1, d2]
      rw [hf i' j hi2 hj]

theorem OwnI.appendR {V : World} {base : Nat} {v u : Value} {ds es : List Int} (h : OwnI V base v ds) (hu : ReadsI V u es) (hn : ds.length ≤ 1000000000) (hm : es.length ≤ 1000000000) (hbase : base ≤ V.heap.size) :
    ∃ v' w', (Builtin.append_ #[24, 24] 24 #[v, u]).run Try.prog V = .ok v' w' ∧ OwnI w' base v' (ds ++ es) ∧ Below base V w' ∧ (∀ b, b < V.heap.size → v.ownBlock ≠ some b → w'.heap[b]? = V.heap[b]?) := by
  have h' : Own V base 3 v 1 ds.length fun i _ => .int .i64 ((ds ++ es).getD i 0) := Own.congr h fun i j hi hj => by rw [getD_at _ _ _ hi, getD_at _ _ _ (by rw [List.length_append]; omega), List.getElem_append_left hi]
  obtain ⟨v', w', r, o1, o2, o3⟩ := Own.appendR (t := 24) (e := 3) (z := .int .i64 0) (k := 1) (bytes := 8) Try.underlying24 (by kernel_rfl) rfl (by omega) (by omega) h' 24 hu (fun i j hi hj => by
    rw [getD_at _ _ _ (by rw [List.length_append]; omega), List.getElem_append_right (by omega), getD_at _ _ _ hi]
    simp) (fun _ _ => rfl) hn hm hbase
  refine ⟨v', w', r, ?_, o2, o3⟩
  unfold OwnI
  rw [List.length_append]
  exact o1

/-- More devices never lack more. -/
theorem countP_le {p q : Nat → Bool} (h : ∀ i, p i = true → q i = true) (n : Nat) : (List.range n).countP p ≤ (List.range n).countP q := List.countP_mono_left fun i _ hi => h i hi
theorem sum_le (f h : Nat → Int) : ∀ n, (∀ i, i < n → f i ≤ h i) → ((List.range n).map f).sum ≤ ((List.range n).map h).sum
  | 0, _ => by simp
  | n + 1, hle => by
    have := sum_le f h n (fun i hi => hle i (by omega))
    have := hle n (by omega)
    rw [List.range_succ, List.map_append, List.map_append, List.sum_append, List.sum_append]
    simp
    omega
theorem any_mono {hs : List Hd} {devs es : List Int} (h : ∀ x ∈ devs, x ∈ es) (q : Hd → Bool) (ha : (hs.any fun x => decide (x.dev ∈ devs) && q x) = true) : (hs.any fun x => decide (x.dev ∈ es) && q x) = true := by
  rw [List.any_eq_true] at ha ⊢
  obtain ⟨x, hx, hq⟩ := ha
  rw [Bool.and_eq_true, decide_eq_true_eq] at hq
  exact ⟨x, hx, by rw [Bool.and_eq_true, decide_eq_true_eq]; exact ⟨h _ hq.1, hq.2⟩⟩
theorem sumR_anti {g : Gl} {hs : List Hd} (hok : Ok g hs) {devs es : List Int} (h : ∀ x ∈ devs, x ∈ es) : sumR g hs es ≤ sumR g hs devs := by
  have hS : ∀ x : Int, thereS g hs devs x = true → thereS g hs es x = true := fun x hx => by
    unfold thereS at hx ⊢
    rw [Bool.or_eq_true] at hx ⊢
    exact hx.imp id (any_mono h _)
  have hP : ∀ i k : Nat, thereP g hs devs i k = true → thereP g hs es i k = true := fun i k hx => by
    unfold thereP at hx ⊢
    rw [Bool.or_eq_true] at hx ⊢
    exact hx.imp id (any_mono h _)
  have hI : thereI g hs devs = true → thereI g hs es = true := fun hx => by
    unfold thereI at hx ⊢
    rw [Bool.or_eq_true] at hx ⊢
    exact hx.imp id (any_mono h _)
  have h1 : shR g hs es ≤ shR g hs devs := by
    unfold shR
    rw [down_eq _ _ hok.1.2.1.1, down_eq _ _ hok.1.2.1.1]
    have := countP_le (p := fun x : Nat => thereS g hs devs (x : Int)) (q := fun x : Nat => thereS g hs es (x : Int)) (fun i hi => hS i hi) 256
    omega
  have h2 : (ndR g hs es).sum ≤ (ndR g hs devs).sum := by
    unfold ndR
    refine sum_le _ _ _ fun i hi => ?_
    have hnd := hok.2.1.2 (g.ns.getD i default) (by rw [getD_at _ _ _ hi]; exact List.getElem_mem _)
    rw [down_eq _ _ (by have := hnd.1; omega), down_eq _ _ (by have := hnd.1; omega)]
    have := countP_le (p := thereP g hs devs i) (q := thereP g hs es i) (hP i) 16
    omega
  have h3 : ixR g hs es ≤ ixR g hs devs := by
    unfold ixR
    by_cases a : thereI g hs devs = true
    · rw [if_pos a, if_pos (hI a)]; omega
    · rw [if_neg a]; split <;> omega
  unfold sumR
  omega
theorem sumR_same {g : Gl} {hs : List Hd} (hok : Ok g hs) {devs es : List Int} (h : ∀ x, x ∈ devs ↔ x ∈ es) : sumR g hs es = sumR g hs devs :=
  Int.le_antisymm (sumR_anti hok fun x hx => (h x).1 hx) (sumR_anti hok fun x hx => (h x).2 hx)

end Go.Proofs.Ytapjgjjmlbhanaa
