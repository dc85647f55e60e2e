/- Sufficient, Gain, Sum: the sum of what lacks. -/
import Derived.Test.YtapjgjjmlbhanaaL0
import Derived.Test.YtapjgjjmlbhanaaH3
namespace Go.Proofs.Ytapjgjjmlbhanaa
open Go.RowKit Go.Lib

/-- All that lacks, by the reference. -/
def sumR (g : Gl) (hs : List Hd) (devs : List Int) : Int := shR g hs devs + (ndR g hs devs).sum + ixR g hs devs

theorem lackTo_sum (ns : List Nd) (s : Sup) : ∀ n, lackTo ns s n = ((List.range n).map fun i => lackN (ns.getD i default).d (s.pc i)).sum
  | 0 => rfl
  | n + 1 => by
    rw [lackTo, lackTo_sum ns s n, List.range_succ, List.map_append, List.sum_append]
    simp
section
variable {g : Gl} {hs L : List Hd} {devs : List Int} (hok : Ok g hs) (hp : L.Perm hs)
include hok hp
theorem sumD_eq (devs : List Int) : sumS g.thr g.ns (supD g L devs) = sumR g hs devs := by
  unfold sumS sumR
  rw [lackS_eq hok hp, lackTo_sum]
  have h1 : ((List.range g.ns.length).map fun i => lackN (g.ns.getD i default).d ((supD g L devs).pc i)) = ndR g hs devs := by
    unfold ndR
    refine List.map_congr_left fun i hi => ?_
    rw [lackN_eq hok hp i (List.mem_range.1 hi)]
  have h2 : (if (supD g L devs).ix = true then (0 : Int) else 1) = ixR g hs devs := by
    unfold ixR
    rw [supD_ix hp]
  rw [h1, h2]
  rfl
end
theorem ofL_set (g : Gl) (L : List Hd) (devs : List Int) : ofL g L (setN devs L L.length) = supD g L devs := rfl
theorem sumL_eq {g : Gl} {hs L : List Hd} (hok : Ok g hs) (hp : L.Perm hs) (devs : List Int) : sumL g L (setN devs L L.length) = sumR g hs devs := by
  unfold sumL
  rw [ofL_set, sumD_eq hok hp]
theorem setN_app (devs es : List Int) (L : List Hd) (n : Nat) : setN devs L n ||| setN es L n = setN (devs ++ es) L n := by
  refine Nat.eq_of_testBit_eq fun m => ?_
  rw [Nat.testBit_or, setN_bit, setN_bit, setN_bit, Bool.eq_iff_iff]
  simp only [Bool.or_eq_true, decide_eq_true_eq, List.mem_append]
  constructor
  · rintro (⟨a, b⟩ | ⟨a, b⟩)
    · exact ⟨a, .inl b⟩
    · exact ⟨a, .inr b⟩
  · rintro ⟨a, b | b⟩
    · exact .inl ⟨a, b⟩
    · exact .inr ⟨a, b⟩
theorem setN_lt12 (devs : List Int) {L : List Hd} (h : L.length ≤ 12) : setN devs L L.length < 4096 := by
  have h1 := setN_lt devs L L.length
  have h2 := two12 h
  omega

theorem set_plan {g : Gl} {hs : List Hd} {b : Nat} {x : PlanV} {pl : List Nat} {L : List Hd} {w : World} (hok : Ok g hs) (h : PlanOf g hs b x pl L w) (dv : Value) (devs : List Int) (hd : ReadsI w dv devs) :
    Calls Try.prog 43 #[.pointer (some ⟨b, 0, none⟩), dv] w fun e w' => e = .returned (.int .i64 ((setN devs L L.length : Nat) : Int)) ∧ Below w.heap.size w w' :=
  set_any b x.lv dv L devs w (h.plan.cell 6 (by omega)) h.list (by have := h.len; have := hok.1.2.2; omega) hd

set_option maxRecDepth 100000 in
set_option maxHeartbeats 2000000 in
theorem suffic_bad (g : Gl) (v dv : Value) (hs : List Hd) (w : World) (hg : GlAt w g) (hv : ReadsH w v hs) (hok : ¬ Ok g hs) :
    Calls Try.prog 21 #[g.v, v, dv] w fun e w' => e = .returned (.tuple #[.bool false, .int .i64 1]) ∧ Below w.heap.size w w' := by
  have cc := fun W h1 h2 => read_bad g v hs W h1 h2 hok
  obtain ⟨na, n1, nc, pa, n2, pc, sa, n3, sc, e1⟩ := hg.val
  obtain ⟨ao, n4, c4, rfl⟩ := hv.val
  rw [e1] at cc ⊢
  have CC := Lib.hid cc
  have HG := Lib.hid hg
  have HV := Lib.hid hv
  clear hg hv hok cc e1
  go_enter Try.func21, Try.ntmps21
  go_wp2_with fail
  refine (CC.out _ (HG.out.below (by (repeat' (first | (with_reducible exact Below.refl _ _) | (with_reducible assumption) | (with_reducible refine Below.alloc ?_ ?_ _) | (with_reducible refine Below.drew ?_) | (with_reducible refine below_drewN ?_ _) | (with_reducible refine Below.setCell ?_ ?_ _) | (with_reducible refine below_step ?_ (by with_reducible assumption) ?_) | go_size)))) (HV.out.below (by (repeat' (first | (with_reducible exact Below.refl _ _) | (with_reducible assumption) | (with_reducible refine Below.alloc ?_ ?_ _) | (with_reducible refine Below.drew ?_) | (with_reducible refine below_drewN ?_ _) | (with_reducible refine Below.setCell ?_ ?_ _) | (with_reducible refine below_step ?_ (by with_reducible assumption) ?_) | go_size))))).mono ?_
  rintro e w1 ⟨rfl, hb⟩
  go_wp2
  go_ret2
  exact ⟨rfl, by (repeat' (first | (with_reducible exact Below.refl _ _) | (with_reducible assumption) | (with_reducible refine Below.alloc ?_ ?_ _) | (with_reducible refine Below.drew ?_) | (with_reducible refine below_drewN ?_ _) | (with_reducible refine Below.setCell ?_ ?_ _) | (with_reducible refine below_step ?_ (by with_reducible assumption) ?_) | go_size))⟩

set_option maxRecDepth 100000 in
set_option maxHeartbeats 4000000 in
theorem suffic_ok (g : Gl) (v dv : Value) (hs : List Hd) (devs : List Int) (w : World) (hg : GlAt w g) (hv : ReadsH w v hs) (hd : ReadsI w dv devs) (hok : Ok g hs) :
    Calls Try.prog 21 #[g.v, v, dv] w fun e w' => e = .returned (.tuple #[.bool (decide (sumR g hs devs = 0)), .int .i64 0]) ∧ Below w.heap.size w w' := by
  have cc := fun W h1 h2 => read_ok g v hs W h1 h2 hok
  obtain ⟨na, n1, nc, pa, n2, pc, sa, n3, sc, e1⟩ := hg.val
  obtain ⟨ao, n4, c4, rfl⟩ := hv.val
  obtain ⟨dao, dn, dc, rfl⟩ := hd.val
  rw [e1] at cc ⊢
  have CC := Lib.hid cc
  have HG := Lib.hid hg
  have HV := Lib.hid hv
  have HD := Lib.hid hd
  have HOK := Lib.hid hok
  obtain ⟨r, hr⟩ : ∃ r, r = decide (sumR g hs devs = 0) := ⟨_, rfl⟩
  rw [← hr]
  have HR := Lib.hid hr
  clear hg hv hd hok cc e1 hr
  go_enter Try.func21, Try.ntmps21
  go_wp2_with fail
  refine (CC.out _ (HG.out.below (by (repeat' (first | (with_reducible exact Below.refl _ _) | (with_reducible assumption) | (with_reducible refine Below.alloc ?_ ?_ _) | (with_reducible refine Below.drew ?_) | (with_reducible refine below_drewN ?_ _) | (with_reducible refine Below.setCell ?_ ?_ _) | (with_reducible refine below_step ?_ (by with_reducible assumption) ?_) | go_size)))) (HV.out.below (by (repeat' (first | (with_reducible exact Below.refl _ _) | (with_reducible assumption) | (with_reducible refine Below.alloc ?_ ?_ _) | (with_reducible refine Below.drew ?_) | (with_reducible refine below_drewN ?_ _) | (with_reducible refine Below.setCell ?_ ?_ _) | (with_reducible refine below_step ?_ (by with_reducible assumption) ?_) | go_size))))).mono ?_
  rintro e w1 ⟨b, x, pl, L, rfl, hpo, hb⟩
  have hw1 : Below w.heap.size w w1 := by (repeat' (first | (with_reducible exact Below.refl _ _) | (with_reducible assumption) | (with_reducible refine Below.alloc ?_ ?_ _) | (with_reducible refine Below.drew ?_) | (with_reducible refine below_drewN ?_ _) | (with_reducible refine Below.setCell ?_ ?_ _) | (with_reducible refine below_step ?_ (by with_reducible assumption) ?_) | go_size))
  have z1 := hw1.size
  have C43 := Lib.hid (set_plan HOK.out hpo _ devs (HD.out.below hw1))
  have hs12 := setN_lt12 devs (L := L) (by have := hpo.len; have := HOK.out.1.2.2; omega)
  have C52 := fun W (hW : Below w1.heap.size w1 W) => suffices_plan (w := W) HOK.out (hpo.below hW) (setN devs L L.length) hs12
  have hsf : sufB g L (setN devs L L.length) = r := by
    rw [HR.out]
    unfold sufB
    rw [sumL_eq HOK.out hpo.permL]
  rw [hsf] at C52
  have C52 := Lib.hid C52
  clear hpo hb hsf
  generalize setN devs L L.length = k at *
  go_wp2_with fail
  refine C43.out.mono ?_
  rintro e w2 ⟨rfl, hb2⟩
  go_wp2_with fail
  refine (C52.out _ hb2).mono ?_
  rintro e w3 ⟨rfl, hb3⟩
  go_wp2
  go_ret2
  exact ⟨rfl, hw1.trans ((hb2.trans (hb3.mono hb2.size)).mono z1)⟩

theorem sumTake (nd : List Int) (j : Nat) (h : j < nd.length) : (nd.take (j + 1)).sum = (nd.take j).sum + nd[j] := by
  rw [List.take_succ_eq_append_getElem h, List.sum_append]; simp

set_option maxRecDepth 100000 in
set_option maxHeartbeats 4000000 in
/-- Sum of the reference. -/
theorem sum_ref (g : Gl) (v dv : Value) (hs : List Hd) (devs : List Int) (w : World) (hg : GlAt w g) (hv : ReadsH w v hs) (hd : ReadsI w dv devs) (hok : Ok g hs) :
    Calls Try.prog 32 #[g.v, v, dv] w fun e w' => e = .returned (.int .i64 (sumR g hs devs)) ∧ Below w.heap.size w w' := by
  have cc : ∀ W : World, GlAt W g → ReadsH W v hs → ReadsI W dv devs → Calls Try.prog 18 #[g.v, v, dv] W fun e w' => ∃ u, e = .returned (.tuple #[u, .int .i64 (shR g hs devs), .int .i64 (ixR g hs devs)]) ∧ ReadsI w' u (ndR g hs devs) ∧ Below W.heap.size W w' :=
    fun W h1 h2 h3 => lacks_any g v dv hs devs W h1 h2 h3 hok.1.1 hok.2.1.2 hok.1.2.1.1 hok.1.2.1.2 (thereS_zero devs hok)
  obtain ⟨na, n1, nc, pa, n2, pc, sa, n3, sc, e1⟩ := hg.val
  obtain ⟨ao, n4, c4, rfl⟩ := hv.val
  obtain ⟨dao, dn, dc, rfl⟩ := hd.val
  rw [e1] at cc ⊢
  have hndl : (ndR g hs devs).length ≤ 64 := by have := hok.1.1; simp [ndR]; exact this
  have hsh : 0 ≤ shR g hs devs ∧ shR g hs devs ≤ 255 := by
    have h1 := hok.1.2.1
    unfold shR
    rw [down_eq _ _ h1.1]
    omega
  have hnb : ∀ x ∈ ndR g hs devs, 0 ≤ x ∧ x ≤ 8 := fun x hx => by
    unfold ndR at hx
    obtain ⟨i, hi, rfl⟩ := List.mem_map.1 hx
    have hi := List.mem_range.1 hi
    have := hok.2.1.2 (g.ns.getD i default) (by rw [getD_at _ _ _ hi]; exact List.getElem_mem _)
    rw [down_eq _ _ (by have := this.1; omega)]
    have := this.2
    omega
  have hix : 0 ≤ ixR g hs devs ∧ ixR g hs devs ≤ 1 := by unfold ixR; split <;> omega
  have hsb : ∀ j, j ≤ (ndR g hs devs).length → 0 ≤ ((ndR g hs devs).take j).sum ∧ ((ndR g hs devs).take j).sum ≤ 8 * j := by
    intro j
    induction j with
    | zero => intro _; simp
    | succ j ih =>
      intro hj
      have h1 := ih (by omega)
      have h2 := hnb _ (List.getElem_mem (show j < (ndR g hs devs).length by omega))
      rw [sumTake _ _ (by omega)]
      omega
  have CC := Lib.hid cc
  have HG := Lib.hid hg
  have HV := Lib.hid hv
  have HD := Lib.hid hd
  have HNB := Lib.hid hnb
  have HSB := Lib.hid hsb
  obtain ⟨r, hr⟩ : ∃ r, r = sumR g hs devs := ⟨_, rfl⟩
  rw [← hr]
  unfold sumR at hr
  have HR := Lib.hid hr
  clear hg hv hd hok cc e1 hr hnb hsb
  have b0 : Below w.heap.size w (w.alloc (.cells #[.slice na n1 nc, .int .i64 g.thr, .bool g.idx, .slice pa n2 pc, .slice sa n3 sc] 37)) := (Below.refl _ _).alloc (Nat.le_refl _) _
  go_enter Try.func32, Try.ntmps32
  go_wp2_with fail
  refine (CC.out _ (HG.out.below b0) (HV.out.below b0) (HD.out.below b0)).mono ?_
  rintro e w1 ⟨u, rfl, hu, hb1⟩
  have b1 := b0.trans (hb1.mono b0.size)
  obtain ⟨ua, uc, ub, uo, rfl, hul, hum, hucell⟩ := hu.at
  have HUC := Lib.hid hucell
  clear hb1 b0 hu hucell
  generalize ndR g hs devs = nd at *
  generalize shR g hs devs = sh at *
  generalize ixR g hs devs = ix at *
  go_wp2
  go_loop [8, 10] (fun v8 v10 => ∃ j : Nat, j ≤ nd.length ∧ v10 = .int .i64 j ∧ v8 = .int .i64 (sh + (nd.take j).sum)) (fun _ v10 => nd.length - (intOf v10).toNat)
  case atStart => exact ⟨0, Nat.zero_le _, rfl, by simp⟩
  case round =>
    obtain ⟨j, hj, rfl, rfl⟩ := hrel
    have hb := HSB.out j hj
    by_cases hlt : j < nd.length
    · obtain ⟨e1, e2⟩ := HUC.out j hlt
      subst e1
      have hst := sumTake nd j hlt
      have hx := HNB.out _ (List.getElem_mem hlt)
      rw [getD_at _ _ _ hlt] at e2
      have HST := Lib.hid hst
      clear hst
      generalize (nd.take j).sum = t at *
      generalize nd[j] = y at *
      go_wp2
      go_round
      case rel => exact ⟨j + 1, by omega, by go_num, by rw [HST.out, Int.add_assoc]⟩
      case measure => simp [intOf]; omega
    · have hjl : nd.length = j := by omega
      subst hjl
      have hr := HR.out
      rw [List.take_length] at hb ⊢
      generalize nd.sum = t at *
      subst hr
      go_wp2
      go_ret
      exact ⟨rfl, b1⟩

end Go.Proofs.Ytapjgjjmlbhanaa
