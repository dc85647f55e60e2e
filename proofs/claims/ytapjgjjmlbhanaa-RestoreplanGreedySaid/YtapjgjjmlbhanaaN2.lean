/- Gain, Lacking. -/
import Derived.Test.YtapjgjjmlbhanaaN1
import Derived.Test.YtapjgjjmlbhanaaH6
import Derived.Test.YtapjgjjmlbhanaaJ2
namespace Go.Proofs.Ytapjgjjmlbhanaa
open Go.RowKit Go.Lib
set_option linter.unusedSimpArgs false

theorem lit_nums (w : World) (zs : List Int) (hn : zs.length ≤ 100) : ReadsI (w.alloc (.cells (zs.map (Value.int .i64)).toArray 3)) (.slice (some ⟨w.heap.size, 0, none⟩) zs.length zs.length) zs := by
  refine ⟨some ⟨w.heap.size, 0, none⟩, zs.length, rfl, Nat.le_refl _, by omega, fun _ => ⟨w.heap.size, 0, rfl, fun i j hi hj => ?_⟩⟩
  rw [cell_of_row _ _ _ _ _ _ (heap_alloc_last w _), Nat.zero_add, Nat.mul_one]
  obtain rfl : j = 0 := by omega
  simp [List.getD, hi]

set_option maxRecDepth 100000 in
set_option maxHeartbeats 2000000 in
theorem gain_bad (g : Gl) (v dv : Value) (d : Int) (hs : List Hd) (w : World) (hg : GlAt w g) (hv : ReadsH w v hs) (hok : ¬ Ok g hs) :
    Calls Try.prog 31 #[g.v, v, dv, .int .i64 d] w fun e w' => e = .returned (.tuple #[.int .i64 0, .int .i64 1]) ∧ Below w.heap.size w w' := by
  have cc := fun W h1 h2 => read_bad g v hs W h1 h2 hok
  obtain ⟨na, n1, nc, pa, n2, pc, sa, n3, sc, e1⟩ := hg.val
  obtain ⟨ao, n4, c4, rfl⟩ := hv.val
  rw [e1] at cc ⊢
  have CC := Lib.hid cc
  have HG := Lib.hid hg
  have HV := Lib.hid hv
  clear hg hv hok cc e1
  go_enter Try.func31, Try.ntmps31
  go_wp2_with fail
  refine (CC.out _ (HG.out.below (by (repeat' (first | (with_reducible exact Below.refl _ _) | (with_reducible assumption) | (with_reducible refine Below.alloc ?_ ?_ _) | (with_reducible refine Below.drew ?_) | (with_reducible refine below_drewN ?_ _) | (with_reducible refine Below.setCell ?_ ?_ _) | (with_reducible refine below_step ?_ (by with_reducible assumption) ?_) | go_size)))) (HV.out.below (by (repeat' (first | (with_reducible exact Below.refl _ _) | (with_reducible assumption) | (with_reducible refine Below.alloc ?_ ?_ _) | (with_reducible refine Below.drew ?_) | (with_reducible refine below_drewN ?_ _) | (with_reducible refine Below.setCell ?_ ?_ _) | (with_reducible refine below_step ?_ (by with_reducible assumption) ?_) | go_size))))).mono ?_
  rintro e w1 ⟨rfl, hb⟩
  go_wp2
  go_ret2
  exact ⟨rfl, by (repeat' (first | (with_reducible exact Below.refl _ _) | (with_reducible assumption) | (with_reducible refine Below.alloc ?_ ?_ _) | (with_reducible refine Below.drew ?_) | (with_reducible refine below_drewN ?_ _) | (with_reducible refine Below.setCell ?_ ?_ _) | (with_reducible refine below_step ?_ (by with_reducible assumption) ?_) | go_size))⟩

theorem sumL_bd0 {g : Gl} {hs L : List Hd} (hok : Ok g hs) (set : Nat) : 0 ≤ sumL g L set ∧ sumL g L set ≤ 1000 := by
  unfold sumL sumS
  have h1 := lackS_bd g.thr (ofL g L set) hok.1.2.1.2
  have h2 := lackTo_bd g.ns (ofL g L set) hok.2.1.2 g.ns.length (Nat.le_refl _)
  have h3 := hok.1.1
  split <;> omega
theorem sumR_bd {g : Gl} {hs : List Hd} (hok : Ok g hs) (devs : List Int) : 0 ≤ sumR g hs devs ∧ sumR g hs devs ≤ 1000 := by
  have := sumL_bd0 (L := hs) hok (setN devs hs hs.length)
  rw [sumL_eq hok (List.Perm.refl _)] at this
  exact this

set_option maxRecDepth 100000 in
set_option maxHeartbeats 4000000 in
theorem gain_ok (g : Gl) (v dv : Value) (d : Int) (hs : List Hd) (devs : List Int) (w : World) (hg : GlAt w g) (hv : ReadsH w v hs) (hd : ReadsI w dv devs) (hok : Ok g hs) :
    Calls Try.prog 31 #[g.v, v, dv, .int .i64 d] w fun e w' => e = .returned (.tuple #[.int .i64 (sumR g hs devs - sumR g hs (devs ++ [d])), .int .i64 0]) ∧ Below w.heap.size w w' := by
  have cc := fun W h1 h2 => read_ok g v hs W h1 h2 hok
  obtain ⟨na, n1, nc, pa, n2, pc, sa, n3, sc, e1⟩ := hg.val
  obtain ⟨ao, n4, c4, rfl⟩ := hv.val
  obtain ⟨dao, dn, dc, rfl⟩ := hd.val
  rw [e1] at cc ⊢
  have CC := Lib.hid cc
  have HG := Lib.hid hg
  have HV := Lib.hid hv
  have HD := Lib.hid hd
  have HOK := Lib.hid hok
  have k1 := sumR_bd hok devs
  have k2 := sumR_bd hok (devs ++ [d])
  obtain ⟨ra, hra⟩ : ∃ ra, ra = sumR g hs devs := ⟨_, rfl⟩
  obtain ⟨rb, hrb⟩ : ∃ rb, rb = sumR g hs (devs ++ [d]) := ⟨_, rfl⟩
  rw [← hra] at k1 ⊢
  rw [← hrb] at k2 ⊢
  have HRA := Lib.hid hra
  have HRB := Lib.hid hrb
  clear hra hrb
  clear hg hv hd hok cc e1
  go_enter Try.func31, Try.ntmps31
  go_wp2_with fail
  refine (CC.out _ (HG.out.below (by (repeat' (first | (with_reducible exact Below.refl _ _) | (with_reducible assumption) | (with_reducible refine Below.alloc ?_ ?_ _) | (with_reducible refine Below.drew ?_) | (with_reducible refine below_drewN ?_ _) | (with_reducible refine Below.setCell ?_ ?_ _) | (with_reducible refine below_step ?_ (by with_reducible assumption) ?_) | go_size)))) (HV.out.below (by (repeat' (first | (with_reducible exact Below.refl _ _) | (with_reducible assumption) | (with_reducible refine Below.alloc ?_ ?_ _) | (with_reducible refine Below.drew ?_) | (with_reducible refine below_drewN ?_ _) | (with_reducible refine Below.setCell ?_ ?_ _) | (with_reducible refine below_step ?_ (by with_reducible assumption) ?_) | go_size))))).mono ?_
  rintro e w1 ⟨b, x, pl, L, rfl, hpo, hb⟩
  have hw1 : Below w.heap.size w w1 := by (repeat' (first | (with_reducible exact Below.refl _ _) | (with_reducible assumption) | (with_reducible refine Below.alloc ?_ ?_ _) | (with_reducible refine Below.drew ?_) | (with_reducible refine below_drewN ?_ _) | (with_reducible refine Below.setCell ?_ ?_ _) | (with_reducible refine below_step ?_ (by with_reducible assumption) ?_) | go_size))
  have z1 := hw1.size
  have hl12 : L.length ≤ 12 := by have := hpo.len; have := HOK.out.1.2.2; omega
  have PO := Lib.hid hpo
  have C43 := Lib.hid (set_plan HOK.out hpo _ devs (HD.out.below hw1))
  have ha := setN_lt12 devs hl12
  have hb12 := setN_lt12 [d] hl12
  have hc12 := setN_lt12 (devs ++ [d]) hl12
  have hor := orN12 _ _ ha hb12
  rw [setN_app] at hor
  have q1 : sumS g.thr g.ns (ofL g L (setN devs L L.length)) = ra := (sumL_eq HOK.out hpo.permL devs).trans HRA.out.symm
  have q2 : sumS g.thr g.ns (ofL g L (setN (devs ++ [d]) L L.length)) = rb := (sumL_eq HOK.out hpo.permL (devs ++ [d])).trans HRB.out.symm
  have C42a := fun W (hW : Below w1.heap.size w1 W) => of_plan (w := W) HOK.out (hpo.below hW) (setN devs L L.length) ha
  have C42b := fun W (hW : Below w1.heap.size w1 W) => of_plan (w := W) HOK.out (hpo.below hW) (setN (devs ++ [d]) L L.length) hc12
  have C54a := fun W (hW : Below w1.heap.size w1 W) => sum_plan (w := W) HOK.out (hpo.below hW) (ofL g L (setN devs L L.length)) (ofL_wf HOK.out hpo.permL _)
  have C54b := fun W (hW : Below w1.heap.size w1 W) => sum_plan (w := W) HOK.out (hpo.below hW) (ofL g L (setN (devs ++ [d]) L L.length)) (ofL_wf HOK.out hpo.permL _)
  have C43b := fun W (hW : Below w1.heap.size w1 W) => set_plan (w := W.alloc (.cells #[.int .i64 d] 3)) HOK.out (hpo.below (hW.alloc hW.size _)) (.slice (some ⟨W.heap.size, 0, none⟩) 1 1) [d] (lit_nums W [d] (by simp))
  rw [q1] at C54a
  rw [q2] at C54b
  have C42a := Lib.hid C42a
  have C42b := Lib.hid C42b
  have C54a := Lib.hid C54a
  have C54b := Lib.hid C54b
  have C43b := Lib.hid C43b
  clear hpo hb q1 q2
  generalize ofL g L (setN devs L L.length) = sa' at *
  generalize ofL g L (setN (devs ++ [d]) L L.length) = sb' at *
  generalize setN devs L L.length = ka at *
  generalize setN [d] L L.length = kd at *
  generalize setN (devs ++ [d]) L L.length = kb at *
  go_wp2_with fail
  refine C43.out.mono ?_
  rintro e w2 ⟨rfl, hb2⟩
  go_wp2_with fail
  refine (C42a.out _ hb2).mono ?_
  rintro e w3 ⟨rfl, hb3⟩
  have b3 := hb2.trans (hb3.mono hb2.size)
  go_wp2_with fail
  refine (C54a.out _ b3).mono ?_
  rintro e w4 ⟨rfl, hb4⟩
  have b4 := b3.trans (hb4.mono b3.size)
  clear hb2 hb3 hb4 b3
  go_wp2_with fail
  refine (C43b.out _ b4).mono ?_
  rintro e w5 ⟨rfl, hb5⟩
  have b4a : Below w1.heap.size w1 (w4.alloc (.cells #[.int .i64 d] 3)) := b4.alloc b4.size _
  have b5 := b4a.trans (hb5.mono b4a.size)
  clear hb5 b4a
  go_wp2_with fail
  refine (C42b.out _ b5).mono ?_
  rintro e w6 ⟨rfl, hb6⟩
  have b6 := b5.trans (hb6.mono b5.size)
  go_wp2_with fail
  refine (C54b.out _ b6).mono ?_
  rintro e w7 ⟨rfl, hb7⟩
  have b7 := b6.trans (hb7.mono b6.size)
  clear hb6 hb7 hor
  go_wp2
  go_ret2
  exact ⟨rfl, hw1.trans (b7.mono z1)⟩

end Go.Proofs.Ytapjgjjmlbhanaa
