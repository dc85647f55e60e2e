/- Fewest. -/
import Derived.Test.YtapjgjjmlbhanaaH2
import Derived.Test.YtapjgjjmlbhanaaD2
namespace Go.Proofs.Ytapjgjjmlbhanaa
open Go.RowKit Go.Lib

theorem GlAt.val {w : World} {g : Gl} (h : GlAt w g) : ∃ (na : Option Addr) (n1 nc : Nat) (pa : Option Addr) (n2 pc : Nat) (sa : Option Addr) (n3 sc : Nat), g.v = .agg #[.slice na n1 nc, .int .i64 g.thr, .bool g.idx, .slice pa n2 pc, .slice sa n3 sc] := by
  obtain ⟨h1, h2, h3⟩ := h
  obtain ⟨na, nc, _, _, e1, _⟩ := h1.at
  obtain ⟨pa, pc, _, _, e2, _⟩ := h2.at
  obtain ⟨sa, sc, _, _, e3, _⟩ := h3.at
  exact ⟨na, _, nc, pa, _, pc, sa, _, sc, by unfold Gl.v; rw [e1, e2, e3]⟩
theorem ReadsH.val {w : World} {v : Value} {hs : List Hd} (h : ReadsH w v hs) : ∃ ao n c, v = .slice ao n c := by
  obtain ⟨ao, c, _, _, e, _⟩ := h.at
  exact ⟨ao, _, c, e⟩
theorem ReadsI.val {w : World} {v : Value} {xs : List Int} (h : ReadsI w v xs) : ∃ ao n c, v = .slice ao n c := by
  obtain ⟨ao, c, _, _, e, _⟩ := h.at
  exact ⟨ao, _, c, e⟩

set_option maxRecDepth 100000 in
set_option maxHeartbeats 2000000 in
theorem fewest_bad (g : Gl) (v : Value) (hs : List Hd) (w : World) (hg : GlAt w g) (hv : ReadsH w v hs) (hok : ¬ Ok g hs) :
    Calls Try.prog 20 #[g.v, v] w fun e w' => e = .returned (.tuple #[.slice none 0 0, .int .i64 1]) ∧ Below w.heap.size w w' := by
  have cc := fun W h1 h2 => read_bad g v hs W h1 h2 hok
  obtain ⟨na, n1, nc, pa, n2, pc, sa, n3, sc, e1⟩ := hg.val
  obtain ⟨ao, n4, c4, rfl⟩ := hv.val
  rw [e1] at cc ⊢
  have CC := Lib.hid cc
  have HG := Lib.hid hg
  have HV := Lib.hid hv
  clear hg hv hok cc e1
  go_enter Try.func20, Try.ntmps20
  go_wp2_with fail
  refine (CC.out _ (HG.out.below (by (repeat' (first | (with_reducible exact Below.refl _ _) | (with_reducible assumption) | (with_reducible refine Below.alloc ?_ ?_ _) | (with_reducible refine Below.drew ?_) | (with_reducible refine below_drewN ?_ _) | (with_reducible refine Below.setCell ?_ ?_ _) | (with_reducible refine below_step ?_ (by with_reducible assumption) ?_) | go_size)))) (HV.out.below (by (repeat' (first | (with_reducible exact Below.refl _ _) | (with_reducible assumption) | (with_reducible refine Below.alloc ?_ ?_ _) | (with_reducible refine Below.drew ?_) | (with_reducible refine below_drewN ?_ _) | (with_reducible refine Below.setCell ?_ ?_ _) | (with_reducible refine below_step ?_ (by with_reducible assumption) ?_) | go_size))))).mono ?_
  rintro e w1 ⟨rfl, hb⟩
  go_wp2
  go_ret2
  exact ⟨rfl, by (repeat' (first | (with_reducible exact Below.refl _ _) | (with_reducible assumption) | (with_reducible refine Below.alloc ?_ ?_ _) | (with_reducible refine Below.drew ?_) | (with_reducible refine below_drewN ?_ _) | (with_reducible refine Below.setCell ?_ ?_ _) | (with_reducible refine below_step ?_ (by with_reducible assumption) ?_) | go_size))⟩

/-- What Fewest answers. -/
def FewestPost (g : Gl) (L : List Hd) (w : World) (e : Ending) (w' : World) : Prop :=
  (suffL g L = [] ∧ e = .returned (.tuple #[.slice none 0 0, .int .i64 10]) ∧ Below w.heap.size w w') ∨
  (∃ a r v, suffL g L = a :: r ∧ e = .returned (.tuple #[v, .int .i64 0]) ∧ ReadsI w' v (devL L a) ∧ Below w.heap.size w w')

theorem suffL_lt {g : Gl} {L : List Hd} : ∀ a ∈ suffL g L, a < 2 ^ L.length := fun _ ha => sfTo_lt _ ((List.mergeSort_perm _ _).mem_iff.1 ha)
theorem suffL_len (g : Gl) (L : List Hd) : (suffL g L).length ≤ 2 ^ L.length := by
  unfold suffL
  rw [List.length_mergeSort]
  exact sfTo_len g L _
theorem two12 {n : Nat} (h : n ≤ 12) : 2 ^ n ≤ 4096 := by
  have hp : 2 ^ n ≤ 2 ^ 12 := Nat.pow_le_pow_right (by omega) h
  exact hp
theorem devL_le (L : List Hd) (set : Nat) : (devL L set).length ≤ L.length := devTo_le L set _

set_option maxRecDepth 100000 in
set_option maxHeartbeats 4000000 in
theorem fewest_ok (g : Gl) (v : Value) (hs : List Hd) (w : World) (hg : GlAt w g) (hv : ReadsH w v hs) (hok : Ok g hs) :
    Calls Try.prog 20 #[g.v, v] w fun e w' => ∃ L : List Hd, L.Perm hs ∧ (L.map Hd.dev).Pairwise (· < ·) ∧ FewestPost g L w e w' := by
  have cc := fun W h1 h2 => read_ok g v hs W h1 h2 hok
  obtain ⟨na, n1, nc, pa, n2, pc, sa, n3, sc, e1⟩ := hg.val
  obtain ⟨ao, n4, c4, rfl⟩ := hv.val
  rw [e1] at cc ⊢
  have CC := Lib.hid cc
  have HG := Lib.hid hg
  have HV := Lib.hid hv
  have HOK := Lib.hid hok
  clear hg hv hok cc e1
  go_enter Try.func20, Try.ntmps20
  go_wp2_with fail
  refine (CC.out _ (HG.out.below (by (repeat' (first | (with_reducible exact Below.refl _ _) | (with_reducible assumption) | (with_reducible refine Below.alloc ?_ ?_ _) | (with_reducible refine Below.drew ?_) | (with_reducible refine below_drewN ?_ _) | (with_reducible refine Below.setCell ?_ ?_ _) | (with_reducible refine below_step ?_ (by with_reducible assumption) ?_) | go_size)))) (HV.out.below (by (repeat' (first | (with_reducible exact Below.refl _ _) | (with_reducible assumption) | (with_reducible refine Below.alloc ?_ ?_ _) | (with_reducible refine Below.drew ?_) | (with_reducible refine below_drewN ?_ _) | (with_reducible refine Below.setCell ?_ ?_ _) | (with_reducible refine below_step ?_ (by with_reducible assumption) ?_) | go_size))))).mono ?_
  rintro e w1 ⟨b, x, pl, L, rfl, hpo, hb⟩
  have hw1 : Below w.heap.size w w1 := by (repeat' (first | (with_reducible exact Below.refl _ _) | (with_reducible assumption) | (with_reducible refine Below.alloc ?_ ?_ _) | (with_reducible refine Below.drew ?_) | (with_reducible refine below_drewN ?_ _) | (with_reducible refine Below.setCell ?_ ?_ _) | (with_reducible refine below_step ?_ (by with_reducible assumption) ?_) | go_size))
  have hl12 : L.length ≤ 12 := by have := hpo.len; have := HOK.out.1.2.2; omega
  have hp12 := two12 hl12
  have PO := Lib.hid hpo
  have HPL := Lib.hid hpo.permL
  have HSD := Lib.hid hpo.sorted
  have C50 := Lib.hid (sufficient_plan HOK.out hpo)
  clear hpo hb
  have z1 := hw1.size
  go_wp2_with fail
  refine C50.out.mono ?_
  rintro e w2 ⟨u, rfl, ho, hb2⟩
  have hw2 : Below w.heap.size w w2 := hw1.trans (hb2.mono z1)
  have hln := suffL_len g L
  have hlt := suffL_lt (g := g) (L := L)
  obtain ⟨Q, hQ⟩ : ∃ Q, Q = suffL g L := ⟨_, rfl⟩
  rw [← hQ] at ho hln hlt
  have HQ := Lib.hid hQ
  clear hQ
  have hri : ReadsI w2 u (Q.map fun a : Nat => (a : Int)) := ho.reads (by rw [List.length_map]; omega)
  obtain ⟨ua, uc, ub, uoff, rfl, hul, hum, hucell⟩ := hri.at
  rw [List.length_map] at hul hum hucell
  cases Q with
  | nil =>
    clear hri ho hucell hlt hln hul hum
    go_wp2_with fail
    go_ret2
    exact ⟨L, HPL.out, HSD.out, .inl ⟨HQ.out.symm, rfl, hw2⟩⟩
  | cons a r =>
    obtain ⟨e1, e2⟩ := hucell 0 (by simp)
    subst e1
    have e2' : w2.cell? ⟨ub, uoff, none⟩ = some (.int .i64 (a : Int)) := e2
    have ha : a < 4096 := by have := hlt a (by simp); omega
    have C51 := Lib.hid (devices_plan HOK.out (PO.out.below hb2) a ha)
    rw [List.length_map, List.length_cons] at *
    have z2 := hb2.size
    clear hri ho hucell hlt hln e2
    have hrl : 0 < r.length + 1 := by omega
    generalize r.length + 1 = rl at *
    have hrl0 : ((rl : Int) == 0) = false := by simp; omega
    go_wp2_with fail
    refine C51.out.mono ?_
    rintro e w3 ⟨u3, rfl, ho3, hb3⟩
    have hri3 := ho3.reads (by have := devL_le L a; omega)
    have hw3 : Below w.heap.size w w3 := hw2.trans (hb3.mono (Nat.le_trans z1 z2))
    obtain ⟨a3, c3, _, _, e3, _⟩ := hri3.at
    rw [e3] at hri3
    have H3 := Lib.hid hri3
    clear ho3 hri3
    go_wp2
    go_ret2
    exact ⟨L, HPL.out, HSD.out, .inr ⟨a, r, _, HQ.out.symm, rfl, H3.out, hw3⟩⟩

end Go.Proofs.Ytapjgjjmlbhanaa
