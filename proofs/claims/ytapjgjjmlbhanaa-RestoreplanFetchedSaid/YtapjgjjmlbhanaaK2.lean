/- awake: the examples of the chapter hold. -/
import Derived.Test.YtapjgjjmlbhanaaK1
import Derived.Test.YtapjgjjmlbhanaaH5
import Derived.Test.YtapjgjjmlbhanaaH6
import Derived.Test.YtapjgjjmlbhanaaJ1
namespace Go.Proofs.Ytapjgjjmlbhanaa
open Go.RowKit Go.Lib

section
variable {nv p1 s1 p2 s2 p3 v : Value} {w : World}
theorem ex_sorted : ((exH p1 s1 p2 s2 p3).map Hd.dev).Pairwise (· < ·) := by show [(1 : Int), 2, 3].Pairwise (· < ·); decide
def ExI (xs : List Int) (w : World) (e : Ending) (w' : World) : Prop := ∃ u, e = .returned (.tuple #[u, .int .i64 0]) ∧ ReadsI w' u xs ∧ Below w.heap.size w w'
def ExLL (xs : List (List Int)) (w : World) (e : Ending) (w' : World) : Prop := ∃ u, e = .returned (.tuple #[u, .int .i64 0]) ∧ ReadsLL w' u xs ∧ Below w.heap.size w w'
def ExF (xs : List (Int × Pc)) (w : World) (e : Ending) (w' : World) : Prop := ∃ u, e = .returned (.tuple #[u, .int .i64 0]) ∧ ReadsF w' u xs ∧ Below w.heap.size w w'
theorem fewest_ex2 (hg : GlAt w (exG nv 2)) (hv : ReadsH w v (exH p1 s1 p2 s2 p3)) : Calls Try.prog 20 #[(exG nv 2).v, v] w (ExI [1, 2] w) := by
  refine (fewest_ok _ v _ w hg hv (ex_ok nv p1 s1 p2 s2 p3 2 (by omega) (by omega))).mono ?_
  rintro e w' ⟨L, hp, hs, h⟩
  obtain rfl := eq_of_devs hp hs ex_sorted
  rcases h with ⟨h, _⟩ | ⟨a, r, u, h, rfl, hr, hb⟩
  · rw [ex_suff2] at h; cases h
  · rw [ex_suff2] at h
    cases h
    rw [show devL (exH p1 s1 p2 s2 p3) 3 = [1, 2] by kernel_rfl] at hr
    exact ⟨u, rfl, hr, hb⟩
theorem fewest_ex0 (hg : GlAt w (exG nv 0)) (hv : ReadsH w v (exH p1 s1 p2 s2 p3)) : Calls Try.prog 20 #[(exG nv 0).v, v] w (ExI [3] w) := by
  refine (fewest_ok _ v _ w hg hv (ex_ok nv p1 s1 p2 s2 p3 0 (by omega) (by omega))).mono ?_
  rintro e w' ⟨L, hp, hs, h⟩
  obtain rfl := eq_of_devs hp hs ex_sorted
  rcases h with ⟨h, _⟩ | ⟨a, r, u, h, rfl, hr, hb⟩
  · rw [ex_suff0] at h; cases h
  · rw [ex_suff0] at h
    cases h
    rw [show devL (exH p1 s1 p2 s2 p3) 4 = [3] by kernel_rfl] at hr
    exact ⟨u, rfl, hr, hb⟩
theorem minimal_ex0 (hg : GlAt w (exG nv 0)) (hv : ReadsH w v (exH p1 s1 p2 s2 p3)) : Calls Try.prog 26 #[(exG nv 0).v, v] w (ExLL [[3], [1, 2]] w) := by
  refine (minimal_ok _ v _ w hg hv (ex_ok nv p1 s1 p2 s2 p3 0 (by omega) (by omega)) (by show 3 ≤ 6; omega)).mono ?_
  rintro e w' ⟨L, hp, hs, h⟩
  obtain rfl := eq_of_devs hp hs ex_sorted
  rcases h with ⟨h, _⟩ | ⟨_, u, rfl, hr, hb⟩
  · rw [ex_suff0] at h; cases h
  · rw [ex_min0] at hr
    exact ⟨u, rfl, hr, hb⟩
theorem greedy_ex2 (hg : GlAt w (exG nv 2)) (hv : ReadsH w v (exH p1 s1 p2 s2 p3)) : Calls Try.prog 23 #[(exG nv 2).v, v] w (ExI [1, 2] w) := by
  refine (greedy_ok _ v _ w hg hv (ex_ok nv p1 s1 p2 s2 p3 2 (by omega) (by omega))).mono ?_
  rintro e w' ⟨L, hp, hs, h⟩
  obtain rfl := eq_of_devs hp hs ex_sorted
  rcases h with ⟨h, _⟩ | ⟨_, u, rfl, hr, hb⟩
  · rw [ex_all] at h; cases h
  · rw [ex_greedy] at hr
    exact ⟨u, rfl, hr, hb⟩
theorem fetches_ex2 {dv : Value} (hg : GlAt w (exG nv 2)) (hv : ReadsH w v (exH p1 s1 p2 s2 p3)) (hd : ReadsI w dv [3, 1]) : Calls Try.prog 29 #[(exG nv 2).v, v, dv] w (ExF [(3, ⟨sB, 0⟩), (3, ⟨sB, 1⟩)] w) := by
  refine (fetches_ok _ v dv _ [3, 1] w hg hv hd (ex_ok nv p1 s1 p2 s2 p3 2 (by omega) (by omega)) (by simp) (by
    intro y hy
    simp only [exH, List.mem_cons, List.mem_nil_iff, or_false] at hy
    rcases hy with rfl | rfl | rfl <;> simp)).mono ?_
  rintro e w' ⟨L, hp, hs, u, rfl, hr, hb⟩
  obtain rfl := eq_of_devs hp hs ex_sorted
  rw [ex_fet] at hr
  exact ⟨u, rfl, hr, hb⟩
end

theorem ReadsI.val' {w : World} {v : Value} {xs : List Int} (h : ReadsI w v xs) : ∃ ao c, v = .slice ao xs.length c := by
  obtain ⟨ao, c, _, _, e, _⟩ := h.at
  exact ⟨ao, c, e⟩
theorem ReadsLL.val {w : World} {v : Value} {xs : List (List Int)} (h : ReadsLL w v xs) : ∃ ao c, v = .slice ao xs.length c := by
  obtain ⟨_, _, ⟨ao, c, e, _⟩, _⟩ := h
  exact ⟨ao, c, e⟩
theorem lit_ints (w : World) (zs : List Int) (hn : zs.length ≤ 100) : ReadsI (w.alloc (.cells (zs.map (Value.int .i64)).toArray 3)) (.slice (some ⟨w.heap.size, 0, none⟩) zs.length zs.length) zs := by
  refine ⟨some ⟨w.heap.size, 0, none⟩, zs.length, rfl, Nat.le_refl _, by omega, fun _ => ⟨w.heap.size, 0, rfl, fun i j hi hj => ?_⟩⟩
  rw [cell_of_row _ _ _ _ _ _ (heap_alloc_last w _), Nat.zero_add, Nat.mul_one]
  obtain rfl : j = 0 := by omega
  simp [List.getD, hi]

set_option maxRecDepth 100000 in
set_option maxHeartbeats 8000000 in
theorem awake_any (w : World) : Calls Try.prog 13 #[] w fun e w' => e = .returned (.bool true) ∧ Below w.heap.size w w' := by
  go_enter Try.func13, Try.ntmps13
  go_wp2_with fail
  refine (example_any 2 _).mono ?_
  rintro e w1 ⟨nv, v, rfl, hB, hH, hb1⟩
  have hg1 := ex_goal (thr := 2) hB
  obtain ⟨p1, s1, p2, s2, p3, hl1⟩ := ex_list hH
  obtain ⟨g1, rfl, _, _⟩ := hB
  obtain ⟨_, _, _, _, _, ⟨h1, rfl, _, _⟩, _⟩ := hH
  have z1 := hb1.size
  have bA : Below w1.heap.size w1 (w1.alloc (.cells #[.slice (some ⟨g1, 0, none⟩) 1 1, .int .i64 2, .bool false, .slice none 0 0, .slice none 0 0] 26)) := (Below.refl _ _).alloc (Nat.le_refl _) _
  have aA := heap_alloc_last w1 (.cells #[.slice (some ⟨g1, 0, none⟩) 1 1, .int .i64 2, .bool false, .slice none 0 0, .slice none 0 0] 26)
  obtain ⟨A, hA⟩ : ∃ A, A = w1.heap.size := ⟨_, rfl⟩
  have HA := Lib.hid hA
  rw [← hA] at aA
  have G1 := Lib.hid (hg1.below bA)
  have L1 := Lib.hid (hl1.below bA)
  have AA := Lib.hid aA
  have B1 := Lib.hid (hb1.trans (bA.mono z1))
  clear hg1 hl1 bA hb1 aA hA
  go_upto_region 2 with fail
  rw [← HA.out]
  generalize w1.alloc (Obj.cells #[.slice (some ⟨g1, 0, none⟩) 1 1, .int .i64 2, .bool false, .slice none 0 0, .slice none 0 0] 26) = W1 at G1 L1 AA B1 ⊢
  go_wp2_with fail
  refine (example_any 0 _).mono ?_
  rintro e w2 ⟨nv2, v2, rfl, hB, hH, hb2⟩
  have hg2 := ex_goal (thr := 0) hB
  obtain ⟨p1', s1', p2', s2', p3', hl2⟩ := ex_list hH
  obtain ⟨g2, rfl, _, _⟩ := hB
  obtain ⟨_, _, _, _, _, ⟨h2, rfl, _, _⟩, _⟩ := hH
  have z2 := hb2.size
  have bC : Below w2.heap.size w2 (w2.alloc (.cells #[.slice (some ⟨g2, 0, none⟩) 1 1, .int .i64 0, .bool false, .slice none 0 0, .slice none 0 0] 26)) := (Below.refl _ _).alloc (Nat.le_refl _) _
  have aC := heap_alloc_last w2 (.cells #[.slice (some ⟨g2, 0, none⟩) 1 1, .int .i64 0, .bool false, .slice none 0 0, .slice none 0 0] 26)
  obtain ⟨C, hC⟩ : ∃ C, C = w2.heap.size := ⟨_, rfl⟩
  have HC := Lib.hid hC
  rw [← hC] at aC
  have b12 := hb2.trans (bC.mono z2)
  have G2 := Lib.hid (G1.out.below b12)
  have L2 := Lib.hid (L1.out.below b12)
  have F2 := Lib.hid (hg2.below bC)
  have AA2 := Lib.hid ((b12.block A (Array.getElem?_eq_some_iff.1 AA.out).1).trans AA.out)
  have CC2 := Lib.hid aC
  have B2 := Lib.hid (B1.out.trans (b12.mono B1.out.size))
  clear hg2 hl2 bC hb2 aC hC b12 G1 L1 AA B1
  go_upto_region 3 with fail
  rw [← HC.out]
  generalize w2.alloc (Obj.cells #[.slice (some ⟨g2, 0, none⟩) 1 1, .int .i64 0, .bool false, .slice none 0 0, .slice none 0 0] 26) = W2 at G2 L2 F2 AA2 CC2 B2 ⊢
  have a0 := cell_of_row _ _ 0 _ _ _ AA2.out
  have a1 := cell_of_row _ _ 1 _ _ _ AA2.out
  have a2 := cell_of_row _ _ 2 _ _ _ AA2.out
  have a3 := cell_of_row _ _ 3 _ _ _ AA2.out
  have a4 := cell_of_row _ _ 4 _ _ _ AA2.out
  go_wp2_with fail
  refine (fewest_ex2 G2.out L2.out).mono ?_
  rintro e w3 ⟨u3, rfl, hr3, hb3⟩
  obtain ⟨ra3, rc3, rfl⟩ := hr3.val'
  have G3 := Lib.hid (G2.out.below hb3)
  have L3 := Lib.hid (L2.out.below hb3)
  have F3 := Lib.hid (F2.out.below hb3)
  have AA3 := Lib.hid ((hb3.block A (Array.getElem?_eq_some_iff.1 AA2.out).1).trans AA2.out)
  have CC3 := Lib.hid ((hb3.block C (Array.getElem?_eq_some_iff.1 CC2.out).1).trans CC2.out)
  have B3 := Lib.hid (B2.out.trans (hb3.mono B2.out.size))
  have R3 := Lib.hid hr3
  clear G2 L2 F2 AA2 B2 hr3 hb3 a0 a1 a2 a3 a4 CC2
  have c0 := cell_of_row _ _ 0 _ _ _ CC3.out
  have c1 := cell_of_row _ _ 1 _ _ _ CC3.out
  have c2 := cell_of_row _ _ 2 _ _ _ CC3.out
  have c3 := cell_of_row _ _ 3 _ _ _ CC3.out
  have c4 := cell_of_row _ _ 4 _ _ _ CC3.out
  go_wp2_with fail
  refine (fewest_ex0 F3.out L3.out).mono ?_
  rintro e w4 ⟨u4, rfl, hr4, hb4⟩
  obtain ⟨ra4, rc4, rfl⟩ := hr4.val'
  have G4 := Lib.hid (G3.out.below hb4)
  have L4 := Lib.hid (L3.out.below hb4)
  have F4 := Lib.hid (F3.out.below hb4)
  have AA4 := Lib.hid ((hb4.block A (Array.getElem?_eq_some_iff.1 AA3.out).1).trans AA3.out)
  have CC4 := Lib.hid ((hb4.block C (Array.getElem?_eq_some_iff.1 CC3.out).1).trans CC3.out)
  have B4 := Lib.hid (B3.out.trans (hb4.mono B3.out.size))
  have R34 := Lib.hid (R3.out.below hb4)
  have R4 := Lib.hid hr4
  clear G3 L3 F3 AA3 CC3 B3 R3 hr4 hb4 c0 c1 c2 c3 c4
  have c0 := cell_of_row _ _ 0 _ _ _ CC4.out
  have c1 := cell_of_row _ _ 1 _ _ _ CC4.out
  have c2 := cell_of_row _ _ 2 _ _ _ CC4.out
  have c3 := cell_of_row _ _ 3 _ _ _ CC4.out
  have c4 := cell_of_row _ _ 4 _ _ _ CC4.out
  go_wp2_with fail
  refine (minimal_ex0 F4.out L4.out).mono ?_
  rintro e w5 ⟨u5, rfl, hr5, hb5⟩
  obtain ⟨ra5, rc5, rfl⟩ := hr5.val
  have G5 := Lib.hid (G4.out.below hb5)
  have L5 := Lib.hid (L4.out.below hb5)
  have AA5 := Lib.hid ((hb5.block A (Array.getElem?_eq_some_iff.1 AA4.out).1).trans AA4.out)
  have B5 := Lib.hid (B4.out.trans (hb5.mono B4.out.size))
  have R35 := Lib.hid (R34.out.below hb5)
  have R45 := Lib.hid (R4.out.below hb5)
  have R5 := Lib.hid hr5
  clear G4 L4 F4 AA4 CC4 B4 R34 R4 hr5 hb5 c0 c1 c2 c3 c4
  have a0 := cell_of_row _ _ 0 _ _ _ AA5.out
  have a1 := cell_of_row _ _ 1 _ _ _ AA5.out
  have a2 := cell_of_row _ _ 2 _ _ _ AA5.out
  have a3 := cell_of_row _ _ 3 _ _ _ AA5.out
  have a4 := cell_of_row _ _ 4 _ _ _ AA5.out
  go_wp2_with fail
  refine (greedy_ex2 G5.out L5.out).mono ?_
  rintro e w6 ⟨u6, rfl, hr6, hb6⟩
  obtain ⟨ra6, rc6, rfl⟩ := hr6.val'
  have z6 := B5.out.size
  have b67 : Below w5.heap.size w5 (w6.alloc (.cells #[.int .i64 3, .int .i64 1] 3)) := hb6.alloc hb6.size _
  have b6 : Below w6.heap.size w6 (w6.alloc (.cells #[.int .i64 3, .int .i64 1] 3)) := (Below.refl _ _).alloc (Nat.le_refl _) _
  have G6 := Lib.hid (G5.out.below b67)
  have L6 := Lib.hid (L5.out.below b67)
  have A6 := Lib.hid ((hb6.block A (Array.getElem?_eq_some_iff.1 AA5.out).1).trans AA5.out)
  have B6 := Lib.hid (B5.out.trans (b67.mono z6))
  have R36 := Lib.hid (R35.out.below b67)
  have R46 := Lib.hid (R45.out.below b67)
  have R56 := Lib.hid (R5.out.below b67)
  have R6 := Lib.hid (hr6.below b6)
  have D6 := Lib.hid (lit_ints w6 [3, 1] (by simp))
  clear G5 L5 AA5 B5 R35 R45 R5 hr6 hb6 b67 b6 a0 a1 a2 a3 a4
  have a0 := cell_of_row _ _ 0 _ _ _ A6.out
  have a1 := cell_of_row _ _ 1 _ _ _ A6.out
  have a2 := cell_of_row _ _ 2 _ _ _ A6.out
  have a3 := cell_of_row _ _ 3 _ _ _ A6.out
  have a4 := cell_of_row _ _ 4 _ _ _ A6.out
  go_wp2_with fail
  refine (fetches_ex2 G6.out L6.out D6.out).mono ?_
  rintro e w7 ⟨u7, rfl, hr7, hb7⟩
  obtain ⟨fa, fc, rfl, _, _, hfx⟩ := hr7
  obtain ⟨fb, fo, rfl, hfcl⟩ := hfx (by show 0 < 2; omega)
  have f0 : w7.cell? ⟨fb, fo, none⟩ = some (.int .i64 3) := hfcl 0 0 (by show 0 < 2; omega) (by omega)
  have f3 : w7.cell? ⟨fb, fo + 3, none⟩ = some (.int .i64 3) := hfcl 1 0 (by show 1 < 2; omega) (by omega)
  obtain ⟨vs, hvl, ⟨ca, cc, ce, _, _, hcx⟩, hvr⟩ := R56.out.below hb7
  cases ce
  obtain ⟨cb, co, rfl, hccl⟩ := hcx (by show 0 < 2; omega)
  have e0 := hccl 0 0 (by show 0 < 2; omega) (by omega)
  have e1 := hccl 1 0 (by show 1 < 2; omega) (by omega)
  have v0 := hvr 0 (by show 0 < 2; omega)
  have v1 := hvr 1 (by show 1 < 2; omega)
  rw [show ([[3], [1, 2]] : List (List Int)).getD 0 [] = [3] from rfl] at v0
  rw [show ([[3], [1, 2]] : List (List Int)).getD 1 [] = [1, 2] from rfl] at v1
  obtain ⟨va0, vc0, ev0⟩ := v0.val'
  obtain ⟨va1, vc1, ev1⟩ := v1.val'
  simp only [ev0, ev1] at e0 e1 v0 v1
  have e0' : w7.cell? ⟨cb, co, none⟩ = some (.slice va0 1 vc0) := e0
  have e1' : w7.cell? ⟨cb, co + 1, none⟩ = some (.slice va1 2 vc1) := e1
  have E0 := Lib.hid e0'
  have E1 := Lib.hid e1'
  have V0 := Lib.hid v0
  have V1 := Lib.hid v1
  have F0 := Lib.hid f0
  have F3 := Lib.hid f3
  have R3 := Lib.hid (R36.out.below hb7)
  have R4 := Lib.hid (R46.out.below hb7)
  have R5 := Lib.hid (R6.out.below hb7)
  have B7 := Lib.hid (B6.out.trans (hb7.mono B6.out.size))
  clear hfx hfcl hcx hvr hccl e0 e1 v0 v1 e0' e1' f0 f3 ev0 ev1 R36 R46 R56 R6 B6 D6 L6 G6 A6 hb7 a0 a1 a2 a3 a4 hvl
  have b8 : Below w7.heap.size w7 (w7.alloc (.cells #[.int .i64 1, .int .i64 2] 3)) := (Below.refl _ _).alloc (Nat.le_refl _) _
  have T1 := Lib.hid (ints_any _ _ [1, 2] [1, 2] _ (R3.out.below b8) (lit_ints w7 [1, 2] (by simp)))
  clear b8
  go_wp2_with fail
  refine T1.out.mono ?_
  rintro e w8 ⟨rfl, q8, hw8⟩
  have b78 : Below w7.heap.size w7 w8 := by rw [hw8]; exact below_drewN ((Below.refl _ _).alloc (Nat.le_refl _) _) _
  clear hw8
  have b9 : Below w7.heap.size w7 (w8.alloc (.cells #[.int .i64 3] 3)) := b78.alloc b78.size _
  have T2 := Lib.hid (ints_any _ _ [3] [3] _ (R4.out.below b9) (lit_ints w8 [3] (by simp)))
  clear b9 T1
  go_wp2_with fail
  refine T2.out.mono ?_
  rintro e w9 ⟨rfl, q9, hw9⟩
  have b79 : Below w7.heap.size w7 w9 := by rw [hw9]; exact below_drewN (b78.alloc b78.size _) _
  have k0 := (b79.cell (p := ⟨cb, co, none⟩) (cell_lt E0.out)).trans E0.out
  clear hw9 b78 T2
  have b10 : Below w7.heap.size w7 (w9.alloc (.cells #[.int .i64 3] 3)) := b79.alloc b79.size _
  have T3 := Lib.hid (ints_any _ _ [3] [3] _ (V0.out.below b10) (lit_ints w9 [3] (by simp)))
  clear b10
  go_wp2_with fail
  refine T3.out.mono ?_
  rintro e w10 ⟨rfl, q10, hw10⟩
  have b710 : Below w7.heap.size w7 w10 := by rw [hw10]; exact below_drewN (b79.alloc b79.size _) _
  have k1 := (b710.cell (p := ⟨cb, co + 1, none⟩) (cell_lt E1.out)).trans E1.out
  clear hw10 b79 T3 k0
  have b11 : Below w7.heap.size w7 (w10.alloc (.cells #[.int .i64 1, .int .i64 2] 3)) := b710.alloc b710.size _
  have T4 := Lib.hid (ints_any _ _ [1, 2] [1, 2] _ (V1.out.below b11) (lit_ints w10 [1, 2] (by simp)))
  clear b11
  go_wp2_with fail
  refine T4.out.mono ?_
  rintro e w11 ⟨rfl, q11, hw11⟩
  have b711 : Below w7.heap.size w7 w11 := by rw [hw11]; exact below_drewN (b710.alloc b710.size _) _
  clear hw11 b710 T4 k1
  have b12 : Below w7.heap.size w7 (w11.alloc (.cells #[.int .i64 1, .int .i64 2] 3)) := b711.alloc b711.size _
  have T5 := Lib.hid (ints_any _ _ [1, 2] [1, 2] _ (R5.out.below b12) (lit_ints w11 [1, 2] (by simp)))
  clear b12
  go_wp2_with fail
  refine T5.out.mono ?_
  rintro e w12 ⟨rfl, q12, hw12⟩
  have b712 : Below w7.heap.size w7 w12 := by rw [hw12]; exact below_drewN (b711.alloc b711.size _) _
  have k0 := (b712.cell (p := ⟨fb, fo, none⟩) (cell_lt F0.out)).trans F0.out
  have k3 := (b712.cell (p := ⟨fb, fo + 3, none⟩) (cell_lt F3.out)).trans F3.out
  clear hw12 b711 T5
  have B12 := B7.out.trans (b712.mono B7.out.size)
  go_wp2
  go_ret
  exact ⟨rfl, B12⟩

end Go.Proofs.Ytapjgjjmlbhanaa
