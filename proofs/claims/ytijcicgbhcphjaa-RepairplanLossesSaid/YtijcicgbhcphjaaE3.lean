/- target; the closures of Plan. -/
import Derived.Test.YtijcicgbhcphjaaE2
namespace Go.Proofs.Ytijcicgbhcphjaa
open Go.RowKit Go.Lib Go.ChangeMaps
set_option linter.unusedSimpArgs false

def targetI (V : Vp) (gone : Nat → Bool) (k : Nat) : Int := bestTo (fun d => canB V gone k d) (btW V) V.mem.length

set_option maxRecDepth 100000 in
set_option maxHeartbeats 2000000 in
theorem target_any {lo hi p : Nat} {V : Vp} {gone : Nat → Bool} (k : Nat) (w : World) (hst : StAt w lo hi p V gone) (hk : k < V.held.length) :
    Calls Try.prog 44 #[.pointer (some ⟨p, 0, none⟩), .int .i64 k] w fun e w' => e = .returned (.int .i64 (targetI V gone k)) ∧ Below w.heap.size w w' := by
  have hok := hst.2.1
  obtain ⟨a1, a2, a3, a4, a5⟩ := hok.small
  have HST := Lib.hid hst
  obtain ⟨mv, hv, rv, wv, gv, mp, c0, c1, c2, c3, c4, c5, hM, hH, hR, hW, hG, hmp⟩ := hst.at
  obtain ⟨ga, gc, gb, go, rfl, gl, gm, gcell⟩ := hG.at
  clear gcell hM hH hR hW hG hmp hst hok a5 c0 c1 c2 c3 c5
  have plt := cell_lt c4
  go_enter Try.func44, Try.ntmps44
  have hA : Below w.heap.size w ((w.alloc (.cells #[.pointer (some ⟨p, 0, none⟩)] 89)).alloc (.cells #[.int .i64 k] 3)) := by (repeat' (first | (with_reducible exact Below.refl _ _) | (with_reducible assumption) | (with_reducible refine Below.alloc ?_ ?_ _) | (with_reducible refine Below.drew ?_) | (with_reducible refine below_drewN ?_ _) | (with_reducible refine Below.setCell ?_ ?_ _) | (with_reducible refine below_step ?_ (by with_reducible assumption) ?_) | go_size))
  have s0 : ((w.alloc (.cells #[.pointer (some ⟨p, 0, none⟩)] 89)).alloc (.cells #[.int .i64 k] 3)).cell? ⟨w.heap.size, 0, none⟩ = some (.pointer (some ⟨p, 0, none⟩)) :=
    cell_of_row _ _ 0 _ _ _ ((Below.heap_alloc _ _ _ (by rw [World.size_alloc]; omega)).trans (heap_alloc_new _ _))
  have s1 : ((w.alloc (.cells #[.pointer (some ⟨p, 0, none⟩)] 89)).alloc (.cells #[.int .i64 k] 3)).cell? ⟨w.heap.size + 1, 0, none⟩ = some (.int .i64 k) := by
    have := cell_of_row _ _ 0 _ _ _ (heap_alloc_new (w.alloc (.cells #[.pointer (some ⟨p, 0, none⟩)] 89)) (.cells #[.int .i64 k] 3))
    rw [World.size_alloc] at this
    exact this
  have HB := Lib.hid (best63_any V.mem.length (fun d => canB V gone k d) (btW V) w.heap.size (w.heap.size + 1) _ (by omega)
    (fun i hi W hW => can63_any k i w.heap.size (w.heap.size + 1) W (HST.out.below (hA.trans (hW.mono hA.size))) hk ((hW.cell (cell_lt s0)).trans s0) ((hW.cell (cell_lt s1)).trans s1))
    (fun i j hi hj W hW => more65_any i j w.heap.size W (HST.out.below (hA.trans (hW.mono hA.size))) hi hj ((hW.cell (cell_lt s0)).trans s0)))
  obtain ⟨r, hr⟩ : ∃ r, r = targetI V gone k := ⟨_, rfl⟩
  rw [← hr]
  rw [show bestTo (fun d => canB V gone k d) (btW V) V.mem.length = r from hr.symm] at HB
  clear hr
  go_wp2_with fail
  refine HB.out.mono ?_
  rintro e w3 ⟨rfl, hb3⟩
  go_wp2
  go_ret
  exact ⟨rfl, hA.trans (hb3.mono hA.size)⟩

/-- Whether a stripe is open. -/
def openB (V : Vp) (gone : Nat → Bool) (k : Nat) : Bool := decide (0 ≤ spareI V gone k) && decide (0 < (otherI gone (V.held.getD k default).at_).length) && decide (0 ≤ targetI V gone k)

set_option maxRecDepth 100000 in
set_option maxHeartbeats 2000000 in
theorem open42_any {lo hi p : Nat} {V : Vp} {gone : Nat → Bool} (k S : Nat) (w : World) (hst : StAt w lo hi p V gone) (hk : k < V.held.length) (hS : w.cell? ⟨S, 0, none⟩ = some (.pointer (some ⟨p, 0, none⟩))) :
    Calls Try.prog 42 #[.int .i64 k, .pointer (some ⟨S, 0, none⟩)] w fun e w' => e = .returned (.bool (openB V gone k)) ∧ Below w.heap.size w w' := by
  have CL := Lib.hid (left_any k w hst hk)
  have HST := Lib.hid hst
  have h16 := (((hst.2.1).small.2.2.2.2 k hk).at_small).1
  have hol2 := otherTo_len gone (V.held.getD k default).at_ (V.held.getD k default).at_.length
  clear hst
  obtain ⟨r, hr⟩ : ∃ r, r = openB V gone k := ⟨_, rfl⟩
  rw [← hr]
  have hr2 : r = (decide (0 ≤ spareI V gone k) && decide (0 < (otherI gone (V.held.getD k default).at_).length) && decide (0 ≤ targetI V gone k)) := hr
  have HR := Lib.hid hr2
  have hol : (otherI gone (V.held.getD k default).at_).length ≤ 16 := Nat.le_trans hol2 h16
  clear hr hr2 hol2
  go_enter Try.func42, Try.ntmps42
  go_wp2_with fail
  refine CL.out.mono ?_
  rintro e w3 ⟨u1, u2, rfl, o1, o2, hb3⟩
  obtain ⟨al, ac, rfl⟩ := OwnI.slice o1
  obtain ⟨bl, bc, rfl⟩ := OwnI.slice o2
  clear o1 o2 CL
  have CS := Lib.hid (spare_any k w3 (HST.out.below hb3) hk)
  have CT := Lib.hid (fun W (h : Below w.heap.size w W) => target_any k W (HST.out.below h) hk)
  have hS3 := (hb3.cell (p := ⟨S, 0, none⟩) (cell_lt hS)).trans hS
  generalize (otherI gone (V.held.getD k default).at_).length = ol at *
  generalize (leftI gone (V.held.getD k default).at_).length = ll at *
  generalize spareI V gone k = sp at *
  generalize targetI V gone k = tg at *
  clear h16 hS
  go_wp2_with fail
  refine CS.out.mono ?_
  rintro e w4 ⟨rfl, hb4⟩
  have hS4 := (hb4.cell (p := ⟨S, 0, none⟩) (cell_lt hS3)).trans hS3
  have hbw := hb3.trans (hb4.mono hb3.size)
  clear hS3
  by_cases k1 : 0 ≤ sp
  rotate_left
  · obtain rfl : r = false := by rw [HR.out, decide_eq_false k1]; rfl
    have q1 : decide (0 ≤ sp) = false := decide_eq_false k1
    clear k1
    go_wp2
    go_ret
    exact ⟨rfl, hbw⟩
  have q1 : decide (0 ≤ sp) = true := decide_eq_true k1
  by_cases k2 : 0 < ol
  rotate_left
  · obtain rfl : r = false := by rw [HR.out, decide_eq_false k2, Bool.and_false]; rfl
    have q2 : decide (0 < ol) = false := decide_eq_false k2
    clear k1 k2
    go_wp2
    go_ret
    exact ⟨rfl, hbw⟩
  have q2 : decide (0 < ol) = true := decide_eq_true k2
  have hr3 : r = decide (0 ≤ tg) := by rw [HR.out, q1, q2, Bool.true_and, Bool.true_and]
  have HR3 := Lib.hid hr3
  clear hr3 k1 k2
  go_wp2_with fail
  refine (CT.out _ hbw).mono ?_
  rintro e w5 ⟨rfl, hb5⟩
  go_wp2
  go_ret
  exact ⟨by rw [HR3.out]; rfl, hbw.trans (hb5.mono hbw.size)⟩

end Go.Proofs.Ytijcicgbhcphjaa
