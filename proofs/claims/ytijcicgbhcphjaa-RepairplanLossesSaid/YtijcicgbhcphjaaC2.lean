/- left, spare, can. -/
import Derived.Test.YtijcicgbhcphjaaC1
namespace Go.Proofs.Ytijcicgbhcphjaa
open Go.RowKit Go.Lib Go.ChangeMaps
set_option linter.unusedSimpArgs false

/-- Whether a device is there. -/
def goodB (gone : Nat → Bool) (x : Int) : Bool := decide (0 ≤ x) && !gone x.toNat
def leftTo (gone : Nat → Bool) (zs : List Int) (n : Nat) : List Int := ((List.range n).filter fun i => goodB gone (zs.getD i 0)).map fun i : Nat => (i : Int)
def otherTo (gone : Nat → Bool) (zs : List Int) (n : Nat) : List Int := ((List.range n).filter fun i => !goodB gone (zs.getD i 0)).map fun i : Nat => (i : Int)
def leftI (gone : Nat → Bool) (zs : List Int) : List Int := leftTo gone zs zs.length
def otherI (gone : Nat → Bool) (zs : List Int) : List Int := otherTo gone zs zs.length
theorem leftTo_succ (gone : Nat → Bool) (zs : List Int) (n : Nat) : leftTo gone zs (n + 1) = leftTo gone zs n ++ if goodB gone (zs.getD n 0) = true then [(n : Int)] else [] := by
  unfold leftTo
  rw [List.range_succ, List.filter_append, List.map_append]
  simp only [List.filter_cons, List.filter_nil]
  cases goodB gone (zs.getD n 0) <;> rfl
theorem otherTo_succ (gone : Nat → Bool) (zs : List Int) (n : Nat) : otherTo gone zs (n + 1) = otherTo gone zs n ++ if goodB gone (zs.getD n 0) = true then [] else [(n : Int)] := by
  unfold otherTo
  rw [List.range_succ, List.filter_append, List.map_append]
  simp only [List.filter_cons, List.filter_nil]
  cases goodB gone (zs.getD n 0) <;> rfl
theorem leftTo_len (gone : Nat → Bool) (zs : List Int) (n : Nat) : (leftTo gone zs n).length ≤ n := by
  unfold leftTo
  rw [List.length_map]
  exact Nat.le_trans (List.length_filter_le _ _) (by simp)
theorem otherTo_len (gone : Nat → Bool) (zs : List Int) (n : Nat) : (otherTo gone zs n).length ≤ n := by
  unfold otherTo
  rw [List.length_map]
  exact Nat.le_trans (List.length_filter_le _ _) (by simp)

set_option maxRecDepth 100000 in
set_option maxHeartbeats 2000000 in
theorem left_any {lo hi p : Nat} {V : Vp} {gone : Nat → Bool} (k : Nat) (w : World) (hst : StAt w lo hi p V gone) (hk : k < V.held.length) :
    Calls Try.prog 41 #[.pointer (some ⟨p, 0, none⟩), .int .i64 k] w fun e w' => ∃ u1 u2, e = .returned (.tuple #[u1, u2]) ∧ OwnI w' w.heap.size u1 (leftI gone (V.held.getD k default).at_) ∧
      OwnI w' w.heap.size u2 (otherI gone (V.held.getD k default).at_) ∧ Below w.heap.size w w' := by
  have hok := hst.2.1
  obtain ⟨a1, a2, a3, a4, a5⟩ := hok.small
  have a6 := a5 k hk
  have a7 := a6.at_small
  have a8 : ∀ x ∈ (V.held.getD k default).at_, x = -1 ∨ (0 ≤ x ∧ x < V.mem.length) := a6.2.2.2.2.2.2
  obtain ⟨mv, hv, rv, wv, gv, mp, c0, c1, c2, c3, c4, c5, hM, hH, hR, hW, hG, hmp⟩ := hst.at
  obtain ⟨ha, hc, hb, ho, rfl, hl, hm, hcell⟩ := hH.at
  obtain ⟨e1, e2, e3, e4, e5, e6, xr, av, e7, e8, hrr, hra⟩ := hcell k hk
  subst e1
  obtain ⟨aa, ac, ab, af, rfl, al, am, acell⟩ := hra.at
  obtain ⟨ga, gc, gb, go, rfl, gl, gm, gcell⟩ := hG.at
  have AC := Lib.hid acell
  have GC := Lib.hid gcell
  have A8 := Lib.hid a8
  clear hcell acell gcell hM hH hR hW hG hmp hrr hra c0 c2 c3 c5 e2 e3 e4 e5 e6 e7 hok a5 a6 hst a8
  unfold leftI otherI
  have a16 : (V.held.getD k default).at_.length ≤ 16 := a7.1
  clear a7
  generalize (V.held.getD k default).at_ = zs at *
  go_enter Try.func41, Try.ntmps41
  go_wp2
  go_loopw [18, 4, 5] (fun v18 v4 v5 wr => ∃ j : Nat, j ≤ zs.length ∧ v18 = .int .i64 j ∧ Below w.heap.size w wr ∧ OwnI wr w.heap.size v4 (leftTo gone zs j) ∧ OwnI wr w.heap.size v5 (otherTo gone zs j) ∧
    ∀ g, v4.ownBlock = some g → v5.ownBlock ≠ some g) (fun v18 _ _ _ => zs.length - (intOf v18).toNat)
  case atStart => exact ⟨0, Nat.zero_le _, rfl, Below.refl _ _, OwnI.nil _ _, OwnI.nil _ _, fun g h => by simp [Value.ownBlock] at h⟩
  case round =>
    obtain ⟨j, hj, rfl, hbel, ol, oo, hap⟩ := hrel
    have OL := Lib.hid ol
    have OO := Lib.hid oo
    have HAP := Lib.hid hap
    have zr := hbel.size
    have l1 := leftTo_len gone zs j
    have l2 := otherTo_len gone zs j
    clear ol oo hap
    by_cases hlt : j < zs.length
    · obtain ⟨d1, d2⟩ := AC.out j hlt
      subst d1
      have hy := A8.out (zs.getD j 0) (by rw [getD_at _ _ _ hlt]; exact List.getElem_mem hlt)
      have hs1 := leftTo_succ gone zs j
      have hs2 := otherTo_succ gone zs j
      rw [← hbel.cell (p := ⟨ab, _, none⟩) (cell_lt d2)] at d2
      rw [← hbel.cell (p := ⟨p, _, none⟩) (cell_lt c4)] at c4
      have HS1 := Lib.hid hs1
      have HS2 := Lib.hid hs2
      clear hs1 hs2
      generalize zs.getD j 0 = y at *
      have hcase : (goodB gone y = true ∧ ∃ d : Nat, y = d ∧ d < V.mem.length ∧ gone d = false) ∨ (goodB gone y = false ∧ (y < 0 ∨ ∃ d : Nat, y = d ∧ d < V.mem.length ∧ gone d = true)) := by
        rcases hy with rfl | ⟨h1, h2⟩
        · exact .inr ⟨by simp [goodB], .inl (by omega)⟩
        · obtain ⟨d, rfl⟩ : ∃ d : Nat, y = d := ⟨y.toNat, by omega⟩
          cases hg : gone d with
          | false => exact .inl ⟨by simp [goodB, hg], d, rfl, by omega, hg⟩
          | true => exact .inr ⟨by simp [goodB, hg], .inr ⟨d, rfl, by omega, hg⟩⟩
      clear hy
      obtain ⟨v3, w3, r3, o1, b1, s1, ow1, z1⟩ := OL.out.app (j : Int) (by omega) zr
      obtain ⟨v4, w4, r4, o2, b2, s2, ow2, z2⟩ := OO.out.app (j : Int) (by omega) zr
      have hsz : ∀ v ds, OwnI wr w.heap.size v ds → ∀ g, v.ownBlock = some g → g < wr.heap.size := fun v ds o g hg => (Own.lt o g hg).2
      rcases hcase with ⟨k1, d, rfl, hd, hgd⟩ | ⟨k1, hcase⟩
      · rw [if_pos k1] at HS1 HS2
        obtain ⟨f1, f2⟩ := GC.out d hd
        subst f1
        have f3 := f2 0 (by omega)
        simp only [Nat.mul_one, Nat.add_zero, hgd] at f3
        rw [← hbel.cell (p := ⟨gb, _, none⟩) (cell_lt f3)] at f3
        have q1 : decide (0 ≤ (d : Int)) = true := decide_eq_true (by omega)
        have hnew : OwnI w3 w.heap.size v3 (leftTo gone zs (j + 1)) := by rw [HS1.out]; exact o1
        have hold : OwnI w3 w.heap.size u5 (otherTo gone zs (j + 1)) := by
          rw [HS2.out, List.append_nil]
          exact Own.same OO.out fun g hg => s1 g (hsz _ _ OO.out g hg) (fun e => HAP.out g e hg)
        have hap' : ∀ g, v3.ownBlock = some g → u5.ownBlock ≠ some g := fun g h1 h2 => by
          rcases ow1 with e | e
          · rw [e] at h1; exact HAP.out g h1 h2
          · rw [e] at h1; cases h1; have := hsz _ _ OO.out _ h2; omega
        have HN := Lib.hid hnew
        have HO := Lib.hid hold
        have HA := Lib.hid hap'
        clear hnew hold hap' o1 o2 s1 s2 ow1 ow2 r4 b2 z2 hsz f2 k1
        go_wp2_with (at_builtin; refine wpList_append_run (by rfl) (.tmp 35) (.tmp 37) 24 (by rfl) _ (.slice (some ⟨wr.heap.size, 0, none⟩) 1 1) v3 w3 (by rfl) (by rfl) r3 ?_)
        go_roundw
        case rel => exact ⟨j + 1, by omega, by go_num, hbel.trans b1, HN.out, HO.out, HA.out⟩
        case measure => simp [intOf]; omega
      · rw [if_neg (by simp [k1])] at HS1 HS2
        have hnew : OwnI w4 w.heap.size v4 (otherTo gone zs (j + 1)) := by rw [HS2.out]; exact o2
        have hold : OwnI w4 w.heap.size u4 (leftTo gone zs (j + 1)) := by
          rw [HS1.out, List.append_nil]
          exact Own.same OL.out fun g hg => s2 g (hsz _ _ OL.out g hg) (fun e => HAP.out g hg e)
        have hap' : ∀ g, u4.ownBlock = some g → v4.ownBlock ≠ some g := fun g h1 h2 => by
          rcases ow2 with e | e
          · rw [e] at h2; exact HAP.out g h1 h2
          · rw [e] at h2; cases h2; have := hsz _ _ OL.out _ h1; omega
        have HN := Lib.hid hnew
        have HO := Lib.hid hold
        have HA := Lib.hid hap'
        clear hnew hold hap' o1 o2 s1 s2 ow1 ow2 r3 b1 z1 hsz k1
        rcases hcase with k2 | ⟨d, rfl, hd, hgd⟩
        · have q1 : decide (0 ≤ y) = false := decide_eq_false (by omega)
          go_wp2_with (at_builtin; refine wpList_append_run (by rfl) (.tmp 39) (.tmp 41) 24 (by rfl) _ (.slice (some ⟨wr.heap.size, 0, none⟩) 1 1) v4 w4 (by rfl) (by rfl) r4 ?_)
          go_roundw
          case rel => exact ⟨j + 1, by omega, by go_num, hbel.trans b2, HO.out, HN.out, HA.out⟩
          case measure => simp [intOf]; omega
        · obtain ⟨f1, f2⟩ := GC.out d hd
          subst f1
          have f3 := f2 0 (by omega)
          simp only [Nat.mul_one, Nat.add_zero, hgd] at f3
          rw [← hbel.cell (p := ⟨gb, _, none⟩) (cell_lt f3)] at f3
          have q1 : decide (0 ≤ (d : Int)) = true := decide_eq_true (by omega)
          clear f2
          go_wp2_with (at_builtin; refine wpList_append_run (by rfl) (.tmp 39) (.tmp 41) 24 (by rfl) _ (.slice (some ⟨wr.heap.size, 0, none⟩) 1 1) v4 w4 (by rfl) (by rfl) r4 ?_)
          go_roundw
          case rel => exact ⟨j + 1, by omega, by go_num, hbel.trans b2, HO.out, HN.out, HA.out⟩
          case measure => simp [intOf]; omega
    · have hjl : j = zs.length := by omega
      subst hjl
      go_wp2
      refine bodyPost_ret (results_tmp2 Try.results41 _ _ _) rfl ?_
      exact ⟨_, _, rfl, OL.out, OO.out, hbel⟩

end Go.Proofs.Ytijcicgbhcphjaa
