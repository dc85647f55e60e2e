/- Ints, sameView: what is alike. -/
import Derived.Test.YtijcicgbhcphjaaT5
namespace Go.Proofs.Ytijcicgbhcphjaa
open Go.RowKit Go.Lib Go.ChangeMaps
set_option linter.unusedSimpArgs false

set_option maxRecDepth 100000 in
set_option maxHeartbeats 4000000 in
theorem ints_same (u v : Value) (zs : List Int) (w : World) (hu : ReadsI w u zs) (hv : ReadsI w v zs) :
    Calls Try.prog 59 #[u, v] w fun e w' => e = .returned (.bool true) ∧ Below w.heap.size w w' := by
  obtain ⟨la, lc, lb, lo, rfl, -, lm, lcell⟩ := hu.at
  obtain ⟨ka, kc, kb, ko, rfl, -, -, kcell⟩ := hv.at
  have LC := Lib.hid lcell
  have KC := Lib.hid kcell
  clear lcell kcell hu hv
  go_enter Try.func59, Try.ntmps59
  go_wp2
  go_loopw [13, 5] (fun v13 _ wr => ∃ i : Nat, i ≤ zs.length ∧ v13 = .int .i64 i ∧ Below w.heap.size w wr) (fun v13 _ _ => zs.length - (intOf v13).toNat)
  case atStart => exact ⟨0, Nat.zero_le _, rfl, Below.refl _ _⟩
  case round =>
    obtain ⟨i, hi, rfl, hbr⟩ := hrel
    by_cases hlt : i < zs.length
    · obtain ⟨rfl, f1⟩ := LC.out i hlt
      obtain ⟨rfl, f2⟩ := KC.out i hlt
      have a0 := bc hbr f1
      have c0 := bc hbr f2
      clear f1 f2
      generalize zs.getD i 0 = x at *
      go_wp2
      go_quiet (fail)
      go_wp2
      go_roundw
      case rel => exact ⟨i + 1, by omega, by go_num, below_drewN hbr _⟩
      case measure => simp [intOf]; omega
    · have hil : i = zs.length := by omega
      subst hil
      go_wp2
      go_ret
      exact ⟨rfl, hbr⟩

theorem merge2 {goal : Prop} {M : Nat → Nat → World → Prop} {F : Nat → Nat → World → Prop} (hb : (∀ a b c, F a b c → M a b c) → goal) (hk : ∀ a b c, F a b c → M a b c) : goal := hb hk
theorem six_set {w : World} {g : Nat} {z0 z1 z2 z3 z4 z5 : Value} {t : TypeId} (h : w.heap[g]? = some (.cells #[z0, z1, z2, z3, z4, z5] t (0, 0))) (a b c d e f : Value) :
    ((((((w.setCell ⟨g, 0, none⟩ a).setCell ⟨g, 1, none⟩ b).setCell ⟨g, 2, none⟩ c).setCell ⟨g, 3, none⟩ d).setCell ⟨g, 4, none⟩ e).setCell ⟨g, 5, none⟩ f).heap[g]? = some (.cells #[a, b, c, d, e, f] t (0, 0)) ∧
    (∀ q, q ≠ g → ((((((w.setCell ⟨g, 0, none⟩ a).setCell ⟨g, 1, none⟩ b).setCell ⟨g, 2, none⟩ c).setCell ⟨g, 3, none⟩ d).setCell ⟨g, 4, none⟩ e).setCell ⟨g, 5, none⟩ f).heap[q]? = w.heap[q]?) ∧
    ∀ B w0, B ≤ g → Below B w0 w → Below B w0 ((((((w.setCell ⟨g, 0, none⟩ a).setCell ⟨g, 1, none⟩ b).setCell ⟨g, 2, none⟩ c).setCell ⟨g, 3, none⟩ d).setCell ⟨g, 4, none⟩ e).setCell ⟨g, 5, none⟩ f) := by
  refine ⟨setCell_block (setCell_block (setCell_block (setCell_block (setCell_block (setCell_block h a) b) c) d) e) f, fun q hq => ?_, fun B w0 hB hb => ?_⟩
  · rw [setCell_other _ _ hq, setCell_other _ _ hq, setCell_other _ _ hq, setCell_other _ _ hq, setCell_other _ _ hq, setCell_other _ _ hq]
  · exact (((((hb.setCell hB _).setCell hB _).setCell hB _).setCell hB _).setCell hB _).setCell hB _

set_option maxRecDepth 100000 in
set_option maxHeartbeats 32000000 in
theorem view_same (a b : Value) (V : Vp) (w : World) (ha : VwAt w a V) (hb : VwAt w b V) :
    Calls Try.prog 30 #[a, b] w fun e w' => e = .returned (.bool true) ∧ Below w.heap.size w w' := by
  obtain ⟨mv, hv, rv, wv, rfl, hM, hH, hRm, hW⟩ := ha
  obtain ⟨mv', hv', rv', wv', rfl, hM', hH', hRm', hW'⟩ := hb
  have CI1 := Lib.hid (fun W (h : Below w.heap.size w W) => ints_same _ _ V.room W (hRm.below h) (hRm'.below h))
  have CI2 := Lib.hid (fun W (h : Below w.heap.size w W) => ints_same _ _ V.weight W (hW.below h) (hW'.below h))
  obtain ⟨ma, mc, mb, mo, rfl, -, mm, mcell⟩ := hM.at
  obtain ⟨xa, xc, xb, xo, rfl, -, xm, xcell⟩ := hH.at
  obtain ⟨ra, rc, _, _, rfl, -⟩ := hRm.at
  obtain ⟨wa, wc, _, _, rfl, -⟩ := hW.at
  obtain ⟨na, nc, nb, no, rfl, -, -, ncell⟩ := hM'.at
  obtain ⟨ya, yc, yb, yo, rfl, -, -, ycell⟩ := hH'.at
  obtain ⟨pa, pc, _, _, rfl, -⟩ := hRm'.at
  obtain ⟨qa, qc, _, _, rfl, -⟩ := hW'.at
  have MC := Lib.hid mcell
  have NC := Lib.hid ncell
  have XC := Lib.hid xcell
  have YC := Lib.hid ycell
  clear mcell ncell xcell ycell hM hM' hH hH' hRm hRm' hW hW'
  obtain ⟨nh, hnh⟩ : ∃ nh, nh = V.held.length := ⟨_, rfl⟩
  rw [← hnh] at XC YC xm ⊢
  clear hnh
  obtain ⟨ml, hml⟩ : ∃ ml, ml = V.mem.length := ⟨_, rfl⟩
  rw [← hml] at MC NC mm ⊢
  clear hml
  obtain ⟨rl, hrl⟩ : ∃ rl, rl = V.room.length := ⟨_, rfl⟩
  rw [← hrl] at CI1 ⊢
  clear hrl
  obtain ⟨wl, hwl⟩ : ∃ wl, wl = V.weight.length := ⟨_, rfl⟩
  rw [← hwl] at CI2 ⊢
  clear hwl
  have hb0 : Below w.heap.size w ((w.alloc (.cells #[.slice ma ml mc, .slice xa nh xc, .slice ra rl rc, .slice wa wl wc] 26)).alloc (.cells #[.slice na ml nc, .slice ya nh yc, .slice pa rl pc, .slice qa wl qc] 33)) := by (repeat' (first | (with_reducible exact Below.refl _ _) | (with_reducible assumption) | (with_reducible refine Below.alloc ?_ ?_ _) | (with_reducible refine Below.drew ?_) | (with_reducible refine below_drewN ?_ _) | (with_reducible refine Below.setCell ?_ ?_ _) | (with_reducible refine below_step ?_ (by with_reducible assumption) ?_) | go_size))
  have kA : ((w.alloc (.cells #[.slice ma ml mc, .slice xa nh xc, .slice ra rl rc, .slice wa wl wc] 26)).alloc (.cells #[.slice na ml nc, .slice ya nh yc, .slice pa rl pc, .slice qa wl qc] 33)).heap[w.heap.size]? = some (.cells #[.slice ma ml mc, .slice xa nh xc, .slice ra rl rc, .slice wa wl wc] 26 (0, 0)) := by
    show ((w.heap.push _).push _)[_]? = _; simp only [Array.getElem?_push, Array.size_push]; repeat (first | rw [if_pos trivial] | rw [if_pos (by omega)] | rw [if_neg (by omega)])
  have kB : ((w.alloc (.cells #[.slice ma ml mc, .slice xa nh xc, .slice ra rl rc, .slice wa wl wc] 26)).alloc (.cells #[.slice na ml nc, .slice ya nh yc, .slice pa rl pc, .slice qa wl qc] 33)).heap[w.heap.size + 1]? = some (.cells #[.slice na ml nc, .slice ya nh yc, .slice pa rl pc, .slice qa wl qc] 33 (0, 0)) := by
    show ((w.heap.push _).push _)[_]? = _; simp only [Array.getElem?_push, Array.size_push]; repeat (first | rw [if_pos trivial] | rw [if_pos (by omega)] | rw [if_neg (by omega)])
  have KA := Lib.hid kA
  have KB := Lib.hid kB
  clear kA kB
  go_enter Try.func30, Try.ntmps30
  go_upto_region 1 with fail
  generalize ((w.alloc (.cells #[.slice ma ml mc, .slice xa nh xc, .slice ra rl rc, .slice wa wl wc] 26)).alloc (.cells #[.slice na ml nc, .slice ya nh yc, .slice pa rl pc, .slice qa wl qc] 33)) = W0 at *
  have a0 := cell_of_row _ w.heap.size 0 _ _ _ KA.out
  have a1 := cell_of_row _ w.heap.size 1 _ _ _ KA.out
  have a2 := cell_of_row _ w.heap.size 2 _ _ _ KA.out
  have a3 := cell_of_row _ w.heap.size 3 _ _ _ KA.out
  have b0 := cell_of_row _ (w.heap.size + 1) 0 _ _ _ KB.out
  have b1 := cell_of_row _ (w.heap.size + 1) 1 _ _ _ KB.out
  have b2 := cell_of_row _ (w.heap.size + 1) 2 _ _ _ KB.out
  have b3 := cell_of_row _ (w.heap.size + 1) 3 _ _ _ KB.out
  go_wp2_with fail
  refine (CI1.out _ hb0).mono ?_
  rintro e w1 ⟨rfl, hb1⟩
  have hbw1 := hb0.trans (hb1.mono hb0.size)
  have KA1 := Lib.hid (bb hb1 KA.out)
  have KB1 := Lib.hid (bb hb1 KB.out)
  clear a0 a1 a2 a3 b0 b1 b2 b3 KA KB hb1 hb0 CI1
  have a0 := cell_of_row _ w.heap.size 0 _ _ _ KA1.out
  have a1 := cell_of_row _ w.heap.size 1 _ _ _ KA1.out
  have a2 := cell_of_row _ w.heap.size 2 _ _ _ KA1.out
  have a3 := cell_of_row _ w.heap.size 3 _ _ _ KA1.out
  have b0 := cell_of_row _ (w.heap.size + 1) 0 _ _ _ KB1.out
  have b1 := cell_of_row _ (w.heap.size + 1) 1 _ _ _ KB1.out
  have b2 := cell_of_row _ (w.heap.size + 1) 2 _ _ _ KB1.out
  have b3 := cell_of_row _ (w.heap.size + 1) 3 _ _ _ KB1.out
  go_wp2_with fail
  refine (CI2.out _ hbw1).mono ?_
  rintro e w2 ⟨rfl, hb2⟩
  have hbw2 := hbw1.trans (hb2.mono hbw1.size)
  have KA2 := Lib.hid (bb hb2 KA1.out)
  have KB2 := Lib.hid (bb hb2 KB1.out)
  clear a0 a1 a2 a3 b0 b1 b2 b3 KA1 KB1 hb2 hbw1 CI2
  have a0 := cell_of_row _ w.heap.size 0 _ _ _ KA2.out
  go_wp2
  clear a0
  go_loopw [45, 5] (fun v45 _ wr => ∃ i : Nat, i ≤ ml ∧ v45 = .int .i64 i ∧ Below w2.heap.size w2 wr) (fun v45 _ _ => ml - (intOf v45).toNat)
  case atStart => exact ⟨0, Nat.zero_le _, rfl, Below.refl _ _⟩
  case round =>
    obtain ⟨i, hi, rfl, hbr⟩ := hrel
    have hbwr := hbw2.trans (hbr.mono hbw2.size)
    have KA3 := Lib.hid (bb hbr KA2.out)
    have KB3 := Lib.hid (bb hbr KB2.out)
    by_cases hlt : i < ml
    · obtain ⟨rfl, e0, e1, e2, e3, e4⟩ := MC.out i hlt
      obtain ⟨rfl, f0, f1, f2, f3, f4⟩ := NC.out i hlt
      have e0 := bc hbwr e0
      have e1 := bc hbwr e1
      have e2 := bc hbwr e2
      have e3 := bc hbwr e3
      have e4 := bc hbwr e4
      have f0 := bc hbwr f0
      have f1 := bc hbwr f1
      have f2 := bc hbwr f2
      have f3 := bc hbwr f3
      have f4 := bc hbwr f4
      have a0 := cell_of_row _ w.heap.size 0 _ _ _ KA3.out
      have b0 := cell_of_row _ (w.heap.size + 1) 0 _ _ _ KB3.out
      generalize V.mem.getD i default = y at *
      obtain ⟨dev, name, pub, quota, exp⟩ := y
      simp only at e0 e1 e2 e3 e4 f0 f1 f2 f3 f4
      go_wp2
      go_quiet (fail)
      go_wp2
      go_roundw
      case rel => exact ⟨i + 1, by omega, by go_num, below_drewN hbr _⟩
      case measure => simp [intOf]; omega
    · have hil : i = ml := by omega
      subst hil
      clear KA2 KB2 hbr hbw2 MC NC
      have a1 := cell_of_row _ w.heap.size 1 _ _ _ KA3.out
      obtain ⟨wo, hwo⟩ : ∃ wo, wo = wr := ⟨_, rfl⟩
      subst hwo
      go_wp2
      clear a1
      go_loopw [63, 6, 7, 8] (fun v63 _ _ _ wi => ∃ j : Nat, j ≤ nh ∧ v63 = .int .i64 j ∧ Below wo.heap.size wo wi) (fun v63 _ _ _ _ => nh - (intOf v63).toNat)
      case atStart => exact ⟨0, Nat.zero_le _, rfl, Below.refl _ _⟩
      case round =>
        obtain ⟨j, hj, rfl, hbj⟩ := hrel
        have hbw := hbwr.trans (hbj.mono hbwr.size)
        have KA4 := Lib.hid (bb hbj KA3.out)
        have KB4 := Lib.hid (bb hbj KB3.out)
        by_cases hltj : j < nh
        · obtain ⟨rfl, c0, c1, c2, c3, c4, rv1, av1, c5, c6, hr1, ha1⟩ := XC.out j hltj
          obtain ⟨rfl, d0, d1, d2, d3, d4, rv2, av2, d5, d6, hr2, ha2⟩ := YC.out j hltj
          have c0 := bc hbw c0
          have c1 := bc hbw c1
          have c2 := bc hbw c2
          have c3 := bc hbw c3
          have c4 := bc hbw c4
          have c5 := bc hbw c5
          have c6 := bc hbw c6
          have d0 := bc hbw d0
          have d1 := bc hbw d1
          have d2 := bc hbw d2
          have d3 := bc hbw d3
          have d4 := bc hbw d4
          have d5 := bc hbw d5
          have d6 := bc hbw d6
          have CI := Lib.hid (fun W (h : Below wr.heap.size wr W) => ints_same _ _ _ W ((ha1.below hbw).below h) ((ha2.below hbw).below h))
          obtain ⟨ka, kc, kb, ko, rfl, -, km, kcell⟩ := hr1.at
          obtain ⟨la, lc, lb, lo, rfl, -, -, lcell⟩ := hr2.at
          obtain ⟨ua, uc, _, _, rfl, -⟩ := ha1.at
          obtain ⟨va, vc, _, _, rfl, -⟩ := ha2.at
          have KC := Lib.hid kcell
          have LC := Lib.hid lcell
          have a1 := cell_of_row _ w.heap.size 1 _ _ _ KA4.out
          have b1 := cell_of_row _ (w.heap.size + 1) 1 _ _ _ KB4.out
          clear hr1 hr2 ha1 ha2 kcell lcell
          generalize V.held.getD j default = y at *
          obtain ⟨id, vault, block, data, total, refs, zs⟩ := y
          simp only at c0 c1 c2 c3 c4 c5 c6 d0 d1 d2 d3 d4 d5 d6 CI KC LC km
          generalize zs.length = zl at *
          obtain ⟨ql, hql⟩ : ∃ ql, ql = refs.length := ⟨_, rfl⟩
          rw [← hql] at KC LC c5 d5 km
          clear hql
          go_upto_region 12 with fail
          have hW0 : Below wr.heap.size wr wr.drew := (Below.refl _ _).drew
          have HSB0 : ∀ w' : World, Below (wr).drew.heap.size (wr).drew w' → (w'.cell? ⟨w.heap.size, 1, none⟩ = some (.slice (some ⟨xb, xo, none⟩) nh xc) ∧ w'.cell? ⟨w.heap.size + 1, 1, none⟩ = some (.slice (some ⟨yb, yo, none⟩) nh yc) ∧ w'.cell? ⟨xb, xo + j * 7, none⟩ = some (.string id) ∧ w'.cell? ⟨xb, xo + j * 7 + 1, none⟩ = some (.int .i64 vault) ∧ w'.cell? ⟨xb, xo + j * 7 + 2, none⟩ = some (.int .i64 block) ∧ w'.cell? ⟨xb, xo + j * 7 + 3, none⟩ = some (.int .i64 data) ∧ w'.cell? ⟨xb, xo + j * 7 + 4, none⟩ = some (.int .i64 total) ∧ w'.cell? ⟨xb, xo + j * 7 + 5, none⟩ = some (.slice ka ql kc) ∧ w'.cell? ⟨yb, yo + j * 7, none⟩ = some (.string id) ∧ w'.cell? ⟨yb, yo + j * 7 + 1, none⟩ = some (.int .i64 vault) ∧ w'.cell? ⟨yb, yo + j * 7 + 2, none⟩ = some (.int .i64 block) ∧ w'.cell? ⟨yb, yo + j * 7 + 3, none⟩ = some (.int .i64 data) ∧ w'.cell? ⟨yb, yo + j * 7 + 4, none⟩ = some (.int .i64 total) ∧ w'.cell? ⟨yb, yo + j * 7 + 5, none⟩ = some (.slice la ql lc)) := fun w' hb => ⟨bc hb a1, bc hb b1, bc hb c0, bc hb c1, bc hb c2, bc hb c3, bc hb c4, bc hb c5, bc hb d0, bc hb d1, bc hb d2, bc hb d3, bc hb d4, bc hb d5⟩
          refine wp_region_held_drew (S := fun w' => w'.cell? ⟨w.heap.size, 1, none⟩ = some (.slice (some ⟨xb, xo, none⟩) nh xc) ∧ w'.cell? ⟨w.heap.size + 1, 1, none⟩ = some (.slice (some ⟨yb, yo, none⟩) nh yc) ∧ w'.cell? ⟨xb, xo + j * 7, none⟩ = some (.string id) ∧ w'.cell? ⟨xb, xo + j * 7 + 1, none⟩ = some (.int .i64 vault) ∧ w'.cell? ⟨xb, xo + j * 7 + 2, none⟩ = some (.int .i64 block) ∧ w'.cell? ⟨xb, xo + j * 7 + 3, none⟩ = some (.int .i64 data) ∧ w'.cell? ⟨xb, xo + j * 7 + 4, none⟩ = some (.int .i64 total) ∧ w'.cell? ⟨xb, xo + j * 7 + 5, none⟩ = some (.slice ka ql kc) ∧ w'.cell? ⟨yb, yo + j * 7, none⟩ = some (.string id) ∧ w'.cell? ⟨yb, yo + j * 7 + 1, none⟩ = some (.int .i64 vault) ∧ w'.cell? ⟨yb, yo + j * 7 + 2, none⟩ = some (.int .i64 block) ∧ w'.cell? ⟨yb, yo + j * 7 + 3, none⟩ = some (.int .i64 data) ∧ w'.cell? ⟨yb, yo + j * 7 + 4, none⟩ = some (.int .i64 total) ∧ w'.cell? ⟨yb, yo + j * 7 + 5, none⟩ = some (.slice la ql lc)) (by kernel_rfl) (HSB0 _ (Below.refl _ _)) (fun hHeld => ?_)
          have HSB := Lib.hid HSB0
          clear HSB0
          generalize (wr).drew = Wd at *
          refine wpAnyH_take (i := 0) (v := ?_) rfl (by kernel_rfl) (by kernel_rfl) (by kernel_rfl) (fun _ _ _ h => h) (Or.inl ⟨by rfl, ?_⟩) (by assumption) ?_
          rotate_left; · (intro w hSw; (try dsimp only at hSw); go_simp; try with_reducible rfl)
          try simp only [Act.put, List.getElem_toArray, List.getElem_cons_zero, List.getElem_cons_succ, List.setIfInBounds_toArray, List.set_cons_zero, List.set_cons_succ]
          refine wpAnyH_take (i := 1) (v := ?_) rfl (by kernel_rfl) (by kernel_rfl) (by kernel_rfl) (fun _ _ _ h => h) (Or.inl ⟨by rfl, ?_⟩) (by assumption) ?_
          rotate_left; · (intro w hSw; (try dsimp only at hSw); go_simp; try with_reducible rfl)
          try simp only [Act.put, List.getElem_toArray, List.getElem_cons_zero, List.getElem_cons_succ, List.setIfInBounds_toArray, List.set_cons_zero, List.set_cons_succ]
          refine wpAnyH_take (i := 2) (v := ?_) rfl (by kernel_rfl) (by kernel_rfl) (by kernel_rfl) (fun _ _ _ h => h) (Or.inl ⟨by rfl, ?_⟩) (by assumption) ?_
          rotate_left; · (intro w hSw; (try dsimp only at hSw); go_simp; try with_reducible rfl)
          try simp only [Act.put, List.getElem_toArray, List.getElem_cons_zero, List.getElem_cons_succ, List.setIfInBounds_toArray, List.set_cons_zero, List.set_cons_succ]
          refine wpAnyH_take (i := 3) (v := ?_) rfl (by kernel_rfl) (by kernel_rfl) (by kernel_rfl) (fun _ _ _ h => h) (Or.inl ⟨by rfl, ?_⟩) (by assumption) ?_
          rotate_left; · (intro w hSw; (try dsimp only at hSw); go_simp; try with_reducible rfl)
          try simp only [Act.put, List.getElem_toArray, List.getElem_cons_zero, List.getElem_cons_succ, List.setIfInBounds_toArray, List.set_cons_zero, List.set_cons_succ]
          refine wpAnyH_take (i := 4) (v := ?_) rfl (by kernel_rfl) (by kernel_rfl) (by kernel_rfl) (fun _ _ _ h => h) (Or.inl ⟨by rfl, ?_⟩) (by assumption) ?_
          rotate_left; · (intro w hSw; (try dsimp only at hSw); go_simp; try with_reducible rfl)
          try simp only [Act.put, List.getElem_toArray, List.getElem_cons_zero, List.getElem_cons_succ, List.setIfInBounds_toArray, List.set_cons_zero, List.set_cons_succ]
          refine wpAnyH_take (i := 5) (v := ?_) rfl (by kernel_rfl) (by kernel_rfl) (by kernel_rfl) (fun _ _ _ h => h) (Or.inl ⟨by rfl, ?_⟩) (by assumption) ?_
          rotate_left; · (intro w hSw; (try dsimp only at hSw); go_simp; try with_reducible rfl)
          try simp only [Act.put, List.getElem_toArray, List.getElem_cons_zero, List.getElem_cons_succ, List.setIfInBounds_toArray, List.set_cons_zero, List.set_cons_succ]
          refine wpAnyH_take (i := 6) (v := ?_) rfl (by kernel_rfl) (by kernel_rfl) (by kernel_rfl) (fun _ _ _ h => h) (Or.inl ⟨by rfl, ?_⟩) (by assumption) ?_
          rotate_left; · (intro w hSw; (try dsimp only at hSw); go_simp; try with_reducible rfl)
          try simp only [Act.put, List.getElem_toArray, List.getElem_cons_zero, List.getElem_cons_succ, List.setIfInBounds_toArray, List.set_cons_zero, List.set_cons_succ]
          refine wpAnyH_take (i := 7) (v := ?_) rfl (by kernel_rfl) (by kernel_rfl) (by kernel_rfl) (fun _ _ _ h => h) (Or.inl ⟨by rfl, ?_⟩) (by assumption) ?_
          rotate_left; · (intro w hSw; (try dsimp only at hSw); go_simp; try with_reducible rfl)
          try simp only [Act.put, List.getElem_toArray, List.getElem_cons_zero, List.getElem_cons_succ, List.setIfInBounds_toArray, List.set_cons_zero, List.set_cons_succ]
          refine wpAnyH_take (i := 8) (v := ?_) rfl (by kernel_rfl) (by kernel_rfl) (by kernel_rfl) (fun _ _ _ h => h) (Or.inl ⟨by rfl, ?_⟩) (by assumption) ?_
          rotate_left; · (intro w hSw; (try dsimp only at hSw); go_simp; try with_reducible rfl)
          try simp only [Act.put, List.getElem_toArray, List.getElem_cons_zero, List.getElem_cons_succ, List.setIfInBounds_toArray, List.set_cons_zero, List.set_cons_succ]
          refine wpAnyH_take (i := 9) (v := ?_) rfl (by kernel_rfl) (by kernel_rfl) (by kernel_rfl) (fun _ _ _ h => h) (Or.inl ⟨by rfl, ?_⟩) (by assumption) ?_
          rotate_left; · (intro w hSw; (try dsimp only at hSw); go_simp; try with_reducible rfl)
          try simp only [Act.put, List.getElem_toArray, List.getElem_cons_zero, List.getElem_cons_succ, List.setIfInBounds_toArray, List.set_cons_zero, List.set_cons_succ]
          refine wpAnyH_take (i := 10) (v := ?_) rfl (by kernel_rfl) (by kernel_rfl) (by kernel_rfl) (fun _ _ _ h => h) (Or.inl ⟨by rfl, ?_⟩) (by assumption) ?_
          rotate_left; · (intro w hSw; (try dsimp only at hSw); go_simp; try with_reducible rfl)
          try simp only [Act.put, List.getElem_toArray, List.getElem_cons_zero, List.getElem_cons_succ, List.setIfInBounds_toArray, List.set_cons_zero, List.set_cons_succ]
          refine wpAnyH_take (i := 11) (v := ?_) rfl (by kernel_rfl) (by kernel_rfl) (by kernel_rfl) (fun _ _ _ h => h) (Or.inl ⟨by rfl, ?_⟩) (by assumption) ?_
          rotate_left; · (intro w hSw; (try dsimp only at hSw); go_simp; try with_reducible rfl)
          try simp only [Act.put, List.getElem_toArray, List.getElem_cons_zero, List.getElem_cons_succ, List.setIfInBounds_toArray, List.set_cons_zero, List.set_cons_succ]
          clear a1 b1 c0 c1 c2 c3 c4 c5 d0 d1 d2 d3 d4 d5
          apply merge2 (F := fun g1 g2 wz => Below Wd.heap.size Wd wz ∧ Wd.heap.size ≤ g1 ∧ Wd.heap.size ≤ g2 ∧ g1 ≠ g2 ∧ wz.heap[g1]? = some (.cells #[.string ⟨#[]⟩, .int .i64 0, .int .i64 0, .int .i64 0, .int .i64 0, .slice none 0 0] 50 (0, 0)) ∧ wz.heap[g2]? = some (.cells #[.string ⟨#[]⟩, .int .i64 0, .int .i64 0, .int .i64 0, .int .i64 0, .slice none 0 0] 50 (0, 0)))
          intro key
          have hAl1 : Below Wd.heap.size Wd (Wd.alloc (.cells #[.string ⟨#[]⟩, .int .i64 0, .int .i64 0, .int .i64 0, .int .i64 0, .slice none 0 0] 50)) := sbell _
          have hAl2 : Below Wd.heap.size Wd ((Wd.alloc (.cells #[.string ⟨#[]⟩, .int .i64 0, .int .i64 0, .int .i64 0, .int .i64 0, .slice none 0 0] 50)).alloc (.cells #[.string ⟨#[]⟩, .int .i64 0, .int .i64 0, .int .i64 0, .int .i64 0, .slice none 0 0] 50)) := hAl1.alloc hAl1.size _
          have hz1 : (Wd.alloc (.cells #[.string ⟨#[]⟩, .int .i64 0, .int .i64 0, .int .i64 0, .int .i64 0, .slice none 0 0] 50)).heap.size = Wd.heap.size + 1 := World.size_alloc _ _
          have hk1 : ((Wd.alloc (.cells #[.string ⟨#[]⟩, .int .i64 0, .int .i64 0, .int .i64 0, .int .i64 0, .slice none 0 0] 50)).alloc (.cells #[.string ⟨#[]⟩, .int .i64 0, .int .i64 0, .int .i64 0, .int .i64 0, .slice none 0 0] 50)).heap[Wd.heap.size]? = some (.cells #[.string ⟨#[]⟩, .int .i64 0, .int .i64 0, .int .i64 0, .int .i64 0, .slice none 0 0] 50 (0, 0)) := bb (sbell _) (heap_alloc_new Wd _)
          have hk2 : ((Wd.alloc (.cells #[.string ⟨#[]⟩, .int .i64 0, .int .i64 0, .int .i64 0, .int .i64 0, .slice none 0 0] 50)).alloc (.cells #[.string ⟨#[]⟩, .int .i64 0, .int .i64 0, .int .i64 0, .int .i64 0, .slice none 0 0] 50)).heap[Wd.heap.size + 1]? = some (.cells #[.string ⟨#[]⟩, .int .i64 0, .int .i64 0, .int .i64 0, .int .i64 0, .slice none 0 0] 50 (0, 0)) := by
            have := heap_alloc_new (Wd.alloc (.cells #[.string ⟨#[]⟩, .int .i64 0, .int .i64 0, .int .i64 0, .int .i64 0, .slice none 0 0] 50)) (.cells #[.string ⟨#[]⟩, .int .i64 0, .int .i64 0, .int .i64 0, .int .i64 0, .slice none 0 0] 50)
            rw [hz1] at this
            exact this
          have HF1 := Lib.hid (show Below Wd.heap.size Wd ((Wd.alloc (.cells #[.string ⟨#[]⟩, .int .i64 0, .int .i64 0, .int .i64 0, .int .i64 0, .slice none 0 0] 50)).alloc (.cells #[.string ⟨#[]⟩, .int .i64 0, .int .i64 0, .int .i64 0, .int .i64 0, .slice none 0 0] 50)) ∧ Wd.heap.size ≤ Wd.heap.size ∧ Wd.heap.size ≤ Wd.heap.size + 1 ∧ Wd.heap.size ≠ Wd.heap.size + 1 ∧ ((Wd.alloc (.cells #[.string ⟨#[]⟩, .int .i64 0, .int .i64 0, .int .i64 0, .int .i64 0, .slice none 0 0] 50)).alloc (.cells #[.string ⟨#[]⟩, .int .i64 0, .int .i64 0, .int .i64 0, .int .i64 0, .slice none 0 0] 50)).heap[Wd.heap.size]? = some (.cells #[.string ⟨#[]⟩, .int .i64 0, .int .i64 0, .int .i64 0, .int .i64 0, .slice none 0 0] 50 (0, 0)) ∧ ((Wd.alloc (.cells #[.string ⟨#[]⟩, .int .i64 0, .int .i64 0, .int .i64 0, .int .i64 0, .slice none 0 0] 50)).alloc (.cells #[.string ⟨#[]⟩, .int .i64 0, .int .i64 0, .int .i64 0, .int .i64 0, .slice none 0 0] 50)).heap[Wd.heap.size + 1]? = some (.cells #[.string ⟨#[]⟩, .int .i64 0, .int .i64 0, .int .i64 0, .int .i64 0, .slice none 0 0] 50 (0, 0)) from ⟨hAl2, Nat.le_refl _, by omega, by omega, hk1, hk2⟩)
          have HF2 := Lib.hid (show Below Wd.heap.size Wd ((Wd.alloc (.cells #[.string ⟨#[]⟩, .int .i64 0, .int .i64 0, .int .i64 0, .int .i64 0, .slice none 0 0] 50)).alloc (.cells #[.string ⟨#[]⟩, .int .i64 0, .int .i64 0, .int .i64 0, .int .i64 0, .slice none 0 0] 50)) ∧ Wd.heap.size ≤ Wd.heap.size + 1 ∧ Wd.heap.size ≤ Wd.heap.size ∧ Wd.heap.size + 1 ≠ Wd.heap.size ∧ ((Wd.alloc (.cells #[.string ⟨#[]⟩, .int .i64 0, .int .i64 0, .int .i64 0, .int .i64 0, .slice none 0 0] 50)).alloc (.cells #[.string ⟨#[]⟩, .int .i64 0, .int .i64 0, .int .i64 0, .int .i64 0, .slice none 0 0] 50)).heap[Wd.heap.size + 1]? = some (.cells #[.string ⟨#[]⟩, .int .i64 0, .int .i64 0, .int .i64 0, .int .i64 0, .slice none 0 0] 50 (0, 0)) ∧ ((Wd.alloc (.cells #[.string ⟨#[]⟩, .int .i64 0, .int .i64 0, .int .i64 0, .int .i64 0, .slice none 0 0] 50)).alloc (.cells #[.string ⟨#[]⟩, .int .i64 0, .int .i64 0, .int .i64 0, .int .i64 0, .slice none 0 0] 50)).heap[Wd.heap.size]? = some (.cells #[.string ⟨#[]⟩, .int .i64 0, .int .i64 0, .int .i64 0, .int .i64 0, .slice none 0 0] 50 (0, 0)) from ⟨hAl2, by omega, Nat.le_refl _, by omega, hk2, hk1⟩)
          have HA1 := Lib.hid (HSB.out _ hAl1)
          have HA2 := Lib.hid (HSB.out _ hAl2)
          clear hz1 hk1 hk2 hAl1 hAl2
          refine wpAnyH_ready (rs := [12, 13]) (by kernel_rfl) (by simp) ?_
          refine AllReadyH.cons rfl (fun K hK => ?_) (AllReadyH.cons rfl (fun K hK => ?_) AllReadyH.nil)
          · skip
            go_simp
            refine hK.out _ _ HA1.out (fun hNew => ?_)
            clear hK K hNew
            (try clear hHeld)
            have hHeld := HA1.out
            try simp only [Act.put, List.getElem_toArray, List.getElem_cons_zero, List.getElem_cons_succ, List.setIfInBounds_toArray, List.set_cons_zero, List.set_cons_succ]
            refine wpAnyH_ready (rs := [13]) (by kernel_rfl) (by simp) ?_
            refine AllReadyH.cons rfl (fun K hK => ?_) AllReadyH.nil
            go_simp
            refine hK.out _ _ (HA2.out) (fun hNew => ?_)
            clear hK K hNew
            (try clear hHeld)
            have hHeld := HA2.out
            try simp only [Act.put, List.getElem_toArray, List.getElem_cons_zero, List.getElem_cons_succ, List.setIfInBounds_toArray, List.set_cons_zero, List.set_cons_succ]
            have hF := HF1.out
            generalize ((Wd.alloc (.cells #[.string ⟨#[]⟩, .int .i64 0, .int .i64 0, .int .i64 0, .int .i64 0, .slice none 0 0] 50)).alloc (.cells #[.string ⟨#[]⟩, .int .i64 0, .int .i64 0, .int .i64 0, .int .i64 0, .slice none 0 0] 50)) = wz at *
            obtain ⟨gx, ex⟩ : ∃ g, g = Wd.heap.size := ⟨_, rfl⟩
            obtain ⟨gy, ey⟩ : ∃ g, g = Wd.heap.size + 1 := ⟨_, rfl⟩
            rw [← ey, ← ex]
            exact key gx gy wz (by rw [ex, ey]; exact hF)
          · skip
            go_simp
            refine hK.out _ _ HA1.out (fun hNew => ?_)
            clear hK K hNew
            (try clear hHeld)
            have hHeld := HA1.out
            try simp only [Act.put, List.getElem_toArray, List.getElem_cons_zero, List.getElem_cons_succ, List.setIfInBounds_toArray, List.set_cons_zero, List.set_cons_succ]
            refine wpAnyH_ready (rs := [12]) (by kernel_rfl) (by simp) ?_
            refine AllReadyH.cons rfl (fun K hK => ?_) AllReadyH.nil
            go_simp
            refine hK.out _ _ (HA2.out) (fun hNew => ?_)
            clear hK K hNew
            (try clear hHeld)
            have hHeld := HA2.out
            try simp only [Act.put, List.getElem_toArray, List.getElem_cons_zero, List.getElem_cons_succ, List.setIfInBounds_toArray, List.set_cons_zero, List.set_cons_succ]
            have hF := HF2.out
            generalize ((Wd.alloc (.cells #[.string ⟨#[]⟩, .int .i64 0, .int .i64 0, .int .i64 0, .int .i64 0, .slice none 0 0] 50)).alloc (.cells #[.string ⟨#[]⟩, .int .i64 0, .int .i64 0, .int .i64 0, .int .i64 0, .slice none 0 0] 50)) = wz at *
            obtain ⟨gx, ex⟩ : ∃ g, g = Wd.heap.size := ⟨_, rfl⟩
            obtain ⟨gy, ey⟩ : ∃ g, g = Wd.heap.size + 1 := ⟨_, rfl⟩
            rw [← ey, ← ex]
            exact key gy gx wz (by rw [ex, ey]; exact hF)
          intro g1 g2 wz ⟨hbz, hg1, hg2, hgg, hk1, hk2⟩
          have HSW := Lib.hid (HSB.out _ hbz)
          have u0 := cell_of_row wz g1 0 _ _ _ hk1
          have u1 := cell_of_row wz g1 1 _ _ _ hk1
          have u2 := cell_of_row wz g1 2 _ _ _ hk1
          have u3 := cell_of_row wz g1 3 _ _ _ hk1
          have u4 := cell_of_row wz g1 4 _ _ _ hk1
          have u5 := cell_of_row wz g1 5 _ _ _ hk1
          have f0 := frozen_of_row wz g1 0 _ _ hk1
          have f1 := frozen_of_row wz g1 1 _ _ hk1
          have f2 := frozen_of_row wz g1 2 _ _ hk1
          have f3 := frozen_of_row wz g1 3 _ _ hk1
          have f4 := frozen_of_row wz g1 4 _ _ hk1
          have f5 := frozen_of_row wz g1 5 _ _ hk1
          obtain ⟨x1, x2, x3⟩ := six_set hk1 (.string id) (.int .i64 vault) (.int .i64 block) (.int .i64 data) (.int .i64 total) (.slice ka ql kc)
          have hb1 := x3 Wd.heap.size Wd hg1 hbz
          have hk2' := (x2 g2 (Ne.symm hgg)).trans hk2
          have HX1 := Lib.hid x1
          have HK2 := Lib.hid hk2'
          have HS1 := Lib.hid (HSB.out _ hb1)
          have HB1 := Lib.hid hb1
          clear x1 x2 x3 hk1 hk2 hk2' hb1 hbz
          refine wpAnyH_ready (rs := [14]) (by kernel_rfl) (by simp) ?_
          refine AllReadyH.cons rfl (fun K hK => ?_) AllReadyH.nil
          go_simp
          refine hK.out _ _ (HS1.out) (fun hNew => ?_)
          clear hK K hNew
          (try clear hHeld)
          have hHeld := HS1.out
          try simp only [Act.put, List.getElem_toArray, List.getElem_cons_zero, List.getElem_cons_succ, List.setIfInBounds_toArray, List.set_cons_zero, List.set_cons_succ]
          clear u0 u1 u2 u3 u4 u5 f0 f1 f2 f3 f4 f5 HSW
          generalize ((((((wz).setCell ⟨g1, 0, none⟩ (.string id)).setCell ⟨g1, 1, none⟩ (.int .i64 vault)).setCell ⟨g1, 2, none⟩ (.int .i64 block)).setCell ⟨g1, 3, none⟩ (.int .i64 data)).setCell ⟨g1, 4, none⟩ (.int .i64 total)).setCell ⟨g1, 5, none⟩ (.slice ka ql kc) = w1z at *
          have u0 := cell_of_row w1z g2 0 _ _ _ HK2.out
          have u1 := cell_of_row w1z g2 1 _ _ _ HK2.out
          have u2 := cell_of_row w1z g2 2 _ _ _ HK2.out
          have u3 := cell_of_row w1z g2 3 _ _ _ HK2.out
          have u4 := cell_of_row w1z g2 4 _ _ _ HK2.out
          have u5 := cell_of_row w1z g2 5 _ _ _ HK2.out
          have f0 := frozen_of_row w1z g2 0 _ _ HK2.out
          have f1 := frozen_of_row w1z g2 1 _ _ HK2.out
          have f2 := frozen_of_row w1z g2 2 _ _ HK2.out
          have f3 := frozen_of_row w1z g2 3 _ _ HK2.out
          have f4 := frozen_of_row w1z g2 4 _ _ HK2.out
          have f5 := frozen_of_row w1z g2 5 _ _ HK2.out
          obtain ⟨x1, x2, x3⟩ := six_set HK2.out (.string id) (.int .i64 vault) (.int .i64 block) (.int .i64 data) (.int .i64 total) (.slice la ql lc)
          have hb2 := x3 Wd.heap.size Wd hg2 HB1.out
          have hk1' := (x2 g1 hgg).trans HX1.out
          have HX2 := Lib.hid x1
          have HK1 := Lib.hid hk1'
          have HS2 := Lib.hid (HSB.out _ hb2)
          have HB2 := Lib.hid hb2
          clear x1 x2 x3 hk1' hb2 HX1 HK2 HB1
          refine wpAnyH_ready (rs := [15]) (by kernel_rfl) (by simp) ?_
          refine AllReadyH.cons rfl (fun K hK => ?_) AllReadyH.nil
          go_simp
          refine hK.out _ _ (HS2.out) (fun hNew => ?_)
          clear hK K hNew
          (try clear hHeld)
          have hHeld := HS2.out
          try simp only [Act.put, List.getElem_toArray, List.getElem_cons_zero, List.getElem_cons_succ, List.setIfInBounds_toArray, List.set_cons_zero, List.set_cons_succ]
          clear u0 u1 u2 u3 u4 u5 f0 f1 f2 f3 f4 f5 HS1 hHeld
          refine wpAnyH_done (by kernel_rfl) ?_ _
          generalize ((((((w1z).setCell ⟨g2, 0, none⟩ (.string id)).setCell ⟨g2, 1, none⟩ (.int .i64 vault)).setCell ⟨g2, 2, none⟩ (.int .i64 block)).setCell ⟨g2, 3, none⟩ (.int .i64 data)).setCell ⟨g2, 4, none⟩ (.int .i64 total)).setCell ⟨g2, 5, none⟩ (.slice la ql lc) = w2z at *
          have hbz := hW0.trans (HB2.out.mono hW0.size)
          have hbwz := hbw.trans (hbz.mono hbw.size)
          have hs := HS2.out
          have e6 := bc hbz c6
          have h6 := bc hbz d6
          have a1 := cell_of_row _ w.heap.size 1 _ _ _ (bb hbz KA4.out)
          have b1 := cell_of_row _ (w.heap.size + 1) 1 _ _ _ (bb hbz KB4.out)
          have u0 := cell_of_row w2z g1 0 _ _ _ HK1.out
          have u1 := cell_of_row w2z g1 1 _ _ _ HK1.out
          have u2 := cell_of_row w2z g1 2 _ _ _ HK1.out
          have u3 := cell_of_row w2z g1 3 _ _ _ HK1.out
          have u4 := cell_of_row w2z g1 4 _ _ _ HK1.out
          have u5 := cell_of_row w2z g1 5 _ _ _ HK1.out
          have v0 := cell_of_row w2z g2 0 _ _ _ HX2.out
          have v1 := cell_of_row w2z g2 1 _ _ _ HX2.out
          have v2 := cell_of_row w2z g2 2 _ _ _ HX2.out
          have v3 := cell_of_row w2z g2 3 _ _ _ HX2.out
          have v4 := cell_of_row w2z g2 4 _ _ _ HX2.out
          have v5 := cell_of_row w2z g2 5 _ _ _ HX2.out
          have CIz := Lib.hid (CI.out w2z.drew (hbz.drew))
          have hzb : Below wr.heap.size wr w2z.drew := hbz.drew
          have K1z := Lib.hid (show w2z.drew.heap[g1]? = _ from HK1.out)
          have K2z := Lib.hid (show w2z.drew.heap[g2]? = _ from HX2.out)
          clear hs HS2 HSB HK1 HX2 HB2 CI c6 d6 hbz
          go_upto_region 13 with fail
          have HSC0 : ∀ w' : World, Below (w2z).drew.heap.size (w2z).drew w' → (w'.cell? ⟨g1, 0, none⟩ = some (.string id) ∧ w'.cell? ⟨g1, 1, none⟩ = some (.int .i64 vault) ∧ w'.cell? ⟨g1, 2, none⟩ = some (.int .i64 block) ∧ w'.cell? ⟨g1, 3, none⟩ = some (.int .i64 data) ∧ w'.cell? ⟨g1, 4, none⟩ = some (.int .i64 total) ∧ w'.cell? ⟨g1, 5, none⟩ = some (.slice ka ql kc) ∧ w'.cell? ⟨g2, 0, none⟩ = some (.string id) ∧ w'.cell? ⟨g2, 1, none⟩ = some (.int .i64 vault) ∧ w'.cell? ⟨g2, 2, none⟩ = some (.int .i64 block) ∧ w'.cell? ⟨g2, 3, none⟩ = some (.int .i64 data) ∧ w'.cell? ⟨g2, 4, none⟩ = some (.int .i64 total) ∧ w'.cell? ⟨g2, 5, none⟩ = some (.slice la ql lc) ∧ w'.cell? ⟨w.heap.size, 1, none⟩ = some (.slice (some ⟨xb, xo, none⟩) nh xc) ∧ w'.cell? ⟨w.heap.size + 1, 1, none⟩ = some (.slice (some ⟨yb, yo, none⟩) nh yc) ∧ w'.cell? ⟨xb, xo + j * 7 + 6, none⟩ = some (.slice ua zl uc) ∧ w'.cell? ⟨yb, yo + j * 7 + 6, none⟩ = some (.slice va zl vc)) := fun w' hb => ⟨bc hb u0, bc hb u1, bc hb u2, bc hb u3, bc hb u4, bc hb u5, bc hb v0, bc hb v1, bc hb v2, bc hb v3, bc hb v4, bc hb v5, bc hb a1, bc hb b1, bc hb e6, bc hb h6⟩
          refine wp_region_held_drew (S := fun w' => w'.cell? ⟨g1, 0, none⟩ = some (.string id) ∧ w'.cell? ⟨g1, 1, none⟩ = some (.int .i64 vault) ∧ w'.cell? ⟨g1, 2, none⟩ = some (.int .i64 block) ∧ w'.cell? ⟨g1, 3, none⟩ = some (.int .i64 data) ∧ w'.cell? ⟨g1, 4, none⟩ = some (.int .i64 total) ∧ w'.cell? ⟨g1, 5, none⟩ = some (.slice ka ql kc) ∧ w'.cell? ⟨g2, 0, none⟩ = some (.string id) ∧ w'.cell? ⟨g2, 1, none⟩ = some (.int .i64 vault) ∧ w'.cell? ⟨g2, 2, none⟩ = some (.int .i64 block) ∧ w'.cell? ⟨g2, 3, none⟩ = some (.int .i64 data) ∧ w'.cell? ⟨g2, 4, none⟩ = some (.int .i64 total) ∧ w'.cell? ⟨g2, 5, none⟩ = some (.slice la ql lc) ∧ w'.cell? ⟨w.heap.size, 1, none⟩ = some (.slice (some ⟨xb, xo, none⟩) nh xc) ∧ w'.cell? ⟨w.heap.size + 1, 1, none⟩ = some (.slice (some ⟨yb, yo, none⟩) nh yc) ∧ w'.cell? ⟨xb, xo + j * 7 + 6, none⟩ = some (.slice ua zl uc) ∧ w'.cell? ⟨yb, yo + j * 7 + 6, none⟩ = some (.slice va zl vc)) (by kernel_rfl) (HSC0 _ (Below.refl _ _)) (fun hHeld => ?_)
          have HSC := Lib.hid HSC0
          clear HSC0
          generalize (w2z).drew = Wy at *
          clear u0 u1 u2 u3 u4 u5 v0 v1 v2 v3 v4 v5 a1 b1 e6 h6
          refine wpAnyH_take (i := 0) (v := ?_) rfl (by kernel_rfl) (by kernel_rfl) (by kernel_rfl) (fun _ _ _ h => h) (Or.inl ⟨by rfl, ?_⟩) (by assumption) ?_
          rotate_left; · (intro w hSw; (try dsimp only at hSw); go_simp; try with_reducible rfl)
          try simp only [Act.put, List.getElem_toArray, List.getElem_cons_zero, List.getElem_cons_succ, List.setIfInBounds_toArray, List.set_cons_zero, List.set_cons_succ]
          refine wpAnyH_take (i := 1) (v := ?_) rfl (by kernel_rfl) (by kernel_rfl) (by kernel_rfl) (fun _ _ _ h => h) (Or.inl ⟨by rfl, ?_⟩) (by assumption) ?_
          rotate_left; · (intro w hSw; (try dsimp only at hSw); go_simp; try with_reducible rfl)
          try simp only [Act.put, List.getElem_toArray, List.getElem_cons_zero, List.getElem_cons_succ, List.setIfInBounds_toArray, List.set_cons_zero, List.set_cons_succ]
          refine wpAnyH_take (i := 2) (v := ?_) rfl (by kernel_rfl) (by kernel_rfl) (by kernel_rfl) (fun _ _ _ h => h) (Or.inl ⟨by rfl, ?_⟩) (by assumption) ?_
          rotate_left; · (intro w hSw; (try dsimp only at hSw); go_simp; try with_reducible rfl)
          try simp only [Act.put, List.getElem_toArray, List.getElem_cons_zero, List.getElem_cons_succ, List.setIfInBounds_toArray, List.set_cons_zero, List.set_cons_succ]
          refine wpAnyH_take (i := 3) (v := ?_) rfl (by kernel_rfl) (by kernel_rfl) (by kernel_rfl) (fun _ _ _ h => h) (Or.inl ⟨by rfl, ?_⟩) (by assumption) ?_
          rotate_left; · (intro w hSw; (try dsimp only at hSw); go_simp; try with_reducible rfl)
          try simp only [Act.put, List.getElem_toArray, List.getElem_cons_zero, List.getElem_cons_succ, List.setIfInBounds_toArray, List.set_cons_zero, List.set_cons_succ]
          refine wpAnyH_take (i := 4) (v := ?_) rfl (by kernel_rfl) (by kernel_rfl) (by kernel_rfl) (fun _ _ _ h => h) (Or.inl ⟨by rfl, ?_⟩) (by assumption) ?_
          rotate_left; · (intro w hSw; (try dsimp only at hSw); go_simp; try with_reducible rfl)
          try simp only [Act.put, List.getElem_toArray, List.getElem_cons_zero, List.getElem_cons_succ, List.setIfInBounds_toArray, List.set_cons_zero, List.set_cons_succ]
          refine wpAnyH_take (i := 5) (v := ?_) rfl (by kernel_rfl) (by kernel_rfl) (by kernel_rfl) (fun _ _ _ h => h) (Or.inl ⟨by rfl, ?_⟩) (by assumption) ?_
          rotate_left; · (intro w hSw; (try dsimp only at hSw); go_simp; try with_reducible rfl)
          try simp only [Act.put, List.getElem_toArray, List.getElem_cons_zero, List.getElem_cons_succ, List.setIfInBounds_toArray, List.set_cons_zero, List.set_cons_succ]
          refine wpAnyH_take (i := 6) (v := ?_) rfl (by kernel_rfl) (by kernel_rfl) (by kernel_rfl) (fun _ _ _ h => h) (Or.inl ⟨by rfl, ?_⟩) (by assumption) ?_
          rotate_left; · (intro w hSw; (try dsimp only at hSw); go_simp; try with_reducible rfl)
          try simp only [Act.put, List.getElem_toArray, List.getElem_cons_zero, List.getElem_cons_succ, List.setIfInBounds_toArray, List.set_cons_zero, List.set_cons_succ]
          refine wpAnyH_take (i := 7) (v := ?_) rfl (by kernel_rfl) (by kernel_rfl) (by kernel_rfl) (fun _ _ _ h => h) (Or.inl ⟨by rfl, ?_⟩) (by assumption) ?_
          rotate_left; · (intro w hSw; (try dsimp only at hSw); go_simp; try with_reducible rfl)
          try simp only [Act.put, List.getElem_toArray, List.getElem_cons_zero, List.getElem_cons_succ, List.setIfInBounds_toArray, List.set_cons_zero, List.set_cons_succ]
          refine wpAnyH_take (i := 8) (v := ?_) rfl (by kernel_rfl) (by kernel_rfl) (by kernel_rfl) (fun _ _ _ h => h) (Or.inl ⟨by rfl, ?_⟩) (by assumption) ?_
          rotate_left; · (intro w hSw; (try dsimp only at hSw); go_simp; try with_reducible rfl)
          try simp only [Act.put, List.getElem_toArray, List.getElem_cons_zero, List.getElem_cons_succ, List.setIfInBounds_toArray, List.set_cons_zero, List.set_cons_succ]
          refine wpAnyH_take (i := 9) (v := ?_) rfl (by kernel_rfl) (by kernel_rfl) (by kernel_rfl) (fun _ _ _ h => h) (Or.inl ⟨by rfl, ?_⟩) (by assumption) ?_
          rotate_left; · (intro w hSw; (try dsimp only at hSw); go_simp; try with_reducible rfl)
          try simp only [Act.put, List.getElem_toArray, List.getElem_cons_zero, List.getElem_cons_succ, List.setIfInBounds_toArray, List.set_cons_zero, List.set_cons_succ]
          refine wpAnyH_take (i := 10) (v := ?_) rfl (by kernel_rfl) (by kernel_rfl) (by kernel_rfl) (fun _ _ _ h => h) (Or.inl ⟨by rfl, ?_⟩) (by assumption) ?_
          rotate_left; · (intro w hSw; (try dsimp only at hSw); go_simp; try with_reducible rfl)
          try simp only [Act.put, List.getElem_toArray, List.getElem_cons_zero, List.getElem_cons_succ, List.setIfInBounds_toArray, List.set_cons_zero, List.set_cons_succ]
          refine wpAnyH_take (i := 11) (v := ?_) rfl (by kernel_rfl) (by kernel_rfl) (by kernel_rfl) (fun _ _ _ h => h) (Or.inl ⟨by rfl, ?_⟩) (by assumption) ?_
          rotate_left; · (intro w hSw; (try dsimp only at hSw); go_simp; try with_reducible rfl)
          try simp only [Act.put, List.getElem_toArray, List.getElem_cons_zero, List.getElem_cons_succ, List.setIfInBounds_toArray, List.set_cons_zero, List.set_cons_succ]
          refine wpAnyH_take (i := 12) (v := ?_) rfl (by kernel_rfl) (by kernel_rfl) (by kernel_rfl) (fun _ _ _ h => h) (Or.inl ⟨by rfl, ?_⟩) (by assumption) ?_
          rotate_left; · (intro w hSw; (try dsimp only at hSw); go_simp; try with_reducible rfl)
          try simp only [Act.put, List.getElem_toArray, List.getElem_cons_zero, List.getElem_cons_succ, List.setIfInBounds_toArray, List.set_cons_zero, List.set_cons_succ]
          refine wpAnyH_take (i := 13) (v := ?_) rfl (by kernel_rfl) (by kernel_rfl) (by kernel_rfl) (fun _ _ _ h => h) (Or.inl ⟨by rfl, ?_⟩) (by assumption) ?_
          rotate_left; · (intro w hSw; (try dsimp only at hSw); go_simp; try with_reducible rfl)
          try simp only [Act.put, List.getElem_toArray, List.getElem_cons_zero, List.getElem_cons_succ, List.setIfInBounds_toArray, List.set_cons_zero, List.set_cons_succ]
          refine wpAnyH_take (i := 14) (v := ?_) rfl (by kernel_rfl) (by kernel_rfl) (by kernel_rfl) (fun _ _ _ h => h) (Or.inl ⟨by rfl, ?_⟩) (by assumption) ?_
          rotate_left; · (intro w hSw; (try dsimp only at hSw); go_simp; try with_reducible rfl)
          try simp only [Act.put, List.getElem_toArray, List.getElem_cons_zero, List.getElem_cons_succ, List.setIfInBounds_toArray, List.set_cons_zero, List.set_cons_succ]
          refine wpAnyH_take (i := 15) (v := ?_) rfl (by kernel_rfl) (by kernel_rfl) (by kernel_rfl) (fun _ _ _ h => h) (Or.inl ⟨by rfl, ?_⟩) (by assumption) ?_
          rotate_left; · (intro w hSw; (try dsimp only at hSw); go_simp; try with_reducible rfl)
          try simp only [Act.put, List.getElem_toArray, List.getElem_cons_zero, List.getElem_cons_succ, List.setIfInBounds_toArray, List.set_cons_zero, List.set_cons_succ]
          refine wpAnyH_take (i := 16) (v := ?_) rfl (by kernel_rfl) (by kernel_rfl) (by kernel_rfl) (fun _ _ _ h => h) (Or.inl ⟨by rfl, ?_⟩) (by assumption) ?_
          rotate_left; · (intro w hSw; (try dsimp only at hSw); go_simp; try with_reducible rfl)
          try simp only [Act.put, List.getElem_toArray, List.getElem_cons_zero, List.getElem_cons_succ, List.setIfInBounds_toArray, List.set_cons_zero, List.set_cons_succ]
          refine wpAnyH_take (i := 17) (v := ?_) rfl (by kernel_rfl) (by kernel_rfl) (by kernel_rfl) (fun _ _ _ h => h) (Or.inl ⟨by rfl, ?_⟩) (by assumption) ?_
          rotate_left; · (intro w hSw; (try dsimp only at hSw); go_simp; try with_reducible rfl)
          try simp only [Act.put, List.getElem_toArray, List.getElem_cons_zero, List.getElem_cons_succ, List.setIfInBounds_toArray, List.set_cons_zero, List.set_cons_succ]
          refine wpAnyH_take (i := 18) (v := ?_) rfl (by kernel_rfl) (by kernel_rfl) (by kernel_rfl) (fun _ _ _ h => h) (Or.inl ⟨by rfl, ?_⟩) (by assumption) ?_
          rotate_left; · (intro w hSw; (try dsimp only at hSw); go_simp; try with_reducible rfl)
          try simp only [Act.put, List.getElem_toArray, List.getElem_cons_zero, List.getElem_cons_succ, List.setIfInBounds_toArray, List.set_cons_zero, List.set_cons_succ]
          refine wpAnyH_take (i := 19) (v := ?_) rfl (by kernel_rfl) (by kernel_rfl) (by kernel_rfl) (fun _ _ _ h => h) (Or.inl ⟨by rfl, ?_⟩) (by assumption) ?_
          rotate_left; · (intro w hSw; (try dsimp only at hSw); go_simp; try with_reducible rfl)
          try simp only [Act.put, List.getElem_toArray, List.getElem_cons_zero, List.getElem_cons_succ, List.setIfInBounds_toArray, List.set_cons_zero, List.set_cons_succ]
          refine wpAnyH_take (i := 20) (v := ?_) rfl (by kernel_rfl) (by kernel_rfl) (by kernel_rfl) (fun _ _ _ h => h) (Or.inl ⟨by rfl, ?_⟩) (by assumption) ?_
          rotate_left; · (intro w hSw; (try dsimp only at hSw); go_simp; try with_reducible rfl)
          try simp only [Act.put, List.getElem_toArray, List.getElem_cons_zero, List.getElem_cons_succ, List.setIfInBounds_toArray, List.set_cons_zero, List.set_cons_succ]
          refine wpAnyH_take (i := 21) (v := ?_) rfl (by kernel_rfl) (by kernel_rfl) (by kernel_rfl) (fun _ _ _ h => h) (Or.inl ⟨by rfl, ?_⟩) (by assumption) ?_
          rotate_left; · (intro w hSw; (try dsimp only at hSw); go_simp; try with_reducible rfl)
          try simp only [Act.put, List.getElem_toArray, List.getElem_cons_zero, List.getElem_cons_succ, List.setIfInBounds_toArray, List.set_cons_zero, List.set_cons_succ]
          refine wpAnyH_take (i := 22) (v := ?_) rfl (by kernel_rfl) (by kernel_rfl) (by kernel_rfl) (fun _ _ _ h => h) (Or.inl ⟨by rfl, ?_⟩) (by assumption) ?_
          rotate_left; · (intro w hSw; (try dsimp only at hSw); go_simp; try with_reducible rfl)
          try simp only [Act.put, List.getElem_toArray, List.getElem_cons_zero, List.getElem_cons_succ, List.setIfInBounds_toArray, List.set_cons_zero, List.set_cons_succ]
          refine wpAnyH_take (i := 23) (v := ?_) rfl (by kernel_rfl) (by kernel_rfl) (by kernel_rfl) (fun _ _ _ h => h) (Or.inl ⟨by rfl, ?_⟩) (by assumption) ?_
          rotate_left; · (intro w hSw; (try dsimp only at hSw); go_simp; try with_reducible rfl)
          try simp only [Act.put, List.getElem_toArray, List.getElem_cons_zero, List.getElem_cons_succ, List.setIfInBounds_toArray, List.set_cons_zero, List.set_cons_succ]
          refine wpAnyH_take (i := 24) (v := ?_) rfl (by kernel_rfl) (by kernel_rfl) (by kernel_rfl) (fun _ _ _ h => h) (Or.inl ⟨by rfl, ?_⟩) (by assumption) ?_
          rotate_left; · (intro w hSw; (try dsimp only at hSw); go_simp; try with_reducible rfl)
          try simp only [Act.put, List.getElem_toArray, List.getElem_cons_zero, List.getElem_cons_succ, List.setIfInBounds_toArray, List.set_cons_zero, List.set_cons_succ]
          refine wpAnyH_take (i := 25) (v := ?_) rfl (by kernel_rfl) (by kernel_rfl) (by kernel_rfl) (fun _ _ _ h => h) (Or.inl ⟨by rfl, ?_⟩) (by assumption) ?_
          rotate_left; · (intro w hSw; (try dsimp only at hSw); go_simp; try with_reducible rfl)
          try simp only [Act.put, List.getElem_toArray, List.getElem_cons_zero, List.getElem_cons_succ, List.setIfInBounds_toArray, List.set_cons_zero, List.set_cons_succ]
          refine wpAnyH_take (i := 26) (v := ?_) rfl (by kernel_rfl) (by kernel_rfl) (by kernel_rfl) (fun _ _ _ h => h) (Or.inl ⟨by rfl, ?_⟩) (by assumption) ?_
          rotate_left; · (intro w hSw; (try dsimp only at hSw); go_simp; try with_reducible rfl)
          try simp only [Act.put, List.getElem_toArray, List.getElem_cons_zero, List.getElem_cons_succ, List.setIfInBounds_toArray, List.set_cons_zero, List.set_cons_succ]
          refine wpAnyH_take (i := 27) (v := ?_) rfl (by kernel_rfl) (by kernel_rfl) (by kernel_rfl) (fun _ _ _ h => h) (Or.inl ⟨by rfl, ?_⟩) (by assumption) ?_
          rotate_left; · (intro w hSw; (try dsimp only at hSw); go_simp; try with_reducible rfl)
          try simp only [Act.put, List.getElem_toArray, List.getElem_cons_zero, List.getElem_cons_succ, List.setIfInBounds_toArray, List.set_cons_zero, List.set_cons_succ]
          refine wpAnyH_take (i := 28) (v := ?_) rfl (by kernel_rfl) (by kernel_rfl) (by kernel_rfl) (fun _ _ _ h => h) (Or.inl ⟨by rfl, ?_⟩) (by assumption) ?_
          rotate_left; · (intro w hSw; (try dsimp only at hSw); go_simp; try with_reducible rfl)
          try simp only [Act.put, List.getElem_toArray, List.getElem_cons_zero, List.getElem_cons_succ, List.setIfInBounds_toArray, List.set_cons_zero, List.set_cons_succ]
          refine wpAnyH_take (i := 29) (v := ?_) rfl (by kernel_rfl) (by kernel_rfl) (by kernel_rfl) (fun _ _ _ h => h) (Or.inl ⟨by rfl, ?_⟩) (by assumption) ?_
          rotate_left; · (intro w hSw; (try dsimp only at hSw); go_simp; try with_reducible rfl)
          try simp only [Act.put, List.getElem_toArray, List.getElem_cons_zero, List.getElem_cons_succ, List.setIfInBounds_toArray, List.set_cons_zero, List.set_cons_succ]
          refine wpAnyH_take (i := 30) (v := ?_) rfl (by kernel_rfl) (by kernel_rfl) (by kernel_rfl) (fun _ _ _ h => h) (Or.inl ⟨by rfl, ?_⟩) (by assumption) ?_
          rotate_left; · (intro w hSw; (try dsimp only at hSw); go_simp; try with_reducible rfl)
          try simp only [Act.put, List.getElem_toArray, List.getElem_cons_zero, List.getElem_cons_succ, List.setIfInBounds_toArray, List.set_cons_zero, List.set_cons_succ]
          refine wpAnyH_take (i := 31) (v := ?_) rfl (by kernel_rfl) (by kernel_rfl) (by kernel_rfl) (fun _ _ _ h => h) (Or.inl ⟨by rfl, ?_⟩) (by assumption) ?_
          rotate_left; · (intro w hSw; (try dsimp only at hSw); go_simp; try with_reducible rfl)
          try simp only [Act.put, List.getElem_toArray, List.getElem_cons_zero, List.getElem_cons_succ, List.setIfInBounds_toArray, List.set_cons_zero, List.set_cons_succ]
          refine wpAnyH_take (i := 32) (v := ?_) rfl (by kernel_rfl) (by kernel_rfl) (by kernel_rfl) (fun _ _ _ h => h) (Or.inl ⟨by rfl, ?_⟩) (by assumption) ?_
          rotate_left; · (intro w hSw; (try dsimp only at hSw); go_simp; try with_reducible rfl)
          try simp only [Act.put, List.getElem_toArray, List.getElem_cons_zero, List.getElem_cons_succ, List.setIfInBounds_toArray, List.set_cons_zero, List.set_cons_succ]
          refine wpAnyH_take (i := 33) (v := ?_) rfl (by kernel_rfl) (by kernel_rfl) (by kernel_rfl) (fun _ _ _ h => h) (Or.inl ⟨by rfl, ?_⟩) (by assumption) ?_
          rotate_left; · (intro w hSw; (try dsimp only at hSw); go_simp; try with_reducible rfl)
          try simp only [Act.put, List.getElem_toArray, List.getElem_cons_zero, List.getElem_cons_succ, List.setIfInBounds_toArray, List.set_cons_zero, List.set_cons_succ]
          refine wpAnyH_take (i := 34) (v := ?_) rfl (by kernel_rfl) (by kernel_rfl) (by kernel_rfl) (fun _ _ _ h => h) (Or.inl ⟨by rfl, ?_⟩) (by assumption) ?_
          rotate_left; · (intro w hSw; (try dsimp only at hSw); go_simp; try with_reducible rfl)
          try simp only [Act.put, List.getElem_toArray, List.getElem_cons_zero, List.getElem_cons_succ, List.setIfInBounds_toArray, List.set_cons_zero, List.set_cons_succ]
          refine wpAnyH_take (i := 35) (v := ?_) rfl (by kernel_rfl) (by kernel_rfl) (by kernel_rfl) (fun _ _ _ h => h) (Or.inl ⟨by rfl, ?_⟩) (by assumption) ?_
          rotate_left; · (intro w hSw; (try dsimp only at hSw); go_simp; try with_reducible rfl)
          try simp only [Act.put, List.getElem_toArray, List.getElem_cons_zero, List.getElem_cons_succ, List.setIfInBounds_toArray, List.set_cons_zero, List.set_cons_succ]
          refine wpAnyH_take (i := 36) (v := ?_) rfl (by kernel_rfl) (by kernel_rfl) (by kernel_rfl) (fun _ _ _ h => h) (Or.inl ⟨by rfl, ?_⟩) (by assumption) ?_
          rotate_left; · (intro w hSw; (try dsimp only at hSw); go_simp; try with_reducible rfl)
          try simp only [Act.put, List.getElem_toArray, List.getElem_cons_zero, List.getElem_cons_succ, List.setIfInBounds_toArray, List.set_cons_zero, List.set_cons_succ]
          refine wpAnyH_take (i := 37) (v := ?_) rfl (by kernel_rfl) (by kernel_rfl) (by kernel_rfl) (fun _ _ _ h => h) (Or.inl ⟨by rfl, ?_⟩) (by assumption) ?_
          rotate_left; · (intro w hSw; (try dsimp only at hSw); go_simp; try with_reducible rfl)
          try simp only [Act.put, List.getElem_toArray, List.getElem_cons_zero, List.getElem_cons_succ, List.setIfInBounds_toArray, List.set_cons_zero, List.set_cons_succ]
          refine wpAnyH_take (i := 38) (v := ?_) rfl (by kernel_rfl) (by kernel_rfl) (by kernel_rfl) (fun _ _ _ h => h) (Or.inl ⟨by rfl, ?_⟩) (by assumption) ?_
          rotate_left; · (intro w hSw; (try dsimp only at hSw); go_simp; try with_reducible rfl)
          try simp only [Act.put, List.getElem_toArray, List.getElem_cons_zero, List.getElem_cons_succ, List.setIfInBounds_toArray, List.set_cons_zero, List.set_cons_succ]
          refine wpAnyH_take (i := 39) (v := ?_) rfl (by kernel_rfl) (by kernel_rfl) (by kernel_rfl) (fun _ _ _ h => h) (Or.inl ⟨by rfl, ?_⟩) (by assumption) ?_
          rotate_left; · (intro w hSw; (try dsimp only at hSw); go_simp; try with_reducible rfl)
          try simp only [Act.put, List.getElem_toArray, List.getElem_cons_zero, List.getElem_cons_succ, List.setIfInBounds_toArray, List.set_cons_zero, List.set_cons_succ]
          refine wpAnyH_take (i := 40) (v := ?_) rfl (by kernel_rfl) (by kernel_rfl) (by kernel_rfl) (fun _ _ _ h => h) (Or.inl ⟨by rfl, ?_⟩) (by assumption) ?_
          rotate_left; · (intro w hSw; (try dsimp only at hSw); go_simp; try with_reducible rfl)
          try simp only [Act.put, List.getElem_toArray, List.getElem_cons_zero, List.getElem_cons_succ, List.setIfInBounds_toArray, List.set_cons_zero, List.set_cons_succ]
          refine wpAnyH_take (i := 41) (v := ?_) rfl (by kernel_rfl) (by kernel_rfl) (by kernel_rfl) (fun _ _ _ h => h) (Or.inl ⟨by rfl, ?_⟩) (by assumption) ?_
          rotate_left; · (intro w hSw; (try dsimp only at hSw); go_simp; try with_reducible rfl)
          try simp only [Act.put, List.getElem_toArray, List.getElem_cons_zero, List.getElem_cons_succ, List.setIfInBounds_toArray, List.set_cons_zero, List.set_cons_succ]
          refine wpAnyH_take (i := 42) (v := ?_) rfl (by kernel_rfl) (by kernel_rfl) (by kernel_rfl) (fun _ _ _ h => h) (Or.inl ⟨by rfl, ?_⟩) (by assumption) ?_
          rotate_left; · (intro w hSw; (try dsimp only at hSw); go_simp; try with_reducible rfl)
          try simp only [Act.put, List.getElem_toArray, List.getElem_cons_zero, List.getElem_cons_succ, List.setIfInBounds_toArray, List.set_cons_zero, List.set_cons_succ]
          refine wpAnyH_take (i := 43) (v := ?_) rfl (by kernel_rfl) (by kernel_rfl) (by kernel_rfl) (fun _ _ _ h => h) (Or.inl ⟨by rfl, ?_⟩) (by assumption) ?_
          rotate_left; · (intro w hSw; (try dsimp only at hSw); go_simp; try with_reducible rfl)
          try simp only [Act.put, List.getElem_toArray, List.getElem_cons_zero, List.getElem_cons_succ, List.setIfInBounds_toArray, List.set_cons_zero, List.set_cons_succ]
          refine wpAnyH_take (i := 44) (v := ?_) rfl (by kernel_rfl) (by kernel_rfl) (by kernel_rfl) (fun _ _ _ h => h) (Or.inl ⟨by rfl, ?_⟩) (by assumption) ?_
          rotate_left; · (intro w hSw; (try dsimp only at hSw); go_simp; try with_reducible rfl)
          try simp only [Act.put, List.getElem_toArray, List.getElem_cons_zero, List.getElem_cons_succ, List.setIfInBounds_toArray, List.set_cons_zero, List.set_cons_succ]
          refine wpAnyH_take (i := 45) (v := ?_) rfl (by kernel_rfl) (by kernel_rfl) (by kernel_rfl) (fun _ _ _ h => h) (Or.inl ⟨by rfl, ?_⟩) (by assumption) ?_
          rotate_left; · (intro w hSw; (try dsimp only at hSw); go_simp; try with_reducible rfl)
          try simp only [Act.put, List.getElem_toArray, List.getElem_cons_zero, List.getElem_cons_succ, List.setIfInBounds_toArray, List.set_cons_zero, List.set_cons_succ]
          refine wpAnyH_take (i := 46) (v := ?_) rfl (by kernel_rfl) (by kernel_rfl) (by kernel_rfl) (fun _ _ _ h => h) (Or.inl ⟨by rfl, ?_⟩) (by assumption) ?_
          rotate_left; · (intro w hSw; (try dsimp only at hSw); go_simp; try with_reducible rfl)
          try simp only [Act.put, List.getElem_toArray, List.getElem_cons_zero, List.getElem_cons_succ, List.setIfInBounds_toArray, List.set_cons_zero, List.set_cons_succ]
          refine wpAnyH_take (i := 47) (v := ?_) rfl (by kernel_rfl) (by kernel_rfl) (by kernel_rfl) (fun _ _ _ h => h) (Or.inl ⟨by rfl, ?_⟩) (by assumption) ?_
          rotate_left; · (intro w hSw; (try dsimp only at hSw); go_simp; try with_reducible rfl)
          try simp only [Act.put, List.getElem_toArray, List.getElem_cons_zero, List.getElem_cons_succ, List.setIfInBounds_toArray, List.set_cons_zero, List.set_cons_succ]
          refine wpAnyH_take (i := 48) (v := ?_) rfl (by kernel_rfl) (by kernel_rfl) (by kernel_rfl) (fun _ _ _ h => h) (Or.inl ⟨by rfl, ?_⟩) (by assumption) ?_
          rotate_left; · (intro w hSw; (try dsimp only at hSw); go_simp; try with_reducible rfl)
          try simp only [Act.put, List.getElem_toArray, List.getElem_cons_zero, List.getElem_cons_succ, List.setIfInBounds_toArray, List.set_cons_zero, List.set_cons_succ]
          refine wpAnyH_take (i := 49) (v := ?_) rfl (by kernel_rfl) (by kernel_rfl) (by kernel_rfl) (fun _ _ _ h => h) (Or.inl ⟨by rfl, ?_⟩) (by assumption) ?_
          rotate_left; · (intro w hSw; (try dsimp only at hSw); go_simp; try with_reducible rfl)
          try simp only [Act.put, List.getElem_toArray, List.getElem_cons_zero, List.getElem_cons_succ, List.setIfInBounds_toArray, List.set_cons_zero, List.set_cons_succ]
          refine wpAnyH_take (i := 50) (v := ?_) rfl (by kernel_rfl) (by kernel_rfl) (by kernel_rfl) (fun _ _ _ h => h) (Or.inl ⟨by rfl, ?_⟩) (by assumption) ?_
          rotate_left; · (intro w hSw; (try dsimp only at hSw); go_simp; try with_reducible rfl)
          try simp only [Act.put, List.getElem_toArray, List.getElem_cons_zero, List.getElem_cons_succ, List.setIfInBounds_toArray, List.set_cons_zero, List.set_cons_succ]
          refine wpAnyH_take (i := 51) (v := ?_) rfl (by kernel_rfl) (by kernel_rfl) (by kernel_rfl) (fun _ _ _ h => h) (Or.inl ⟨by rfl, ?_⟩) (by assumption) ?_
          rotate_left; · (intro w hSw; (try dsimp only at hSw); go_simp; try with_reducible rfl)
          try simp only [Act.put, List.getElem_toArray, List.getElem_cons_zero, List.getElem_cons_succ, List.setIfInBounds_toArray, List.set_cons_zero, List.set_cons_succ]
          refine wpAnyH_take (i := 52) (v := ?_) rfl (by kernel_rfl) (by kernel_rfl) (by kernel_rfl) (fun _ _ _ h => h) (Or.inl ⟨by rfl, ?_⟩) (by assumption) ?_
          rotate_left; · (intro w hSw; (try dsimp only at hSw); go_simp; try with_reducible rfl)
          try simp only [Act.put, List.getElem_toArray, List.getElem_cons_zero, List.getElem_cons_succ, List.setIfInBounds_toArray, List.set_cons_zero, List.set_cons_succ]
          refine wpAnyH_take (i := 53) (v := ?_) rfl (by kernel_rfl) (by kernel_rfl) (by kernel_rfl) (fun _ _ _ h => h) (Or.inl ⟨by rfl, ?_⟩) (by assumption) ?_
          rotate_left; · (intro w hSw; (try dsimp only at hSw); go_simp; try with_reducible rfl)
          try simp only [Act.put, List.getElem_toArray, List.getElem_cons_zero, List.getElem_cons_succ, List.setIfInBounds_toArray, List.set_cons_zero, List.set_cons_succ]
          refine wpAnyH_take (i := 54) (v := ?_) rfl (by kernel_rfl) (by kernel_rfl) (by kernel_rfl) (fun _ _ _ h => h) (Or.inl ⟨by rfl, ?_⟩) (by assumption) ?_
          rotate_left; · (intro w hSw; (try dsimp only at hSw); go_simp; try with_reducible rfl)
          try simp only [Act.put, List.getElem_toArray, List.getElem_cons_zero, List.getElem_cons_succ, List.setIfInBounds_toArray, List.set_cons_zero, List.set_cons_succ]
          refine wpAnyH_ready (rs := [55]) (by kernel_rfl) (by simp) ?_
          refine AllReadyH.cons rfl (fun K hK => ?_) AllReadyH.nil
          go_simp
          refine CIz.out.mono ?_; rintro e w5 ⟨rfl, hb5⟩
          go_wp2_with fail
          refine hK.out _ _ (HSC.out _ hb5) (fun hNew => ?_)
          clear hK K hHeld
          have hHeld := hNew
          clear hNew
          try simp only [Act.put, List.getElem_toArray, List.getElem_cons_zero, List.getElem_cons_succ, List.setIfInBounds_toArray, List.set_cons_zero, List.set_cons_succ]
          refine wpAnyH_take (i := 56) (v := ?_) rfl (by kernel_rfl) (by kernel_rfl) (by kernel_rfl) (fun _ _ _ h => h) (Or.inl ⟨by rfl, ?_⟩) (by assumption) ?_
          rotate_left; · (intro w hSw; (try dsimp only at hSw); go_simp; try with_reducible rfl)
          try simp only [Act.put, List.getElem_toArray, List.getElem_cons_zero, List.getElem_cons_succ, List.setIfInBounds_toArray, List.set_cons_zero, List.set_cons_succ]
          refine wpAnyH_take (i := 57) (v := ?_) rfl (by kernel_rfl) (by kernel_rfl) (by kernel_rfl) (fun _ _ _ h => h) (Or.inl ⟨by rfl, ?_⟩) (by assumption) ?_
          rotate_left; · (intro w hSw; (try dsimp only at hSw); go_simp; try with_reducible rfl)
          try simp only [Act.put, List.getElem_toArray, List.getElem_cons_zero, List.getElem_cons_succ, List.setIfInBounds_toArray, List.set_cons_zero, List.set_cons_succ]
          refine wpAnyH_done (by kernel_rfl) ?_ _
          have hb5r := hzb.trans (hb5.mono hzb.size)
          have hbw5 := hbw.trans (hb5r.mono hbw.size)
          have K15 := Lib.hid (bb hb5 K1z.out)
          have K25 := Lib.hid (bb hb5 K2z.out)
          have hbj5 := hbj.trans (hb5r.mono hbj.size)
          clear hHeld HSC CIz K1z K2z hb5 hzb hb5r
          have u5 := cell_of_row w5 g1 5 _ _ _ K15.out
          go_wp2
          clear u5
          obtain ⟨wp, hwp⟩ : ∃ wp, wp = wr := ⟨_, rfl⟩
          subst hwp
          go_loopw [139, 9] (fun v139 _ wi => ∃ k : Nat, k ≤ ql ∧ v139 = .int .i64 k ∧ Below w5.heap.size w5 wi) (fun v139 _ _ => ql - (intOf v139).toNat)
          case atStart => exact ⟨0, Nat.zero_le _, rfl, Below.refl _ _⟩
          case round =>
            obtain ⟨k, hk, rfl, hbk⟩ := hrel
            by_cases hltk : k < ql
            · obtain ⟨rfl, t0, t1, t2⟩ := KC.out k hltk
              obtain ⟨rfl, s0, s1, s2⟩ := LC.out k hltk
              have t0 := bc (hbw5.trans (hbk.mono hbw5.size)) t0
              have t1 := bc (hbw5.trans (hbk.mono hbw5.size)) t1
              have t2 := bc (hbw5.trans (hbk.mono hbw5.size)) t2
              have s0 := bc (hbw5.trans (hbk.mono hbw5.size)) s0
              have s1 := bc (hbw5.trans (hbk.mono hbw5.size)) s1
              have s2 := bc (hbw5.trans (hbk.mono hbw5.size)) s2
              have u5 := cell_of_row _ g1 5 _ _ _ (bb hbk K15.out)
              have v5 := cell_of_row _ g2 5 _ _ _ (bb hbk K25.out)
              generalize refs.getD k default = rf at *
              obtain ⟨nm, gen, sz⟩ := rf
              simp only at t0 t1 t2 s0 s1 s2
              go_wp2
              go_quiet (fail)
              go_wp2
              go_roundw
              case rel => exact ⟨k + 1, by omega, by go_num, below_drewN hbk _⟩
              case measure => simp [intOf]; omega
            · have hkl : k = ql := by omega
              subst hkl
              go_wp2
              go_roundw
              case rel => exact ⟨j + 1, by omega, by go_num, hbj5.trans (hbk.mono hbj5.size)⟩
              case measure => simp [intOf]; omega
        · have hjn : j = nh := by omega
          subst hjn
          go_wp2
          go_ret
          exact ⟨rfl, hbw⟩

end Go.Proofs.Ytijcicgbhcphjaa
