/- play: a book of the meetings of a list, and those that were taken. -/
import Derived.Test.YtednejckcdiebaaP
namespace Go.Proofs.Ytednejckcdiebaa
open Go.RowKit Go.Lib Go.ChangeMaps

/-- A slice of meetings that is read. -/
def ReadsM (w : World) (v : Value) (xs : List Mt) : Prop :=
  ∃ ao c, v = .slice ao xs.length c ∧ xs.length ≤ c ∧ ∀ j x, xs[j]? = some x → ∃ b off, ao = some ⟨b, off, none⟩ ∧ w.cell? ⟨b, off + j * 3, none⟩ = some (.int .i64 x.a) ∧ w.cell? ⟨b, off + j * 3 + 1, none⟩ = some (.int .i64 x.b) ∧ w.cell? ⟨b, off + j * 3 + 2, none⟩ = some (.int .i64 x.d)

theorem ReadsM.below {w w' : World} {v : Value} {xs : List Mt} (h : ReadsM w v xs) (hb : Below w.heap.size w w') : ReadsM w' v xs := by
  obtain ⟨ao, c, rfl, hl, hc⟩ := h
  refine ⟨ao, c, rfl, hl, fun j x hj => ?_⟩
  obtain ⟨b, off, e, h1, h2, h3⟩ := hc j x hj
  have hlt := cell_lt h1
  exact ⟨b, off, e, by rw [hb.cell (p := ⟨b, _, none⟩) hlt]; exact h1, by rw [hb.cell (p := ⟨b, _, none⟩) hlt]; exact h2, by rw [hb.cell (p := ⟨b, _, none⟩) hlt]; exact h3⟩

theorem Upd.tight {F F' : Nat → Prop} {w w' : World} (h : Upd F F' w w') : Upd F (fun b => F' b ∧ b < w'.heap.size) w w' :=
  ⟨h.os, h.tape, h.output, h.size, h.keep, fun b hb => h.grow b hb.1⟩

/-- An append whose run is known, in a region that does not draw. -/
theorem wpList_append_run {P : Program} {w : World} {ops : Array Oper} {rest : List Oper} {o : Oper} {a : Act} {Q : Exit → Act → World → Prop} (hgd : o.guard = none) (s x : Operand) (t : TypeId)
    (ho : o.op = .call { callee := .builtin .append, args := #[s, x], argTypes := #[t, t] }) (v sl v' : Value) (w' : World) (hs : a.eval s = v) (hx : a.eval x = sl)
    (hrun : (Builtin.append_ #[t, t] o.type #[v, sl]).run P w = .ok v' w') (h : wpList P ops Q rest (a.put o.dst v') w') : wpList P ops Q (o :: rest) a w := by
  refine wpList_plain hgd fun K hK => ?_
  unfold Oper.wp execOp
  simp only [ho, resolve, invoke, builtin, Sem.run_bind, Sem.run_pure, Result.andThen_ok, List.map_toArray, List.map_cons, List.map_nil, hs, hx, hrun]
  exact hK _ _ h

def flatM (xs : List Mt) : List Value := xs.flatMap fun x => [.int .i64 x.a, .int .i64 x.b, .int .i64 x.d]

theorem flatM_length (xs : List Mt) : (flatM xs).length = xs.length * 3 := by
  induction xs with
  | nil => rfl
  | cons x r ih => simp [flatM] at ih ⊢; omega

set_option maxHeartbeats 1000000 in
theorem play_bad (n : Int) (v : Value) (w : World) (h : n < 2 ∨ 12 < n) :
    Calls Try.prog 16 #[.int .i64 n, v] w fun e w' => e = .returned (.tuple #[.pointer none, .slice none 0 0, .bool true]) ∧ w = w' := by
  have CN := Lib.hid (new_bad n w h)
  by_cases h1 : n < 2
  · clear h
    go_enter Try.func16, Try.ntmps16
    go_wp2_with fail
    refine CN.out.mono ?_
    rintro e w' ⟨rfl, rfl⟩
    go_wp2
    go_ret3
    exact ⟨rfl, rfl⟩
  · have h2 : 12 < n := by omega
    clear h
    go_enter Try.func16, Try.ntmps16
    go_wp2_with fail
    refine CN.out.mono ?_
    rintro e w' ⟨rfl, rfl⟩
    go_wp2
    go_ret3
    exact ⟨rfl, rfl⟩

theorem info67 : (Try.prog.info? 67).map (fun i => (i.zero, i.size, i.bytes)) = some (some (.agg #[.int .i64 0, .int .i64 0, .int .i64 0]), 3, 24) := by kernel_rfl

set_option maxRecDepth 100000 in
set_option maxHeartbeats 4000000 in
theorem play_ok (n : Int) (v : Value) (xs : List Mt) (w : World) (h1 : 2 ≤ n) (h2 : n ≤ 12) (hv : ReadsM w v xs) (hlen : xs.length ≤ 60) :
    Calls Try.prog 16 #[.int .i64 n, v] w fun e w' => ∃ k dv F N M, e = .returned (.tuple #[.pointer (some ⟨k, 0, none⟩), dv, .bool true]) ∧ Below w.heap.size w w' ∧ IsBook w' F k n N M ∧ Track n (played n xs) N M ∧
      (∀ b, F b → w.heap.size ≤ b ∧ b < w'.heap.size) ∧ w'.ownsRow w.heap.size 67 3 dv (played n xs).length (flatM (played n xs)) := by
  have CN := Lib.hid (new_ok n w h1 h2)
  obtain ⟨ao, c, rfl, hcap, hcell⟩ := hv
  have HC := Lib.hid hcell
  clear hcell
  go_enter Try.func16, Try.ntmps16
  go_wp2_with fail
  refine CN.out.mono ?_
  rintro e w1 ⟨rfl, hb, hk⟩
  have z1 := hb.size
  have hk1 := hk.tight
  obtain ⟨k, hkk⟩ : ∃ k, k = w.heap.size + 1 := ⟨_, rfl⟩
  rw [← hkk] at hk1 ⊢
  have HK := Lib.hid hk1
  clear hk1 hk hkk
  go_wp2
  generalize hW : w1.alloc (Obj.cells #[] 67) = W
  have bW : Below w1.heap.size w1 W := by rw [← hW]; exact (Below.refl _ _).alloc (Nat.le_refl _) _
  have dW : W.ownsRow w.heap.size 67 3 (.slice (some ⟨w1.heap.size, 0, none⟩) 0 0) 0 [] := by
    rw [← hW]
    exact World.ownsRow_lit w1 #[] 0 z1 (by omega) rfl
  have szW : W.heap.size = w1.heap.size + 1 := by rw [← hW]; simp
  have DW := Lib.hid dW
  have BW := Lib.hid (HK.out.below bW)
  have bWw : Below w.heap.size w W := hb.trans (bW.mono z1)
  have SW := Lib.hid szW
  clear hW dW bW HK CN szW
  go_loopw [9, 10, 11] (fun v9 v10 v11 wr => ∃ j : Nat, j ≤ xs.length ∧ v11 = .int .i64 j ∧ v10 = .int .i64 (newest (played n (xs.take j))) ∧ Below w.heap.size w wr ∧
      ∃ F N M, IsBook wr F k n N M ∧ Track n (played n (xs.take j)) N M ∧ (∀ b, F b → w.heap.size ≤ b ∧ b < wr.heap.size) ∧
        wr.ownsRow w.heap.size 67 3 v9 (played n (xs.take j)).length (flatM (played n (xs.take j))) ∧ ∀ g, v9.ownBlock = some g → ¬ F g) (fun _ _ v11 _ => xs.length - (intOf v11).toNat)
  case atStart => exact ⟨0, Nat.zero_le _, rfl, rfl, bWw, _, _, _, BW.out, track_nil n, fun b h => ⟨h.1, by have := SW.out; omega⟩, DW.out, fun g hg h => by simp [Value.ownBlock] at hg; omega⟩
  case round =>
    obtain ⟨j, hj, rfl, rfl, hbel, F, N, M, hB, hT, hF, hown, hdis⟩ := hrel
    have zr := hbel.size
    by_cases hlt : j < xs.length
    · obtain ⟨x, hx⟩ : ∃ x, x = xs[j] := ⟨_, rfl⟩
      obtain ⟨b, off, e, c0, c1, c2⟩ := HC.out j x (by rw [hx]; exact List.getElem?_eq_getElem hlt)
      subst e
      have e0 : wr.cell? ⟨b, off + j * 3, none⟩ = some (.int .i64 x.a) := by rw [hbel.cell (p := ⟨b, _, none⟩) (cell_lt c0)]; exact c0
      have e1 : wr.cell? ⟨b, off + j * 3 + 1, none⟩ = some (.int .i64 x.b) := by rw [hbel.cell (p := ⟨b, _, none⟩) (cell_lt c1)]; exact c1
      have e2 : wr.cell? ⟨b, off + j * 3 + 2, none⟩ = some (.int .i64 x.d) := by rw [hbel.cell (p := ⟨b, _, none⟩) (cell_lt c2)]; exact c2
      have htake : xs.take (j + 1) = xs.take j ++ [x] := by rw [hx]; exact List.take_succ_eq_append_getElem hlt
      have hpl : played n (xs.take (j + 1)) = took n (played n (xs.take j)) x := by rw [htake, played_snoc]
      have HP := Lib.hid hpl
      have hk0 := hB.cell0
      have klt := cell_lt hk0
      have HB := Lib.hid hB
      have HT := Lib.hid hT
      have HO := Lib.hid hown
      have hnn := newest_nonneg hT
      have htl := track_early hT x.d
      have hdl : (played n (xs.take j)).length ≤ 60 := by
        have := played_length n (xs.take j)
        simp at this
        omega
      clear c0 c1 c2 htake hpl hB hT hown hx hk0
      generalize played n (xs.take j) = done at HP HT HO hnn htl hdl ⊢
      obtain ⟨xa, xb, xd⟩ := x
      simp only at e0 e1 e2 htl
      generalize hnd : newest done = nd at hnn htl ⊢
      have HD := Lib.hid hnd
      clear hnd
      by_cases hfit : Fit n xa xb xd
      · obtain ⟨p1, p2, p3, p4, p5, p6, p7⟩ := hfit
        have hp : decide (0 ≤ xa ∧ xa < n ∧ 0 ≤ xb ∧ xb < n ∧ xa ≠ xb) = true := by simp [*]
        have hd1 : ¬ xd < 0 := by omega
        have hd2 : ¬ 999999 < xd := by omega
        by_cases hea : xd < nd
        · have cM := fun w h => meet_early F k n N M w h xa xb xd ⟨p1, p2, p3, p4, p5, p6, p7⟩ ((htl p6).2 hea)
          have CM := Lib.hid cM
          have hnot : took n done ⟨xa, xb, xd⟩ = done := by unfold took; rw [if_neg]; rintro ⟨_, h⟩; rw [HD.out] at h; simp only at h; omega
          have HN := Lib.hid hnot
          have hk1 : ∀ o, IsBook (wr.alloc o) F k n N M := fun o => HB.out.below ((Below.refl _ wr).alloc (Nat.le_refl _) o)
          have HK1 := Lib.hid hk1
          clear cM hnot htl hk1
          go_wp2_with fail
          refine (pair_any _ _ _ _).mono ?_
          rintro e w' ⟨rfl, rfl⟩
          go_wp2_with fail
          refine (CM.out _ (HK1.out _)).mono ?_
          rintro e w2 ⟨rfl, hb2⟩
          have bs : Below wr.heap.size wr w2 := ((Below.refl _ wr).alloc (Nat.le_refl _) _).trans (hb2.mono (by simp))
          have zs := bs.size
          go_wp2
          go_roundw
          case rel => exact ⟨j + 1, by omega, by go_num, by rw [HP.out, HN.out, HD.out], hbel.trans (bs.mono zr), F, N, M, HB.out.below bs, by rw [HP.out, HN.out]; exact HT.out, fun b hb => ⟨(hF b hb).1, by have := (hF b hb).2; omega⟩,
            by rw [HP.out, HN.out]; exact ownsRow_same HO.out (fun g hg => bs.block g (HO.out.lt g hg).2), hdis⟩
          case measure => simp [intOf]; omega
        · have hge : nd ≤ xd := by omega
          have hNd : N ≤ xd := by have := fun h => hea ((htl p6).1 h); omega
          have htk : took n done ⟨xa, xb, xd⟩ = done ++ [⟨xa, xb, xd⟩] := by unfold took; rw [if_pos]; exact ⟨⟨p1, p2, p3, p4, p5, p6, p7⟩, by rw [HD.out]; exact hge⟩
          have HN := Lib.hid htk
          have hT2 := track_step HT.out ⟨xa, xb, xd⟩ ⟨p1, p2, p3, p4, p5, p6, p7⟩ hNd
          have HT2 := Lib.hid hT2
          have cM := fun w h => meet_ok F k n N M w h HT.out.rise xa xb xd ⟨p1, p2, p3, p4, p5, p6, p7⟩ hNd
          have CM := Lib.hid cM
          obtain ⟨i0, hi, hz0, hz1, hz2⟩ := info_parts info67
          obtain ⟨Wx, hWx⟩ : ∃ Wx, Wx = (wr.alloc (.cells #[.int .i64 xa, .int .i64 xb, .int .i64 xd] 52)).alloc (.cells #[.int .i64 xa, .int .i64 xb, .int .i64 xd] 67) := ⟨_, rfl⟩
          have bx : Below wr.heap.size wr Wx := by rw [hWx]; (repeat' (first | (with_reducible exact Below.refl _ _) | (with_reducible assumption) | (with_reducible refine Below.alloc ?_ ?_ _) | (with_reducible refine Below.drew ?_) | (with_reducible refine below_drewN ?_ _) | (with_reducible refine Below.setCell ?_ ?_ _) | (with_reducible refine below_step ?_ (by with_reducible assumption) ?_) | go_size))
          have sx : Wx.heap.size = wr.heap.size + 2 := by rw [hWx]; simp
          have x67 : Wx.heap[wr.heap.size + 1]? = some (.cells #[.int .i64 xa, .int .i64 xb, .int .i64 xd] 67 (0, 0)) := by
            rw [hWx]; show ((wr.heap.push _).push _)[_]? = _; rw [Array.getElem?_push, Array.size_push, if_pos rfl]
          have x52 : Wx.heap[wr.heap.size]? = some (.cells #[.int .i64 xa, .int .i64 xb, .int .i64 xd] 52 (0, 0)) := by
            rw [hWx]; show ((wr.heap.push _).push _)[_]? = _; rw [Array.getElem?_push, Array.size_push, if_neg (by omega), Array.getElem?_push, if_pos rfl]
          have hox : Wx.ownsRow w.heap.size 67 3 u9 done.length (flatM done) := ownsRow_same HO.out (fun g hg => bx.block g (HO.out.lt g hg).2)
          obtain ⟨v3, w3, r3, o1, o2, _, o4⟩ := run_append_own_at (P := Try.prog) Wx w.heap.size 32 32 67 i0 _ 3 24 Try.underlying32 hi hz0 hz1 hz2 rfl (by decide) u9 _ _ hox
            ⟨wr.heap.size + 1, 0, none⟩ 1 1 [.int .i64 xa, .int .i64 xb, .int .i64 xd] rfl (by
              intro j u hj
              have hadd : (⟨wr.heap.size + 1, 0, none⟩ : Addr).add j = ⟨wr.heap.size + 1, j, none⟩ := by unfold Addr.add; split <;> simp_all
              rw [hadd, cell_of_block x67]
              simpa using hj) (by intro u hu; simp at hu; rcases hu with rfl | rfl | rfl <;> rfl) (by unfold maxLen; omega) (by omega) (by omega)
          have ub : ∀ g, u9.ownBlock = some g → g < wr.heap.size := fun g hg => (HO.out.lt g hg).2
          have z3 := o2.size
          have b3 : Below w.heap.size wr w3 := (bx.mono zr).trans ⟨o2.os, o2.tape, o2.output, o2.size, fun i hi => o2.block i (by omega) (fun e => by have := (HO.out.lt i e.symm).1; omega)⟩
          have k3 : ∀ b, F b → w3.heap[b]? = wr.heap[b]? := fun b hb => by
            have h1 := (hF b hb).2
            rw [o2.block b (by omega) (fun e => hdis b e.symm hb), bx.block b h1]
          have x3 : w3.heap[wr.heap.size]? = some (.cells #[.int .i64 xa, .int .i64 xb, .int .i64 xd] 52 (0, 0)) := by
            rw [o2.block _ (by omega) (fun e => by have := ub _ e.symm; omega)]; exact x52
          have y0 : w3.cell? ⟨wr.heap.size, 0, none⟩ = some (.int .i64 xa) := by rw [cell_of_block x3]; rfl
          have y1 : w3.cell? ⟨wr.heap.size, 1, none⟩ = some (.int .i64 xb) := by rw [cell_of_block x3]; rfl
          have y2 : w3.cell? ⟨wr.heap.size, 2, none⟩ = some (.int .i64 xd) := by rw [cell_of_block x3]; rfl
          have v3b : ∀ g, v3.ownBlock = some g → ¬ F g ∧ g < w3.heap.size ∧ w.heap.size ≤ g := fun g hg => by
            refine ⟨?_, (o1.lt g hg).2, (o1.lt g hg).1⟩
            rcases o4 with e | e
            · exact hdis g (by rw [← e]; exact hg)
            · intro hb
              have h1 := (hF g hb).2
              rw [e, sx] at hg
              simp at hg
              omega
          have hB3 : IsBook w3 F k n N M := HB.out.same k3
          have HX := Lib.hid hWx
          have O1 := Lib.hid o1
          have HB3 := Lib.hid hB3
          have C3 := Lib.hid (CM.out w3 hB3)
          rw [hWx] at r3
          clear htk hT2 cM htl hi hz0 hz1 hz2 hWx bx sx x67 x52 hox o1 o2 o4 k3 x3 hB3
          go_wp2_with (first | (go_at_call 18; refine (pair_any _ _ _ _).mono ?_; rintro e w' ⟨rfl, rfl⟩) | (at_builtin; refine wpList_append_run (by rfl) (.tmp 50) (.tmp 58) 32 (by rfl) u9 (.slice (some ⟨wr.heap.size + 1, 0, none⟩) 1 1) v3 w3 (by rfl) (by rfl) r3 ?_))
          refine C3.out.mono ?_
          rintro e w4 ⟨rfl, F2, hB2, hU⟩
          have z4 := hU.size
          have b4 : Below w.heap.size w3 w4 := hU.below (by have := b3.size; omega) (fun b hb => (hF b hb).1)
          have HB4 := Lib.hid hB2.tight
          have HU := Lib.hid hU
          have z5 := b3.size
          clear hB2 hU
          go_wp2
          go_roundw
          case rel =>
            refine ⟨j + 1, by omega, by go_num, ?_, (hbel.trans b3).trans b4, _, _, _, HB4.out, ?_, ?_, ?_, ?_⟩
            · rw [HP.out, HN.out]; simp [newest]
            · rw [HP.out, HN.out]; exact HT2.out
            · intro b hb
              refine ⟨?_, hb.2⟩
              rcases HU.out.grow b hb.1 with h | h
              · exact (hF b h).1
              · omega
            · rw [HP.out, HN.out]
              have e : flatM (done ++ [⟨xa, xb, xd⟩]) = flatM done ++ [.int .i64 xa, .int .i64 xb, .int .i64 xd] := by simp [flatM]
              rw [e, List.length_append]
              exact ownsRow_same O1.out (fun g hg => HU.out.keep g (v3b g hg).2.1 (v3b g hg).1)
            · intro g hg h
              rcases HU.out.grow g h.1 with h1 | h1
              · exact (v3b g hg).1 h1
              · have := (v3b g hg).2.1; omega
          case measure => simp [intOf]; omega
      · have cM := fun w h => meet_bad k n w h xa xb xd hfit
        have CM := Lib.hid cM
        have hnot : took n done ⟨xa, xb, xd⟩ = done := by unfold took; rw [if_neg]; exact fun h => hfit h.1
        have HN := Lib.hid hnot
        clear cM hnot
        have hk1 : ∀ o, (wr.alloc o).cell? ⟨k, 0, none⟩ = some (.int .i64 n) := fun o => by rw [((Below.refl _ wr).alloc (Nat.le_refl _) o).cell (p := ⟨k, 0, none⟩) klt]; exact HB.out.cell0
        have HK1 := Lib.hid hk1
        clear hk1
        by_cases hp : decide (0 ≤ xa ∧ xa < n ∧ 0 ≤ xb ∧ xb < n ∧ xa ≠ xb) = true
        · by_cases hd : xd < 0
          · clear hfit htl
            go_wp2_with fail
            refine (pair_any _ _ _ _).mono ?_
            rintro e w' ⟨rfl, rfl⟩
            go_wp2_with fail
            refine (CM.out _ (HK1.out _)).mono ?_
            rintro e w2 ⟨rfl, hb2⟩
            have bs : Below wr.heap.size wr w2 := ((Below.refl _ wr).alloc (Nat.le_refl _) _).trans (hb2.mono (by simp))
            have zs := bs.size
            go_wp2
            go_roundw
            case rel => exact ⟨j + 1, by omega, by go_num, by rw [HP.out, HN.out, HD.out], hbel.trans (bs.mono zr), F, N, M, HB.out.below bs, by rw [HP.out, HN.out]; exact HT.out, fun b hb => ⟨(hF b hb).1, by have := (hF b hb).2; omega⟩,
              by rw [HP.out, HN.out]; exact ownsRow_same HO.out (fun g hg => bs.block g (HO.out.lt g hg).2), hdis⟩
            case measure => simp [intOf]; omega
          · have hd2 : 999999 < xd := by
              simp at hp
              unfold Fit at hfit
              omega
            clear hfit htl
            go_wp2_with fail
            refine (pair_any _ _ _ _).mono ?_
            rintro e w' ⟨rfl, rfl⟩
            go_wp2_with fail
            refine (CM.out _ (HK1.out _)).mono ?_
            rintro e w2 ⟨rfl, hb2⟩
            have bs : Below wr.heap.size wr w2 := ((Below.refl _ wr).alloc (Nat.le_refl _) _).trans (hb2.mono (by simp))
            have zs := bs.size
            go_wp2
            go_roundw
            case rel => exact ⟨j + 1, by omega, by go_num, by rw [HP.out, HN.out, HD.out], hbel.trans (bs.mono zr), F, N, M, HB.out.below bs, by rw [HP.out, HN.out]; exact HT.out, fun b hb => ⟨(hF b hb).1, by have := (hF b hb).2; omega⟩,
              by rw [HP.out, HN.out]; exact ownsRow_same HO.out (fun g hg => bs.block g (HO.out.lt g hg).2), hdis⟩
            case measure => simp [intOf]; omega
        · have hp : decide (0 ≤ xa ∧ xa < n ∧ 0 ≤ xb ∧ xb < n ∧ xa ≠ xb) = false := by simpa using hp
          clear hfit htl
          go_wp2_with fail
          refine (pair_any _ _ _ _).mono ?_
          rintro e w' ⟨rfl, rfl⟩
          go_wp2_with fail
          refine (CM.out _ (HK1.out _)).mono ?_
          rintro e w2 ⟨rfl, hb2⟩
          have bs : Below wr.heap.size wr w2 := ((Below.refl _ wr).alloc (Nat.le_refl _) _).trans (hb2.mono (by simp))
          have zs := bs.size
          go_wp2
          go_roundw
          case rel => exact ⟨j + 1, by omega, by go_num, by rw [HP.out, HN.out, HD.out], hbel.trans (bs.mono zr), F, N, M, HB.out.below bs, by rw [HP.out, HN.out]; exact HT.out, fun b hb => ⟨(hF b hb).1, by have := (hF b hb).2; omega⟩,
            by rw [HP.out, HN.out]; exact ownsRow_same HO.out (fun g hg => bs.block g (HO.out.lt g hg).2), hdis⟩
          case measure => simp [intOf]; omega
    · have hjl : j = xs.length := by omega
      subst hjl
      rw [List.take_length] at hT hown ⊢
      have HB := Lib.hid hB
      have HT := Lib.hid hT
      have HO := Lib.hid hown
      clear hB hT hown
      go_wp2
      go_ret3
      exact ⟨k, _, F, N, M, rfl, hbel, HB.out, HT.out, hF, HO.out⟩

end Go.Proofs.Ytednejckcdiebaa
