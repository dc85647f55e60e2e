/- The reference's clean. -/
import Derived.Test.YtijcicgbhcphjaaT3
namespace Go.Proofs.Ytijcicgbhcphjaa
open Go.RowKit Go.Lib Go.ChangeMaps
set_option linter.unusedSimpArgs false

theorem cleanAt_snoc (gone : Nat → Bool) (zs : List Int) (i : Nat) (h : i < zs.length) : cleanAt gone (zs.take (i + 1)) = cleanAt gone (zs.take i) ++ [if goodB gone (zs.getD i 0) = true then zs.getD i 0 else -1] := by
  unfold cleanAt
  rw [List.take_succ_eq_append_getElem h, List.map_append, getD_at _ _ _ h]
  rfl
theorem cleanAt_len (gone : Nat → Bool) (zs : List Int) : (cleanAt gone zs).length = zs.length := by simp [cleanAt]
theorem cleanV_get (gone : Nat → Bool) (V : Vp) (k : Nat) (hk : k < V.held.length) : (V.held.map (cleanH gone)).getD k default = cleanH gone (V.held.getD k default) := cleanV_at gone V hk
/-- Rows of rows: the first j stripes without the pieces that are gone. -/
def CleanO (wr w : World) (B : Nat) (gone : Nat → Bool) (V : Vp) (xs : List (Value × Value)) (j : Nat) (hv : Value) : Prop := ∃ ys : List (Value × Value), ys.length = j ∧ Own wr B 87 hv 7 j (hpCell (V.held.map (cleanH gone)) ys) ∧
  ∀ i, i < j → xsR ys i = xsR xs i ∧ OwnI wr B (xsA ys i) (cleanAt gone (V.held.getD i default).at_)
theorem CleanO.below {wr wi w : World} {B : Nat} {gone : Nat → Bool} {V : Vp} {xs : List (Value × Value)} {j : Nat} {hv : Value} (h : CleanO wr w B gone V xs j hv) (hb : Below wr.heap.size wr wi) : CleanO wi w B gone V xs j hv := by
  obtain ⟨ys, h1, h2, h3⟩ := h
  exact ⟨ys, h1, h2.below hb, fun i hi => ⟨(h3 i hi).1, (h3 i hi).2.below hb⟩⟩
theorem getD_snoc {α : Type} (xs : List α) (y d : α) (i : Nat) (h : i < xs.length) : (xs ++ [y]).getD i d = xs.getD i d := by
  rw [getD_at _ _ _ (by rw [List.length_append]; omega), getD_at _ _ _ h, List.getElem_append_left h]
theorem getD_last {α : Type} (xs : List α) (y d : α) : (xs ++ [y]).getD xs.length d = y := by
  rw [getD_at _ _ _ (by simp)]
  simp
/-- One more stripe. -/
theorem CleanO.app {W w : World} {B : Nat} {gone : Nat → Bool} {V : Vp} {xs : List (Value × Value)} {j : Nat} {hv rv av : Value} (h : CleanO W w B gone V xs j hv) (hj : j < V.held.length) (hr : rv = xsR xs j) (ho : rv.oneCell' = true)
    (ha : OwnI W B av (cleanAt gone (V.held.getD j default).at_)) (hn : j ≤ 1000) (hB : B ≤ W.heap.size) :
    ∃ v' w', (Builtin.append_ #[31, 31] 31 #[hv, .slice (some ⟨W.heap.size, 0, none⟩) 1 1]).run Try.prog (W.alloc (.cells #[.string (V.held.getD j default).id, .int .i64 (V.held.getD j default).vault, .int .i64 (V.held.getD j default).block, .int .i64 (V.held.getD j default).data, .int .i64 (V.held.getD j default).total, rv, av] 87)) = .ok v' w' ∧
      CleanO w' w B gone V xs (j + 1) v' ∧ Below B W w' ∧ (∃ a l c, v' = .slice a l c) ∧ ∀ b, b < W.heap.size → hv.ownBlock ≠ some b → w'.heap[b]? = W.heap[b]? := by
  obtain ⟨ys, h1, h2, h3⟩ := h
  have h2' : Own W B 87 hv 7 j (hpCell (V.held.map (cleanH gone)) (ys ++ [(rv, av)])) := h2.congr fun i q hi hq => by
    unfold hpCell
    rw [getD_snoc _ _ _ _ (by omega)]
  obtain ⟨v3, w3, r3, o1, o2, o3, o4, _⟩ := Own.append (V := W) (t := 31) (e := 87) Try.underlying31 info87 rfl (by omega) (by omega) h2' 31 [.string (V.held.getD j default).id, .int .i64 (V.held.getD j default).vault, .int .i64 (V.held.getD j default).block, .int .i64 (V.held.getD j default).data, .int .i64 (V.held.getD j default).total, rv, av] rfl (fun q hq => by
    have e1 : (ys ++ [(rv, av)]).getD j (undef, undef) = (rv, av) := by rw [← h1]; exact getD_last _ _ _
    unfold hpCell
    rw [e1, cleanV_get gone V j hj]
    match q, hq with
    | 0, _ => rfl
    | 1, _ => rfl
    | 2, _ => rfl
    | 3, _ => rfl
    | 4, _ => rfl
    | 5, _ => rfl
    | 6, _ => rfl) (by
      obtain ⟨_, _, eav⟩ := OwnI.slice ha
      subst eav
      intro u hu
      simp at hu
      rcases hu with rfl | rfl | rfl | rfl | rfl | rfl | rfl <;> first | exact ho | rfl) (by omega) hB
  have hk : ∀ {v : Value} {n : Nat} {f : Nat → Nat → Value}, Own W B 3 v 1 n f → Own w3 B 3 v 1 n f := fun o => o.same fun g hg => o3 g (o.lt g hg).2 (fun e => own_apart' o h2 (by decide) g hg e)
  refine ⟨v3, w3, r3, ⟨ys ++ [(rv, av)], by simp [h1], o1, fun i hi => ?_⟩, o2, Own.slice o1, o3⟩
  unfold xsR xsA
  by_cases e : i = j
  · subst e
    rw [← h1, getD_last]
    refine ⟨?_, ?_⟩
    · rw [h1]; exact hr
    · rw [h1]; exact hk ha
  · obtain ⟨q1, q2⟩ := h3 i (by omega)
    rw [getD_snoc _ _ _ _ (by omega)]
    exact ⟨q1, hk q2⟩

set_option maxRecDepth 100000 in
set_option maxHeartbeats 16000000 in
theorem clean_ref (v lv : Value) (V : Vp) (ls : List Int) (w : World) (hv : VwAt w v V) (hl : ReadsI w lv ls) (hok : VOk V) :
    Calls Try.prog 50 #[v, lv] w fun e w' => ∃ u, e = .returned u ∧ VwAt w' u (cleanV (goneB V.mem ls) V) ∧ Below w.heap.size w w' := by
  have CT := Lib.hid (fun W d (hW : Below w.heap.size w W) => there_any _ _ V ls d W (hv.below hW) (hl.below hW))
  obtain ⟨a1, a2, a3, a4, a5⟩ := hok.small
  have A5 := Lib.hid a5
  obtain ⟨mv, hv', rv, wv, rfl, hM, hH, hRm, hW⟩ := hv
  have HM := Lib.hid hM
  have HRM := Lib.hid hRm
  have HWT := Lib.hid hW
  obtain ⟨ma, mc, _, _, rfl, -⟩ := hM.at
  obtain ⟨xs, hxl, hxr, hxs⟩ := hH
  have HXS := Lib.hid hxs
  obtain ⟨xa, xc, xb, xo, rfl, xl, xm, xcell⟩ := hxr.at
  have XC := Lib.hid xcell
  obtain ⟨ra, rc, _, _, rfl, rl1, rm1, -⟩ := hRm.at
  obtain ⟨wa, wc, _, _, rfl, -⟩ := hW.at
  obtain ⟨la, lc, _, _, rfl, -⟩ := hl.at
  have hx1 : ∀ i, i < V.held.length → ∃ ra rc ua uc, xsR xs i = .slice ra (V.held.getD i default).refs.length rc ∧ xsA xs i = .slice ua (V.held.getD i default).at_.length uc := fun i hi => by
    obtain ⟨q1, q2⟩ := hxs i hi
    obtain ⟨_, _, _, _, e1, _⟩ := q1.at
    obtain ⟨_, _, _, _, e2, _⟩ := q2.at
    exact ⟨_, _, _, _, e1, e2⟩
  have HX1 := Lib.hid hx1
  have HXL := Lib.hid hxl
  clear a3 a4 a5 hM hRm hW hl hxl hxs hxr xcell hx1 hok
  obtain ⟨nh, hnh⟩ : ∃ nh, nh = V.held.length := ⟨_, rfl⟩
  have HNH := Lib.hid hnh
  rw [← hnh] at CT xl xm a2 ⊢
  clear hnh
  obtain ⟨ml, hml⟩ : ∃ ml, ml = V.mem.length := ⟨_, rfl⟩
  have HML := Lib.hid hml
  rw [← hml] at CT HM ⊢
  clear hml a1
  obtain ⟨gone, hgone⟩ : ∃ gone, gone = goneB V.mem ls := ⟨_, rfl⟩
  rw [← hgone]
  have HG := Lib.hid hgone
  clear hgone
  generalize ls.length = ll at *
  generalize V.room.length = rl at *
  generalize V.weight.length = wl at *
  obtain ⟨A, hA⟩ : ∃ A, A = Obj.cells #[.slice ma ml mc, .slice xa nh xc, .slice ra rl rc, .slice wa wl wc] 33 := ⟨_, rfl⟩
  obtain ⟨C, hC⟩ : ∃ C, C = Obj.cells #[.slice none 0 0, .slice none 0 0, .slice none 0 0, .slice none 0 0] 33 := ⟨_, rfl⟩
  have hz0 : ((w.alloc A).alloc C).heap.size = w.heap.size + 2 := by simp
  have hb0 : Below w.heap.size w (((w.alloc A).alloc C).alloc (.cells #[] 87)) := by (repeat' (first | (with_reducible exact Below.refl _ _) | (with_reducible assumption) | (with_reducible refine Below.alloc ?_ ?_ _) | (with_reducible refine Below.drew ?_) | (with_reducible refine below_drewN ?_ _) | (with_reducible refine Below.setCell ?_ ?_ _) | (with_reducible refine below_step ?_ (by with_reducible assumption) ?_) | go_size))
  have kA : (((w.alloc A).alloc C).alloc (.cells #[] 87)).heap[w.heap.size]? = some A := by
    show (((w.heap.push _).push _).push _)[_]? = _; simp only [Array.getElem?_push, Array.size_push]; repeat (first | rw [if_pos trivial] | rw [if_pos (by omega)] | rw [if_neg (by omega)])
  have kC : (((w.alloc A).alloc C).alloc (.cells #[] 87)).heap[w.heap.size + 1]? = some C := by
    show (((w.heap.push _).push _).push _)[_]? = _; simp only [Array.getElem?_push, Array.size_push]; repeat (first | rw [if_pos trivial] | rw [if_pos (by omega)] | rw [if_neg (by omega)])
  have o0 : CleanO (((w.alloc A).alloc C).alloc (.cells #[] 87)) w (w.heap.size + 2) gone V xs 0 (.slice (some ⟨w.heap.size + 1 + 1, 0, none⟩) 0 0) := by
    have h := Own.lit0 ((w.alloc A).alloc C) (w.heap.size + 2) 87 7 (hpCell (V.held.map (cleanH gone)) []) (by omega)
    rw [hz0] at h
    exact ⟨[], rfl, h, fun i hi => by omega⟩
  have HKA := Lib.hid kA
  have HKC := Lib.hid kC
  have HO0 := Lib.hid o0
  have HB0 := Lib.hid hb0
  have HZ0 := Lib.hid hz0
  clear kA kC o0 hb0 hz0
  rw [hA, hC] at HKA HKC HO0 HB0
  clear hA hC
  go_enter Try.func50, Try.ntmps50
  go_wp2
  generalize hW0 : (((w.alloc _).alloc _).alloc _) = W0 at *
  clear hW0
  go_loopw [15, 5, 7, 8, 10] (fun v15 v5 _ _ _ wr => ∃ j : Nat, j ≤ nh ∧ v15 = .int .i64 j ∧ Below w.heap.size w wr ∧ w.heap.size + 2 ≤ wr.heap.size ∧ CleanO wr w (w.heap.size + 2) gone V xs j v5 ∧ wr.heap[w.heap.size]? = some (.cells #[.slice ma ml mc, .slice xa nh xc, .slice ra rl rc, .slice wa wl wc] 33 (0, 0)) ∧ wr.heap[w.heap.size + 1]? = some (.cells #[.slice none 0 0, .slice none 0 0, .slice none 0 0, .slice none 0 0] 33 (0, 0))) (fun v15 _ _ _ _ _ => nh - (intOf v15).toNat)
  case atStart => exact ⟨0, Nat.zero_le _, rfl, HB0.out, by have := (Array.getElem?_eq_some_iff.1 HKC.out).1; omega, HO0.out, HKA.out, HKC.out⟩
  case round =>
    obtain ⟨j, hj, rfl, hbel, hz, hco, hkA, hkC⟩ := hrel
    have HCO := Lib.hid hco
    clear hco HKA HKC HO0 HB0
    by_cases hlt : j < nh
    · have hjl : j < V.held.length := by rw [← HNH.out]; exact hlt
      obtain ⟨e1, e2⟩ := XC.out j hjl
      subst e1
      obtain ⟨qa, qc, ua, uc, q1, q2⟩ := HX1.out j hjl
      have hra := (HXS.out j hjl).2
      change ReadsI w (xsA xs j) _ at hra
      rw [q2] at hra
      obtain ⟨_, _, ab, af, e, al, am, acell⟩ := hra.at
      cases e
      have AC := Lib.hid acell
      have hsm := A5.out j hjl
      have a16 := hsm.at_small.1
      have A8 := Lib.hid (show ∀ x ∈ (V.held.getD j default).at_, x = -1 ∨ (0 ≤ x ∧ x < V.mem.length) from hsm.2.2.2.2.2.2)
      have d0 := e2 0 (by omega)
      have d1 := e2 1 (by omega)
      have d2 := e2 2 (by omega)
      have d3 := e2 3 (by omega)
      have d4 := e2 4 (by omega)
      have d5 : w.cell? ⟨xb, xo + j * 7 + 5, none⟩ = some (.slice qa (V.held.getD j default).refs.length qc) := (e2 5 (by omega)).trans (congrArg some q1)
      have d6 : w.cell? ⟨xb, xo + j * 7 + 6, none⟩ = some (.slice ua (V.held.getD j default).at_.length uc) := (e2 6 (by omega)).trans (congrArg some q2)
      simp only [hpCell, Nat.add_zero] at d0 d1 d2 d3 d4
      have d0 := bc hbel d0
      have d1 := bc hbel d1
      have d2 := bc hbel d2
      have d3 := bc hbel d3
      have d4 := bc hbel d4
      have d5 := bc hbel d5
      have d6 := bc hbel d6
      have happ := fun (W : World) (av : Value) (h : CleanO W w (w.heap.size + 2) gone V xs j u5) (ha : OwnI W (w.heap.size + 2) av (cleanAt gone (V.held.getD j default).at_)) (hB : w.heap.size + 2 ≤ W.heap.size) => CleanO.app h hjl (rv := .slice qa (V.held.getD j default).refs.length qc) q1.symm rfl ha (by omega) hB
      have HAPP := Lib.hid happ
      clear e2 hra acell hsm happ q1 q2
      generalize V.held.getD j default = y at *
      obtain ⟨id, vault, block, data, total, refs, zs⟩ := y
      simp only at d0 d1 d2 d3 d4 d5 d6 HAPP AC A8 a16 al am
      generalize refs.length = ql at *
      have hWb : Below wr.heap.size wr ((wr.alloc (.cells #[.string id, .int .i64 vault, .int .i64 block, .int .i64 data, .int .i64 total, .slice qa ql qc, .slice ua zs.length uc] 87)).alloc (.cells #[] 3)) := by (repeat' (first | (with_reducible exact Below.refl _ _) | (with_reducible assumption) | (with_reducible refine Below.alloc ?_ ?_ _) | (with_reducible refine Below.drew ?_) | (with_reducible refine below_drewN ?_ _) | (with_reducible refine Below.setCell ?_ ?_ _) | (with_reducible refine below_step ?_ (by with_reducible assumption) ?_) | go_size))
      have hkh : ((wr.alloc (.cells #[.string id, .int .i64 vault, .int .i64 block, .int .i64 data, .int .i64 total, .slice qa ql qc, .slice ua zs.length uc] 87)).alloc (.cells #[] 3)).heap[wr.heap.size]? = some (.cells #[.string id, .int .i64 vault, .int .i64 block, .int .i64 data, .int .i64 total, .slice qa ql qc, .slice ua zs.length uc] 87 (0, 0)) := bb (sbell _) (heap_alloc_new wr _)
      have hoa := OwnI.lit0 (wr.alloc (.cells #[.string id, .int .i64 vault, .int .i64 block, .int .i64 data, .int .i64 total, .slice qa ql qc, .slice ua zs.length uc] 87))
      rw [World.size_alloc] at hoa
      have hzW : ((wr.alloc (.cells #[.string id, .int .i64 vault, .int .i64 block, .int .i64 data, .int .i64 total, .slice qa ql qc, .slice ua zs.length uc] 87)).alloc (.cells #[] 3)).heap.size = wr.heap.size + 2 := by simp
      have hbW := hbel.trans (hWb.mono hbel.size)
      have HKA2 := Lib.hid (bb hWb hkA)
      have HKC2 := Lib.hid (bb hWb hkC)
      have HWB := Lib.hid hWb
      have HKH := Lib.hid hkh
      have HOA := Lib.hid hoa
      have HZW := Lib.hid hzW
      clear hkh hoa hzW hkA hkC hWb hbel
      go_wp2
      generalize ((wr.alloc (.cells #[.string id, .int .i64 vault, .int .i64 block, .int .i64 data, .int .i64 total, .slice qa ql qc, .slice ua zs.length uc] 87)).alloc (.cells #[] 3)) = Wa at *
      obtain ⟨wo, hwo⟩ : ∃ wo, wo = wr := ⟨_, rfl⟩
      subst hwo
      clear d0 d1 d2 d3 d4 d5 d6
      go_loopw [23, 8, 10] (fun v23 v8 _ wi => ∃ i : Nat, i ≤ zs.length ∧ v23 = .int .i64 i ∧ OwnI wi (wo.heap.size + 1) v8 (cleanAt gone (zs.take i)) ∧ Below (wo.heap.size + 1) Wa wi) (fun v23 _ _ _ => zs.length - (intOf v23).toNat)
      case atStart => exact ⟨0, Nat.zero_le _, rfl, by simpa [cleanAt] using HOA.out, Below.refl _ _⟩
      case round =>
        obtain ⟨i, hi, rfl, hown, hbi⟩ := hrel
        have HOI := Lib.hid hown
        have hbwr := hbW.trans (hbi.mono (show w.heap.size ≤ wo.heap.size + 1 by omega))
        have zz := hbi.size
        have zw := HZW.out
        have hkAi := (hbi.block w.heap.size (by omega)).trans HKA2.out
        have ZW := Lib.hid zw
        have zw2 : wo.heap.size + 2 ≤ wr.heap.size := by omega
        have hcl : (cleanAt gone (zs.take i)).length ≤ 16 := by
          have : (cleanAt gone (zs.take i)).length = (zs.take i).length := by simp [cleanAt]
          rw [this, List.length_take]
          omega
        clear hown zw zz
        by_cases hlti : i < zs.length
        · obtain ⟨f1, f2⟩ := AC.out i hlti
          subst f1
          have f2 := bc hbwr f2
          have hA8 := A8.out (zs.getD i 0) (by rw [getD_at _ _ _ hlti]; exact List.getElem_mem hlti)
          have hs1 := cleanAt_snoc gone zs i hlti
          have hth : thereB V ls (zs.getD i 0) = goodB gone (zs.getD i 0) := by rw [there_good hA8, HG.out]
          have HS1 := Lib.hid hs1
          have n0 := cell_of_row _ w.heap.size 0 _ _ _ hkAi
          have n1 := cell_of_row _ w.heap.size 1 _ _ _ hkAi
          have n2 := cell_of_row _ w.heap.size 2 _ _ _ hkAi
          have n3 := cell_of_row _ w.heap.size 3 _ _ _ hkAi
          have CX := Lib.hid (CT.out wr (zs.getD i 0) hbwr)
          rw [hth] at CX
          clear hs1 hA8 hth hkAi
          generalize zs.getD i 0 = x at *
          cases hg : goodB gone x with
          | false =>
            rw [hg] at CX HS1
            rw [if_neg (by simp)] at HS1
            go_wp2_with fail
            refine CX.out.mono ?_
            rintro e w4 ⟨rfl, hb4⟩
            have z4 := hb4.size
            obtain ⟨v6, w6, r6, o6, b6, -⟩ := OwnI.app (OwnI.below HOI.out hb4) (-1) (by omega) (show wo.heap.size + 1 ≤ w4.heap.size by omega)
            rw [← HS1.out] at o6
            have HO6 := Lib.hid o6
            obtain ⟨a6, c6, e6⟩ := OwnI.slice o6
            generalize hlen6 : (cleanAt gone (zs.take (i + 1))).length = len6 at *
            subst e6
            clear o6 n0 n1 n2 n3
            go_wp2_with (at_builtin; refine wpList_append_run (by rfl) (.tmp 32) (.tmp 34) 24 (by rfl) _ (.slice (some ⟨w4.heap.size, 0, none⟩) 1 1) (.slice a6 len6 c6) w6 (by rfl) (by rfl) r6 ?_)
            go_roundw
            case rel => exact ⟨i + 1, by omega, by go_num, HO6.out, (hbi.trans (hb4.mono (by omega))).trans b6⟩
            case measure => simp [intOf]; omega
          | true =>
            rw [hg] at CX HS1
            rw [if_pos rfl] at HS1
            go_wp2_with fail
            refine CX.out.mono ?_
            rintro e w4 ⟨rfl, hb4⟩
            have z4 := hb4.size
            obtain ⟨v6, w6, r6, o6, b6, -⟩ := OwnI.app (OwnI.below HOI.out hb4) x (by omega) (show wo.heap.size + 1 ≤ w4.heap.size by omega)
            rw [← HS1.out] at o6
            have HO6 := Lib.hid o6
            obtain ⟨a6, c6, e6⟩ := OwnI.slice o6
            generalize hlen6 : (cleanAt gone (zs.take (i + 1))).length = len6 at *
            subst e6
            clear o6 n0 n1 n2 n3
            go_wp2_with (at_builtin; refine wpList_append_run (by rfl) (.tmp 32) (.tmp 34) 24 (by rfl) _ (.slice (some ⟨w4.heap.size, 0, none⟩) 1 1) (.slice a6 len6 c6) w6 (by rfl) (by rfl) r6 ?_)
            go_roundw
            case rel => exact ⟨i + 1, by omega, by go_num, HO6.out, (hbi.trans (hb4.mono (by omega))).trans b6⟩
            case measure => simp [intOf]; omega
        · have hil : i = zs.length := by omega
          have ho2 := HOI.out
          rw [hil, List.take_length] at ho2
          have hkhi := (hbi.block wo.heap.size (by omega)).trans HKH.out
          have hbo : Below wo.heap.size Wa wr := hbi.mono (by omega)
          have hco2 : CleanO wr w (w.heap.size + 2) gone V xs j u5 := HCO.out.below (HWB.out.trans hbo)
          obtain ⟨v6, w6, r6, co6, b6, ⟨a6, l6, c6, e6⟩, -⟩ := HAPP.out wr u8 hco2 (Own.base ho2 (by omega)) (by omega)
          subst e6
          have hkA6 := (b6.block w.heap.size (by omega)).trans hkAi
          have hkC6 := (b6.block (w.heap.size + 1) (by omega)).trans ((hbi.block (w.heap.size + 1) (by omega)).trans HKC2.out)
          have hb6 := hbwr.trans (b6.mono (by omega))
          have hz6 : w.heap.size + 2 ≤ w6.heap.size := by have := b6.size; omega
          have HA6 := Lib.hid hkA6
          have HC6 := Lib.hid hkC6
          have HCO6 := Lib.hid co6
          have m0 := cell_of_row _ wo.heap.size 0 _ _ _ hkhi
          have m1 := cell_of_row _ wo.heap.size 1 _ _ _ hkhi
          have m2 := cell_of_row _ wo.heap.size 2 _ _ _ hkhi
          have m3 := cell_of_row _ wo.heap.size 3 _ _ _ hkhi
          have m4 := cell_of_row _ wo.heap.size 4 _ _ _ hkhi
          have m5 := cell_of_row _ wo.heap.size 5 _ _ _ hkhi
          obtain ⟨a8, c8, e8⟩ := OwnI.slice ho2
          generalize (cleanAt gone zs).length = len8 at *
          subst e8
          clear hil ho2 hkhi hbo hco2 hkAi hkA6 hkC6 co6
          go_wp2_with (at_builtin; refine wpList_append_run (by rfl) (.tmp 37) (.tmp 42) 31 (by rfl) _ (.slice (some ⟨wr.heap.size, 0, none⟩) 1 1) (.slice a6 l6 c6) w6 (by rfl) (by rfl) r6 ?_)
          go_roundw
          case rel => exact ⟨j + 1, by omega, by go_num, hb6, hz6, HCO6.out, HA6.out, HC6.out⟩
          case measure => simp [intOf]; omega
    · have hjn : j = nh := by omega
      subst hjn
      obtain ⟨ys, y1, y2, y3⟩ := HCO.out
      obtain ⟨gHa, gHl, cH, rfl⟩ := Own.slice y2
      have hn1000 : j ≤ 256 := by omega
      have p0 := cell_of_row _ w.heap.size 0 _ _ _ hkA
      have p1 := cell_of_row _ w.heap.size 1 _ _ _ hkA
      have p2 := cell_of_row _ w.heap.size 2 _ _ _ hkA
      have p3 := cell_of_row _ w.heap.size 3 _ _ _ hkA
      have f1 := frozen_of_row _ w.heap.size 1 _ _ hkA
      go_upto_region 16 with fail
      have q2 := setCell_block (i := 1) hkA (.slice gHa gHl cH)
      have KA14 := Lib.hid q2
      have hb14 : Below w.heap.size w (wr.setCell ⟨w.heap.size, 1, none⟩ (.slice gHa gHl cH)) := hbel.setCell (Nat.le_refl _) _
      have hoff : ∀ q, q ≠ w.heap.size → (wr.setCell ⟨w.heap.size, 1, none⟩ (.slice gHa gHl cH)).heap[q]? = wr.heap[q]? := fun q hq => setCell_other _ _ hq
      have KC14 := Lib.hid ((hoff (w.heap.size + 1) (by omega)).trans hkC)
      have hS : Own (wr.setCell ⟨w.heap.size, 1, none⟩ (.slice gHa gHl cH)) (w.heap.size + 2) 87 (.slice gHa gHl cH) 7 j (hpCell (V.held.map (cleanH gone)) ys) := y2.same fun q hq => hoff q (by have := (y2.lt q hq).1; omega)
      have hA : ∀ i, i < j → xsR ys i = xsR xs i ∧ OwnI (wr.setCell ⟨w.heap.size, 1, none⟩ (.slice gHa gHl cH)) (w.heap.size + 2) (xsA ys i) (cleanAt gone (V.held.getD i default).at_) := fun i hi => ⟨(y3 i hi).1, Own.same (y3 i hi).2 fun q hq => hoff q (by have := (Own.lt (y3 i hi).2 q hq).1; omega)⟩
      have HS14 := Lib.hid hS
      have HA14 := Lib.hid hA
      clear q2 hoff hS hA p0 p1 p2 p3 f1 hkA hkC y2 y3 HCO
      generalize wr.setCell ⟨w.heap.size, 1, none⟩ (.slice gHa gHl cH) = W14 at *
      have kA14 : W14.heap[w.heap.size]? = some (.cells #[.slice ma ml mc, .slice gHa gHl cH, .slice ra rl rc, .slice wa wl wc] 33 (0, 0)) := KA14.out
      have p0 := cell_of_row _ w.heap.size 0 _ _ _ kA14
      have p1 := cell_of_row _ w.heap.size 1 _ _ _ kA14
      have p2 := cell_of_row _ w.heap.size 2 _ _ _ kA14
      have p3 := cell_of_row _ w.heap.size 3 _ _ _ kA14
      have r0 := cell_of_row _ (w.heap.size + 1) 0 _ _ _ KC14.out
      have r1 := cell_of_row _ (w.heap.size + 1) 1 _ _ _ KC14.out
      have r2 := cell_of_row _ (w.heap.size + 1) 2 _ _ _ KC14.out
      have r3 := cell_of_row _ (w.heap.size + 1) 3 _ _ _ KC14.out
      have f0 := frozen_of_row _ (w.heap.size + 1) 0 _ _ KC14.out
      have f1 := frozen_of_row _ (w.heap.size + 1) 1 _ _ KC14.out
      have f2 := frozen_of_row _ (w.heap.size + 1) 2 _ _ KC14.out
      have f3 := frozen_of_row _ (w.heap.size + 1) 3 _ _ KC14.out
      obtain ⟨x1, x2, x3⟩ := four_set KC14.out (.slice ma ml mc) (.slice gHa gHl cH) (.slice ra rl rc) (.slice wa wl wc)
      have HBF := Lib.hid (x3 w.heap.size w (by omega) hb14)
      have HSF := Lib.hid (HS14.out.same fun q hq => x2 q (by have := (HS14.out.lt q hq).1; omega))
      have HAF := Lib.hid (fun i (hi : i < j) => (show xsR ys i = xsR xs i ∧ _ from ⟨(HA14.out i hi).1, Own.same (HA14.out i hi).2 fun q hq => x2 q (by have := (Own.lt (HA14.out i hi).2 q hq).1; omega)⟩))
      have HY1 := Lib.hid x1
      clear x1 x2 x3 kA14 KA14 KC14 HS14 HA14 hb14
      go_wp2
      refine bodyPost_ret (results_cell_row (P := Try.prog) Try.results50 _ _ (w.heap.size + 1) 33 _ (0, 0) _ (by rfl) HY1.out Try.underlying33 rfl (by kernel_rfl)) rfl ?_
      refine ⟨_, rfl, ⟨_, _, _, _, rfl, HM.out.below HBF.out, ⟨ys, ?_, ?_, fun m hm => ?_⟩, HRM.out.below HBF.out, HWT.out.below HBF.out⟩, HBF.out⟩
      · rw [cleanV_len, ← HNH.out]; exact y1
      · show RowAt _ _ 7 (cleanV gone V).held.length (hpCell (V.held.map (cleanH gone)) ys)
        rw [cleanV_len, ← HNH.out]
        exact Own.row HSF.out (by omega)
      · have hm' : m < V.held.length := by rw [← cleanV_len gone V]; exact hm
        obtain ⟨z1, z2⟩ := HAF.out m (by rw [HNH.out]; exact hm')
        rw [cleanV_at gone V hm']
        have a16 := (A5.out m hm').at_small.1
        refine ⟨?_, OwnI.reads z2 (by show (cleanAt gone (V.held.getD m default).at_).length ≤ _; rw [cleanAt_len]; omega)⟩
        show ReadsR _ (xsR ys m) (V.held.getD m default).refs
        rw [z1]
        exact (HXS.out m hm').1.below HBF.out

end Go.Proofs.Ytijcicgbhcphjaa
