/- The reference's find, Cost. -/
import Derived.Test.YtijcicgbhcphjaaQ2
namespace Go.Proofs.Ytijcicgbhcphjaa
open Go.RowKit Go.Lib Go.ChangeMaps
set_option linter.unusedSimpArgs false

def findI (V : Vp) (s : ByteArray) : Int := match findP V.held s with
  | some k => k
  | none => -1
theorem findP_at {s : ByteArray} : ∀ {hs : List Hp} {k : Nat}, k < hs.length → (hs.getD k default).id = s → (∀ m, m < k → (hs.getD m default).id ≠ s) → findP hs s = some k
  | [], k, h, _, _ => by simp at h
  | x :: r, 0, _, h, _ => by
    have e : x.id = s := by simpa [List.getD] using h
    unfold findP
    rw [if_pos e.symm]
  | x :: r, k + 1, h, he, hn => by
    have h0 : x.id ≠ s := by simpa [List.getD] using hn 0 (by omega)
    unfold findP
    rw [if_neg (fun e => h0 e.symm), findP_at (k := k) (by simpa using h) (by simpa using he) (fun m hm => by simpa using hn (m + 1) (by omega))]
    rfl
theorem findP_none' {s : ByteArray} : ∀ {hs : List Hp}, (∀ m, m < hs.length → (hs.getD m default).id ≠ s) → findP hs s = none
  | [], _ => rfl
  | x :: r, h => by
    have h0 : x.id ≠ s := by simpa [List.getD] using h 0 (by simp)
    unfold findP
    rw [if_neg (fun e => h0 e.symm), findP_none' (fun m hm => by simpa using h (m + 1) (by simp; omega))]
    rfl

set_option maxRecDepth 100000 in
set_option maxHeartbeats 4000000 in
theorem find_any (v : Value) (V : Vp) (s : ByteArray) (w : World) (hv : VwAt w v V) (hh : V.held.length ≤ 1000) :
    Calls Try.prog 60 #[v, .string s] w fun e w' => e = .returned (.int .i64 (findI V s)) ∧ Below w.heap.size w w' := by
  obtain ⟨mv, hv, rv, wv, rfl, hM, hH, hR, hW⟩ := hv
  obtain ⟨ma, mc, _, _, rfl, -⟩ := hM.at
  obtain ⟨ha, hc, hb, ho, rfl, hl1, hm1, hcell⟩ := hH.at
  obtain ⟨ra, rc, _, _, rfl, -⟩ := hR.at
  obtain ⟨wa, wc, _, _, rfl, -⟩ := hW.at
  have HC := Lib.hid hcell
  clear hcell hM hH hR hW
  obtain ⟨r, hr⟩ : ∃ r, r = findI V s := ⟨_, rfl⟩
  rw [← hr]
  have HR := Lib.hid (show r = match findP V.held s with | some k => (k : Int) | none => -1 from hr)
  clear hr
  generalize V.mem.length = ml at *
  generalize V.room.length = rl at *
  generalize V.weight.length = wl at *
  go_enter Try.func60, Try.ntmps60
  go_wp2
  go_loopw [10, 5, 6] (fun v10 _ _ wr => ∃ j : Nat, j ≤ V.held.length ∧ v10 = .int .i64 j ∧ (∀ m, m < j → (V.held.getD m default).id ≠ s) ∧ Below w.heap.size w wr) (fun v10 _ _ _ => V.held.length - (intOf v10).toNat)
  case atStart => exact ⟨0, Nat.zero_le _, rfl, fun m hm => by omega, (Below.refl _ _).alloc (Nat.le_refl _) _⟩
  case round =>
    obtain ⟨j, hj, rfl, hall, hbel⟩ := hrel
    have HA := Lib.hid hall
    have zr := hbel.size
    clear hall
    by_cases hlt : j < V.held.length
    · obtain ⟨e1, e2, e3, e4, e5, e6, xr, av, e7, e8, hrr, hra⟩ := HC.out j hlt
      subst e1
      obtain ⟨qa, qc, _, _, rfl, -⟩ := hrr.at
      obtain ⟨ua, uc, _, _, rfl, -⟩ := hra.at
      have hyes : (V.held.getD j default).id = s → r = j := fun h => by rw [HR.out, findP_at hlt h HA.out]
      have hno : (V.held.getD j default).id ≠ s → ∀ m, m < j + 1 → (V.held.getD m default).id ≠ s := fun h m hm => by
        by_cases e : m = j
        · subst e; exact h
        · exact HA.out m (by omega)
      have HY := Lib.hid hyes
      have HN := Lib.hid hno
      clear hrr hra hyes hno
      rw [← hbel.cell (p := ⟨hb, _, none⟩) (cell_lt e2)] at e2
      rw [← hbel.cell (p := ⟨hb, _, none⟩) (cell_lt e3)] at e3
      rw [← hbel.cell (p := ⟨hb, _, none⟩) (cell_lt e4)] at e4
      rw [← hbel.cell (p := ⟨hb, _, none⟩) (cell_lt e5)] at e5
      rw [← hbel.cell (p := ⟨hb, _, none⟩) (cell_lt e6)] at e6
      rw [← hbel.cell (p := ⟨hb, _, none⟩) (cell_lt e7)] at e7
      rw [← hbel.cell (p := ⟨hb, _, none⟩) (cell_lt e8)] at e8
      generalize V.held.getD j default = y at *
      obtain ⟨id, vault, block, data, total, refs, at_⟩ := y
      simp only at e2 e3 e4 e5 e6 HY HN
      generalize refs.length = ql at *
      generalize at_.length = ul at *
      have hq := str_eq id s
      by_cases hxy : id = s
      · rw [decide_eq_true hxy] at hq
        obtain rfl := HY.out hxy
        clear hxy
        go_wp2
        go_ret
        exact ⟨rfl, by (repeat' (first | (with_reducible exact Below.refl _ _) | (with_reducible assumption) | (with_reducible refine Below.alloc ?_ ?_ _) | (with_reducible refine Below.drew ?_) | (with_reducible refine below_drewN ?_ _) | (with_reducible refine Below.setCell ?_ ?_ _) | (with_reducible refine below_step ?_ (by with_reducible assumption) ?_) | go_size))⟩
      · rw [decide_eq_false hxy] at hq
        have hn := HN.out hxy
        have HN2 := Lib.hid hn
        clear hxy hn
        go_wp2
        go_roundw
        case rel => exact ⟨j + 1, by omega, by go_num, HN2.out, by (repeat' (first | (with_reducible exact Below.refl _ _) | (with_reducible assumption) | (with_reducible refine Below.alloc ?_ ?_ _) | (with_reducible refine Below.drew ?_) | (with_reducible refine below_drewN ?_ _) | (with_reducible refine Below.setCell ?_ ?_ _) | (with_reducible refine below_step ?_ (by with_reducible assumption) ?_) | go_size))⟩
        case measure => simp [intOf]; omega
    · have hjl : j = V.held.length := by omega
      have hall := HA.out
      rw [hjl] at hall
      obtain rfl : r = -1 := by rw [HR.out, findP_none' hall]
      clear hall
      go_wp2
      go_ret
      exact ⟨rfl, hbel⟩

set_option maxRecDepth 100000 in
set_option maxHeartbeats 8000000 in
theorem cost_ref (v jv : Value) (V : Vp) (js : List Jp) (w : World) (hv : VwAt w v V) (hj : ReadsJ w jv js) (hjs : js.length ≤ 1000) :
    Calls Try.prog 32 #[v, jv] w fun e w' => e = .returned (costR V js) ∧ Below w.heap.size w w' := by
  have HV := Lib.hid hv
  obtain ⟨ma, mc, ha0, hc0, ra, rl, rc, wa, wl, wc, rfl⟩ := hv.val
  obtain ⟨_, _, _, _, e, _, hH, _, _⟩ := hv
  cases e
  obtain ⟨ha, hc, hb, ho, e, hl1, hm1, hcell⟩ := hH.at
  cases e
  have HC := Lib.hid hcell
  obtain ⟨ja, jc, jb, jo, rfl, -, -, jcell⟩ := hj.at
  have JC := Lib.hid jcell
  clear hcell hH hj jcell
  obtain ⟨res, hres⟩ : ∃ res, res = costR V js := ⟨_, rfl⟩
  rw [← hres]
  have HRES := Lib.hid hres
  clear hres
  obtain ⟨nh, hnh⟩ : ∃ nh, nh = V.held.length := ⟨_, rfl⟩
  have HNH := Lib.hid hnh
  rw [← hnh] at HV hl1 ⊢
  clear hnh
  generalize V.mem.length = ml at *
  have hA : Below w.heap.size w (w.alloc (.cells #[.slice ma ml mc, .slice ha0 nh hc0, .slice ra rl rc, .slice wa wl wc] 33)) := (Below.refl _ _).alloc (Nat.le_refl _) _
  have hbx := heap_alloc_new w (.cells #[.slice ma ml mc, .slice ha0 nh hc0, .slice ra rl rc, .slice wa wl wc] 33)
  have CV := Lib.hid (valid_ref _ V _ (HV.out.below hA))
  go_enter Try.func32, Try.ntmps32
  go_wp2_with fail
  refine CV.out.mono ?_
  rintro e w1 ⟨rfl, hb1⟩
  have hbw1 := hA.trans (hb1.mono hA.size)
  have hbx1 := (hb1.block w.heap.size (by rw [World.size_alloc]; omega)).trans hbx
  have hlt1 := (Array.getElem?_eq_some_iff.1 hbx1).1
  have HBX := Lib.hid hbx1
  clear hA hb1 hbx hbx1 CV
  by_cases hok : VOk V
  rotate_left
  · rw [decide_eq_false hok]
    have HNO := Lib.hid hok
    clear hok
    go_wp2
    refine bodyPost_ret (results_tmp3 Try.results32 _ _ _) rfl ?_
    exact ⟨by rw [HRES.out]; unfold costR; rw [if_neg HNO.out]; rfl, hbw1⟩
  rw [decide_eq_true hok]
  have hres2 : res = costV (costF V js 0 0) := by rw [HRES.out]; unfold costR; rw [if_pos hok]
  have HRES2 := Lib.hid hres2
  have HSM := Lib.hid hok.small.2.2.2.2
  have h256 : nh ≤ 256 := by rw [HNH.out]; exact hok.small.2.1
  have HH := Lib.hid (show V.held.length ≤ 1000 by have := hok.small.2.1; omega)
  clear hres2 hok
  go_wp2
  go_loopw [18, 7, 8, 10, 11, 12] (fun v18 v7 v8 _ _ _ wr => ∃ (i : Nat) (r t : Int), i ≤ js.length ∧ v18 = .int .i64 i ∧ v7 = .int .i64 r ∧ v8 = .int .i64 t ∧ (0 ≤ r ∧ r ≤ i * 524288) ∧ (0 ≤ t ∧ t ≤ i * 65536) ∧ costF V js 0 0 = costF V (js.drop i) r t ∧ Below w.heap.size w wr ∧ wr.heap[w.heap.size]? = some (.cells #[.slice ma ml mc, .slice ha0 nh hc0, .slice ra rl rc, .slice wa wl wc] 33)) (fun v18 _ _ _ _ _ _ => js.length - (intOf v18).toNat)
  case atStart => exact ⟨0, 0, 0, Nat.zero_le _, rfl, rfl, rfl, by omega, by omega, by rw [List.drop_zero], hbw1, HBX.out⟩
  case round =>
    obtain ⟨i, r, t, hi, rfl, rfl, rfl, hr, ht, hcf, hbel, hbxr⟩ := hrel
    have HCF := Lib.hid hcf
    have HBR := Lib.hid hbxr
    have zr := hbel.size
    have hNl := (Array.getElem?_eq_some_iff.1 hbxr).1
    have d0 := cell_of_row wr _ 0 _ _ _ hbxr
    have d1 := cell_of_row wr _ 1 _ _ _ hbxr
    have d2 := cell_of_row wr _ 2 _ _ _ hbxr
    have d3 := cell_of_row wr _ 3 _ _ _ hbxr
    clear hcf hbxr hbw1
    by_cases hlt : i < js.length
    · obtain ⟨e1, e2, e3, fv, e4, e5, e6, hfv⟩ := JC.out i hlt
      subst e1
      obtain ⟨fa, fc, _, _, rfl, -⟩ := hfv.at
      have hdr := drop_at js default i hlt
      have HDR := Lib.hid hdr
      rw [← hbel.cell (p := ⟨jb, _, none⟩) (cell_lt e2)] at e2
      rw [← hbel.cell (p := ⟨jb, _, none⟩) (cell_lt e3)] at e3
      rw [← hbel.cell (p := ⟨jb, _, none⟩) (cell_lt e4)] at e4
      rw [← hbel.cell (p := ⟨jb, _, none⟩) (cell_lt e5)] at e5
      rw [← hbel.cell (p := ⟨jb, _, none⟩) (cell_lt e6)] at e6
      clear hfv hdr
      generalize js.getD i default = jj at *
      obtain ⟨⟨st, ix⟩, fs, dst, size⟩ := jj
      simp only at e2 e3 e4 e5 e6
      generalize fs.length = fl at *
      have hA : Below wr.heap.size wr (wr.alloc (.cells #[.string st, .int .i64 ix, .slice fa fl fc, .int .i64 dst, .int .i64 size] 107)) := (Below.refl _ _).alloc (Nat.le_refl _) _
      have hbA := hbel.trans (hA.mono zr)
      have CF := Lib.hid (find_any _ V st _ (HV.out.below hbA) HH.out)
      have hfi : findI V st = match findP V.held st with | some k => (k : Int) | none => -1 := rfl
      have HBA := Lib.hid ((hA.block w.heap.size hNl).trans HBR.out)
      cases hf : findP V.held st with
      | none =>
        rw [hf] at hfi
        simp only at hfi
        rw [hfi] at CF
        have hnone : costF V js 0 0 = none := by
          rw [HCF.out, HDR.out]
          unfold costF
          simp only [hf]
        have HNONE := Lib.hid hnone
        clear hnone hf hfi
        go_wp2_with fail
        refine CF.out.mono ?_
        rintro e w4 ⟨rfl, hb4⟩
        go_wp2
        refine bodyPost_ret (results_tmp3 Try.results32 _ _ _) rfl ?_
        exact ⟨by rw [HRES2.out, HNONE.out]; rfl, hbA.trans (hb4.mono hbA.size)⟩
      | some k =>
        rw [hf] at hfi
        simp only at hfi
        rw [hfi] at CF
        obtain ⟨hk, -⟩ := findP_some hf
        have hsm := HSM.out k hk
        have hd := hsm.2.1
        have hbk := hsm.2.2.2.1
        have hmb := mul_bound hd hbk
        obtain ⟨g1, g2, g3, g4, g5, g6, xr, av, g7, g8, hxr, hra⟩ := HC.out k hk
        subst g1
        obtain ⟨qa, qc, _, _, rfl, -⟩ := hxr.at
        have hkn : k < nh := by rw [HNH.out]; exact hk
        have hnext : costF V js 0 0 = costF V (js.drop (i + 1)) (r + (V.held.getD k default).data * (V.held.getD k default).block) (t + (V.held.getD k default).block) := by
          rw [HCF.out, HDR.out]
          conv => lhs; unfold costF
          simp only [hf]
        have HNX := Lib.hid hnext
        clear hnext hf hxr hra g8 hsm hfi
        generalize (V.held.getD k default).refs.length = ql at *
        generalize (V.held.getD k default).vault = vault at *
        generalize (V.held.getD k default).data = data at *
        generalize (V.held.getD k default).block = block at *
        generalize (V.held.getD k default).total = total at *
        generalize (V.held.getD k default).id = id at *
        have w1 : IntKind.i64.wrap (data * block) = data * block := by rw [IntKind.wrap_i64]; omega
        have w2 : IntKind.i64.wrap (r + data * block) = r + data * block := by rw [IntKind.wrap_i64]; omega
        have w3' : IntKind.i64.wrap (t + block) = t + block := by rw [IntKind.wrap_i64]; omega
        have hr2 : 0 ≤ r + data * block ∧ r + data * block ≤ ((i + 1 : Nat) : Int) * 524288 := by omega
        have ht2 : 0 ≤ t + block ∧ t + block ≤ ((i + 1 : Nat) : Int) * 65536 := by omega
        have q1 : decide ((k : Int) < 0) = false := decide_eq_false (by omega)
        go_wp2_with fail
        refine CF.out.mono ?_
        rintro e w4 ⟨rfl, hb4⟩
        have hb4w := hbA.trans (hb4.mono hbA.size)
        have hbx4 := (hb4.block w.heap.size (Array.getElem?_eq_some_iff.1 HBA.out).1).trans HBA.out
        have d1 := cell_of_row w4 _ 1 _ _ _ hbx4
        have g2 := (hb4w.cell (p := ⟨hb, _, none⟩) (cell_lt g2)).trans g2
        have g3 := (hb4w.cell (p := ⟨hb, _, none⟩) (cell_lt g3)).trans g3
        have g4 := (hb4w.cell (p := ⟨hb, _, none⟩) (cell_lt g4)).trans g4
        have g5 := (hb4w.cell (p := ⟨hb, _, none⟩) (cell_lt g5)).trans g5
        have g6 := (hb4w.cell (p := ⟨hb, _, none⟩) (cell_lt g6)).trans g6
        have g7 := (hb4w.cell (p := ⟨hb, _, none⟩) (cell_lt g7)).trans g7
        have z4 := hb4w.size
        have HB4 := Lib.hid hbx4
        have hN4 := (Array.getElem?_eq_some_iff.1 hbx4).1
        clear hbx4 hb4 CF d0 d2 d3 e2 e3 e4 e5 e6
        go_wp2
        go_roundw
        case rel => exact ⟨i + 1, _, _, by omega, by go_num, rfl, rfl, by first | exact hr2 | (rw [w1, w2]; exact hr2), by first | exact ht2 | (rw [w3']; exact ht2), HNX.out, by (repeat' (first | (with_reducible exact Below.refl _ _) | (with_reducible assumption) | (with_reducible refine Below.alloc ?_ ?_ _) | (with_reducible refine Below.drew ?_) | (with_reducible refine below_drewN ?_ _) | (with_reducible refine Below.setCell ?_ ?_ _) | (with_reducible refine below_step ?_ (by with_reducible assumption) ?_) | go_size)), (Below.heap_alloc _ _ _ hN4).trans HB4.out⟩
        case measure => simp [intOf]; omega
    · have hil : i = js.length := by omega
      subst hil
      have hfin : costF V js 0 0 = some (r, t) := by rw [HCF.out, List.drop_length]; rfl
      have HFIN := Lib.hid hfin
      clear hfin
      go_wp2
      refine bodyPost_ret (results_tmp3 Try.results32 _ _ _) rfl ?_
      exact ⟨by rw [HRES2.out, HFIN.out]; rfl, hbel⟩

end Go.Proofs.Ytijcicgbhcphjaa
