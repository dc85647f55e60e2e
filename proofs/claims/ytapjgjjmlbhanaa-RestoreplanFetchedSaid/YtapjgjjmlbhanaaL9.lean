/- Law Fetched, walked. -/
import Derived.Test.YtapjgjjmlbhanaaV3
import Derived.Test.YtapjgjjmlbhanaaL6
namespace Go.Proofs.Ytapjgjjmlbhanaa
open Go.RowKit Go.Lib
set_option linter.unusedSimpArgs false

theorem ReadsP.dropQ {w : World} {b off n c : Nat} {ps : List Pc} (h : ReadsP w (.slice (some ⟨b, off, none⟩) n c) ps) (i : Nat) (hi : i ≤ ps.length) : ReadsP w (.slice (some ⟨b, off + i * 2, none⟩) (n - i) (c - i)) (ps.drop i) := by
  obtain ⟨ao, c', e, h1, h2, h3⟩ := h
  cases e
  refine ⟨some ⟨b, off + i * 2, none⟩, c - i, by rw [List.length_drop], by rw [List.length_drop]; omega, by rw [List.length_drop]; omega, fun hp => ⟨b, off + i * 2, rfl, fun k j hk hj => ?_⟩⟩
  rw [List.length_drop] at hk hp
  obtain ⟨b', off', e', hc⟩ := h3 (by omega)
  cases e'
  have := hc (i + k) j (by omega) hj
  rw [show off + i * 2 + k * 2 + j = off + (i + k) * 2 + j by omega, this]
  have e : (ps.drop i).getD k default = ps.getD (i + k) default := by
    rw [getD_at ps _ _ (show i + k < ps.length by omega), getD_at _ _ _ (show k < (ps.drop i).length by rw [List.length_drop]; omega), List.getElem_drop]
  simp only [e]
theorem ReadsP.nilQ (w : World) (b off c : Nat) : ReadsP w (.slice (some ⟨b, off, none⟩) 0 c) [] := ⟨_, _, rfl, Nat.zero_le _, by simp, fun h => by simp at h⟩
theorem totL_bd : ∀ ns : List Nd, (∀ n ∈ ns, 0 ≤ n.d ∧ n.d ≤ 1000) → 0 ≤ totL ns ∧ totL ns ≤ ns.length * 1000
  | [], _ => by simp [totL]
  | a :: r, h => by
    have ih := totL_bd r fun n hn => h n (by simp [hn])
    have h1 := h a (by simp)
    unfold totL at ih ⊢
    rw [List.map_cons, List.sum_cons, List.length_cons]
    omega
/-- The goal with other pieces. -/
def plG (g : Gl) (pv : Value) (h : List Pc) : Gl := { g with pv := pv, ps := h }
theorem lackL_pl (g : Gl) (pv : Value) (hs : List Hd) (devs : List Int) : lackL (plG g pv g.ps) hs devs = lackL g hs devs := by
  have : ∀ n, lackTo' (plG g pv g.ps) hs devs n = lackTo' g hs devs n := by
    intro n
    induction n with
    | zero => rfl
    | succ n ih =>
      unfold lackTo'
      rw [ih]
      rfl
  exact this _
theorem plG_ok {g : Gl} {hs : List Hd} (hok : Ok g hs) (pv : Value) {h : List Pc} (hp : PcsOk h) : Ok (plG g pv h) hs := ⟨hok.1, hok.2.1, ⟨hp, hok.2.2.1.2⟩, hok.2.2.2⟩

set_option maxRecDepth 100000 in
set_option maxHeartbeats 16000000 in
theorem lawFetched_any (g : Gl) (v dv : Value) (hs : List Hd) (devs : List Int) (w : World) (hg : GlAt w g) (hv : ReadsH w v hs) (hd : ReadsI w dv devs) :
    Calls Try.prog 8 #[g.v, v, dv] w fun e w' => e = .returned (.bool true) ∧ Below w.heap.size w w' := by
  obtain ⟨fe, hfe⟩ : ∃ fe, fe = okE g hs := ⟨_, rfl⟩
  obtain ⟨fo, hfo⟩ : ∃ fo, fo = fetOut g hs devs := ⟨_, rfl⟩
  have c12 := few_any g v hs
  have c29 := fetches_two g v dv hs devs
  have c34 := fun (pv : Value) (h : List Pc) (u : Value) (ds : List Int) (W : World) (h1 : GlAt W (plG g pv h)) (h2 : ReadsH W v hs) (h3 : ReadsI W u ds) (hok : Ok g hs) (hp : PcsOk h) => lacking_ok (plG g pv h) v u hs ds W h1 h2 h3 (plG_ok hok pv hp)
  simp only [← hfe, ← hfo] at c29
  have hgp1 := hg.2.1
  have hgn := hg.1
  have hgs := hg.2.2
  obtain ⟨na, n1, nc, pa, n2, pc, sa, n3, sc, e1⟩ := hg.val
  have en : g.nv = .slice na n1 nc := by
    have := e1
    unfold Gl.v at this
    injection this with this
    have := congrArg (fun a => a[0]?) this
    simpa using this
  have ep : g.pv = .slice pa n2 pc := by
    have := e1
    unfold Gl.v at this
    injection this with this
    have := congrArg (fun a => a[3]?) this
    simpa using this
  have es : g.sv = .slice sa n3 sc := by
    have := e1
    unfold Gl.v at this
    injection this with this
    have := congrArg (fun a => a[4]?) this
    simpa using this
  obtain ⟨ao, c4, _, _, rfl, _⟩ := hv.at
  obtain ⟨dao, dc, _, _, rfl, hdl, hdm, _⟩ := hd.at
  have hn2 : n2 = g.ps.length := by
    rw [ep] at hgp1
    obtain ⟨_, _, _, _, e, _⟩ := hgp1.at
    injection e
  rw [ep] at hgp1
  rw [e1] at c12 c29 ⊢
  have e34 : ∀ pv h, (plG g pv h).v = .agg #[.slice na n1 nc, .int .i64 g.thr, .bool g.idx, pv, .slice sa n3 sc] := fun pv h => by
    unfold plG Gl.v
    simp only [en, es]
  simp only [e34] at c34
  have HG := Lib.hid hg
  have HV := Lib.hid hv
  have HD := Lib.hid hd
  have HGP := Lib.hid hgp1
  have HGN := Lib.hid hgn
  have HGS := Lib.hid hgs
  have HN2 := Lib.hid hn2
  have C12 := Lib.hid c12
  have C29 := Lib.hid c29
  have C34 := Lib.hid c34
  have AW := Lib.hid awake_any
  have HFE := Lib.hid hfe
  have HFO := Lib.hid hfo
  clear hg hv hd c12 c29 c34 e1 hfe hfo hgp1 hgn hgs en ep es e34 hn2
  have b0 : Below w.heap.size w (w.alloc (.cells #[.slice na n1 nc, .int .i64 g.thr, .bool g.idx, .slice pa n2 pc, .slice sa n3 sc] 26)) := (Below.refl _ _).alloc (Nat.le_refl _) _
  have g0 := heap_alloc_last w (.cells #[.slice na n1 nc, .int .i64 g.thr, .bool g.idx, .slice pa n2 pc, .slice sa n3 sc] 26)
  obtain ⟨G, hG⟩ : ∃ G, G = w.heap.size := ⟨_, rfl⟩
  have HGG := Lib.hid hG
  rw [← hG] at g0
  have G0 := Lib.hid g0
  clear g0 hG
  go_enter Try.func8, Try.ntmps8
  go_upto_region 1 with fail
  rw [← HGG.out]
  generalize w.alloc (Obj.cells #[.slice na n1 nc, .int .i64 g.thr, .bool g.idx, .slice pa n2 pc, .slice sa n3 sc] 26) = W at b0 G0 ⊢
  have a0 := cell_of_row _ _ 0 _ _ _ G0.out
  have a1 := cell_of_row _ _ 1 _ _ _ G0.out
  have a2 := cell_of_row _ _ 2 _ _ _ G0.out
  have a3 := cell_of_row _ _ 3 _ _ _ G0.out
  have a4 := cell_of_row _ _ 4 _ _ _ G0.out
  go_wp2_with fail
  refine (C12.out W (HG.out.below b0) (HV.out.below b0)).mono ?_
  rintro e w1 ⟨rfl, hb1⟩
  have b1 := b0.trans (hb1.mono b0.size)
  have G1 := Lib.hid ((hb1.block G (Array.getElem?_eq_some_iff.1 G0.out).1).trans G0.out)
  clear a0 a1 a2 a3 a4 G0 hb1 b0
  have z1 := b1.size
  by_cases hfew : fewB g hs = false
  · rw [hfew]
    go_wp2_with fail
    refine (AW.out _).mono ?_
    rintro e w2 ⟨rfl, hba⟩
    go_wp2
    go_ret
    exact ⟨rfl, b1.trans (hba.mono z1)⟩
  have hfew1 : fewB g hs = true := by simpa using hfew
  have hparts := few_parts hfew1
  rw [hfew1]
  have HPT := Lib.hid hparts
  clear hfew hfew1 hparts
  by_cases hl1 : 20 < devs.length
  · have k1 : decide ((devs.length : Int) > 20) = true := by simp; omega
    go_wp2_with fail
    refine (AW.out _).mono ?_
    rintro e w2 ⟨rfl, hba⟩
    go_wp2
    go_ret
    exact ⟨rfl, b1.trans (hba.mono z1)⟩
  have k1 : decide ((devs.length : Int) > 20) = false := by simp; omega
  have a0 := cell_of_row _ _ 0 _ _ _ G1.out
  have a1 := cell_of_row _ _ 1 _ _ _ G1.out
  have a2 := cell_of_row _ _ 2 _ _ _ G1.out
  have a3 := cell_of_row _ _ 3 _ _ _ G1.out
  have a4 := cell_of_row _ _ 4 _ _ _ G1.out
  have CB := Lib.hid (C29.out w1 (HG.out.below b1) (HV.out.below b1) (HD.out.below b1) (by omega) (fun y hy => by have := (HPT.out.1 y hy).1; omega))
  go_wp2_with fail
  refine CB.out.mono ?_
  rintro e w3 ⟨av, rfl, hav, hb2⟩
  obtain ⟨oa, oc, rfl⟩ := hav.val'
  have HAV := Lib.hid hav
  have b3 := b1.trans (hb2.mono b1.size)
  have G3 := Lib.hid ((hb2.block G (Array.getElem?_eq_some_iff.1 G1.out).1).trans G1.out)
  clear a0 a1 a2 a3 a4 hb2 CB hav C12 C29
  by_cases hok : Ok g hs
  case neg =>
    have hfe := HFE.out
    unfold okE at hfe
    rw [if_neg hok] at hfe
    subst hfe
    go_wp2_with fail
    refine (AW.out _).mono ?_
    rintro e w2 ⟨rfl, hba⟩
    go_wp2
    go_ret
    exact ⟨rfl, b3.trans (hba.mono b3.size)⟩
  have hfe := HFE.out
  have hfo := HFO.out
  unfold okE at hfe
  unfold fetOut at hfo
  rw [if_pos hok] at hfe hfo
  subst hfe
  have hinv := fetR_inv hok devs devs.length (Nat.le_refl _)
  have hflen := (fetR_len (g := g) (hs := hs) (fun y hy => by have := (HPT.out.1 y hy).1; omega) devs devs.length).2
  rw [← hfo] at hflen
  have hsplit := hinv.split
  rw [← hfo] at hsplit
  have hfpk := hinv.ok
  have HSPL := Lib.hid hsplit
  have HFPK := Lib.hid hfpk
  have HOK := Lib.hid hok
  have HLK := Lib.hid (fun pv => fet_lack hok devs pv)
  have HLS := Lib.hid (fun pv pv' i hi => fet_less hok devs pv pv' i hi)
  rw [← hfo] at HLS
  have hgl : g.ps.length ≤ 20 := HPT.out.2.2.1
  have hnl : g.ns.length ≤ 6 := HPT.out.2.1
  have hflen : fo.length ≤ 100000 := by
    have := Nat.mul_le_mul (show devs.length ≤ 20 by omega) (Nat.le_refl 1000)
    omega
  clear hinv hsplit hfpk hok hfo
  generalize (fetR g hs devs devs.length).1 = F at *
  generalize hml : fo.length = ml at *
  have HML := Lib.hid hml
  clear hml
  have a0 := cell_of_row _ _ 0 _ _ _ G3.out
  have a1 := cell_of_row _ _ 1 _ _ _ G3.out
  have a2 := cell_of_row _ _ 2 _ _ _ G3.out
  have a3 := cell_of_row _ _ 3 _ _ _ G3.out
  have a4 := cell_of_row _ _ 4 _ _ _ G3.out
  have z3 := b3.size
  obtain ⟨w4, hw4⟩ : ∃ w4, w4 = w3.alloc (.cells #[.slice na n1 nc, .int .i64 g.thr, .bool g.idx, .slice pa n2 pc, .slice sa n3 sc] 26) := ⟨_, rfl⟩
  have hb4 : Below w3.heap.size w3 w4 := by rw [hw4]; exact (Below.refl _ _).alloc (Nat.le_refl _) _
  obtain ⟨M, hM⟩ : ∃ M, M = w3.heap.size := ⟨_, rfl⟩
  have cM : w4.heap[M]? = some (.cells #[.slice na n1 nc, .int .i64 g.thr, .bool g.idx, .slice pa n2 pc, .slice sa n3 sc] 26) := by rw [hw4, hM]; exact heap_alloc_last _ _
  have HM := Lib.hid hM
  have HW4 := Lib.hid hw4
  have CM := Lib.hid cM
  have G4 := Lib.hid ((hb4.block G (Array.getElem?_eq_some_iff.1 G3.out).1).trans G3.out)
  have b4 := b3.trans (hb4.mono z3)
  have hMz : w3.heap.size ≤ M := by omega
  go_upto_region 7 with fail
  simp only [← HM.out, ← HW4.out]
  clear hw4 hM cM a0 a1 a2 a3 a4
  have z4 := b4.size
  -- region 7
  obtain ⟨w5, hw5⟩ : ∃ w5, w5 = w4.alloc (.cells #[] 68) := ⟨_, rfl⟩
  have hb5 : Below w4.heap.size w4 w5 := by rw [hw5]; exact (Below.refl _ _).alloc (Nat.le_refl _) _
  have o5 : OwnP w5 w3.heap.size (.slice (some ⟨w4.heap.size, 0, none⟩) 0 0) [] := by rw [hw5]; exact Own.base (Own.lit0 _ _ _ _ _ (Nat.le_refl _)) hb4.size
  have hz5 : w3.heap.size ≤ w5.heap.size := Nat.le_trans hb4.size hb5.size
  have G5 := Lib.hid ((hb5.block G (Array.getElem?_eq_some_iff.1 G4.out).1).trans G4.out)
  have cM5 := (hb5.block M (Array.getElem?_eq_some_iff.1 CM.out).1).trans CM.out
  have b5 := b4.trans (hb5.mono z4)
  have hv5 : HvAt w3 w3.heap.size M (.slice na n1 nc) (.int .i64 g.thr) (.bool g.idx) (.slice sa n3 sc) [] (.slice (some ⟨w4.heap.size, 0, none⟩) 0 0) (w5.setCell ⟨M, 3, none⟩ (.slice (some ⟨w4.heap.size, 0, none⟩) 0 0)) → True := fun _ => trivial
  clear hv5
  obtain ⟨v6, w6, r6, o6, B6, k6⟩ := o5.appendR (HGP.out.below b5) (by simp) (by omega) hz5
  rw [List.nil_append] at o6
  obtain ⟨ea6, ec6, rfl⟩ := OwnP.slice o6
  have cM6 := (k6 M (Array.getElem?_eq_some_iff.1 cM5).1 (own_ne o5 cM5 (by decide))).trans cM5
  have fM6 := frozen_of cM6 3
  have hst6 := setCell_block (i := 3) cM6 (.slice ea6 g.ps.length ec6)
  have hb56 : Below w3.heap.size w3 w6 := (hb4.trans (hb5.mono hb4.size)).trans B6
  have hv6 : HvAt w3 w3.heap.size M (.slice na n1 nc) (.int .i64 g.thr) (.bool g.idx) (.slice sa n3 sc) g.ps (.slice ea6 g.ps.length ec6) (w6.setCell ⟨M, 3, none⟩ (.slice ea6 g.ps.length ec6)) :=
    ⟨hb56.setCell hMz _, by rw [setCell_size]; exact hb56.size, hMz, by rw [hst6]; rfl, Own.same o6 fun g' hg' => setCell_other w6 _ (fun e => own_ne o6 cM6 (by decide) (e ▸ hg'))⟩
  have HV6 := Lib.hid hv6
  have g3 := cell_of_row _ _ 3 _ _ _ G4.out
  have g35 := cell_of_row _ _ 3 _ _ _ G5.out
  have m36 := cell_of_row _ _ 3 _ _ _ cM6
  simp only [List.getElem?_toArray, List.getElem?_cons_zero, List.getElem?_cons_succ] at g3 g35 m36
  have HW5 := Lib.hid hw5
  rw [hw5] at g35 r6
  clear hv6 hst6 k6 o6 hw5
  go_wp2_with (at_builtin; refine wpList_append_run (by rfl) (.tmp 47) (.tmp 49) 23 (by rfl) _ (.slice pa n2 pc) (.slice ea6 g.ps.length ec6) w6 (by rfl) (by rfl) r6 ?_)
  have hxe := HAV.out.elem
  rw [HML.out] at hxe
  obtain ⟨oa', oc', xb, xo, ex, hxm, hx⟩ := hxe
  injection ex with ex1 ex2 ex3
  subst ex1 ex3
  have HX := Lib.hid hx
  have HP0 := Lib.hid (show HvAt w3 w3.heap.size M (.slice na n1 nc) (.int .i64 g.thr) (.bool g.idx) (.slice sa n3 sc) (g.ps ++ (fo.take 0).map Prod.snd) (.slice ea6 g.ps.length ec6) (w6.setCell ⟨M, 3, none⟩ (.slice ea6 g.ps.length ec6)) by rw [List.take_zero, List.map_nil, List.append_nil]; exact HV6.out)
  clear hx cM6 fM6 g3 g35 m36 r6 B6 cM5 o5 HV6 hb56 hb5 hz5 G5 CM HW4 HM HW5 hxm ex2
  generalize w6.setCell ⟨M, 3, none⟩ (.slice ea6 g.ps.length ec6) = w7 at *
  go_loopg [10] ml (fun gk v10 wx => ∃ (k : Nat) (pv : Value), k + gk = ml ∧ v10 = .int .i64 k ∧ HvAt w3 w3.heap.size M (.slice na n1 nc) (.int .i64 g.thr) (.bool g.idx) (.slice sa n3 sc) (g.ps ++ (fo.take k).map Prod.snd) pv wx)
  case atStart => exact ⟨0, _, by omega, rfl, HP0.out⟩
  case round =>
    obtain ⟨k, pv, hk, rfl, hh⟩ := hrel
    obtain ⟨pva, pvc, rfl⟩ := OwnP.slice hh.own
    cases gk with
    | succ go =>
      have hkl : k < ml := by omega
      obtain ⟨rfl, hx1, hx2, hx3⟩ := HX.out k hkl
      have htk : g.ps ++ (fo.take (k + 1)).map Prod.snd = (g.ps ++ (fo.take k).map Prod.snd) ++ [(fo.getD k (0, default)).2] := by
        rw [List.take_succ_eq_append_getElem (by rw [HML.out]; exact hkl), List.map_append, List.append_assoc, getD_at _ _ _ (by rw [HML.out]; exact hkl)]
        rfl
      have hpl : (g.ps ++ (fo.take k).map Prod.snd).length ≤ 1000000 := by
        rw [List.length_append, List.length_map, List.length_take, HML.out]
        omega
      have HTK := Lib.hid htk
      clear htk
      generalize (fo.getD k (0, default)).2 = p at *
      generalize (fo.getD k (0, default)).1 = fd at *
      have bD : Below wr.heap.size wr wr.drew := (Below.refl _ _).drew
      have kD := hh.step bD
      have hbV := kD.below
      obtain ⟨na', nl', nc', w9, r9, K9, cM9, fM9⟩ := kD.addP p (by omega)
      have hal : Below wr.drew.heap.size wr.drew (wr.drew.alloc (.cells #[.string p.st, .int .i64 p.ix] 68)) := (Below.refl _ _).alloc (Nat.le_refl _) _
      have t1 := cell_of_row _ _ 3 _ _ _ kD.cell
      simp only [List.getElem?_toArray, List.getElem?_cons_zero, List.getElem?_cons_succ] at t1
      have t1' := (hal.cell (p := ⟨M, 3, none⟩) (cell_lt t1)).trans t1
      have t1'' : (wr.alloc (.cells #[.string p.st, .int .i64 p.ix] 68)).cell? ⟨M, 3, none⟩ = some (.slice pva (g.ps ++ (fo.take k).map Prod.snd).length pvc) := t1'
      have t1d : (wr.alloc (.cells #[.string p.st, .int .i64 p.ix] 68)).drew.cell? ⟨M, 3, none⟩ = some (.slice pva (g.ps ++ (fo.take k).map Prod.snd).length pvc) := t1'
      have tx1 := (hbV.cell (cell_lt hx1)).trans hx1
      have tx2 := (hbV.cell (cell_lt hx2)).trans hx2
      have tx3 := (hbV.cell (cell_lt hx3)).trans hx3
      have m9 := cell_of_row _ _ 3 _ _ _ cM9
      simp only [List.getElem?_toArray, List.getElem?_cons_zero, List.getElem?_cons_succ] at m9
      have K9 := Lib.hid K9
      clear hx1 hx2 hx3 kD hbV hal bD cM9 hh
      generalize (g.ps ++ (fo.take k).map Prod.snd).length = pl at *
      go_wp2
      refine wp_region_held_drew (S := fun _ => True) (by kernel_rfl) trivial (fun hHeld => ?_)
      refine wpAnyH_take (i := 0) (v := ?_) rfl (by kernel_rfl) (by kernel_rfl) (by kernel_rfl) (fun _ _ _ h => h) (Or.inl ⟨by rfl, ?_⟩) (by assumption) ?_
      rotate_left; · (intro w hSw; (try dsimp only at hSw); go_simp; try with_reducible rfl)
      try simp only [Act.put, List.getElem_toArray, List.getElem_cons_zero, List.getElem_cons_succ, List.setIfInBounds_toArray, List.set_cons_zero, List.set_cons_succ]
      refine wpAnyH_take (i := 2) (v := ?_) rfl (by kernel_rfl) (by kernel_rfl) (by kernel_rfl) (fun _ _ _ h => h) (Or.inl ⟨by rfl, ?_⟩) (by assumption) ?_
      rotate_left; · (intro w hSw; (try dsimp only at hSw); go_simp; try with_reducible rfl)
      try simp only [Act.put, List.getElem_toArray, List.getElem_cons_zero, List.getElem_cons_succ, List.setIfInBounds_toArray, List.set_cons_zero, List.set_cons_succ]
      refine wpAnyH_take (i := 3) (v := ?_) rfl (by kernel_rfl) (by kernel_rfl) (by kernel_rfl) (fun _ _ _ h => h) (Or.inl ⟨by rfl, ?_⟩) (by assumption) ?_
      rotate_left; · (intro w hSw; (try dsimp only at hSw); go_simp; try with_reducible rfl)
      try simp only [Act.put, List.getElem_toArray, List.getElem_cons_zero, List.getElem_cons_succ, List.setIfInBounds_toArray, List.set_cons_zero, List.set_cons_succ]
      refine wpAnyH_take (i := 4) (v := ?_) rfl (by kernel_rfl) (by kernel_rfl) (by kernel_rfl) (fun _ _ _ h => h) (Or.inl ⟨by rfl, ?_⟩) (by assumption) ?_
      rotate_left; · (intro w hSw; (try dsimp only at hSw); go_simp; try with_reducible rfl)
      try simp only [Act.put, List.getElem_toArray, List.getElem_cons_zero, List.getElem_cons_succ, List.setIfInBounds_toArray, List.set_cons_zero, List.set_cons_succ]
      refine wpAnyH_take (i := 5) (v := ?_) rfl (by kernel_rfl) (by kernel_rfl) (by kernel_rfl) (fun _ _ _ h => h) (Or.inl ⟨by rfl, ?_⟩) (by assumption) ?_
      rotate_left; · (intro w hSw; (try dsimp only at hSw); go_simp; try with_reducible rfl)
      try simp only [Act.put, List.getElem_toArray, List.getElem_cons_zero, List.getElem_cons_succ, List.setIfInBounds_toArray, List.set_cons_zero, List.set_cons_succ]
      refine wpAnyH_ready (rs := [1, 6]) (by kernel_rfl) (by simp) ?_
      refine AllReadyH.cons rfl (fun K hK => ?_) (AllReadyH.cons rfl (fun K hK => ?_) AllReadyH.nil)
      · go_simp
        refine hK.out _ _ trivial (fun hNew => ?_)
        clear hK K hHeld
        have hHeld := hNew
        clear hNew
        try simp only [Act.put, List.getElem_toArray, List.getElem_cons_zero, List.getElem_cons_succ, List.setIfInBounds_toArray, List.set_cons_zero, List.set_cons_succ]
        refine wpAnyH_ready (rs := [6]) (by kernel_rfl) (by simp) ?_
        refine AllReadyH.cons rfl (fun K hK => ?_) AllReadyH.nil
        go_simp
        refine hK.out _ _ trivial (fun hNew => ?_)
        clear hK K hHeld
        have hHeld := hNew
        clear hNew
        try simp only [Act.put, List.getElem_toArray, List.getElem_cons_zero, List.getElem_cons_succ, List.setIfInBounds_toArray, List.set_cons_zero, List.set_cons_succ]
        refine wpAnyH_ready (rs := [7]) (by kernel_rfl) (by simp) ?_
        refine AllReadyH.cons rfl (fun K hK => ?_) AllReadyH.nil
        go_simp
        refine hK.out _ _ trivial (fun hNew => ?_)
        clear hK K hHeld
        have hHeld := hNew
        clear hNew
        try simp only [Act.put, List.getElem_toArray, List.getElem_cons_zero, List.getElem_cons_succ, List.setIfInBounds_toArray, List.set_cons_zero, List.set_cons_succ]
        refine wpAnyH_ready (rs := [8]) (by kernel_rfl) (by simp) ?_
        refine AllReadyH.cons rfl (fun K hK => ?_) AllReadyH.nil
        refine wp_app (.tmp 59) (.tmp 65) 23 rfl _ _ (.slice na' nl' nc') w9 rfl rfl r9 ?_
        refine hK.out _ _ trivial (fun hNew => ?_)
        clear hK K hHeld
        have hHeld := hNew
        clear hNew
        try simp only [Act.put, List.getElem_toArray, List.getElem_cons_zero, List.getElem_cons_succ, List.setIfInBounds_toArray, List.set_cons_zero, List.set_cons_succ]
        refine wpAnyH_take (i := 9) (v := ?_) rfl (by kernel_rfl) (by kernel_rfl) (by kernel_rfl) (fun _ _ _ h => h) (Or.inl ⟨by rfl, ?_⟩) (by assumption) ?_
        rotate_left; · (intro w hSw; (try dsimp only at hSw); go_simp; try with_reducible rfl)
        try simp only [Act.put, List.getElem_toArray, List.getElem_cons_zero, List.getElem_cons_succ, List.setIfInBounds_toArray, List.set_cons_zero, List.set_cons_succ]
        refine wpAnyH_ready (rs := [10]) (by kernel_rfl) (by simp) ?_
        refine AllReadyH.cons rfl (fun K hK => ?_) AllReadyH.nil
        go_simp
        refine hK.out _ _ trivial (fun hNew => ?_)
        clear hK K hHeld
        have hHeld := hNew
        clear hNew
        try simp only [Act.put, List.getElem_toArray, List.getElem_cons_zero, List.getElem_cons_succ, List.setIfInBounds_toArray, List.set_cons_zero, List.set_cons_succ]
        refine wpAnyH_done (by kernel_rfl) ?_ _
        clear t1 t1' t1'' t1d tx1 tx2 tx3 m9 fM9
        go_wp2
        go_roundg go
        case measure => omega
        case rel => exact ⟨k + 1, _, by omega, by go_num, by rw [HTK.out]; exact K9.out⟩
      · go_simp
        refine hK.out _ _ trivial (fun hNew => ?_)
        clear hK K hHeld
        have hHeld := hNew
        clear hNew
        try simp only [Act.put, List.getElem_toArray, List.getElem_cons_zero, List.getElem_cons_succ, List.setIfInBounds_toArray, List.set_cons_zero, List.set_cons_succ]
        refine wpAnyH_ready (rs := [1, 7]) (by kernel_rfl) (by simp) ?_
        refine AllReadyH.cons rfl (fun K hK => ?_) (AllReadyH.cons rfl (fun K hK => ?_) AllReadyH.nil)
        · go_simp
          refine hK.out _ _ trivial (fun hNew => ?_)
          clear hK K hHeld
          have hHeld := hNew
          clear hNew
          try simp only [Act.put, List.getElem_toArray, List.getElem_cons_zero, List.getElem_cons_succ, List.setIfInBounds_toArray, List.set_cons_zero, List.set_cons_succ]
          refine wpAnyH_ready (rs := [7]) (by kernel_rfl) (by simp) ?_
          refine AllReadyH.cons rfl (fun K hK => ?_) AllReadyH.nil
          go_simp
          refine hK.out _ _ trivial (fun hNew => ?_)
          clear hK K hHeld
          have hHeld := hNew
          clear hNew
          try simp only [Act.put, List.getElem_toArray, List.getElem_cons_zero, List.getElem_cons_succ, List.setIfInBounds_toArray, List.set_cons_zero, List.set_cons_succ]
          refine wpAnyH_ready (rs := [8]) (by kernel_rfl) (by simp) ?_
          refine AllReadyH.cons rfl (fun K hK => ?_) AllReadyH.nil
          refine wp_app (.tmp 59) (.tmp 65) 23 rfl _ _ (.slice na' nl' nc') w9 rfl rfl r9 ?_
          refine hK.out _ _ trivial (fun hNew => ?_)
          clear hK K hHeld
          have hHeld := hNew
          clear hNew
          try simp only [Act.put, List.getElem_toArray, List.getElem_cons_zero, List.getElem_cons_succ, List.setIfInBounds_toArray, List.set_cons_zero, List.set_cons_succ]
          refine wpAnyH_take (i := 9) (v := ?_) rfl (by kernel_rfl) (by kernel_rfl) (by kernel_rfl) (fun _ _ _ h => h) (Or.inl ⟨by rfl, ?_⟩) (by assumption) ?_
          rotate_left; · (intro w hSw; (try dsimp only at hSw); go_simp; try with_reducible rfl)
          try simp only [Act.put, List.getElem_toArray, List.getElem_cons_zero, List.getElem_cons_succ, List.setIfInBounds_toArray, List.set_cons_zero, List.set_cons_succ]
          refine wpAnyH_ready (rs := [10]) (by kernel_rfl) (by simp) ?_
          refine AllReadyH.cons rfl (fun K hK => ?_) AllReadyH.nil
          go_simp
          refine hK.out _ _ trivial (fun hNew => ?_)
          clear hK K hHeld
          have hHeld := hNew
          clear hNew
          try simp only [Act.put, List.getElem_toArray, List.getElem_cons_zero, List.getElem_cons_succ, List.setIfInBounds_toArray, List.set_cons_zero, List.set_cons_succ]
          refine wpAnyH_done (by kernel_rfl) ?_ _
          clear t1 t1' t1'' t1d tx1 tx2 tx3 m9 fM9
          go_wp2
          go_roundg go
          case measure => omega
          case rel => exact ⟨k + 1, _, by omega, by go_num, by rw [HTK.out]; exact K9.out⟩
        · go_simp
          refine hK.out _ _ trivial (fun hNew => ?_)
          clear hK K hHeld
          have hHeld := hNew
          clear hNew
          try simp only [Act.put, List.getElem_toArray, List.getElem_cons_zero, List.getElem_cons_succ, List.setIfInBounds_toArray, List.set_cons_zero, List.set_cons_succ]
          refine wpAnyH_ready (rs := [1]) (by kernel_rfl) (by simp) ?_
          refine AllReadyH.cons rfl (fun K hK => ?_) AllReadyH.nil
          go_simp
          refine hK.out _ _ trivial (fun hNew => ?_)
          clear hK K hHeld
          have hHeld := hNew
          clear hNew
          try simp only [Act.put, List.getElem_toArray, List.getElem_cons_zero, List.getElem_cons_succ, List.setIfInBounds_toArray, List.set_cons_zero, List.set_cons_succ]
          refine wpAnyH_ready (rs := [8]) (by kernel_rfl) (by simp) ?_
          refine AllReadyH.cons rfl (fun K hK => ?_) AllReadyH.nil
          refine wp_app (.tmp 59) (.tmp 65) 23 rfl _ _ (.slice na' nl' nc') w9 rfl rfl r9 ?_
          refine hK.out _ _ trivial (fun hNew => ?_)
          clear hK K hHeld
          have hHeld := hNew
          clear hNew
          try simp only [Act.put, List.getElem_toArray, List.getElem_cons_zero, List.getElem_cons_succ, List.setIfInBounds_toArray, List.set_cons_zero, List.set_cons_succ]
          refine wpAnyH_take (i := 9) (v := ?_) rfl (by kernel_rfl) (by kernel_rfl) (by kernel_rfl) (fun _ _ _ h => h) (Or.inl ⟨by rfl, ?_⟩) (by assumption) ?_
          rotate_left; · (intro w hSw; (try dsimp only at hSw); go_simp; try with_reducible rfl)
          try simp only [Act.put, List.getElem_toArray, List.getElem_cons_zero, List.getElem_cons_succ, List.setIfInBounds_toArray, List.set_cons_zero, List.set_cons_succ]
          refine wpAnyH_ready (rs := [10]) (by kernel_rfl) (by simp) ?_
          refine AllReadyH.cons rfl (fun K hK => ?_) AllReadyH.nil
          go_simp
          refine hK.out _ _ trivial (fun hNew => ?_)
          clear hK K hHeld
          have hHeld := hNew
          clear hNew
          try simp only [Act.put, List.getElem_toArray, List.getElem_cons_zero, List.getElem_cons_succ, List.setIfInBounds_toArray, List.set_cons_zero, List.set_cons_succ]
          refine wpAnyH_done (by kernel_rfl) ?_ _
          clear t1 t1' t1'' t1d tx1 tx2 tx3 m9 fM9
          go_wp2
          go_roundg go
          case measure => omega
          case rel => exact ⟨k + 1, _, by omega, by go_num, by rw [HTK.out]; exact K9.out⟩
    | zero =>
      obtain rfl : k = ml := by omega
      have hF : g.ps ++ (fo.take k).map Prod.snd = F := by rw [← HML.out, List.take_length]; exact HSPL.out.symm
      rw [hF] at hh
      have hFl : F.length = g.ps.length + k := by rw [HSPL.out, List.length_append, List.length_map, HML.out]
      have hwF := b3.trans (hh.below.mono z3)
      have zF := hwF.size
      have HF := Lib.hid hh
      have HGl := Lib.hid (fun (W8 : World) (h : Below wr.heap.size wr W8) (pv : Value) (ps : List Pc) (hp : ReadsP W8 pv ps) => show GlAt W8 (plG g pv ps) from ⟨HGN.out.below (hwF.trans (h.mono zF)), hp, HGS.out.below (hwF.trans (h.mono zF))⟩)
      have HVl := Lib.hid (fun (W8 : World) (h : Below wr.heap.size wr W8) => HV.out.below (hwF.trans (h.mono zF)))
      have hln : (lackL g hs devs).length ≤ 6 := by
        have := lackTo'_len g hs devs g.ns.length
        unfold lackL
        omega
      have CA := C34.out (.slice pva F.length pvc) F (.slice none 0 0) [] wr (HGl.out wr (Below.refl _ _) _ F (OwnP.reads hh.own (by omega))) (HVl.out wr (Below.refl _ _)) ((OwnI.nil wr 0).reads (by simp)) HOK.out HFPK.out
      unfold LackingPost at CA
      rw [show lackL (plG g (.slice pva F.length pvc) F) hs [] = lackL g hs devs from HLK.out _] at CA
      have CA := Lib.hid CA
      have cM := hh.cell
      generalize hfl : F.length = fl at *
      have HFL := Lib.hid hfl
      have HFE2 := Lib.hid hFl
      clear hF hh hfl hFl
      have m0 := cell_of_row _ _ 0 _ _ _ cM
      have m1 := cell_of_row _ _ 1 _ _ _ cM
      have m2 := cell_of_row _ _ 2 _ _ _ cM
      have m3 := cell_of_row _ _ 3 _ _ _ cM
      have m4 := cell_of_row _ _ 4 _ _ _ cM
      clear cM
      go_wp2_with fail
      refine CA.out.mono ?_
      rintro e w10 ⟨av, rfl, hav, hb10⟩
      obtain ⟨aa, ac, ab, ao2, rfl, hac, ham, hacell⟩ := hav.at
      have HA10 := Lib.hid hav
      have G10 := Lib.hid (((HF.out.below.trans (hb10.mono HF.out.size)).block G (Array.getElem?_eq_some_iff.1 G3.out).1).trans G3.out)
      have CB := C34.out (.slice pa n2 pc) g.ps (.slice dao devs.length dc) devs w10 (HGl.out w10 hb10 _ g.ps (HGP.out.below (hwF.trans (hb10.mono zF)))) (HVl.out w10 hb10) (HD.out.below (hwF.trans (hb10.mono zF))) HOK.out HOK.out.2.2.1.1
      unfold LackingPost at CB
      rw [lackL_pl] at CB
      have CB := Lib.hid CB
      clear m0 m1 m2 m3 m4 CA hav hacell
      have a0 := cell_of_row _ _ 0 _ _ _ G10.out
      have a1 := cell_of_row _ _ 1 _ _ _ G10.out
      have a2 := cell_of_row _ _ 2 _ _ _ G10.out
      have a3 := cell_of_row _ _ 3 _ _ _ G10.out
      have a4 := cell_of_row _ _ 4 _ _ _ G10.out
      generalize hln2 : (lackL g hs devs).length = ln at *
      have HLN := Lib.hid hln2
      clear hln2
      go_wp2_with fail
      refine CB.out.mono ?_
      rintro e w11 ⟨bv, rfl, hbv, hb11⟩
      obtain ⟨ba, bc, bb, bo, ebv, hbc, hbm, hbcell⟩ := hbv.at
      rw [HLN.out] at ebv hbc hbm hbcell
      subst ebv
      obtain ⟨ba2, bc2, bb2, bo2, eav, _, _, hacell⟩ := (HA10.out.below hb11).at
      rw [HLN.out] at eav hacell
      injection eav with ea1 ea2 ea3
      subst ea1 ea3
      have HAC := Lib.hid hacell
      have HBC := Lib.hid hbcell
      have hb := hb10.trans (hb11.mono hb10.size)
      have HA11 := Lib.hid (HA10.out.below hb11)
      have hnn : ((ln : Int) != (ln : Int)) = false := by simp
      clear a0 a1 a2 a3 a4 CB hbv hbcell hacell hb10 hb11 HA10 G10 ea2
      go_wp2_with fail
      clear hnn
      obtain ⟨wF, hwf⟩ : ∃ wF : World, wF = wr := ⟨_, rfl⟩
      subst hwf
      go_loopg [19] ln (fun gk v19 wx => ∃ j : Nat, j + gk = ln ∧ v19 = .int .i64 j ∧ Below w11.heap.size w11 wx)
      case atStart => exact ⟨0, by omega, rfl, Below.refl _ _⟩
      case round =>
        obtain ⟨j, hj, rfl, hbx⟩ := hrel
        cases gk with
        | succ go =>
          have hjl : j < ln := by omega
          obtain ⟨rfl, hc1, hc2⟩ := HAC.out j hjl
          obtain ⟨rfl, hd1, hd2⟩ := HBC.out j hjl
          have hc1 := (hbx.cell (cell_lt hc1)).trans hc1
          have hc2 := (hbx.cell (cell_lt hc2)).trans hc2
          have hd1 := (hbx.cell (cell_lt hd1)).trans hd1
          have hd2 := (hbx.cell (cell_lt hd2)).trans hd2
          generalize ((lackL g hs devs).getD j default).st = st at *
          generalize ((lackL g hs devs).getD j default).d = d at *
          have k2 := str_eq st st
          rw [decide_eq_true rfl] at k2
          go_wp2
          go_quiet (fail)
          go_wp2
          go_roundg go
          case measure => omega
          case rel => exact ⟨j + 1, by omega, by go_num, below_drewN hbx _⟩
        | zero =>
          obtain rfl : j = ln := by omega
          have hbF := hb.trans (hbx.mono hb.size)
          have KF := Lib.hid (HF.out.step hbF)
          have HA12 := Lib.hid (HA11.out.below hbx)
          have zw := hbF.size
          clear hbx hb HAC HBC HA11
          go_wp2
          obtain ⟨wo, hwo⟩ : ∃ wo : World, wo = wr := ⟨_, rfl⟩
          subst hwo
          go_loopg [20, 21, 22, 23, 24, 25] k (fun gk v20 v21 v22 v23 v24 v25 wx => ∃ i : Nat, i + gk = k ∧ v20 = .int .i64 i ∧ Below wo.heap.size wo wx)
          case atStart => exact ⟨0, by omega, rfl, Below.refl _ _⟩
          case round =>
            obtain ⟨i, hi, rfl, hbi⟩ := hrel
            have zi := hbi.size
            have hfi := hbF.trans (hbi.mono zw)
            cases gk with
            | zero =>
              obtain rfl : i = k := by omega
              go_wp2_with fail
              refine (AW.out _).mono ?_
              rintro e w13 ⟨rfl, hb13⟩
              go_wp2
              go_ret
              exact ⟨rfl, hwF.trans ((hfi.trans (hb13.mono hfi.size)).mono zF)⟩
            | succ go =>
              have hik : i < k := by omega
              have K := KF.out.step hbi
              have cM := K.cell
              have m0 := cell_of_row _ _ 0 _ _ _ cM
              have m1 := cell_of_row _ _ 1 _ _ _ cM
              have m2 := cell_of_row _ _ 2 _ _ _ cM
              have m3 := cell_of_row _ _ 3 _ _ _ cM
              have m4 := cell_of_row _ _ 4 _ _ _ cM
              obtain ⟨Lb, hLb⟩ : ∃ Lb, Lb = wr.heap.size := ⟨_, rfl⟩
              obtain ⟨w20, hw20⟩ : ∃ w20, w20 = wr.alloc (.cells #[.slice na n1 nc, .int .i64 g.thr, .bool g.idx, .slice pva fl pvc, .slice sa n3 sc] 26) := ⟨_, rfl⟩
              have hb20 : Below wr.heap.size wr w20 := by rw [hw20]; exact (Below.refl _ _).alloc (Nat.le_refl _) _
              have cL : w20.heap[Lb]? = some (.cells #[.slice na n1 nc, .int .i64 g.thr, .bool g.idx, .slice pva fl pvc, .slice sa n3 sc] 26) := by rw [hw20, hLb]; exact heap_alloc_last _ _
              have K20 := K.step hb20
              have hMl := (Array.getElem?_eq_some_iff.1 cM).1
              have HMLb := Lib.hid (show M ≠ Lb by omega)
              have hGs : G < w3.heap.size := (Array.getElem?_eq_some_iff.1 G3.out).1
              have HGLb := Lib.hid (show G ≠ Lb by have := K.size; omega)
              have HLB := Lib.hid hLb
              have HW20 := Lib.hid hw20
              have KS20 := Lib.hid K20
              have KL20 := Lib.hid (show HvAt w3 w3.heap.size Lb (.slice na n1 nc) (.int .i64 g.thr) (.bool g.idx) (.slice sa n3 sc) F (.slice pva fl pvc) w20 from ⟨K20.below, K20.size, by have := K.size; omega, cL, K20.own⟩)
              clear hLb hw20 cM cL K hMl hGs K20
              go_upto_region 25 with fail
              simp only [← HLB.out, ← HW20.out]
              clear m0 m1 m2 m3 m4
              have hfle := HFE2.out
              have hn2 := HN2.out
              have hpr := OwnP.reads KS20.out.own (by rw [HFL.out]; omega)
              obtain ⟨qa, qc, pb, po, eqq, hflc, _, hqc⟩ := hpr.at
              rw [HFL.out] at eqq hflc
              injection eqq with eq1 eq2 eq3
              subst eq1 eq3
              obtain ⟨rfl, _⟩ := hqc 0 (by rw [HFL.out]; omega)
              obtain ⟨wV, hwV⟩ : ∃ wV, wV = w20.drew := ⟨_, rfl⟩
              have bV : Below w20.heap.size w20 wV := by rw [hwV]; exact (Below.refl _ _).drew
              obtain ⟨w21, hw21⟩ : ∃ w21, w21 = (w20.alloc (.cells #[] 68)).drew := ⟨_, rfl⟩
              have b2021 : Below w20.heap.size w20 w21 := by rw [hw21]; exact ((Below.refl _ _).alloc (Nat.le_refl _) _).drew
              have z20 := KS20.out.size
              have o21 : OwnP w21 w20.heap.size (.slice (some ⟨w20.heap.size, 0, none⟩) 0 0) [] := by rw [hw21]; exact Own.below (Own.lit0 _ _ _ _ _ (Nat.le_refl _)) (Below.refl _ _).drew
              have hz21 : w20.heap.size ≤ w21.heap.size := b2021.size
              obtain ⟨v22, w22, r22, o22, B22, k22⟩ := o21.appendR ((ReadsP.take hpr (g.ps.length + i) (by rw [HFL.out]; omega)).below b2021) (by simp) (by rw [List.length_take, HFL.out]; omega) hz21
              rw [List.nil_append] at o22
              obtain ⟨e22, c22, rfl⟩ := OwnP.slice o22
              have M21 := (b2021.block M (Array.getElem?_eq_some_iff.1 KS20.out.cell).1).trans KS20.out.cell
              have G20 := (KS20.out.below.block G (Array.getElem?_eq_some_iff.1 G3.out).1).trans G3.out
              have G21 := (b2021.block G (Array.getElem?_eq_some_iff.1 G20).1).trans G20
              have L21 := (b2021.block Lb (Array.getElem?_eq_some_iff.1 KL20.out.cell).1).trans KL20.out.cell
              have M22 := Lib.hid ((k22 M (Array.getElem?_eq_some_iff.1 M21).1 (own_ne o21 M21 (by decide))).trans M21)
              have G22 := Lib.hid ((k22 G (Array.getElem?_eq_some_iff.1 G21).1 (own_ne o21 G21 (by decide))).trans G21)
              have L22 := Lib.hid ((k22 Lb (Array.getElem?_eq_some_iff.1 L21).1 (own_ne o21 L21 (by decide))).trans L21)
              have hkp : ∀ w8 : World, w8.heap[M]? = some (.cells #[.slice na n1 nc, .int .i64 g.thr, .bool g.idx, .slice (some ⟨pb, po, none⟩) fl pvc, .slice sa n3 sc] 26) → w8.heap[G]? = some (.cells #[.slice na n1 nc, .int .i64 g.thr, .bool g.idx, .slice pa n2 pc, .slice sa n3 sc] 26) → w8.cell? ⟨M, 3, none⟩ = some (.slice (some ⟨pb, po, none⟩) fl pvc) ∧ w8.cell? ⟨G, 3, none⟩ = some (.slice pa n2 pc) := fun w8 h1 h2 => by
                have x1 := cell_of_row _ _ 3 _ _ _ h1
                have x2 := cell_of_row _ _ 3 _ _ _ h2
                simp only [List.getElem?_toArray, List.getElem?_cons_zero, List.getElem?_cons_succ] at x1 x2
                exact ⟨x1, x2⟩
              have HKV := Lib.hid (show w20.drew.cell? ⟨M, 3, none⟩ = some (.slice (some ⟨pb, po, none⟩) fl pvc) ∧ w20.drew.cell? ⟨G, 3, none⟩ = some (.slice pa n2 pc) from hkp w20.drew (by rw [← hwV]; exact (bV.block M (Array.getElem?_eq_some_iff.1 KS20.out.cell).1).trans KS20.out.cell) (by rw [← hwV]; exact (bV.block G (Array.getElem?_eq_some_iff.1 G20).1).trans G20))
              have HK21 := Lib.hid (hkp w21 M21 G21)
              have HK22 := Lib.hid (hkp w22 M22.out G22.out)
              have b2022 := b2021.trans B22
              have B2022 := Lib.hid b2022
              have hz22 : w20.heap.size ≤ w22.heap.size := b2022.size
              have O22 := Lib.hid o22
              have hera : F.eraseIdx (g.ps.length + i) = F.take (g.ps.length + i) ++ F.drop (g.ps.length + i + 1) := List.eraseIdx_eq_take_drop_succ ..
              have hW : ∀ sv, ReadsP w20 sv (F.drop (g.ps.length + i + 1)) → ∃ v23 l23 c23 w23, (Builtin.append_ #[23, 23] 23 #[.slice e22 (F.take (g.ps.length + i)).length c22, sv]).run Try.prog w22 = .ok (.slice v23 l23 c23) w23 ∧ OwnP w23 w20.heap.size (.slice v23 l23 c23) (F.eraseIdx (g.ps.length + i)) ∧ Below w20.heap.size w22 w23 ∧ (∀ b, b < w22.heap.size → (Value.slice e22 (F.take (g.ps.length + i)).length c22).ownBlock ≠ some b → w23.heap[b]? = w22.heap[b]?) := fun sv h => by
                obtain ⟨v, w', r, o, B, k9⟩ := O22.out.appendR (h.below b2022) (by rw [List.length_take, HFL.out]; omega) (by rw [List.length_drop, HFL.out]; omega) hz22
                rw [← hera] at o
                obtain ⟨a, c, rfl⟩ := OwnP.slice o
                exact ⟨a, _, c, w', r, o, B, k9⟩
              have HW := Lib.hid hW
              have HD0 := Lib.hid (fun (h : pvc = n2 + i + 1) => show ReadsP w20 (.slice (some ⟨pb, po, none⟩) 0 0) (F.drop (g.ps.length + i + 1)) by
                rw [List.drop_eq_nil_of_le (by rw [HFL.out]; omega)]
                exact ReadsP.nilQ _ _ _ _)
              have HD1 := Lib.hid (show ReadsP w20 (.slice (some ⟨pb, po + (n2 + i + 1) * 2, none⟩) (fl - (n2 + i + 1)) (pvc - (n2 + i + 1))) (F.drop (g.ps.length + i + 1)) by
                rw [← hn2]
                exact ReadsP.dropQ hpr (n2 + i + 1) (by rw [HFL.out]; omega))
              have hz22b : w20.heap.size ≤ w22.heap.size := hz22
              have htl : (F.take (g.ps.length + i)).length = n2 + i := by rw [List.length_take, HFL.out]; omega
              rw [htl] at r22
              have HTLL := Lib.hid htl
              have HW21 := Lib.hid hw21
              have HWV := Lib.hid hwV
              have r22' := r22
              rw [← hn2] at r22
              have f1 : IntKind.i64.wrap ((n2 : Int) + (i : Int)) = (n2 : Int) + (i : Int) := wraps_i64 _ (by omega) (by omega)
              have f2 : IntKind.i64.wrap ((n2 : Int) + (i : Int) + 1) = (n2 : Int) + (i : Int) + 1 := wraps_i64 _ (by omega) (by omega)
              have f3 : 0 ≤ (n2 : Int) + (i : Int) := by omega
              have f4 : ((n2 : Int) + (i : Int)).toNat = n2 + i := by omega
              have f5 : 0 ≤ (n2 : Int) + (i : Int) + 1 := by omega
              have f6 : ((n2 : Int) + (i : Int) + 1).toNat = n2 + i + 1 := by omega
              have f7 : (n2 : Int) + (i : Int) ≤ (pvc : Int) := by omega
              have f8 : (n2 : Int) + (i : Int) + 1 ≤ (fl : Int) := by omega
              have f9 : (n2 : Int) + (i : Int) + 1 ≤ (pvc : Int) := by omega
              have fA : n2 + i ≤ pvc := by omega
              have fB : n2 + i + 1 ≤ fl := by omega
              have fC : n2 + i + 1 ≤ pvc := by omega
              have HN3 := Lib.hid hn2
              have HF3 := Lib.hid hfle
              clear hn2 hfle hera hW hqc M21 G20 G21 L21 k22 o21 o22 hw21 hwV B22 htl r22'
              by_cases hcap : pvc = n2 + i + 1
              · have HDz := Lib.hid (HD0.out hcap)
                have hz0 : fl - (n2 + i + 1) = 0 := by omega
                have hfq : fl = n2 + i + 1 := by omega
                clear HD1
                subst hcap
                clear hfq
                have gA : (n2 : Int) + (i : Int) ≤ (n2 : Int) + (i : Int) + 1 := by omega
                obtain ⟨v23, l23, c23, w23, r23, o23, B23, k23⟩ := HW.out _ HDz.out
                rw [HTLL.out] at r23 k23
                have M23 := (k23 M (Array.getElem?_eq_some_iff.1 M22.out).1 (HTLL.out ▸ own_ne O22.out M22.out (by decide))).trans M22.out
                have G23 := (k23 G (Array.getElem?_eq_some_iff.1 G22.out).1 (HTLL.out ▸ own_ne O22.out G22.out (by decide))).trans G22.out
                have L23 := (k23 Lb (Array.getElem?_eq_some_iff.1 L22.out).1 (HTLL.out ▸ own_ne O22.out L22.out (by decide))).trans L22.out
                have b2023 := B2022.out.trans B23
                have hA : Below wF.heap.size wF w23 := (hfi.trans (hb20.mono hfi.size)).trans (b2023.mono (Nat.le_trans hfi.size hb20.size))
                have HBZ := Lib.hid (hA.setCell (p := ⟨Lb, 3, none⟩) (show wF.heap.size ≤ Lb by rw [HLB.out]; exact hfi.size) (Value.slice v23 l23 c23))
                have hB : Below wo.heap.size wo w23 := (hbi.trans (hb20.mono hbi.size)).trans (b2023.mono (Nat.le_trans hbi.size hb20.size))
                have HBO := Lib.hid (hB.setCell (p := ⟨Lb, 3, none⟩) (show wo.heap.size ≤ Lb by rw [HLB.out]; exact hbi.size) (Value.slice v23 l23 c23))
                clear hA hB
                obtain ⟨KL, hcL, hfL⟩ := KL20.out.set (pv' := .slice v23 l23 c23) w23 (b2023.mono z20) (Nat.le_trans hz22b B23.size) (L23.trans KL20.out.cell.symm) (Own.base o23 z20)
                have HK1 := Lib.hid (hkp w23 M23 G23)
                have l3 := cell_of_row _ _ 3 _ _ _ hcL
                simp only [List.getElem?_toArray, List.getElem?_cons_zero, List.getElem?_cons_succ] at l3
                have hRM : M ≠ Lb := HMLb.out
                have hRG : G ≠ Lb := HGLb.out
                have HK2 := Lib.hid (hkp (w23.setCell ⟨Lb, 3, none⟩ (.slice v23 l23 c23)) ((setCell_other w23 (b := Lb) (i := 3) _ hRM).trans M23) ((setCell_other w23 (b := Lb) (i := 3) _ hRG).trans G23))
                have KL := Lib.hid KL
                clear M23 G23 L23 hcL o23 B23 k23 b2023 hkp
                go_wp2
                refine wp_region_held_drew (S := fun w' => w'.cell? ⟨M, 3, none⟩ = some (.slice (some ⟨pb, po, none⟩) fl (n2 + i + 1)) ∧ w'.cell? ⟨G, 3, none⟩ = some (.slice pa n2 pc)) (by kernel_rfl) HKV.out (fun hHeld => ?_)
                refine wpAnyH_take (i := 1) (v := ?_) rfl (by kernel_rfl) (by kernel_rfl) (by kernel_rfl) (fun _ _ _ h => h) (Or.inl ⟨by rfl, ?_⟩) (by assumption) ?_
                rotate_left; · (intro w hSw; (try dsimp only at hSw); go_simp; try with_reducible rfl)
                try simp only [Act.put, List.getElem_toArray, List.getElem_cons_zero, List.getElem_cons_succ, List.setIfInBounds_toArray, List.set_cons_zero, List.set_cons_succ]
                refine wpAnyH_take (i := 2) (v := ?_) rfl (by kernel_rfl) (by kernel_rfl) (by kernel_rfl) (fun _ _ _ h => h) (Or.inl ⟨by rfl, ?_⟩) (by assumption) ?_
                rotate_left; · (intro w hSw; (try dsimp only at hSw); go_simp; try with_reducible rfl)
                try simp only [Act.put, List.getElem_toArray, List.getElem_cons_zero, List.getElem_cons_succ, List.setIfInBounds_toArray, List.set_cons_zero, List.set_cons_succ]
                refine wpAnyH_take (i := 3) (v := ?_) rfl (by kernel_rfl) (by kernel_rfl) (by kernel_rfl) (fun _ _ _ h => h) (Or.inl ⟨by rfl, ?_⟩) (by assumption) ?_
                rotate_left; · (intro w hSw; (try dsimp only at hSw); go_simp; try with_reducible rfl)
                try simp only [Act.put, List.getElem_toArray, List.getElem_cons_zero, List.getElem_cons_succ, List.setIfInBounds_toArray, List.set_cons_zero, List.set_cons_succ]
                refine wpAnyH_take (i := 4) (v := ?_) rfl (by kernel_rfl) (by kernel_rfl) (by kernel_rfl) (fun _ _ _ h => h) (Or.inl ⟨by rfl, ?_⟩) (by assumption) ?_
                rotate_left; · (intro w hSw; (try dsimp only at hSw); go_simp; try with_reducible rfl)
                try simp only [Act.put, List.getElem_toArray, List.getElem_cons_zero, List.getElem_cons_succ, List.setIfInBounds_toArray, List.set_cons_zero, List.set_cons_succ]
                refine wpAnyH_take (i := 5) (v := ?_) rfl (by kernel_rfl) (by kernel_rfl) (by kernel_rfl) (fun _ _ _ h => h) (Or.inl ⟨by rfl, ?_⟩) (by assumption) ?_
                rotate_left; · (intro w hSw; (try dsimp only at hSw); go_simp; try with_reducible rfl)
                try simp only [Act.put, List.getElem_toArray, List.getElem_cons_zero, List.getElem_cons_succ, List.setIfInBounds_toArray, List.set_cons_zero, List.set_cons_succ]
                refine wpAnyH_take (i := 6) (v := ?_) rfl (by kernel_rfl) (by kernel_rfl) (by kernel_rfl) (fun _ _ _ h => h) (Or.inl ⟨by rfl, ?_⟩) (by assumption) ?_
                rotate_left; · (intro w hSw; (try dsimp only at hSw); go_simp; try with_reducible rfl)
                try simp only [Act.put, List.getElem_toArray, List.getElem_cons_zero, List.getElem_cons_succ, List.setIfInBounds_toArray, List.set_cons_zero, List.set_cons_succ]
                refine wpAnyH_take (i := 7) (v := ?_) rfl (by kernel_rfl) (by kernel_rfl) (by kernel_rfl) (fun _ _ _ h => h) (Or.inl ⟨by rfl, ?_⟩) (by assumption) ?_
                rotate_left; · (intro w hSw; (try dsimp only at hSw); go_simp; try with_reducible rfl)
                try simp only [Act.put, List.getElem_toArray, List.getElem_cons_zero, List.getElem_cons_succ, List.setIfInBounds_toArray, List.set_cons_zero, List.set_cons_succ]
                refine wpAnyH_take (i := 8) (v := ?_) rfl (by kernel_rfl) (by kernel_rfl) (by kernel_rfl) (fun _ _ _ h => h) (Or.inl ⟨by rfl, ?_⟩) (by assumption) ?_
                rotate_left; · (intro w hSw; (try dsimp only at hSw); go_simp; try with_reducible rfl)
                try simp only [Act.put, List.getElem_toArray, List.getElem_cons_zero, List.getElem_cons_succ, List.setIfInBounds_toArray, List.set_cons_zero, List.set_cons_succ]
                refine wpAnyH_take (i := 10) (v := ?_) rfl (by kernel_rfl) (by kernel_rfl) (by kernel_rfl) (fun _ _ _ h => h) (Or.inl ⟨by rfl, ?_⟩) (by assumption) ?_
                rotate_left; · (intro w hSw; (try dsimp only at hSw); go_simp; try with_reducible rfl)
                try simp only [Act.put, List.getElem_toArray, List.getElem_cons_zero, List.getElem_cons_succ, List.setIfInBounds_toArray, List.set_cons_zero, List.set_cons_succ]
                refine wpAnyH_take (i := 11) (v := ?_) rfl (by kernel_rfl) (by kernel_rfl) (by kernel_rfl) (fun _ _ _ h => h) (Or.inl ⟨by rfl, ?_⟩) (by assumption) ?_
                rotate_left; · (intro w hSw; (try dsimp only at hSw); go_simp; try with_reducible rfl)
                try simp only [Act.put, List.getElem_toArray, List.getElem_cons_zero, List.getElem_cons_succ, List.setIfInBounds_toArray, List.set_cons_zero, List.set_cons_succ]
                refine wpAnyH_take (i := 12) (v := ?_) rfl (by kernel_rfl) (by kernel_rfl) (by kernel_rfl) (fun _ _ _ h => h) (Or.inl ⟨by rfl, ?_⟩) (by assumption) ?_
                rotate_left; · (intro w hSw; (try dsimp only at hSw); go_simp; try with_reducible rfl)
                try simp only [Act.put, List.getElem_toArray, List.getElem_cons_zero, List.getElem_cons_succ, List.setIfInBounds_toArray, List.set_cons_zero, List.set_cons_succ]
                refine wpAnyH_take (i := 13) (v := ?_) rfl (by kernel_rfl) (by kernel_rfl) (by kernel_rfl) (fun _ _ _ h => h) (Or.inl ⟨by rfl, ?_⟩) (by assumption) ?_
                rotate_left; · (intro w hSw; (try dsimp only at hSw); go_simp; try with_reducible rfl)
                try simp only [Act.put, List.getElem_toArray, List.getElem_cons_zero, List.getElem_cons_succ, List.setIfInBounds_toArray, List.set_cons_zero, List.set_cons_succ]
                refine wpAnyH_take (i := 14) (v := ?_) rfl (by kernel_rfl) (by kernel_rfl) (by kernel_rfl) (fun _ _ _ h => h) (Or.inl ⟨by rfl, ?_⟩) (by assumption) ?_
                rotate_left; · (intro w hSw; (try dsimp only at hSw); go_simp; try with_reducible rfl)
                try simp only [Act.put, List.getElem_toArray, List.getElem_cons_zero, List.getElem_cons_succ, List.setIfInBounds_toArray, List.set_cons_zero, List.set_cons_succ]
                refine wpAnyH_take (i := 15) (v := ?_) rfl (by kernel_rfl) (by kernel_rfl) (by kernel_rfl) (fun _ _ _ h => h) (Or.inl ⟨by rfl, ?_⟩) (by assumption) ?_
                rotate_left; · (intro w hSw; (try dsimp only at hSw); go_simp; try with_reducible rfl)
                try simp only [Act.put, List.getElem_toArray, List.getElem_cons_zero, List.getElem_cons_succ, List.setIfInBounds_toArray, List.set_cons_zero, List.set_cons_succ]
                refine wpAnyH_take (i := 16) (v := ?_) rfl (by kernel_rfl) (by kernel_rfl) (by kernel_rfl) (fun _ _ _ h => h) (Or.inl ⟨by rfl, ?_⟩) (by assumption) ?_
                rotate_left; · (intro w hSw; (try dsimp only at hSw); go_simp; try with_reducible rfl)
                try simp only [Act.put, List.getElem_toArray, List.getElem_cons_zero, List.getElem_cons_succ, List.setIfInBounds_toArray, List.set_cons_zero, List.set_cons_succ]
                refine wpAnyH_take (i := 17) (v := ?_) rfl (by kernel_rfl) (by kernel_rfl) (by kernel_rfl) (fun _ _ _ h => h) (Or.inl ⟨by rfl, ?_⟩) (by assumption) ?_
                rotate_left; · (intro w hSw; (try dsimp only at hSw); go_simp; try with_reducible rfl)
                try simp only [Act.put, List.getElem_toArray, List.getElem_cons_zero, List.getElem_cons_succ, List.setIfInBounds_toArray, List.set_cons_zero, List.set_cons_succ]
                refine wpAnyH_take (i := 18) (v := ?_) rfl (by kernel_rfl) (by kernel_rfl) (by kernel_rfl) (fun _ _ _ h => h) (Or.inl ⟨by rfl, ?_⟩) (by assumption) ?_
                rotate_left; · (intro w hSw; (try dsimp only at hSw); go_simp; try with_reducible rfl)
                try simp only [Act.put, List.getElem_toArray, List.getElem_cons_zero, List.getElem_cons_succ, List.setIfInBounds_toArray, List.set_cons_zero, List.set_cons_succ]
                refine wpAnyH_ready (rs := [0]) (by kernel_rfl) (by simp) ?_
                refine AllReadyH.cons rfl (fun K hK => ?_) AllReadyH.nil
                go_simp
                try rw [← HW21.out]
                refine hK.out _ _ HK21.out (fun hNew => ?_)
                clear hK K hHeld
                have hHeld := hNew
                clear hNew
                try simp only [Act.put, List.getElem_toArray, List.getElem_cons_zero, List.getElem_cons_succ, List.setIfInBounds_toArray, List.set_cons_zero, List.set_cons_succ]
                refine wpAnyH_ready (rs := [9]) (by kernel_rfl) (by simp) ?_
                refine AllReadyH.cons rfl (fun K hK => ?_) AllReadyH.nil
                refine wp_app (.tmp 120) (.tmp 128) 23 rfl _ _ _ w22 rfl rfl r22 ?_
                refine hK.out _ _ HK22.out (fun hNew => ?_)
                clear hK K hHeld
                have hHeld := hNew
                clear hNew
                try simp only [Act.put, List.getElem_toArray, List.getElem_cons_zero, List.getElem_cons_succ, List.setIfInBounds_toArray, List.set_cons_zero, List.set_cons_succ]
                refine wpAnyH_ready (rs := [19]) (by kernel_rfl) (by simp) ?_
                refine AllReadyH.cons rfl (fun K hK => ?_) AllReadyH.nil
                refine wp_app (.tmp 129) (.tmp 138) 23 rfl _ _ (.slice v23 l23 c23) w23 rfl rfl r23 ?_
                refine hK.out _ _ HK1.out (fun hNew => ?_)
                clear hK K hHeld
                have hHeld := hNew
                clear hNew
                try simp only [Act.put, List.getElem_toArray, List.getElem_cons_zero, List.getElem_cons_succ, List.setIfInBounds_toArray, List.set_cons_zero, List.set_cons_succ]
                refine wpAnyH_take (i := 20) (v := ?_) rfl (by kernel_rfl) (by kernel_rfl) (by kernel_rfl) (fun _ _ _ h => h) (Or.inl ⟨by rfl, ?_⟩) (by assumption) ?_
                rotate_left; · (intro w hSw; (try dsimp only at hSw); go_simp; try with_reducible rfl)
                try simp only [Act.put, List.getElem_toArray, List.getElem_cons_zero, List.getElem_cons_succ, List.setIfInBounds_toArray, List.set_cons_zero, List.set_cons_succ]
                refine wpAnyH_ready (rs := [21]) (by kernel_rfl) (by simp) ?_
                refine AllReadyH.cons rfl (fun K hK => ?_) AllReadyH.nil
                go_simp
                refine hK.out _ _ HK2.out (fun hNew => ?_)
                clear hK K hHeld
                have hHeld := hNew
                clear hNew
                try simp only [Act.put, List.getElem_toArray, List.getElem_cons_zero, List.getElem_cons_succ, List.setIfInBounds_toArray, List.set_cons_zero, List.set_cons_succ]
                refine wpAnyH_done (by kernel_rfl) ?_ _
                clear hHeld l3 hfL
                have hbz := HBZ.out
                have hel : (F.eraseIdx (g.ps.length + i)).length ≤ fl := by
                  have := (List.eraseIdx_sublist F (g.ps.length + i)).length_le
                  rw [HFL.out] at this
                  exact this
                have hls := HLS.out (.slice (some ⟨pb, po, none⟩) fl (n2 + i + 1)) (.slice v23 l23 c23) i hik
                have CL := C34.out (.slice v23 l23 c23) (F.eraseIdx (g.ps.length + i)) (.slice none 0 0) [] _ (HGl.out _ hbz _ _ (OwnP.reads KL.out.own (by have := HF3.out; omega))) (HVl.out _ hbz) ((OwnI.nil _ 0).reads (by simp)) HOK.out hls.2
                unfold LackingPost at CL
                have hlt := hls.1
                rw [HLK.out] at hlt
                have HLT := Lib.hid hlt
                have hlc := lackTo'_len (plG g (.slice v23 l23 c23) (F.eraseIdx (g.ps.length + i))) hs [] g.ns.length
                have hbc := lackTo'_bd (plG_ok HOK.out (.slice v23 l23 c23) hls.2) [] g.ns.length (Nat.le_refl _)
                have hba := lackTo'_bd HOK.out devs g.ns.length (Nat.le_refl _)
                have HBC := Lib.hid hbc
                have HBA := Lib.hid hba
                change totL (lackL (plG g (.slice v23 l23 c23) (F.eraseIdx (g.ps.length + i))) hs []) = _ at hlt
                change (lackL (plG g (.slice v23 l23 c23) (F.eraseIdx (g.ps.length + i))) hs []).length ≤ _ at hlc
                have CL := Lib.hid CL
                have cLz := KL.out.cell
                clear hls hel hbc hba
                generalize w23.setCell ⟨Lb, 3, none⟩ (.slice v23 l23 c23) = wz at *
                have m0 := cell_of_row _ _ 0 _ _ _ cLz
                have m1 := cell_of_row _ _ 1 _ _ _ cLz
                have m2 := cell_of_row _ _ 2 _ _ _ cLz
                have m3 := cell_of_row _ _ 3 _ _ _ cLz
                have m4 := cell_of_row _ _ 4 _ _ _ cLz
                clear cLz
                go_wp2_with fail
                refine CL.out.mono ?_
                rintro e w25 ⟨cv, rfl, hcv, hb25⟩
                obtain ⟨ca, cc, _, _, rfl, _⟩ := hcv.at
                have hbo := HBO.out.trans (hb25.mono HBO.out.size)
                have tc := total_any _ _ w25 hcv HBC.out (by omega)
                have hlA : (lackL g hs devs).length ≤ 1000 := by rw [HLN.out]; omega
                have hbdA := totL_bd (lackL g hs devs) HBA.out
                rw [HLN.out] at hbdA
                have ta := total_any _ _ w25 (HA12.out.below hbo) HBA.out hlA
                change Calls Try.prog 35 _ w25 (fun e w' => e = .returned (.int .i64 (totL (lackL (plG g (.slice v23 l23 c23) (F.eraseIdx (g.ps.length + i))) hs []))) ∧ w25 = w') at tc
                change Calls Try.prog 35 _ w25 (fun e w' => e = .returned (.int .i64 (totL (lackL g hs devs))) ∧ w25 = w') at ta
                rw [hlt] at tc
                have TC := Lib.hid tc
                have TA := Lib.hid ta
                clear tc ta hlt hlc HLT hlA m0 m1 m2 m3 m4 hcv CL
                generalize totL (lackL g hs devs) = st at *
                have kw : IntKind.i64.wrap (st + 1) = st + 1 := wraps_i64 _ (by omega) (by omega)
                have kq : ((st + 1) != (st + 1)) = false := by simp
                go_wp2_with fail
                refine TC.out.mono ?_
                rintro e w26 ⟨rfl, rfl⟩
                go_wp2_with fail
                refine TA.out.mono ?_
                rintro e w27 ⟨rfl, rfl⟩
                go_wp2
                go_roundg go
                case measure => omega
                case rel => exact ⟨i + 1, by omega, by go_num, hbo⟩
              · have fD : ¬ pvc = n2 + i + 1 := hcap
                obtain ⟨v23, l23, c23, w23, r23, o23, B23, k23⟩ := HW.out _ HD1.out
                rw [HTLL.out] at r23 k23
                have M23 := (k23 M (Array.getElem?_eq_some_iff.1 M22.out).1 (HTLL.out ▸ own_ne O22.out M22.out (by decide))).trans M22.out
                have G23 := (k23 G (Array.getElem?_eq_some_iff.1 G22.out).1 (HTLL.out ▸ own_ne O22.out G22.out (by decide))).trans G22.out
                have L23 := (k23 Lb (Array.getElem?_eq_some_iff.1 L22.out).1 (HTLL.out ▸ own_ne O22.out L22.out (by decide))).trans L22.out
                have b2023 := B2022.out.trans B23
                have hA : Below wF.heap.size wF w23 := (hfi.trans (hb20.mono hfi.size)).trans (b2023.mono (Nat.le_trans hfi.size hb20.size))
                have HBZ := Lib.hid (hA.setCell (p := ⟨Lb, 3, none⟩) (show wF.heap.size ≤ Lb by rw [HLB.out]; exact hfi.size) (Value.slice v23 l23 c23))
                have hB : Below wo.heap.size wo w23 := (hbi.trans (hb20.mono hbi.size)).trans (b2023.mono (Nat.le_trans hbi.size hb20.size))
                have HBO := Lib.hid (hB.setCell (p := ⟨Lb, 3, none⟩) (show wo.heap.size ≤ Lb by rw [HLB.out]; exact hbi.size) (Value.slice v23 l23 c23))
                clear hA hB
                obtain ⟨KL, hcL, hfL⟩ := KL20.out.set (pv' := .slice v23 l23 c23) w23 (b2023.mono z20) (Nat.le_trans hz22b B23.size) (L23.trans KL20.out.cell.symm) (Own.base o23 z20)
                have HK1 := Lib.hid (hkp w23 M23 G23)
                have l3 := cell_of_row _ _ 3 _ _ _ hcL
                simp only [List.getElem?_toArray, List.getElem?_cons_zero, List.getElem?_cons_succ] at l3
                have hRM : M ≠ Lb := HMLb.out
                have hRG : G ≠ Lb := HGLb.out
                have HK2 := Lib.hid (hkp (w23.setCell ⟨Lb, 3, none⟩ (.slice v23 l23 c23)) ((setCell_other w23 (b := Lb) (i := 3) _ hRM).trans M23) ((setCell_other w23 (b := Lb) (i := 3) _ hRG).trans G23))
                have KL := Lib.hid KL
                clear M23 G23 L23 hcL o23 B23 k23 b2023 hkp
                go_wp2
                refine wp_region_held_drew (S := fun w' => w'.cell? ⟨M, 3, none⟩ = some (.slice (some ⟨pb, po, none⟩) fl pvc) ∧ w'.cell? ⟨G, 3, none⟩ = some (.slice pa n2 pc)) (by kernel_rfl) HKV.out (fun hHeld => ?_)
                refine wpAnyH_take (i := 1) (v := ?_) rfl (by kernel_rfl) (by kernel_rfl) (by kernel_rfl) (fun _ _ _ h => h) (Or.inl ⟨by rfl, ?_⟩) (by assumption) ?_
                rotate_left; · (intro w hSw; (try dsimp only at hSw); go_simp; try with_reducible rfl)
                try simp only [Act.put, List.getElem_toArray, List.getElem_cons_zero, List.getElem_cons_succ, List.setIfInBounds_toArray, List.set_cons_zero, List.set_cons_succ]
                refine wpAnyH_take (i := 2) (v := ?_) rfl (by kernel_rfl) (by kernel_rfl) (by kernel_rfl) (fun _ _ _ h => h) (Or.inl ⟨by rfl, ?_⟩) (by assumption) ?_
                rotate_left; · (intro w hSw; (try dsimp only at hSw); go_simp; try with_reducible rfl)
                try simp only [Act.put, List.getElem_toArray, List.getElem_cons_zero, List.getElem_cons_succ, List.setIfInBounds_toArray, List.set_cons_zero, List.set_cons_succ]
                refine wpAnyH_take (i := 3) (v := ?_) rfl (by kernel_rfl) (by kernel_rfl) (by kernel_rfl) (fun _ _ _ h => h) (Or.inl ⟨by rfl, ?_⟩) (by assumption) ?_
                rotate_left; · (intro w hSw; (try dsimp only at hSw); go_simp; try with_reducible rfl)
                try simp only [Act.put, List.getElem_toArray, List.getElem_cons_zero, List.getElem_cons_succ, List.setIfInBounds_toArray, List.set_cons_zero, List.set_cons_succ]
                refine wpAnyH_take (i := 4) (v := ?_) rfl (by kernel_rfl) (by kernel_rfl) (by kernel_rfl) (fun _ _ _ h => h) (Or.inl ⟨by rfl, ?_⟩) (by assumption) ?_
                rotate_left; · (intro w hSw; (try dsimp only at hSw); go_simp; try with_reducible rfl)
                try simp only [Act.put, List.getElem_toArray, List.getElem_cons_zero, List.getElem_cons_succ, List.setIfInBounds_toArray, List.set_cons_zero, List.set_cons_succ]
                refine wpAnyH_take (i := 5) (v := ?_) rfl (by kernel_rfl) (by kernel_rfl) (by kernel_rfl) (fun _ _ _ h => h) (Or.inl ⟨by rfl, ?_⟩) (by assumption) ?_
                rotate_left; · (intro w hSw; (try dsimp only at hSw); go_simp; try with_reducible rfl)
                try simp only [Act.put, List.getElem_toArray, List.getElem_cons_zero, List.getElem_cons_succ, List.setIfInBounds_toArray, List.set_cons_zero, List.set_cons_succ]
                refine wpAnyH_take (i := 6) (v := ?_) rfl (by kernel_rfl) (by kernel_rfl) (by kernel_rfl) (fun _ _ _ h => h) (Or.inl ⟨by rfl, ?_⟩) (by assumption) ?_
                rotate_left; · (intro w hSw; (try dsimp only at hSw); go_simp; try with_reducible rfl)
                try simp only [Act.put, List.getElem_toArray, List.getElem_cons_zero, List.getElem_cons_succ, List.setIfInBounds_toArray, List.set_cons_zero, List.set_cons_succ]
                refine wpAnyH_take (i := 7) (v := ?_) rfl (by kernel_rfl) (by kernel_rfl) (by kernel_rfl) (fun _ _ _ h => h) (Or.inl ⟨by rfl, ?_⟩) (by assumption) ?_
                rotate_left; · (intro w hSw; (try dsimp only at hSw); go_simp; try with_reducible rfl)
                try simp only [Act.put, List.getElem_toArray, List.getElem_cons_zero, List.getElem_cons_succ, List.setIfInBounds_toArray, List.set_cons_zero, List.set_cons_succ]
                refine wpAnyH_take (i := 8) (v := ?_) rfl (by kernel_rfl) (by kernel_rfl) (by kernel_rfl) (fun _ _ _ h => h) (Or.inl ⟨by rfl, ?_⟩) (by assumption) ?_
                rotate_left; · (intro w hSw; (try dsimp only at hSw); go_simp; try with_reducible rfl)
                try simp only [Act.put, List.getElem_toArray, List.getElem_cons_zero, List.getElem_cons_succ, List.setIfInBounds_toArray, List.set_cons_zero, List.set_cons_succ]
                refine wpAnyH_take (i := 10) (v := ?_) rfl (by kernel_rfl) (by kernel_rfl) (by kernel_rfl) (fun _ _ _ h => h) (Or.inl ⟨by rfl, ?_⟩) (by assumption) ?_
                rotate_left; · (intro w hSw; (try dsimp only at hSw); go_simp; try with_reducible rfl)
                try simp only [Act.put, List.getElem_toArray, List.getElem_cons_zero, List.getElem_cons_succ, List.setIfInBounds_toArray, List.set_cons_zero, List.set_cons_succ]
                refine wpAnyH_take (i := 11) (v := ?_) rfl (by kernel_rfl) (by kernel_rfl) (by kernel_rfl) (fun _ _ _ h => h) (Or.inl ⟨by rfl, ?_⟩) (by assumption) ?_
                rotate_left; · (intro w hSw; (try dsimp only at hSw); go_simp; try with_reducible rfl)
                try simp only [Act.put, List.getElem_toArray, List.getElem_cons_zero, List.getElem_cons_succ, List.setIfInBounds_toArray, List.set_cons_zero, List.set_cons_succ]
                refine wpAnyH_take (i := 12) (v := ?_) rfl (by kernel_rfl) (by kernel_rfl) (by kernel_rfl) (fun _ _ _ h => h) (Or.inl ⟨by rfl, ?_⟩) (by assumption) ?_
                rotate_left; · (intro w hSw; (try dsimp only at hSw); go_simp; try with_reducible rfl)
                try simp only [Act.put, List.getElem_toArray, List.getElem_cons_zero, List.getElem_cons_succ, List.setIfInBounds_toArray, List.set_cons_zero, List.set_cons_succ]
                refine wpAnyH_take (i := 13) (v := ?_) rfl (by kernel_rfl) (by kernel_rfl) (by kernel_rfl) (fun _ _ _ h => h) (Or.inl ⟨by rfl, ?_⟩) (by assumption) ?_
                rotate_left; · (intro w hSw; (try dsimp only at hSw); go_simp; try with_reducible rfl)
                try simp only [Act.put, List.getElem_toArray, List.getElem_cons_zero, List.getElem_cons_succ, List.setIfInBounds_toArray, List.set_cons_zero, List.set_cons_succ]
                refine wpAnyH_take (i := 14) (v := ?_) rfl (by kernel_rfl) (by kernel_rfl) (by kernel_rfl) (fun _ _ _ h => h) (Or.inl ⟨by rfl, ?_⟩) (by assumption) ?_
                rotate_left; · (intro w hSw; (try dsimp only at hSw); go_simp; try with_reducible rfl)
                try simp only [Act.put, List.getElem_toArray, List.getElem_cons_zero, List.getElem_cons_succ, List.setIfInBounds_toArray, List.set_cons_zero, List.set_cons_succ]
                refine wpAnyH_take (i := 15) (v := ?_) rfl (by kernel_rfl) (by kernel_rfl) (by kernel_rfl) (fun _ _ _ h => h) (Or.inl ⟨by rfl, ?_⟩) (by assumption) ?_
                rotate_left; · (intro w hSw; (try dsimp only at hSw); go_simp; try with_reducible rfl)
                try simp only [Act.put, List.getElem_toArray, List.getElem_cons_zero, List.getElem_cons_succ, List.setIfInBounds_toArray, List.set_cons_zero, List.set_cons_succ]
                refine wpAnyH_take (i := 16) (v := ?_) rfl (by kernel_rfl) (by kernel_rfl) (by kernel_rfl) (fun _ _ _ h => h) (Or.inl ⟨by rfl, ?_⟩) (by assumption) ?_
                rotate_left; · (intro w hSw; (try dsimp only at hSw); go_simp; try with_reducible rfl)
                try simp only [Act.put, List.getElem_toArray, List.getElem_cons_zero, List.getElem_cons_succ, List.setIfInBounds_toArray, List.set_cons_zero, List.set_cons_succ]
                refine wpAnyH_take (i := 17) (v := ?_) rfl (by kernel_rfl) (by kernel_rfl) (by kernel_rfl) (fun _ _ _ h => h) (Or.inl ⟨by rfl, ?_⟩) (by assumption) ?_
                rotate_left; · (intro w hSw; (try dsimp only at hSw); go_simp; try with_reducible rfl)
                try simp only [Act.put, List.getElem_toArray, List.getElem_cons_zero, List.getElem_cons_succ, List.setIfInBounds_toArray, List.set_cons_zero, List.set_cons_succ]
                refine wpAnyH_take (i := 18) (v := ?_) rfl (by kernel_rfl) (by kernel_rfl) (by kernel_rfl) (fun _ _ _ h => h) (Or.inl ⟨by rfl, ?_⟩) (by assumption) ?_
                rotate_left; · (intro w hSw; (try dsimp only at hSw); go_simp; try with_reducible rfl)
                try simp only [Act.put, List.getElem_toArray, List.getElem_cons_zero, List.getElem_cons_succ, List.setIfInBounds_toArray, List.set_cons_zero, List.set_cons_succ]
                refine wpAnyH_ready (rs := [0]) (by kernel_rfl) (by simp) ?_
                refine AllReadyH.cons rfl (fun K hK => ?_) AllReadyH.nil
                go_simp
                try rw [← HW21.out]
                refine hK.out _ _ HK21.out (fun hNew => ?_)
                clear hK K hHeld
                have hHeld := hNew
                clear hNew
                try simp only [Act.put, List.getElem_toArray, List.getElem_cons_zero, List.getElem_cons_succ, List.setIfInBounds_toArray, List.set_cons_zero, List.set_cons_succ]
                refine wpAnyH_ready (rs := [9]) (by kernel_rfl) (by simp) ?_
                refine AllReadyH.cons rfl (fun K hK => ?_) AllReadyH.nil
                refine wp_app (.tmp 120) (.tmp 128) 23 rfl _ _ _ w22 rfl rfl r22 ?_
                refine hK.out _ _ HK22.out (fun hNew => ?_)
                clear hK K hHeld
                have hHeld := hNew
                clear hNew
                try simp only [Act.put, List.getElem_toArray, List.getElem_cons_zero, List.getElem_cons_succ, List.setIfInBounds_toArray, List.set_cons_zero, List.set_cons_succ]
                refine wpAnyH_ready (rs := [19]) (by kernel_rfl) (by simp) ?_
                refine AllReadyH.cons rfl (fun K hK => ?_) AllReadyH.nil
                refine wp_app (.tmp 129) (.tmp 138) 23 rfl _ _ (.slice v23 l23 c23) w23 rfl rfl r23 ?_
                refine hK.out _ _ HK1.out (fun hNew => ?_)
                clear hK K hHeld
                have hHeld := hNew
                clear hNew
                try simp only [Act.put, List.getElem_toArray, List.getElem_cons_zero, List.getElem_cons_succ, List.setIfInBounds_toArray, List.set_cons_zero, List.set_cons_succ]
                refine wpAnyH_take (i := 20) (v := ?_) rfl (by kernel_rfl) (by kernel_rfl) (by kernel_rfl) (fun _ _ _ h => h) (Or.inl ⟨by rfl, ?_⟩) (by assumption) ?_
                rotate_left; · (intro w hSw; (try dsimp only at hSw); go_simp; try with_reducible rfl)
                try simp only [Act.put, List.getElem_toArray, List.getElem_cons_zero, List.getElem_cons_succ, List.setIfInBounds_toArray, List.set_cons_zero, List.set_cons_succ]
                refine wpAnyH_ready (rs := [21]) (by kernel_rfl) (by simp) ?_
                refine AllReadyH.cons rfl (fun K hK => ?_) AllReadyH.nil
                go_simp
                refine hK.out _ _ HK2.out (fun hNew => ?_)
                clear hK K hHeld
                have hHeld := hNew
                clear hNew
                try simp only [Act.put, List.getElem_toArray, List.getElem_cons_zero, List.getElem_cons_succ, List.setIfInBounds_toArray, List.set_cons_zero, List.set_cons_succ]
                refine wpAnyH_done (by kernel_rfl) ?_ _
                clear hHeld l3 hfL
                have hbz := HBZ.out
                have hel : (F.eraseIdx (g.ps.length + i)).length ≤ fl := by
                  have := (List.eraseIdx_sublist F (g.ps.length + i)).length_le
                  rw [HFL.out] at this
                  exact this
                have hls := HLS.out (.slice (some ⟨pb, po, none⟩) fl pvc) (.slice v23 l23 c23) i hik
                have CL := C34.out (.slice v23 l23 c23) (F.eraseIdx (g.ps.length + i)) (.slice none 0 0) [] _ (HGl.out _ hbz _ _ (OwnP.reads KL.out.own (by have := HF3.out; omega))) (HVl.out _ hbz) ((OwnI.nil _ 0).reads (by simp)) HOK.out hls.2
                unfold LackingPost at CL
                have hlt := hls.1
                rw [HLK.out] at hlt
                have HLT := Lib.hid hlt
                have hlc := lackTo'_len (plG g (.slice v23 l23 c23) (F.eraseIdx (g.ps.length + i))) hs [] g.ns.length
                have hbc := lackTo'_bd (plG_ok HOK.out (.slice v23 l23 c23) hls.2) [] g.ns.length (Nat.le_refl _)
                have hba := lackTo'_bd HOK.out devs g.ns.length (Nat.le_refl _)
                have HBC := Lib.hid hbc
                have HBA := Lib.hid hba
                change totL (lackL (plG g (.slice v23 l23 c23) (F.eraseIdx (g.ps.length + i))) hs []) = _ at hlt
                change (lackL (plG g (.slice v23 l23 c23) (F.eraseIdx (g.ps.length + i))) hs []).length ≤ _ at hlc
                have CL := Lib.hid CL
                have cLz := KL.out.cell
                clear hls hel hbc hba
                generalize w23.setCell ⟨Lb, 3, none⟩ (.slice v23 l23 c23) = wz at *
                have m0 := cell_of_row _ _ 0 _ _ _ cLz
                have m1 := cell_of_row _ _ 1 _ _ _ cLz
                have m2 := cell_of_row _ _ 2 _ _ _ cLz
                have m3 := cell_of_row _ _ 3 _ _ _ cLz
                have m4 := cell_of_row _ _ 4 _ _ _ cLz
                clear cLz
                go_wp2_with fail
                refine CL.out.mono ?_
                rintro e w25 ⟨cv, rfl, hcv, hb25⟩
                obtain ⟨ca, cc, _, _, rfl, _⟩ := hcv.at
                have hbo := HBO.out.trans (hb25.mono HBO.out.size)
                have tc := total_any _ _ w25 hcv HBC.out (by omega)
                have hlA : (lackL g hs devs).length ≤ 1000 := by rw [HLN.out]; omega
                have hbdA := totL_bd (lackL g hs devs) HBA.out
                rw [HLN.out] at hbdA
                have ta := total_any _ _ w25 (HA12.out.below hbo) HBA.out hlA
                change Calls Try.prog 35 _ w25 (fun e w' => e = .returned (.int .i64 (totL (lackL (plG g (.slice v23 l23 c23) (F.eraseIdx (g.ps.length + i))) hs []))) ∧ w25 = w') at tc
                change Calls Try.prog 35 _ w25 (fun e w' => e = .returned (.int .i64 (totL (lackL g hs devs))) ∧ w25 = w') at ta
                rw [hlt] at tc
                have TC := Lib.hid tc
                have TA := Lib.hid ta
                clear tc ta hlt hlc HLT hlA m0 m1 m2 m3 m4 hcv CL
                generalize totL (lackL g hs devs) = st at *
                have kw : IntKind.i64.wrap (st + 1) = st + 1 := wraps_i64 _ (by omega) (by omega)
                have kq : ((st + 1) != (st + 1)) = false := by simp
                go_wp2_with fail
                refine TC.out.mono ?_
                rintro e w26 ⟨rfl, rfl⟩
                go_wp2_with fail
                refine TA.out.mono ?_
                rintro e w27 ⟨rfl, rfl⟩
                go_wp2
                go_roundg go
                case measure => omega
                case rel => exact ⟨i + 1, by omega, by go_num, hbo⟩

end Go.Proofs.Ytapjgjjmlbhanaa
