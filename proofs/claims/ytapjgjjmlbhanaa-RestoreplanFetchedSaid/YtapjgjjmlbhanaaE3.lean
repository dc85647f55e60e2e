/- Lacks of the reference. -/
import Derived.Test.YtapjgjjmlbhanaaP1
import Derived.Test.YtapjgjjmlbhanaaA1
import Derived.Test.YtapjgjjmlbhanaaB6
import Derived.StillTailTactics
namespace Go.Proofs.Ytapjgjjmlbhanaa
open Go.RowKit Go.Lib

theorem quiet_same3 {P : Program} {f : FuncId} {args : Array Value} {w : World} {x : Nat} {v : Value} (h : Calls P f args (w.drewN x) fun e w' => e = .returned v ∧ w.drewN x = w') : Calls P f args (w.drewN x) fun e w' => e = .returned v ∧ ∃ n, w' = w.drewN n :=
  h.mono fun _ _ ⟨he, hw⟩ => ⟨he, x, hw.symm⟩

/-- The first n holdings give it. -/
def gaveN (hs : List Hd) (devs : List Int) (q : Hd → Bool) (o : Bool) : Nat → Bool
  | 0 => o
  | n + 1 => gaveN hs devs q o n || (decide ((hs.getD n default).dev ∈ devs) && q (hs.getD n default))
theorem gaveN_any (hs : List Hd) (devs : List Int) (q : Hd → Bool) (o : Bool) : ∀ n, n ≤ hs.length → gaveN hs devs q o n = (o || (hs.take n).any fun h => decide (h.dev ∈ devs) && q h)
  | 0, _ => by simp [gaveN]
  | n + 1, h => by
    rw [gaveN, gaveN_any hs devs q o n (by omega), List.take_succ_eq_append_getElem (by omega), List.any_append, List.any_cons, List.any_nil, Bool.or_false, Bool.or_assoc, getD_at _ _ _ (show n < hs.length by omega)]

set_option maxRecDepth 100000 in
set_option maxHeartbeats 8000000 in
theorem lacks_any (g : Gl) (hv dv : Value) (hs : List Hd) (devs : List Int) (w : World) (hg : GlAt w g) (hh : ReadsH w hv hs) (hd : ReadsI w dv devs) (h64 : g.ns.length ≤ 64) (hnd : ∀ n ∈ g.ns, NdOk n) (ht0 : 0 ≤ g.thr) (ht1 : g.thr ≤ 255) (hz : thereS g hs devs 0 = false) :
    Calls Try.prog 18 #[g.v, hv, dv] w fun e w' => ∃ v, e = .returned (.tuple #[v, .int .i64 (down g.thr (fun x => thereS g hs devs (x : Int)) 256), .int .i64 (if thereI g hs devs then 0 else 1)]) ∧
      ReadsI w' v ((List.range g.ns.length).map fun i => down (g.ns.getD i default).d (thereP g hs devs i) 16) ∧ Below w.heap.size w w' := by
  obtain ⟨S, hS⟩ : ∃ S : Nat → Int, S = fun n => down g.thr (fun x => thereS g hs devs (x : Int)) n := ⟨_, rfl⟩
  obtain ⟨I, hI⟩ : ∃ I : Bool, I = thereI g hs devs := ⟨_, rfl⟩
  obtain ⟨Nn, hN⟩ : ∃ Nn : Nat → Nat → Int, Nn = fun i k => down (g.ns.getD i default).d (thereP g hs devs i) k := ⟨_, rfl⟩
  have e1 : down g.thr (fun x => thereS g hs devs (x : Int)) 256 = S 256 := by rw [hS]
  have e2 : ((List.range g.ns.length).map fun i => down (g.ns.getD i default).d (thereP g hs devs i) 16) = (List.range g.ns.length).map fun i => Nn i 16 := by rw [hN]
  rw [e1, e2, ← hI]
  clear e1 e2
  have HS := Lib.hid hS
  have HI := Lib.hid hI
  have HN := Lib.hid hN
  have HZ := Lib.hid hz
  have HND := Lib.hid hnd
  have HG := Lib.hid hg
  have HH := Lib.hid hh
  have HD := Lib.hid hd
  clear hS hI hN hz hnd
  obtain ⟨gv, hgv⟩ : ∃ gv, gv = g := ⟨_, rfl⟩
  rw [← hgv] at HS HI HN HZ
  have HGV := Lib.hid hgv
  clear hgv
  obtain ⟨nv, thr, idx, pv, sv, ns, ps, ss⟩ := g
  simp only at ht0 ht1 h64
  obtain ⟨h1, h2, h3⟩ := hg
  simp only at h1 h2 h3
  obtain ⟨ao, c, b, off, rfl, hl1, hm1, hc1⟩ := h1.at
  obtain ⟨ao2, c2, b2, off2, rfl, hl2, hm2, hc2⟩ := hh.at
  have HC1 := Lib.hid hc1
  have HC2 := Lib.hid hc2
  have HP := Lib.hid h2
  have HSV := Lib.hid h3
  unfold Gl.v
  simp only
  clear hh hd hc1 hc2 h1 h2 h3
  obtain ⟨G, hG⟩ : ∃ G, G = w.heap.size := ⟨_, rfl⟩
  have HGG := Lib.hid hG
  go_enter Try.func18, Try.ntmps18
  go_wp2
  rw [← hG]
  clear hG
  have w0 : ((w.alloc (Obj.cells #[.slice ao ns.length c, .int .i64 thr, .bool idx, pv, sv] 37)).alloc (Obj.cells #[] 3)).heap[G]? = some (.cells #[.slice ao ns.length c, .int .i64 thr, .bool idx, pv, sv] 37 (0, 0)) := by
    rw [HGG.out, Below.heap_alloc _ _ _ (by rw [World.size_alloc]; omega)]; exact heap_alloc_last w _
  have o0 : Own ((w.alloc (Obj.cells #[.slice ao ns.length c, .int .i64 thr, .bool idx, pv, sv] 37)).alloc (Obj.cells #[] 3)) (G + 1) 3 (.slice (some ⟨G + 1, 0, none⟩) 0 0) 1 0 (fun i _ => .int .i64 (Nn i 16)) := by
    have := Own.lit0 (w.alloc (Obj.cells #[.slice ao ns.length c, .int .i64 thr, .bool idx, pv, sv] 37)) (G + 1) 3 1 (fun i _ => .int .i64 (Nn i 16)) (by rw [World.size_alloc, HGG.out]; exact Nat.le_refl _)
    rw [World.size_alloc, ← HGG.out] at this
    exact this
  have b0 : Below w.heap.size w ((w.alloc (Obj.cells #[.slice ao ns.length c, .int .i64 thr, .bool idx, pv, sv] 37)).alloc (Obj.cells #[] 3)) := by (repeat' (first | (with_reducible exact Below.refl _ _) | (with_reducible assumption) | (with_reducible refine Below.alloc ?_ ?_ _) | (with_reducible refine Below.drew ?_) | (with_reducible refine below_drewN ?_ _) | (with_reducible refine Below.setCell ?_ ?_ _) | (with_reducible refine below_step ?_ (by with_reducible assumption) ?_) | go_size))
  have s0 : G + 2 ≤ ((w.alloc (Obj.cells #[.slice ao ns.length c, .int .i64 thr, .bool idx, pv, sv] 37)).alloc (Obj.cells #[] 3)).heap.size := by rw [World.size_alloc, World.size_alloc, HGG.out]; exact Nat.le_refl _
  generalize (w.alloc (Obj.cells #[.slice ao ns.length c, .int .i64 thr, .bool idx, pv, sv] 37)).alloc (Obj.cells #[] 3) = W0 at w0 o0 b0 s0 ⊢
  have W00 := Lib.hid w0
  have O00 := Lib.hid o0
  have gge : w.heap.size ≤ G := by rw [HGG.out]; exact Nat.le_refl _
  clear w0 o0
  go_loopw [9, 10, 11, 12, 13, 14, 15] (fun v9 v10 _ _ _ _ _ wr => ∃ j : Nat, j ≤ ns.length ∧ v10 = .int .i64 j ∧ Below w.heap.size w wr ∧ G + 2 ≤ wr.heap.size ∧ wr.heap[G]? = some (.cells #[.slice ao ns.length c, .int .i64 thr, .bool idx, pv, sv] 37 (0, 0)) ∧ Own wr (G + 1) 3 v9 1 j (fun i _ => .int .i64 (Nn i 16))) (fun _ v10 _ _ _ _ _ _ => ns.length - (intOf v10).toNat)
  case atStart => exact ⟨0, Nat.zero_le _, rfl, b0, s0, W00.out, O00.out⟩
  case round =>
    obtain ⟨j, hj, rfl, hbel, hsz, hgo, hown⟩ := hrel
    have d0 := cell_of_row wr _ 0 _ _ _ hgo
    have HGO := Lib.hid hgo
    have HO := Lib.hid hown
    clear hgo hown
    by_cases hlt : j < ns.length
    · obtain ⟨q1, q2, q3⟩ := HC1.out j hlt
      subst q1
      have Q2 := Lib.hid q2
      rw [← hbel.cell (p := ⟨b, _, none⟩) (cell_lt q2)] at q2
      rw [← hbel.cell (p := ⟨b, _, none⟩) (cell_lt q3)] at q3
      have hdk := HND.out (ns.getD j default) (by rw [getD_at _ _ _ hlt]; exact List.getElem_mem hlt)
      have n0 : Nn j 0 = (ns.getD j default).d := by rw [HN.out, HGV.out]; rfl
      have nst : ∀ k, Nn j (k + 1) = if thereP gv hs devs j k = true ∧ 0 < Nn j k then Nn j k - 1 else Nn j k := fun k => by rw [HN.out]; rfl
      have hbd : ∀ k, 0 ≤ Nn j k ∧ Nn j k ≤ 8 := fun k => by
        induction k with
        | zero => rw [n0]; exact ⟨by have := hdk.1; omega, hdk.2⟩
        | succ k ih => rw [nst]; split <;> omega
      have tst : ∀ k : Nat, thereP gv hs devs j k = gaveN hs devs (fun h => decide ((⟨(ns.getD j default).st, k⟩ : Pc) ∈ h.ps)) (decide ((⟨(ns.getD j default).st, k⟩ : Pc) ∈ ps)) hs.length := fun k => by
        rw [gaveN_any _ _ _ _ _ (Nat.le_refl _), List.take_length, HGV.out]; rfl
      have N0 := Lib.hid n0
      have NST := Lib.hid nst
      have HBD := Lib.hid hbd
      have TST := Lib.hid tst
      rw [← N0.out] at q3
      clear hdk n0 nst hbd tst
      generalize (ns.getD j default).st = st at *
      generalize (ns.getD j default).d = dd at *
      go_wp2
      go_loopw [11, 12, 13, 14, 15] (fun v11 v12 _ _ _ wq => ∃ k : Nat, k ≤ 16 ∧ v12 = .int .i64 k ∧ v11 = .int .i64 (Nn j k) ∧ Below wr.heap.size wr wq) (fun _ v12 _ _ _ _ => 16 - (intOf v12).toNat)
      case atStart => exact ⟨0, by omega, rfl, rfl, Below.refl _ _⟩
      case round =>
        obtain ⟨k, hk, rfl, rfl, hbq⟩ := hrel
        have hbelq : Below w.heap.size w wr := hbel.trans (hbq.mono hbel.size)
        have zq := hbelq.size
        have hgq := (hbq.block G (by omega)).trans HGO.out
        by_cases hk16 : k < 16
        · have x0 := cell_of_row wr _ 0 _ _ _ hgq
          have x3 := cell_of_row wr _ 3 _ _ _ hgq
          have y2 := (hbelq.cell (p := ⟨b, _, none⟩) (cell_lt Q2.out)).trans Q2.out
          have TK := Lib.hid (TST.out k)
          have NK := Lib.hid (NST.out k)
          have hbk := HBD.out k
          have bV : Below wr.heap.size wr (wr.alloc (.cells #[.string st, .int .i64 k] 68)) := (Below.refl _ _).alloc (Nat.le_refl _) _
          have bVw := hbelq.trans (bV.mono zq)
          have v0 := cell_of_row _ _ 0 _ _ _ (heap_alloc_last wr (.cells #[.string st, .int .i64 k] 68))
          have v1 := cell_of_row _ _ 1 _ _ _ (heap_alloc_last wr (.cells #[.string st, .int .i64 k] 68))
          have v3 := (bV.cell (p := ⟨G, 3, none⟩) (cell_lt x3)).trans x3
          have hVb := heap_alloc_last wr (.cells #[.string st, .int .i64 k] 68)
          have CH := Lib.hid (has_any pv ps ⟨st, k⟩ _ (HP.out.below bVw))
          unfold Pc.v at CH
          simp only at CH
          have HGQ := Lib.hid hgq
          have HVB := Lib.hid hVb
          have hm0 : gaveN hs devs (fun h => decide ((⟨st, k⟩ : Pc) ∈ h.ps)) (decide ((⟨st, k⟩ : Pc) ∈ ps)) 0 = decide ((⟨st, k⟩ : Pc) ∈ ps) := rfl
          rw [← hm0] at CH
          have hgs : ∀ n, gaveN hs devs (fun h => decide ((⟨st, k⟩ : Pc) ∈ h.ps)) (decide ((⟨st, k⟩ : Pc) ∈ ps)) (n + 1) = (gaveN hs devs (fun h => decide ((⟨st, k⟩ : Pc) ∈ h.ps)) (decide ((⟨st, k⟩ : Pc) ∈ ps)) n || (decide ((hs.getD n default).dev ∈ devs) && decide ((⟨st, k⟩ : Pc) ∈ (hs.getD n default).ps))) := fun n => rfl
          have HGS := Lib.hid hgs
          clear hgq hVb hm0 hgs
          generalize gaveN hs devs (fun h => decide ((⟨st, k⟩ : Pc) ∈ h.ps)) (decide ((⟨st, k⟩ : Pc) ∈ ps)) = gav at *
          go_wp2_with fail
          obtain ⟨X, hX⟩ : ∃ X, X = wr.heap.size := ⟨_, rfl⟩
          rw [← hX] at v0 v1 HVB ⊢
          have HX := Lib.hid hX
          clear hX
          generalize wr.alloc (Obj.cells #[.string st, .int .i64 k] 68) = V at bV bVw v0 v1 v3 CH HVB ⊢
          refine CH.out.mono ?_
          rintro e w5 ⟨rfl, hb5⟩
          have b5 : Below w.heap.size w w5 := bVw.trans (hb5.mono bVw.size)
          have b5r : Below wr.heap.size wr w5 := bV.trans (hb5.mono bV.size)
          have p5 := (hb5.block X (Array.getElem?_eq_some_iff.1 HVB.out).1).trans HVB.out
          have P5 := Lib.hid p5
          clear p5 hb5 bV bVw v0 v1 v3 CH HVB x0 x3 y2
          go_wp2
          go_loopw [14, 15] (fun v14 v15 wz => ∃ n : Nat, n ≤ hs.length ∧ v15 = .int .i64 n ∧ v14 = .bool (gav n) ∧ Below w5.heap.size w5 wz) (fun _ v15 _ => hs.length - (intOf v15).toNat)
          case atStart => exact ⟨0, Nat.zero_le _, rfl, rfl, Below.refl _ _⟩
          case round =>
            obtain ⟨n, hn, rfl, rfl, hbz⟩ := hrel
            have hbelz : Below w.heap.size w wr := b5.trans (hbz.mono b5.size)
            have pz := (hbz.block X (Array.getElem?_eq_some_iff.1 P5.out).1).trans P5.out
            have p0 := cell_of_row _ _ 0 _ _ _ pz
            have p1 := cell_of_row _ _ 1 _ _ _ pz
            by_cases hnl : n < hs.length
            · obtain ⟨q1, g2, g3, g4, g5, hat⟩ := HC2.out n hnl
              subst q1
              have z2 := (hbelz.cell (p := ⟨b2, _, none⟩) (cell_lt g2)).trans g2
              have z3 := (hbelz.cell (p := ⟨b2, _, none⟩) (cell_lt g3)).trans g3
              have hst := HGS.out n
              have CC := Lib.hid (fun W (h : Below w.heap.size w W) => contains_any dv devs (hs.getD n default).dev W (HD.out.below h))
              have CH := Lib.hid (fun W (h : Below w.heap.size w W) => has_any (hs.getD n default).pv (hs.getD n default).ps ⟨st, k⟩ W (hat.1.below h))
              unfold Pc.v at CH
              simp only at CH
              have HST := Lib.hid hst
              have P0 := Lib.hid p0
              clear hst pz g2 g3 g4 g5 hat
              generalize (hs.getD n default).dev = dev at *
              generalize (hs.getD n default).pv = ypv at *
              generalize (hs.getD n default).ps = yps at *
              generalize hgn : gav n = o at HST ⊢
              clear hgn
              cases o
              · by_cases hm : dev ∈ devs
                · rw [decide_eq_true hm] at CC HST
                  have HNX := Lib.hid (show gav (n + 1) = decide ((⟨st, k⟩ : Pc) ∈ yps) by rw [HST.out]; rfl)
                  clear hm HST
                  go_wp2_with fail
                  refine wp_region_still_tail 16 (by kernel_rfl) (by kernel_rfl) ?_
                  simp only [List.take_succ_cons, List.take_zero, List.drop_succ_cons, List.drop_zero]
                  repeat still_step
                  still_call ((CC.out _ hbelz.drew).mono fun e w' h => ⟨h.1, h.2.symm⟩)
                  repeat still_step
                  refine wpStill_nil ?_
                  change wpList _ _ _ _ _ wr.drew
                  have bd := hbelz.drew
                  have bzd : Below w5.heap.size w5 wr.drew := hbz.drew
                  generalize decide ((⟨st, k⟩ : Pc) ∈ yps) = o at CH HNX
                  generalize wr.drew = w2 at bd bzd ⊢
                  go_wp2_with fail
                  refine (CH.out _ bd).mono ?_
                  rintro e w7 ⟨rfl, hb7⟩
                  have hb7' := bzd.trans (hb7.mono bzd.size)
                  go_wp2
                  go_roundw
                  case rel => exact ⟨n + 1, by omega, by go_num, by rw [HNX.out], hb7'⟩
                  case measure => simp [intOf]; omega
                · rw [decide_eq_false hm] at CC HST
                  have HNX := Lib.hid (show gav (n + 1) = false by rw [HST.out]; rfl)
                  clear hm HST CH
                  go_wp2_with fail
                  go_quiet ((go_at_call 37; exact quiet_same3 (CC.out _ (below_drewN hbelz _))))
                  go_wp2
                  go_roundw
                  case rel => exact ⟨n + 1, by omega, by go_num, by rw [HNX.out], below_drewN hbz _⟩
                  case measure => simp [intOf]; omega
              · have HNX := Lib.hid (show gav (n + 1) = true by rw [HST.out]; rfl)
                clear HST CH CC
                go_wp2_with fail
                go_quiet (fail)
                go_wp2
                go_roundw
                case rel => exact ⟨n + 1, by omega, by go_num, by rw [HNX.out], below_drewN hbz _⟩
                case measure => simp [intOf]; omega
            · have hnn : n = hs.length := by omega
              subst hnn
              have bfin := hbq.trans ((b5r.trans (hbz.mono b5r.size)).mono hbq.size)
              have hth := TK.out.symm
              generalize gav hs.length = o at hth ⊢
              generalize hy : Nn j k = y at hbk ⊢
              have NKK := NK.out
              rw [← hth, hy] at NKK
              have NX := Lib.hid NKK
              clear hth hy NKK
              cases o
              · have HNX := Lib.hid (show Nn j (k + 1) = y by rw [NX.out, if_neg (by simp)])
                go_wp2
                go_roundw
                case rel => exact ⟨k + 1, by omega, by go_num, by rw [HNX.out], bfin⟩
                case measure => simp [intOf]; omega
              · by_cases hy0 : 0 < y
                · have HNX := Lib.hid (show Nn j (k + 1) = y - 1 by rw [NX.out, if_pos ⟨rfl, hy0⟩])
                  go_wp2
                  go_roundw
                  case rel => exact ⟨k + 1, by omega, by go_num, by rw [HNX.out], bfin⟩
                  case measure => simp [intOf]; omega
                · have HNX := Lib.hid (show Nn j (k + 1) = y by rw [NX.out, if_neg (fun h => hy0 h.2)])
                  go_wp2
                  go_roundw
                  case rel => exact ⟨k + 1, by omega, by go_num, by rw [HNX.out], bfin⟩
                  case measure => simp [intOf]; omega
        · have hkk : k = 16 := by omega
          subst hkk
          have ownq := HO.out.below hbq
          have szq : G + 1 ≤ wr.heap.size := by have := hbq.size; omega
          obtain ⟨v3, w3, r3, o1, o2, o3, o4, o5⟩ := Own.append (V := wr) (t := 24) (e := 3) (z := .int .i64 0) (k := 1) (bytes := 8) Try.underlying24 (by kernel_rfl) rfl (by omega) (by omega) ownq 24 [.int .i64 (Nn j 16)] rfl (fun q hq => by
            obtain rfl : q = 0 := by omega
            rfl) (by
            intro x hx
            simp at hx
            subst hx
            rfl) (by omega) szq
          have hb1 : u9.ownBlock ≠ some G := fun e => by have := (ownq.lt _ e).1; omega
          have g3 := (o3 G (by omega) hb1).trans hgq
          have bel3 : Below w.heap.size w w3 := hbelq.trans (o2.mono (by omega))
          have s3 : G + 2 ≤ w3.heap.size := by have := hbq.size; omega
          obtain ⟨a3, l3, c3, rfl⟩ := o1.slice
          have O1 := Lib.hid o1
          have G3 := Lib.hid g3
          rw [show ((16 : Nat) : Int) = 16 from rfl]
          clear o1 o2 o3 o4 g3 hb1 ownq hgq
          go_wp2_with (at_builtin; refine wpList_append_run (by rfl) (.tmp 84) (.tmp 86) 24 (by rfl) _ (.slice (some ⟨wr.heap.size, 0, none⟩) 1 1) (.slice a3 l3 c3) w3 (by rfl) (by rfl) r3 ?_)
          go_roundw
          case rel => exact ⟨j + 1, by omega, by go_num, bel3, s3, G3.out, O1.out⟩
          case measure => simp [intOf]; omega
    · have hjl : j = ns.length := by omega
      subst hjl
      have d1 := cell_of_row _ _ 1 _ _ _ HGO.out
      have d2 := cell_of_row _ _ 2 _ _ _ HGO.out
      have d4 := cell_of_row _ _ 4 _ _ _ HGO.out
      have s0' : S 1 = thr := by
        rw [HS.out]
        show (if thereS gv hs devs ((0 : Nat) : Int) = true ∧ _ then _ else _) = thr
        rw [if_neg (by rw [show ((0 : Nat) : Int) = 0 from rfl, HZ.out]; simp), HGV.out]
        rfl
      have sst : ∀ n : Nat, S (n + 1) = if thereS gv hs devs (n : Int) = true ∧ 0 < S n then S n - 1 else S n := fun n => by rw [HS.out]; rfl
      have sbd : ∀ n, 0 ≤ S n ∧ S n ≤ 255 := fun n => by
        induction n with
        | zero => rw [HS.out]; show 0 ≤ gv.thr ∧ gv.thr ≤ 255; rw [HGV.out]; exact ⟨ht0, ht1⟩
        | succ n ih => rw [sst]; split <;> omega
      have S1 := Lib.hid s0'
      have SST := Lib.hid sst
      have SBD := Lib.hid sbd
      rw [← S1.out] at d1
      clear s0' sst sbd ht0 ht1
      go_wp2
      go_loopw [16, 17, 18, 19] (fun v16 v17 _ _ wq => ∃ x : Nat, 1 ≤ x ∧ x ≤ 256 ∧ v17 = .int .i64 x ∧ v16 = .int .i64 (S x) ∧ Below wr.heap.size wr wq) (fun _ v17 _ _ _ => 256 - (intOf v17).toNat)
      case atStart => exact ⟨1, by omega, by omega, rfl, rfl, Below.refl _ _⟩
      case round =>
        obtain ⟨x, hx1, hx2, rfl, rfl, hbq⟩ := hrel
        have hbelq : Below w.heap.size w wr := hbel.trans (hbq.mono hbel.size)
        have zq := hbelq.size
        have hgq := (hbq.block G (by omega)).trans HGO.out
        by_cases hlx : x < 256
        · have x4 := cell_of_row wr _ 4 _ _ _ hgq
          have CX := Lib.hid (contains_any sv ss x wr (HSV.out.below hbelq))
          have hm0 : gaveN hs devs (fun h => decide ((x : Int) ∈ h.ss)) (decide ((x : Int) ∈ ss)) 0 = decide ((x : Int) ∈ ss) := rfl
          rw [← hm0] at CX
          have hgs : ∀ n, gaveN hs devs (fun h => decide ((x : Int) ∈ h.ss)) (decide ((x : Int) ∈ ss)) (n + 1) = (gaveN hs devs (fun h => decide ((x : Int) ∈ h.ss)) (decide ((x : Int) ∈ ss)) n || (decide ((hs.getD n default).dev ∈ devs) && decide ((x : Int) ∈ (hs.getD n default).ss))) := fun n => rfl
          have htx : thereS gv hs devs (x : Int) = gaveN hs devs (fun h => decide ((x : Int) ∈ h.ss)) (decide ((x : Int) ∈ ss)) hs.length := by
            rw [gaveN_any _ _ _ _ _ (Nat.le_refl _), List.take_length, HGV.out]; rfl
          have HGS := Lib.hid hgs
          have TK := Lib.hid htx
          have SX := Lib.hid (SST.out x)
          have hbk := SBD.out x
          clear hm0 hgs htx hgq
          generalize gaveN hs devs (fun h => decide ((x : Int) ∈ h.ss)) (decide ((x : Int) ∈ ss)) = gav at *
          go_wp2_with fail
          refine CX.out.mono ?_
          rintro e w5 ⟨rfl, rfl⟩
          clear x4
          go_wp2
          go_loopw [18, 19] (fun v18 v19 wz => ∃ n : Nat, n ≤ hs.length ∧ v19 = .int .i64 n ∧ v18 = .bool (gav n) ∧ Below wr.heap.size wr wz) (fun _ v19 _ => hs.length - (intOf v19).toNat)
          case atStart => exact ⟨0, Nat.zero_le _, rfl, rfl, Below.refl _ _⟩
          case round =>
            obtain ⟨n, hn, rfl, rfl, hbz⟩ := hrel
            have hbelz : Below w.heap.size w wr := hbelq.trans (hbz.mono zq)
            by_cases hnl : n < hs.length
            · obtain ⟨q1, g2, g3, g4, g5, hat⟩ := HC2.out n hnl
              subst q1
              have z2 := (hbelz.cell (p := ⟨b2, _, none⟩) (cell_lt g2)).trans g2
              have z4 := (hbelz.cell (p := ⟨b2, _, none⟩) (cell_lt g4)).trans g4
              have hst := HGS.out n
              have CC := Lib.hid (fun W (h : Below w.heap.size w W) => contains_any dv devs (hs.getD n default).dev W (HD.out.below h))
              have CH := Lib.hid (fun W (h : Below w.heap.size w W) => contains_any (hs.getD n default).sv (hs.getD n default).ss x W (hat.2.below h))
              have HST := Lib.hid hst
              clear hst g2 g3 g4 g5 hat
              generalize (hs.getD n default).dev = dev at *
              generalize (hs.getD n default).sv = ysv at *
              generalize (hs.getD n default).ss = yss at *
              generalize hgn : gav n = o at HST ⊢
              clear hgn
              cases o
              · by_cases hm : dev ∈ devs
                · rw [decide_eq_true hm] at CC HST
                  have HNX := Lib.hid (show gav (n + 1) = decide ((x : Int) ∈ yss) by rw [HST.out]; rfl)
                  generalize decide ((x : Int) ∈ yss) = o at CH HNX
                  clear hm HST
                  go_wp2_with fail
                  refine (CC.out _ hbelz).mono ?_
                  rintro e w7 ⟨rfl, rfl⟩
                  go_wp2_with fail
                  refine (CH.out _ hbelz).mono ?_
                  rintro e w7 ⟨rfl, rfl⟩
                  go_wp2
                  go_roundw
                  case rel => exact ⟨n + 1, by omega, by go_num, by rw [HNX.out], hbz⟩
                  case measure => simp [intOf]; omega
                · rw [decide_eq_false hm] at CC HST
                  have HNX := Lib.hid (show gav (n + 1) = false by rw [HST.out]; rfl)
                  clear hm HST CH
                  go_wp2_with fail
                  refine (CC.out _ hbelz).mono ?_
                  rintro e w7 ⟨rfl, rfl⟩
                  go_wp2
                  go_roundw
                  case rel => exact ⟨n + 1, by omega, by go_num, by rw [HNX.out], hbz⟩
                  case measure => simp [intOf]; omega
              · have HNX := Lib.hid (show gav (n + 1) = true by rw [HST.out]; rfl)
                clear HST CH CC
                go_wp2
                go_roundw
                case rel => exact ⟨n + 1, by omega, by go_num, by rw [HNX.out], hbz⟩
                case measure => simp [intOf]; omega
            · have hnn : n = hs.length := by omega
              subst hnn
              have bfin := hbq.trans (hbz.mono hbq.size)
              have hth := TK.out.symm
              generalize gav hs.length = o at hth ⊢
              generalize hy : S x = y at hbk ⊢
              have NKK := SX.out
              rw [← hth, hy] at NKK
              have NX := Lib.hid NKK
              clear hth hy NKK
              cases o
              · have HNX := Lib.hid (show S (x + 1) = y by rw [NX.out, if_neg (by simp)])
                go_wp2
                go_roundw
                case rel => exact ⟨x + 1, by omega, by omega, by go_num, by rw [HNX.out], bfin⟩
                case measure => simp [intOf]; omega
              · by_cases hy0 : 0 < y
                · have HNX := Lib.hid (show S (x + 1) = y - 1 by rw [NX.out, if_pos ⟨rfl, hy0⟩])
                  go_wp2
                  go_roundw
                  case rel => exact ⟨x + 1, by omega, by omega, by go_num, by rw [HNX.out], bfin⟩
                  case measure => simp [intOf]; omega
                · have HNX := Lib.hid (show S (x + 1) = y by rw [NX.out, if_neg (fun h => hy0 h.2)])
                  go_wp2
                  go_roundw
                  case rel => exact ⟨x + 1, by omega, by omega, by go_num, by rw [HNX.out], bfin⟩
                  case measure => simp [intOf]; omega
        · have hx256 : x = 256 := by omega
          subst hx256
          rw [show ((256 : Nat) : Int) = 256 from rfl]
          have x2 := cell_of_row wr _ 2 _ _ _ hgq
          have hi0 : gaveN hs devs Hd.idx (!idx) 0 = !idx := rfl
          have hgs : ∀ n, gaveN hs devs Hd.idx (!idx) (n + 1) = (gaveN hs devs Hd.idx (!idx) n || (decide ((hs.getD n default).dev ∈ devs) && (hs.getD n default).idx)) := fun n => rfl
          have hfin : I = gaveN hs devs Hd.idx (!idx) hs.length := by
            rw [gaveN_any _ _ _ _ _ (Nat.le_refl _), List.take_length, HI.out, HGV.out]; rfl
          have HI0 := Lib.hid hi0
          have HGS := Lib.hid hgs
          have HFN := Lib.hid hfin
          clear hi0 hgs hfin hgq
          generalize gaveN hs devs Hd.idx (!idx) = gav at *
          have ownq := HO.out.below hbq
          have HOQ := Lib.hid ownq
          clear ownq
          cases idx
          all_goals
            go_wp2
            go_loop [20, 21] (fun v20 v21 => ∃ n : Nat, n ≤ hs.length ∧ v21 = .int .i64 n ∧ v20 = .int .i64 (if gav n then 0 else 1)) (fun _ v21 => hs.length - (intOf v21).toNat)
            case atStart => exact ⟨0, Nat.zero_le _, rfl, by rw [HI0.out]; rfl⟩
            case round =>
              obtain ⟨n, hn, rfl, rfl⟩ := hrel
              by_cases hnl : n < hs.length
              · obtain ⟨q1, g2, g3, g4, g5, _⟩ := HC2.out n hnl
                subst q1
                have z2 := (hbelq.cell (p := ⟨b2, _, none⟩) (cell_lt g2)).trans g2
                have z5 := (hbelq.cell (p := ⟨b2, _, none⟩) (cell_lt g5)).trans g5
                have hst := HGS.out n
                have CC := Lib.hid (contains_any dv devs (hs.getD n default).dev wr (HD.out.below hbelq))
                have HST := Lib.hid hst
                clear hst g2 g3 g4 g5
                generalize (hs.getD n default).dev = dev at *
                generalize (hs.getD n default).idx = yix at *
                generalize hgn : gav n = o at HST ⊢
                clear hgn
                cases o
                all_goals
                  by_cases hm : dev ∈ devs
                  · rw [decide_eq_true hm] at CC HST
                    clear hm
                    go_wp2_with fail
                    refine CC.out.mono ?_
                    rintro e w7 ⟨rfl, rfl⟩
                    cases yix
                    all_goals
                      go_wp2
                      go_round
                      case rel => exact ⟨n + 1, by omega, by go_num, by rw [HST.out]; rfl⟩
                      case measure => simp [intOf]; omega
                  · rw [decide_eq_false hm] at CC HST
                    clear hm
                    go_wp2_with fail
                    refine CC.out.mono ?_
                    rintro e w7 ⟨rfl, rfl⟩
                    go_wp2
                    go_round
                    case rel => exact ⟨n + 1, by omega, by go_num, by rw [HST.out]; rfl⟩
                    case measure => simp [intOf]; omega
              · have hnn : n = hs.length := by omega
                subst hnn
                have hff := HFN.out
                generalize gav hs.length = o at hff ⊢
                subst hff
                cases I
                all_goals
                  go_wp2
                  go_ret3
                  refine ⟨u9, rfl, ?_, hbelq⟩
                  have hrow := HOQ.out.row (by omega)
                  unfold ReadsI
                  rw [List.length_map, List.length_range]
                  exact hrow.congr fun i j hi hj => by rw [getD_at _ _ _ (by rw [List.length_map, List.length_range]; exact hi), List.getElem_map, List.getElem_range]

end Go.Proofs.Ytapjgjjmlbhanaa
