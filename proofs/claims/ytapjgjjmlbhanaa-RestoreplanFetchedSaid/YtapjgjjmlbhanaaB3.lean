/- Check of the program. -/
import Derived.Test.YtapjgjjmlbhanaaB2
namespace Go.Proofs.Ytapjgjjmlbhanaa
open Go.RowKit Go.Lib Go.ChangeMaps

set_option maxRecDepth 100000 in
set_option maxHeartbeats 4000000 in
theorem check_any (g : Gl) (v : Value) (hs : List Hd) (w : World) (hg : GlAt w g) (hv : ReadsH w v hs) :
    Calls Try.prog 36 #[g.v, v] w fun e w' => e = .returned (.int .i64 (if Ok g hs then 0 else 1)) ∧ Below w.heap.size w w' := by
  obtain ⟨r, hr⟩ : ∃ r : Int, r = if Ok g hs then 0 else 1 := ⟨_, rfl⟩
  rw [← hr]
  have hbad : ¬ Ok g hs → r = 1 := fun h => by rw [hr, if_neg h]
  have hgood : Ok g hs → r = 0 := fun h => by rw [hr, if_pos h]
  have HBAD := Lib.hid hbad
  have HGOOD := Lib.hid hgood
  clear hr hbad hgood
  obtain ⟨nv, thr, idx, pv, sv, ns, ps, ss⟩ := g
  obtain ⟨hN, hP, hS⟩ := hg
  simp only at hN hP hS
  obtain ⟨ao, c, b, off, rfl, hl, hm, hcell⟩ := hv.at
  obtain ⟨ao', c', b', off', rfl, hl', hm', hcell'⟩ := hN.at
  have HC := Lib.hid hcell
  have HN := Lib.hid hcell'
  have HP := Lib.hid hP
  have HS := Lib.hid hS
  clear hcell hcell' hv hN hP hS
  unfold Gl.v
  have hmm := @run_makeMap Try.prog
  by_cases f1 : 64 < ns.length
  · obtain rfl := HBAD.out fun h => by have := h.1.1; simp only at this; omega
    go_enter Try.func36, Try.ntmps36
    go_wp2
    go_ret
    exact ⟨rfl, by (repeat' (first | (with_reducible exact Below.refl _ _) | (with_reducible assumption) | (with_reducible refine Below.alloc ?_ ?_ _) | (with_reducible refine Below.drew ?_) | (with_reducible refine below_drewN ?_ _) | (with_reducible refine Below.setCell ?_ ?_ _) | (with_reducible refine below_step ?_ (by with_reducible assumption) ?_) | go_size))⟩
  by_cases f2 : thr < 0
  · obtain rfl := HBAD.out fun h => by have := h.1.2.1; simp only at this; omega
    go_enter Try.func36, Try.ntmps36
    go_wp2
    go_ret
    exact ⟨rfl, by (repeat' (first | (with_reducible exact Below.refl _ _) | (with_reducible assumption) | (with_reducible refine Below.alloc ?_ ?_ _) | (with_reducible refine Below.drew ?_) | (with_reducible refine below_drewN ?_ _) | (with_reducible refine Below.setCell ?_ ?_ _) | (with_reducible refine below_step ?_ (by with_reducible assumption) ?_) | go_size))⟩
  by_cases f3 : 255 < thr
  · obtain rfl := HBAD.out fun h => by have := h.1.2.1; simp only at this; omega
    go_enter Try.func36, Try.ntmps36
    go_wp2
    go_ret
    exact ⟨rfl, by (repeat' (first | (with_reducible exact Below.refl _ _) | (with_reducible assumption) | (with_reducible refine Below.alloc ?_ ?_ _) | (with_reducible refine Below.drew ?_) | (with_reducible refine below_drewN ?_ _) | (with_reducible refine Below.setCell ?_ ?_ _) | (with_reducible refine below_step ?_ (by with_reducible assumption) ?_) | go_size))⟩
  by_cases f4 : 12 < hs.length
  · obtain rfl := HBAD.out fun h => by have := h.1.2.2; omega
    go_enter Try.func36, Try.ntmps36
    go_wp2
    go_ret
    exact ⟨rfl, by (repeat' (first | (with_reducible exact Below.refl _ _) | (with_reducible assumption) | (with_reducible refine Below.alloc ?_ ?_ _) | (with_reducible refine Below.drew ?_) | (with_reducible refine below_drewN ?_ _) | (with_reducible refine Below.setCell ?_ ?_ _) | (with_reducible refine below_step ?_ (by with_reducible assumption) ?_) | go_size))⟩
  go_enter Try.func36, Try.ntmps36
  go_wp2
  obtain ⟨G, hG⟩ : ∃ G, G = w.heap.size := ⟨_, rfl⟩
  have HG := Lib.hid hG
  rw [← hG]
  clear hG
  go_loopw [38] (fun v38 wr => ∃ j : Nat, j ≤ ns.length ∧ v38 = .int .i64 j ∧ NdsOk (ns.take j) ∧ Below w.heap.size w wr ∧
      wr.heap[G + 1]? = some (mapObj (fun s : ByteArray => Value.string s) (setOf ((ns.take j).map Nd.st))) ∧
      wr.heap[G]? = some (.cells #[.slice ao' ns.length c', .int .i64 thr, .bool idx, pv, sv] 26 (0, 0))) (fun v38 _ => ns.length - (intOf v38).toNat)
  case atStart =>
    refine ⟨0, Nat.zero_le _, rfl, ⟨by simp, by simp⟩, by (repeat' (first | (with_reducible exact Below.refl _ _) | (with_reducible assumption) | (with_reducible refine Below.alloc ?_ ?_ _) | (with_reducible refine Below.drew ?_) | (with_reducible refine below_drewN ?_ _) | (with_reducible refine Below.setCell ?_ ?_ _) | (with_reducible refine below_step ?_ (by with_reducible assumption) ?_) | go_size)), ?_, ?_⟩
    · rw [HG.out]; have := heap_alloc_new (w.alloc (Obj.cells #[Value.slice ao' ns.length c', .int .i64 thr, .bool idx, pv, sv] 26)) (Obj.map #[] 0); rw [World.size_alloc] at this; exact this
    · rw [HG.out, Below.heap_alloc _ _ _ (by rw [World.size_alloc]; omega)]; exact heap_alloc_new _ _
  case round =>
    obtain ⟨j, hj, rfl, hok, hbel, hmap, hgo⟩ := hrel
    have HO := Lib.hid hok
    have HB := Lib.hid hmap
    have HGO := Lib.hid hgo
    have mlt := (Array.getElem?_eq_some_iff.1 hmap).1
    have zr := hbel.size
    have gge : w.heap.size ≤ G := by rw [HG.out]; exact Nat.le_refl _
    clear hok hmap
    by_cases hlt : j < ns.length
    · obtain ⟨e1, e2, e3⟩ := HN.out j hlt
      subst e1
      have hg := getD_at ns j default hlt
      have hs1 := ndsOk_snoc ns j hlt
      have ht := fun h => ndsOk_take (ns := ns) h (j + 1)
      have happ : ns.take (j + 1) = ns.take j ++ [ns[j]] := List.take_succ_eq_append_getElem hlt
      have HA := Lib.hid happ
      have HT := Lib.hid ht
      have HS1 := Lib.hid hs1
      rw [hg] at e2 e3
      rw [← hbel.cell (p := ⟨b', _, none⟩) (cell_lt e2)] at e2
      rw [← hbel.cell (p := ⟨b', _, none⟩) (cell_lt e3)] at e3
      clear hs1 hg ht happ hgo
      generalize ns[j] = y at e2 e3 HS1 HA
      obtain ⟨s, d⟩ := y
      have hlk : ∀ o, _ := fun o => key_str.lookup (tm := 129) (te := 123) Try.underlying129 (z := .agg #[]) (fun w => by kernel_rfl) (w := wr.alloc o) (r := G + 1) (L := setOf ((ns.take j).map Nd.st)) (by rw [Below.heap_alloc wr o _ mlt]; exact HB.out) s
      simp only at e2 e3 hlk
      rcases seekL_set s ((ns.take j).map Nd.st) with ⟨k1, _, k2⟩ | ⟨k1, k2⟩
      · rw [k2] at hlk
        obtain rfl := HBAD.out fun h => (HS1.out.1 (HT.out h.2.1)).2.2 k1
        clear k1 k2
        go_wp2
        go_ret
        exact ⟨rfl, by (repeat' (first | (with_reducible exact Below.refl _ _) | (with_reducible assumption) | (with_reducible refine Below.alloc ?_ ?_ _) | (with_reducible refine Below.drew ?_) | (with_reducible refine below_drewN ?_ _) | (with_reducible refine Below.setCell ?_ ?_ _) | (with_reducible refine below_step ?_ (by with_reducible assumption) ?_) | go_size))⟩
      · rw [k2] at hlk
        have HK := Lib.hid k1
        have hup : ∀ o o', _ := fun o o' => key_str.update (tm := 129) (te := 123) Try.underlying129 (w := (wr.alloc o).alloc o') (r := G + 1) (L := setOf ((ns.take j).map Nd.st))
          (by rw [Below.heap_alloc (wr.alloc o) o' _ (by rw [World.size_alloc]; omega), Below.heap_alloc wr o _ mlt]; exact HB.out) s (.agg #[]) (by rw [setOf_keys]; exact k1)
        have hnx : setOf ((ns.take j).map Nd.st) ++ [(s, Value.agg #[])] = setOf ((ns.take (j + 1)).map Nd.st) := by rw [HA.out]; simp [setOf]
        rw [hnx] at hup
        clear k1 k2 hnx
        by_cases q1 : d < 1
        · obtain rfl := HBAD.out fun h => by (have := (HS1.out.1 (HT.out h.2.1)).2.1.1; simp only at this; omega)
          clear hup
          go_wp2
          go_ret
          exact ⟨rfl, by (repeat' (first | (with_reducible exact Below.refl _ _) | (with_reducible assumption) | (with_reducible refine Below.alloc ?_ ?_ _) | (with_reducible refine Below.drew ?_) | (with_reducible refine below_drewN ?_ _) | (with_reducible refine Below.setCell ?_ ?_ _) | (with_reducible refine below_step ?_ (by with_reducible assumption) ?_) | go_size))⟩
        · by_cases q2 : 8 < d
          · obtain rfl := HBAD.out fun h => by (have := (HS1.out.1 (HT.out h.2.1)).2.1.2; simp only at this; omega)
            clear hup
            go_wp2
            go_ret
            exact ⟨rfl, by (repeat' (first | (with_reducible exact Below.refl _ _) | (with_reducible assumption) | (with_reducible refine Below.alloc ?_ ?_ _) | (with_reducible refine Below.drew ?_) | (with_reducible refine below_drewN ?_ _) | (with_reducible refine Below.setCell ?_ ?_ _) | (with_reducible refine below_step ?_ (by with_reducible assumption) ?_) | go_size))⟩
          · have hsz : ∀ o o', G + 1 < ((wr.alloc o).alloc o').heap.size := fun o o' => by (rw [World.size_alloc, World.size_alloc]; omega)
            go_wp2
            go_roundw
            case rel =>
              refine ⟨j + 1, by omega, by go_num, HS1.out.2 ⟨HO.out, ⟨by show 1 ≤ d; omega, by show d ≤ 8; omega⟩, HK.out⟩, below_setBlock (by (repeat' (first | (with_reducible exact Below.refl _ _) | (with_reducible assumption) | (with_reducible refine Below.alloc ?_ ?_ _) | (with_reducible refine Below.drew ?_) | (with_reducible refine below_drewN ?_ _) | (with_reducible refine Below.setCell ?_ ?_ _) | (with_reducible refine below_step ?_ (by with_reducible assumption) ?_) | go_size))) (by omega) _, by rw [List.map_take]; exact setBlock_at (hsz _ _) _, ?_⟩
              rw [setBlock_off _ _ (by omega), Below.heap_alloc _ _ _ (by rw [World.size_alloc]; omega), Below.heap_alloc _ _ _ (by omega)]
              exact HGO.out
            case measure => simp [intOf]; omega
    · have hjl : j = ns.length := by omega
      subst hjl
      have hn := HO.out
      rw [List.take_length] at hn
      have HNN := Lib.hid hn
      clear hn HO
      have d3 := cell_of_row wr _ 3 _ _ _ hgo
      have d4 := cell_of_row wr _ 4 _ _ _ hgo
      have CV := Lib.hid (validPieces_any pv ps wr (HP.out.below hbel))
      clear hgo
      by_cases kp : PcsOk ps
      · rw [decide_eq_true kp] at CV
        have KP := Lib.hid kp
        clear kp
        go_wp2_with fail
        refine CV.out.mono ?_
        rintro e w1 ⟨rfl, hb1⟩
        have z1 := hb1.size
        have dd4 := (hb1.cell (p := ⟨G, 4, none⟩) (by show G < _; omega)).trans d4
        have hb01 : Below w.heap.size w w1 := hbel.trans (hb1.mono zr)
        have CS := Lib.hid (validShares_any sv ss w1 (HS.out.below hb01))
        by_cases ks : ShOk ss
        · rw [decide_eq_true ks] at CS
          have KS := Lib.hid ks
          clear ks
          go_wp2_with fail
          refine CS.out.mono ?_
          rintro e w2 ⟨rfl, rfl⟩
          clear d3 d4 dd4 CV CS
          obtain ⟨M, hM⟩ : ∃ M, M = w1.heap.size := ⟨_, rfl⟩
          have HMM := Lib.hid hM
          go_wp2
          rw [← hM]
          clear hM
          go_loopw [78] (fun v78 wq => ∃ k : Nat, k ≤ hs.length ∧ v78 = .int .i64 k ∧ HdsOk (hs.take k) ∧ Below w.heap.size w wq ∧ wq.heap[M]? = some (mapObj (fun i : Int => Value.int .i64 i) (setOf ((hs.take k).map Hd.dev)))) (fun v78 _ => hs.length - (intOf v78).toNat)
          case atStart =>
            exact ⟨0, Nat.zero_le _, rfl, ⟨by simp, by simp⟩, hb01.alloc (by omega) _, by rw [HMM.out]; exact heap_alloc_new _ _⟩
          case round =>
            obtain ⟨k, hk, rfl, hok, hbel2, hmap⟩ := hrel
            have HO := Lib.hid hok
            have HB2 := Lib.hid hmap
            have mlt2 := (Array.getElem?_eq_some_iff.1 hmap).1
            have zq := hbel2.size
            have mge : w.heap.size ≤ M := by rw [HMM.out]; omega
            clear hok hmap
            by_cases hlt2 : k < hs.length
            · obtain ⟨e1, e2, e3, e4, e5, hat⟩ := HC.out k hlt2
              subst e1
              have hg := getD_at hs k default hlt2
              have hs1 := hdsOk_snoc hs k hlt2
              have ht := fun h => hdsOk_take (hs := hs) h (k + 1)
              have happ : hs.take (k + 1) = hs.take k ++ [hs[k]] := List.take_succ_eq_append_getElem hlt2
              have HA := Lib.hid happ
              have HT := Lib.hid ht
              have HS1 := Lib.hid hs1
              rw [hg] at e2 e3 e4 e5 hat
              rw [← hbel2.cell (p := ⟨b, _, none⟩) (cell_lt e2)] at e2
              rw [← hbel2.cell (p := ⟨b, _, none⟩) (cell_lt e3)] at e3
              rw [← hbel2.cell (p := ⟨b, _, none⟩) (cell_lt e4)] at e4
              rw [← hbel2.cell (p := ⟨b, _, none⟩) (cell_lt e5)] at e5
              have HAT := Lib.hid hat
              clear hs1 hg ht happ hat
              generalize hs[k] = y at e2 e3 e4 e5 HS1 HA HAT
              obtain ⟨dev, ypv, ysv, yidx, yps, yss⟩ := y
              obtain ⟨hpd, hsd⟩ := HAT.out
              simp only at hpd hsd
              clear HAT
              have hpd0 := hpd
              have hsd0 := hsd
              obtain ⟨pa, pc, _, _, rfl, _⟩ := hpd0.at
              obtain ⟨sa, sc, _, _, rfl, _⟩ := hsd0.at
              have HPD := Lib.hid hpd
              have HSD := Lib.hid hsd
              clear hpd hsd hpd0 hsd0
              have hlk : ∀ o, _ := fun o => key_int.lookup (tm := 122) (te := 123) Try.underlying122 (z := .agg #[]) (fun w => by kernel_rfl) (w := wr.alloc o) (r := M) (L := setOf ((hs.take k).map Hd.dev)) (by rw [Below.heap_alloc wr o _ mlt2]; exact HB2.out) dev
              simp only at e2 e3 e4 e5 hlk
              rcases seekL_set dev ((hs.take k).map Hd.dev) with ⟨k1, _, k2⟩ | ⟨k1, k2⟩
              · rw [k2] at hlk
                obtain rfl := HBAD.out fun h => (HS1.out.1 (HT.out h.2.2.2)).2.2 k1
                clear k1 k2
                go_wp2
                go_ret
                exact ⟨rfl, by (repeat' (first | (with_reducible exact Below.refl _ _) | (with_reducible assumption) | (with_reducible refine Below.alloc ?_ ?_ _) | (with_reducible refine Below.drew ?_) | (with_reducible refine below_drewN ?_ _) | (with_reducible refine Below.setCell ?_ ?_ _) | (with_reducible refine below_step ?_ (by with_reducible assumption) ?_) | go_size))⟩
              · rw [k2] at hlk
                have HK := Lib.hid k1
                have hup : ∀ o o', _ := fun o o' => key_int.update (tm := 122) (te := 123) Try.underlying122 (w := (wr.alloc o).alloc o') (r := M) (L := setOf ((hs.take k).map Hd.dev))
                  (by rw [Below.heap_alloc (wr.alloc o) o' _ (by rw [World.size_alloc]; omega), Below.heap_alloc wr o _ mlt2]; exact HB2.out) dev (.agg #[]) (by rw [setOf_keys]; exact k1)
                have hnx : setOf ((hs.take k).map Hd.dev) ++ [(dev, Value.agg #[])] = setOf ((hs.take (k + 1)).map Hd.dev) := by rw [HA.out]; simp [setOf]
                rw [hnx] at hup
                clear k1 k2 hnx
                by_cases q1 : dev < 0
                · obtain rfl := HBAD.out fun h => by (have := (HS1.out.1 (HT.out h.2.2.2)).2.1.1.1; simp only at this; omega)
                  clear hup
                  go_wp2
                  go_ret
                  exact ⟨rfl, by (repeat' (first | (with_reducible exact Below.refl _ _) | (with_reducible assumption) | (with_reducible refine Below.alloc ?_ ?_ _) | (with_reducible refine Below.drew ?_) | (with_reducible refine below_drewN ?_ _) | (with_reducible refine Below.setCell ?_ ?_ _) | (with_reducible refine below_step ?_ (by with_reducible assumption) ?_) | go_size))⟩
                · by_cases q2 : 12 ≤ dev
                  · obtain rfl := HBAD.out fun h => by (have := (HS1.out.1 (HT.out h.2.2.2)).2.1.1.2; simp only at this; omega)
                    clear hup
                    go_wp2
                    go_ret
                    exact ⟨rfl, by (repeat' (first | (with_reducible exact Below.refl _ _) | (with_reducible assumption) | (with_reducible refine Below.alloc ?_ ?_ _) | (with_reducible refine Below.drew ?_) | (with_reducible refine below_drewN ?_ _) | (with_reducible refine Below.setCell ?_ ?_ _) | (with_reducible refine below_step ?_ (by with_reducible assumption) ?_) | go_size))⟩
                  · have hsz : ∀ o o', ((wr.alloc o).alloc o').heap.size = wr.heap.size + 1 + 1 := fun o o' => by rw [World.size_alloc, World.size_alloc]
                    have CP := Lib.hid (validPieces_any (.slice pa yps.length pc) yps)
                    have CS := Lib.hid (validShares_any (.slice sa yss.length sc) yss)
                    clear HP HS
                    have hcx : ∀ (W : World) (X : Obj) (i : Nat), (setBlock W M X).cell? ⟨wr.heap.size, i, none⟩ = W.cell? ⟨wr.heap.size, i, none⟩ := fun W X i => World.cell?_of_block (setBlock_off W X (show wr.heap.size ≠ M by omega))
                    go_wp2_with fail
                    generalize hWq : setBlock _ M _ = Wq
                    have hbq : Below w.heap.size w Wq := by rw [← hWq]; exact below_setBlock (by (repeat' (first | (with_reducible exact Below.refl _ _) | (with_reducible assumption) | (with_reducible refine Below.alloc ?_ ?_ _) | (with_reducible refine Below.drew ?_) | (with_reducible refine below_drewN ?_ _) | (with_reducible refine Below.setCell ?_ ?_ _) | (with_reducible refine below_step ?_ (by with_reducible assumption) ?_) | go_size))) (by omega) _
                    have hmq : Wq.heap[M]? = some (mapObj (fun i : Int => Value.int .i64 i) (setOf ((hs.take (k + 1)).map Hd.dev))) := by rw [← hWq, List.map_take]; exact setBlock_at (by rw [hsz]; omega) _
                    have dq2 : Wq.cell? ⟨wr.heap.size, 2, none⟩ = some (.slice sa yss.length sc) := by
                      rw [← hWq, hcx]
                      refine (World.cell?_of_block (Below.heap_alloc _ _ wr.heap.size (by rw [World.size_alloc]; omega))).trans ?_
                      exact cell_of_row _ _ _ _ _ _ (heap_alloc_new wr _)
                    have hsq : wr.heap.size + 1 < Wq.heap.size := by rw [← hWq, setBlock_size, hsz]; omega
                    have HMQ := Lib.hid hmq
                    clear hWq hup hlk hsz hcx hmq
                    by_cases kp : PcsOk yps
                    · rw [decide_eq_true kp] at CP
                      have KPY := Lib.hid kp
                      clear kp
                      refine (CP.out Wq (HPD.out.below hbq)).mono ?_
                      rintro e w3 ⟨rfl, hb3⟩
                      have z3 := hb3.size
                      have dd2 := (hb3.cell (p := ⟨wr.heap.size, 2, none⟩) (by show wr.heap.size < _; omega)).trans dq2
                      have hbq3 : Below w.heap.size w w3 := hbq.trans (hb3.mono (by omega))
                      by_cases ks : ShOk yss
                      · rw [decide_eq_true ks] at CS
                        have KSY := Lib.hid ks
                        clear ks dq2
                        go_wp2_with fail
                        refine (CS.out w3 (HSD.out.below hbq3)).mono ?_
                        rintro e w4 ⟨rfl, rfl⟩
                        have hm3 : w3.heap[M]? = some (mapObj (fun i : Int => Value.int .i64 i) (setOf ((hs.take (k + 1)).map Hd.dev))) := by rw [hb3.block M (by omega)]; exact HMQ.out
                        have HM3 := Lib.hid hm3
                        clear hm3
                        go_wp2
                        go_roundw
                        case rel => exact ⟨k + 1, by omega, by go_num, HS1.out.2 ⟨HO.out, ⟨⟨by show 0 ≤ dev; omega, by show dev < 12; omega⟩, KPY.out, KSY.out⟩, HK.out⟩, hbq3, HM3.out⟩
                        case measure => simp [intOf]; omega
                      · rw [decide_eq_false ks] at CS
                        obtain rfl := HBAD.out fun h => ks (HS1.out.1 (HT.out h.2.2.2)).2.1.2.2
                        clear ks dq2
                        go_wp2_with fail
                        refine (CS.out w3 (HSD.out.below hbq3)).mono ?_
                        rintro e w4 ⟨rfl, rfl⟩
                        go_wp2
                        go_ret
                        exact ⟨rfl, hbq3⟩
                    · rw [decide_eq_false kp] at CP
                      obtain rfl := HBAD.out fun h => kp (HS1.out.1 (HT.out h.2.2.2)).2.1.2.1
                      clear kp dq2
                      refine (CP.out Wq (HPD.out.below hbq)).mono ?_
                      rintro e w3 ⟨rfl, hb3⟩
                      have hbq3 : Below w.heap.size w w3 := hbq.trans (hb3.mono (by omega))
                      go_wp2
                      go_ret
                      exact ⟨rfl, hbq3⟩
            · have hkl : k = hs.length := by omega
              subst hkl
              have hn := HO.out
              rw [List.take_length] at hn
              obtain rfl := HGOOD.out ⟨⟨by show ns.length ≤ 64; omega, ⟨by show 0 ≤ thr; omega, by show thr ≤ 255; omega⟩, by omega⟩, HNN.out, ⟨KP.out, KS.out⟩, hn⟩
              clear hn
              go_wp2
              go_ret
              exact ⟨rfl, hbel2⟩
        · rw [decide_eq_false ks] at CS
          obtain rfl := HBAD.out fun h => ks h.2.2.1.2
          clear ks
          go_wp2_with fail
          refine CS.out.mono ?_
          rintro e w2 ⟨rfl, rfl⟩
          go_wp2
          go_ret
          exact ⟨rfl, hb01⟩
      · rw [decide_eq_false kp] at CV
        obtain rfl := HBAD.out fun h => kp h.2.2.1.1
        clear kp
        go_wp2_with fail
        refine CV.out.mono ?_
        rintro e w1 ⟨rfl, hb1⟩
        have hb01 : Below w.heap.size w w1 := hbel.trans (hb1.mono zr)
        go_wp2
        go_ret
        exact ⟨rfl, hb01⟩

end Go.Proofs.Ytapjgjjmlbhanaa
