/- Minimal, walked. -/
import Derived.Test.YtapjgjjmlbhanaaH2
namespace Go.Proofs.Ytapjgjjmlbhanaa
open Go.RowKit Go.Lib Go.ChangeMaps

/-- What Minimal answers. -/
def MinimalPost (g : Gl) (L : List Hd) (w : World) (e : Ending) (w' : World) : Prop :=
  (suffL g L = [] ∧ e = .returned (.tuple #[.slice none 0 0, .int .i64 10]) ∧ Below w.heap.size w w') ∨
  (suffL g L ≠ [] ∧ ∃ v, e = .returned (.tuple #[v, .int .i64 0]) ∧ ReadsLL w' v ((minL g L).map (devL L)) ∧ Below w.heap.size w w')

def castL (d : List Nat) : List Int := d.map fun a : Nat => (a : Int)
theorem castL_take (d : List Nat) (j : Nat) : castL (d.take j) = (castL d).take j := List.map_take ..
theorem castL_mem {d : List Nat} {a : Nat} : (a : Int) ∈ castL d ↔ a ∈ d := by
  unfold castL
  rw [List.mem_map]
  constructor
  · rintro ⟨x, hx, e⟩
    obtain rfl : x = a := by omega
    exact hx
  · intro h; exact ⟨a, h, rfl⟩
theorem minTo_succ (n : Nat) (Q D : List Nat) (k : Nat) (h : k < D.length) : (D.take (k + 1)).filter (isMin n Q) = (D.take k).filter (isMin n Q) ++ if isMin n Q D[k] = true then [D[k]] else [] := by
  rw [List.take_succ_eq_append_getElem h, List.filter_append, List.filter_cons, List.filter_nil]
theorem isMin_no {n : Nat} {Q : List Nat} {a i : Nat} (hi : i < n) (h : canLeave Q a i = true) : isMin n Q a = false := by
  unfold isMin
  rw [List.all_eq_false]
  exact ⟨i, List.mem_range.2 hi, by simp [h]⟩

set_option maxRecDepth 100000 in
set_option maxHeartbeats 8000000 in
theorem minimal_ok (g : Gl) (v : Value) (hs : List Hd) (w : World) (hg : GlAt w g) (hv : ReadsH w v hs) (hok : Ok g hs) (h6 : hs.length ≤ 6) :
    Calls Try.prog 26 #[g.v, v] w fun e w' => ∃ L : List Hd, L.Perm hs ∧ (L.map Hd.dev).Pairwise (· < ·) ∧ MinimalPost g L w e w' := by
  have cc := fun W h1 h2 => read_ok g v hs W h1 h2 hok
  obtain ⟨na, n1, nc, pa, n2, pc, sa, n3, sc, e1⟩ := hg.val
  obtain ⟨ao, n4, c4, rfl⟩ := hv.val
  rw [e1] at cc ⊢
  have CC := Lib.hid cc
  have HG := Lib.hid hg
  have HV := Lib.hid hv
  have HOK := Lib.hid hok
  have hmm := @run_makeMap Try.prog
  clear hg hv hok cc e1
  go_enter Try.func26, Try.ntmps26
  go_wp2_with fail
  go_step3
  go_wp2_with fail
  refine (CC.out _ (HG.out.below (by (repeat' (first | (with_reducible exact Below.refl _ _) | (with_reducible assumption) | (with_reducible refine Below.alloc ?_ ?_ _) | (with_reducible refine Below.drew ?_) | (with_reducible refine below_drewN ?_ _) | (with_reducible refine Below.setCell ?_ ?_ _) | (with_reducible refine below_step ?_ (by with_reducible assumption) ?_) | go_size)))) (HV.out.below (by (repeat' (first | (with_reducible exact Below.refl _ _) | (with_reducible assumption) | (with_reducible refine Below.alloc ?_ ?_ _) | (with_reducible refine Below.drew ?_) | (with_reducible refine below_drewN ?_ _) | (with_reducible refine Below.setCell ?_ ?_ _) | (with_reducible refine below_step ?_ (by with_reducible assumption) ?_) | go_size))))).mono ?_
  rintro e w1 ⟨b, x, pl, L, rfl, hpo, hb⟩
  have hw1 : Below w.heap.size w w1 := by (repeat' (first | (with_reducible exact Below.refl _ _) | (with_reducible assumption) | (with_reducible refine Below.alloc ?_ ?_ _) | (with_reducible refine Below.drew ?_) | (with_reducible refine below_drewN ?_ _) | (with_reducible refine Below.setCell ?_ ?_ _) | (with_reducible refine below_step ?_ (by with_reducible assumption) ?_) | go_size))
  have hl6 : L.length ≤ 6 := by have := hpo.len; omega
  have hp6 : 2 ^ L.length ≤ 64 := by
    have hp : 2 ^ L.length ≤ 2 ^ 6 := Nat.pow_le_pow_right (by omega) hl6
    exact hp
  have PO := Lib.hid hpo
  have HPL := Lib.hid hpo.permL
  have HSD := Lib.hid hpo.sorted
  have C50 := Lib.hid (sufficient_plan HOK.out hpo)
  clear hpo hb
  have z1 := hw1.size
  go_wp2_with fail
  refine C50.out.mono ?_
  rintro e w2 ⟨u, rfl, ho, hb2⟩
  have hw2 : Below w.heap.size w w2 := hw1.trans (hb2.mono z1)
  have hln := suffL_len g L
  have hlt := suffL_lt (g := g) (L := L)
  have hnd := suffL_nodup g L
  obtain ⟨Q, hQ⟩ : ∃ Q, Q = suffL g L := ⟨_, rfl⟩
  rw [← hQ] at ho hln hlt hnd
  have HQ := Lib.hid hQ
  clear hQ
  have hri : ReadsI w2 u (castL Q) := ho.reads (by rw [List.length_map]; omega)
  obtain ⟨ua, uc, ub, uoff, rfl, hul, hum, hucell⟩ := hri.at
  have hcl : (castL Q).length = Q.length := List.length_map ..
  rw [hcl] at hul hum hucell ⊢
  have HUC := Lib.hid hucell
  have PO2 := Lib.hid (PO.out.below hb2)
  have HLT := Lib.hid hlt
  have HND := Lib.hid hnd
  clear hri ho hucell hlt hnd PO C50 CC hcl
  by_cases hq0 : Q = []
  · subst hq0
    clear hmm hln hul hum
    go_wp2_with fail
    rw [Exit.noGoto_ret]
    go_ret2
    exact ⟨L, HPL.out, HSD.out, .inl ⟨HQ.out.symm, rfl, hw2⟩⟩
  · have hql : 0 < Q.length := List.length_pos_iff.2 hq0
    have HQ0 := Lib.hid hq0
    generalize hqe : Q.length = ql at *
    have HQE := Lib.hid hqe
    have hq1 : ((ql : Int) == 0) = false := by simp; omega
    clear hq0 hqe
    obtain ⟨M, hM⟩ : ∃ M, M = w2.heap.size := ⟨_, rfl⟩
    have HM := Lib.hid hM
    have m2 : (w2.alloc (Obj.map #[] 0)).heap[M]? = some (mapObj (fun i : Int => Value.int .i64 i) (setOf (castL (Q.take 0)))) := by rw [hM]; exact heap_alloc_last w2 _
    have M2 := Lib.hid m2
    have bM : Below w2.heap.size w2 (w2.alloc (Obj.map #[] 0)) := (Below.refl _ _).alloc (Nat.le_refl _) _
    have sM : M + 1 ≤ (w2.alloc (Obj.map #[] 0)).heap.size := by rw [World.size_alloc]; omega
    clear m2
    go_wp2
    rw [← hM]
    clear hM
    go_loopw [11, 35] (fun _ v35 wr => ∃ j : Nat, j ≤ ql ∧ v35 = .int .i64 j ∧ Below w2.heap.size w2 wr ∧ wr.heap[M]? = some (mapObj (fun i : Int => Value.int .i64 i) (setOf (castL (Q.take j)))) ∧ M + 1 ≤ wr.heap.size) (fun _ v35 _ => ql - (intOf v35).toNat)
    case atStart => exact ⟨0, Nat.zero_le _, rfl, bM, M2.out, sM⟩
    case round =>
      obtain ⟨j, hj, rfl, hbel, hmap, hsz⟩ := hrel
      have HMP := Lib.hid hmap
      clear hmap bM M2 sM
      by_cases hlt : j < ql
      · obtain ⟨e1, e2⟩ := HUC.out j hlt
        subst e1
        rw [← hbel.cell (p := ⟨ub, _, none⟩) (cell_lt e2)] at e2
        have hjq : j < Q.length := by rw [HQE.out]; exact hlt
        have hel : (castL Q).getD j 0 = ((Q.getD j 0 : Nat) : Int) := by
          rw [getD_at _ _ _ (by unfold castL; rw [List.length_map]; exact hjq), getD_at _ _ _ hjq]
          unfold castL
          rw [List.getElem_map]
        rw [hel] at e2
        have hfr : ((Q.getD j 0 : Nat) : Int) ∉ (setOf (castL (Q.take j))).map (·.1) := by
          rw [setOf_keys, castL_mem, getD_at _ _ _ hjq]
          intro hm
          obtain ⟨i, hi, e⟩ := List.getElem_of_mem hm
          rw [List.length_take] at hi
          rw [List.getElem_take] at e
          have := (List.getElem_inj HND.out).1 e
          omega
        have hup := key_int.update (tm := 122) (te := 123) Try.underlying122 HMP.out ((Q.getD j 0 : Nat) : Int) (.agg #[]) hfr
        have hnx : setOf (castL (Q.take j)) ++ [(((Q.getD j 0 : Nat) : Int), Value.agg #[])] = setOf (castL (Q.take (j + 1))) := by
          rw [List.take_succ_eq_append_getElem hjq, getD_at _ _ _ hjq]
          unfold castL setOf
          rw [List.map_append, List.map_append]
          rfl
        rw [hnx] at hup
        have mlt : M < wr.heap.size := by omega
        have hmq := setBlock_at (w := wr) (b := M) mlt (mapObj (fun i : Int => Value.int .i64 i) (setOf (castL (Q.take (j + 1)))))
        have HMQ := Lib.hid hmq
        clear hfr hnx hel hmq
        generalize Q.getD j 0 = q at *
        go_wp2
        go_roundw
        case rel => exact ⟨j + 1, by omega, by go_num, below_setBlock hbel (by rw [HM.out]; exact Nat.le_refl _) _, HMQ.out, by rw [setBlock_size]; exact hsz⟩
        case measure => simp [intOf]; omega
      · have hjl : ql = j := by omega
        subst hjl
        have hmap := HMP.out
        rw [List.take_of_length_le (by rw [HQE.out]; exact Nat.le_refl _)] at hmap
        have HMQ := Lib.hid hmap
        clear hmap HMP
        obtain ⟨wo, hwo⟩ : ∃ wo : World, wo = wr := ⟨_, rfl⟩
        subst hwo
        go_wp2
        go_step3
        go_wp2
        have zo := hbel.size
        have hqD : ∀ k, k < ql → Q.getD k 0 < 64 ∧ k < Q.length := fun k hk => by
          have hk' : k < Q.length := by rw [HQE.out]; exact hk
          refine ⟨?_, hk'⟩
          have := HLT.out (Q.getD k 0) (by rw [getD_at _ _ _ hk']; exact List.getElem_mem hk')
          omega
        have HQD := Lib.hid hqD
        have MB := Lib.hid (show w2.heap.size ≤ M by rw [HM.out]; exact Nat.le_refl _)
        clear hqD
        go_loopg [12, 45] ql (fun gk v12 v45 wx => ∃ k : Nat, k + gk = ql ∧ v45 = .int .i64 k ∧ Below wo.heap.size wo wx ∧ OwnLL wx wo.heap.size v12 (((Q.take k).filter (isMin L.length Q)).map (devL L)))
        case atStart => exact ⟨0, by omega, rfl, Below.refl _ _, OwnLL.nil _ _⟩
        case round =>
          obtain ⟨k, hk, rfl, hbk, hll⟩ := hrel
          have HLL := Lib.hid hll
          clear hll
          have zk := hbk.size
          have hb2k : Below w2.heap.size w2 wr := hbel.trans (hbk.mono zo)
          cases gk with
          | zero =>
            obtain rfl : k = ql := by omega
            have hll := HLL.out
            rw [List.take_of_length_le (by rw [HQE.out]; exact Nat.le_refl _), HQ.out] at hll
            have hrl := hll.reads (by
              rw [List.length_map]
              have := List.length_filter_le (isMin L.length (suffL g L)) (suffL g L)
              rw [← HQ.out, HQE.out] at this
              rw [← HQ.out]
              omega) (fun x hx => by
              obtain ⟨y, _, rfl⟩ := List.mem_map.1 hx
              have := devL_le L y
              omega)
            have HRL := Lib.hid hrl
            have hne := HQ0.out
            rw [HQ.out] at hne
            have HNE := Lib.hid hne
            clear hll hrl hne
            go_wp2
            try rw [Exit.noGoto_ret]
            go_ret2
            exact ⟨L, HPL.out, HSD.out, .inr ⟨HNE.out, _, rfl, HRL.out, hw2.trans (hb2k.mono hw2.size)⟩⟩
          | succ go =>
            have hlt : k < ql := by omega
            obtain ⟨ha64, hkq⟩ := HQD.out k hlt
            obtain ⟨e1, e2⟩ := HUC.out k hlt
            subst e1
            rw [← hb2k.cell (p := ⟨ub, _, none⟩) (cell_lt e2)] at e2
            have hel : (castL Q).getD k 0 = ((Q.getD k 0 : Nat) : Int) := by
              rw [getD_at _ _ _ (by unfold castL; rw [List.length_map]; exact hkq), getD_at _ _ _ hkq]
              unfold castL
              rw [List.getElem_map]
            rw [hel] at e2
            have hms := minTo_succ L.length Q Q k hkq
            have hga : Q[k] = Q.getD k 0 := (getD_at _ _ _ hkq).symm
            rw [hga] at hms
            have HMS := Lib.hid hms
            have pk := PO2.out.below hb2k
            obtain ⟨lao, lc, elv⟩ : ∃ ao c, x.lv = .slice ao L.length c := by
              obtain ⟨ao, c, _, _, e, _⟩ := pk.list.at
              exact ⟨ao, c, e⟩
            have c6 := pk.plan.cell 6 (by omega)
            have e6 : x.cell 6 = x.lv := rfl
            rw [e6, elv] at c6
            have PK := Lib.hid pk
            clear hms hga pk hel elv e6
            generalize Q.getD k 0 = a at *
            generalize hn : L.length = n at *
            have HNN := Lib.hid hn
            clear hn
            obtain ⟨wk, hwk⟩ : ∃ wk : World, wk = wr := ⟨_, rfl⟩
            subst hwk
            go_wp2
            go_loopg [54] n (fun g2 v54 wy => ∃ i : Nat, i + g2 = n ∧ v54 = .int .i64 i ∧ Below wk.heap.size wk wy ∧ ((List.range i).all fun i => !canLeave Q a i) = true)
            case atStart => exact ⟨0, by omega, rfl, Below.refl _ _, by simp⟩
            case round =>
              obtain ⟨i, hi, rfl, hby, hall⟩ := hrel
              have HALL := Lib.hid hall
              clear hall
              have zy := hby.size
              cases gk with
              | zero =>
                obtain rfl : i = n := by omega
                have hmin : isMin i Q a = true := HALL.out
                have hms := HMS.out
                rw [if_pos hmin] at hms
                have HMS2 := Lib.hid hms
                have C51 := Lib.hid (devices_plan HOK.out (PK.out.below hby) a (by omega))
                have hll := HLL.out.below hby
                obtain ⟨ma, mc, rfl⟩ := hll.slice
                have hml : (((Q.take k).filter (isMin i Q)).map (devL L)).length ≤ 64 := by
                  rw [List.length_map]
                  have := List.length_filter_le (isMin i Q) (Q.take k)
                  rw [List.length_take] at this
                  omega
                have HLL2 := Lib.hid hll
                clear hmin hms hll HLL
                generalize hmle : (((Q.take k).filter (isMin i Q)).map (devL L)).length = ml at *
                have HMLE := Lib.hid hmle
                have hml2 : ((ml : Int) == 256) = false := by simp; omega
                clear hmle
                go_wp2_with fail
                refine C51.out.mono ?_
                rintro e w5 ⟨u5', rfl, ho5, hb5⟩
                have z5 := hb5.size
                obtain ⟨v3, w3, r3, o1, o2, o3, o4⟩ := (HLL2.out.below hb5).append (Own.base ho5 (Nat.le_trans zk zy)) (by rw [HMLE.out]; omega) (by omega)
                have O1 := Lib.hid o1
                obtain ⟨a5, c5, e5⟩ := ho5.slice
                have B5 : Below wo.heap.size wo w3 := (hbk.trans ((hby.mono zk).trans (hb5.mono (by omega)))).trans o2
                have hll3 := o1
                clear o1 o2 o3 hby ho5 hll3
                subst e5
                go_wp2_with (at_builtin; refine wpList_append_run (by rfl) (.tmp 78) (.tmp 82) 57 (by rfl) _ (.slice (some ⟨w5.heap.size, 0, none⟩) 1 1) v3 w3 (by rfl) (by rfl) r3 ?_)
                go_roundg go
                case measure => omega
                case rel => exact ⟨k + 1, by omega, by go_num, B5, by rw [HMS2.out, List.map_append]; exact O1.out⟩
              | succ g2 =>
                have hin : i < n := by omega
                have hi6 : i < 6 := by omega
                have hw2 : IntKind.i64.wrap (2 ^ i) = (2 ^ i : Int) := by
                  have e : ((2 : Int) ^ i) = ((2 ^ i : Nat) : Int) := by simp
                  have hp : 2 ^ i < 2 ^ 6 := Nat.pow_lt_pow_right (by omega) hi6
                  rw [e]
                  generalize (2 ^ i : Nat) = pw at hp
                  exact wraps_i64 _ (by omega) (by omega)
                have hno : bits .andNot .i64 (a : Int) (2 ^ i) = ((keyI a i : Nat) : Int) := by
                  have := andNot_i64 ⟨a, ha64⟩ ⟨i, hi6⟩
                  simpa using this
                have hand := bit_and a i (by omega)
                have hm3 : wr.heap[M]? = some (mapObj (fun i : Int => Value.int .i64 i) (setOf (castL Q))) := ((hby.block M (by omega)).trans (hbk.block M (by omega))).trans HMQ.out
                have hlk := key_int.lookup (tm := 122) (te := 123) Try.underlying122 (z := .agg #[]) (fun w => by kernel_rfl) hm3 ((keyI a i : Nat) : Int)
                have hsucc : ((List.range (i + 1)).all fun i => !canLeave Q a i) = !canLeave Q a i := by
                  rw [List.range_succ, List.all_append, HALL.out]; simp
                have hcl : canLeave Q a i = (decide (a / 2 ^ i % 2 = 1) && decide (keyI a i ∈ Q)) := rfl
                have hbw : Below wk.heap.size wk (wr.alloc (.cells #[] 123)) := hby.alloc zy _
                have HSU := Lib.hid hsucc
                have HNO := Lib.hid (fun h => isMin_no (Q := Q) (a := a) hin h)
                have hbk3 : Below wo.heap.size wo (wr.alloc (.cells #[] 123)) := (hbk.trans (hby.mono zk)).alloc (by omega) _
                have hll3 := Lib.hid ((HLL.out.below hby).below ((Below.refl _ wr).alloc (Nat.le_refl _) (.cells #[] 123)))
                clear hsucc hm3
                rcases seekL_set ((keyI a i : Nat) : Int) (castL Q) with ⟨k1, q, k2⟩ | ⟨k1, k2⟩
                · rw [k2] at hlk
                  rw [castL_mem] at k1
                  rw [decide_eq_true k1, Bool.and_true] at hcl
                  simp only at hlk
                  clear k2 k1
                  by_cases hq : a / 2 ^ i % 2 = 1
                  · rw [hq, show ((1 : Nat) : Int) = 1 from rfl] at hand
                    rw [decide_eq_true hq] at hcl
                    have hms := HMS.out
                    rw [HNO.out hcl, if_neg (by simp), List.append_nil] at hms
                    have HMS2 := Lib.hid hms
                    clear hcl hms hq
                    go_wp2
                    go_roundg go
                    case measure => omega
                    case rel => exact ⟨k + 1, by omega, by go_num, hbk3, by rw [HMS2.out]; exact hll3.out⟩
                  · rw [show a / 2 ^ i % 2 = 0 by omega, show ((0 : Nat) : Int) = 0 from rfl] at hand
                    rw [decide_eq_false hq] at hcl
                    have HCL := Lib.hid hcl
                    clear hcl hq
                    go_wp2
                    go_roundg g2
                    case measure => omega
                    case rel => exact ⟨i + 1, by omega, by go_num, hbw, by rw [HSU.out, HCL.out]; rfl⟩
                · rw [k2] at hlk
                  rw [castL_mem] at k1
                  rw [decide_eq_false k1, Bool.and_false] at hcl
                  simp only at hlk
                  have HCL := Lib.hid hcl
                  clear k2 k1 hcl
                  go_wp2
                  go_roundg g2
                  case measure => omega
                  case rel => exact ⟨i + 1, by omega, by go_num, hbw, by rw [HSU.out, HCL.out]; rfl⟩

end Go.Proofs.Ytapjgjjmlbhanaa
