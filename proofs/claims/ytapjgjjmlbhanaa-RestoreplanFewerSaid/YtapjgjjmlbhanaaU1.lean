/- Cheapest: its closures, MinFunc. -/
import Derived.Test.YtapjgjjmlbhanaaH2
import Derived.Deep.LoopGhost
import Derived.Deep.RegionHeld3
import Derived.Test.YtapjgjjmlbhanaaN1
namespace Go.Proofs.Ytapjgjjmlbhanaa
open Go.RowKit Go.Lib
set_option linter.unusedSimpArgs false

/-- What the first n holdings of a set cost. -/
def costTo (pl : List Nat) (cs : List Int) (set : Nat) : Nat → Int
  | 0 => 0
  | n + 1 => costTo pl cs set n + (if set / 2 ^ n % 2 = 1 then cs.getD (pl.getD n 0) 0 else 0)
def costS (pl : List Nat) (cs : List Int) (set : Nat) : Int := costTo pl cs set pl.length
def CsOk (cs : List Int) : Prop := ∀ c ∈ cs, 0 ≤ c ∧ c ≤ 1099511627776
instance (cs : List Int) : Decidable (CsOk cs) := inferInstanceAs (Decidable (∀ c ∈ cs, _))
theorem CsOk.at {cs : List Int} (h : CsOk cs) (i : Nat) : 0 ≤ cs.getD i 0 ∧ cs.getD i 0 ≤ 1099511627776 := by
  by_cases hi : i < cs.length
  · rw [getD_at _ _ _ hi]
    exact h _ (List.getElem_mem hi)
  · rw [List.getD_eq_getElem?_getD, List.getElem?_eq_none (by omega)]
    show (0 : Int) ≤ 0 ∧ (0 : Int) ≤ 1099511627776
    omega
theorem costTo_bd {pl : List Nat} {cs : List Int} (h : CsOk cs) (set : Nat) : ∀ n, 0 ≤ costTo pl cs set n ∧ costTo pl cs set n ≤ n * 1099511627776
  | 0 => by unfold costTo; omega
  | n + 1 => by
    have ih := costTo_bd (pl := pl) h set n
    have hc := h.at (pl.getD n 0)
    unfold costTo
    split <;> omega

/-- The costs in a box, the plan in another. -/
structure CostW (w : World) (P C : Nat) (cv : Value) (cs : List Int) (g : Gl) (hs : List Hd) (b : Nat) (x : PlanV) (pl : List Nat) (L : List Hd) : Prop where
  plan : PlanOf g hs b x pl L w
  pb : w.cell? ⟨P, 0, none⟩ = some (.pointer (some ⟨b, 0, none⟩))
  cb : w.cell? ⟨C, 0, none⟩ = some cv
  cs : ReadsI w cv cs
section
variable {w w' : World} {P C : Nat} {cv : Value} {cs : List Int} {g : Gl} {hs : List Hd} {b : Nat} {x : PlanV} {pl : List Nat} {L : List Hd}
theorem CostW.below (h : CostW w P C cv cs g hs b x pl L) (hb : Below w.heap.size w w') : CostW w' P C cv cs g hs b x pl L :=
  ⟨h.plan.below hb, (hb.cell (cell_lt h.pb)).trans h.pb, (hb.cell (cell_lt h.cb)).trans h.cb, h.cs.below hb⟩
theorem pl_lt (h : PlanOf g hs b x pl L w) {j : Nat} (hj : j < pl.length) : pl.getD j 0 < hs.length := by
  rw [getD_at _ _ _ hj]
  exact List.mem_range.1 (h.perm.mem_iff.1 (List.getElem_mem hj))
theorem pl_len (h : PlanOf g hs b x pl L w) : pl.length = hs.length := by rw [h.perm.length_eq, List.length_range]

set_option maxRecDepth 100000 in
set_option maxHeartbeats 4000000 in
theorem cost_any (h : CostW w P C cv cs g hs b x pl L) (hok : CsOk cs) (hl : cs.length = hs.length) (h12 : hs.length ≤ 12) (set : Nat) (hset : set < 4096) :
    Calls Try.prog 55 #[.int .i64 set, .pointer (some ⟨P, 0, none⟩), .pointer (some ⟨C, 0, none⟩)] w fun e w' => e = .returned (.int .i64 (costS pl cs set)) ∧ ∃ q, w' = w.drewN q := by
  obtain ⟨pao, pc, pb', poff, epl, hpl, hpm, hpcell⟩ := RowAt.at h.plan.places
  obtain ⟨cao, cc, cb', coff, rfl, hcl, hcm, hccell⟩ := h.cs.at
  have c7 := h.plan.plan.cell 7 (by omega)
  have e7 : x.cell 7 = x.plv := rfl
  rw [e7, epl] at c7
  have hp := h.pb
  have hc := h.cb
  have hlt := fun j hj => pl_lt h.plan (j := j) hj
  have hn := pl_len h.plan
  have HLT := Lib.hid hlt
  have HPC := Lib.hid hpcell
  have HCC := Lib.hid hccell
  have HOK := Lib.hid hok
  obtain ⟨r, hr⟩ : ∃ r, r = costS pl cs set := ⟨_, rfl⟩
  rw [← hr]
  unfold costS at hr
  have HR := Lib.hid hr
  have HL := Lib.hid hl
  clear h hok hlt epl e7 hpcell hccell hpm hcm hr
  generalize hpn : pl.length = n at *
  have HPN := Lib.hid hpn
  clear hpn
  generalize cs.length = m at *
  go_enter Try.func55, Try.ntmps55
  go_wp2
  go_loopw [5, 6, 7, 13] (fun v5 _ _ v13 wr => ∃ j q : Nat, j ≤ n ∧ v13 = .int .i64 j ∧ v5 = .int .i64 (costTo pl cs set j) ∧ wr = w.drewN q) (fun _ _ _ v13 _ => n - (intOf v13).toNat)
  case atStart => exact ⟨0, 0, Nat.zero_le _, rfl, rfl, rfl⟩
  case round =>
    obtain ⟨j, q, hj, rfl, rfl, rfl⟩ := hrel
    by_cases hlt : j < n
    · obtain ⟨e1, e2⟩ := HPC.out j hlt
      subst e1
      have e2 := e2 0 (by omega)
      rw [Nat.mul_one, Nat.add_zero] at e2
      have hpj := HLT.out j hlt
      have hst : costTo pl cs set (j + 1) = costTo pl cs set j + (if set / 2 ^ j % 2 = 1 then cs.getD (pl.getD j 0) 0 else 0) := rfl
      have hbd := costTo_bd (pl := pl) HOK.out set j
      have hcb := HOK.out.at (pl.getD j 0)
      obtain ⟨e3, e4⟩ := HCC.out (pl.getD j 0) (by omega)
      subst e3
      have hand := bit_and set j hset
      have hpm : pl.getD j 0 < m := by omega
      have HST := Lib.hid hst
      clear hst
      generalize pl.getD j 0 = p at *
      generalize cs.getD p 0 = c at *
      generalize costTo pl cs set j = s at *
      have hw0 : IntKind.i64.wrap s = s := wraps_i64 _ (by omega) (by omega)
      have hw1 : IntKind.i64.wrap c = c := wraps_i64 _ (by omega) (by omega)
      have hw2 : IntKind.i64.wrap (s + c) = s + c := wraps_i64 _ (by omega) (by omega)
      by_cases hq : set / 2 ^ j % 2 = 1
      · rw [hq, show ((1 : Nat) : Int) = 1 from rfl] at hand
        have HNX := Lib.hid (show costTo pl cs set (j + 1) = s + c by rw [HST.out, if_pos hq])
        clear hq
        go_wp2
        go_quiet (fail)
        go_wp2
        go_roundw
        case rel => exact ⟨j + 1, _, by omega, by go_num, by rw [HNX.out], rfl⟩
        case measure => simp [intOf]; omega
      · have hq0 : set / 2 ^ j % 2 = 0 := by omega
        rw [hq0, show ((0 : Nat) : Int) = 0 from rfl] at hand
        have HNX := Lib.hid (show costTo pl cs set (j + 1) = s by rw [HST.out, if_neg hq, Int.add_zero])
        clear hq hq0
        go_wp2
        go_quiet (fail)
        go_wp2
        go_roundw
        case rel => exact ⟨j + 1, _, by omega, by go_num, by rw [HNX.out], rfl⟩
        case measure => simp [intOf]; omega
    · have hjl : j = n := by omega
      subst hjl
      have hr := HR.out
      generalize costTo pl cs set j = s at *
      subst hr
      go_wp2
      go_ret
      exact ⟨rfl, _, rfl⟩

theorem cost_q (h : CostW w P C cv cs g hs b x pl L) (hok : CsOk cs) (hl : cs.length = hs.length) (h12 : hs.length ≤ 12) (set : Nat) (hset : set < 4096) (q : Nat) :
    Calls Try.prog 55 #[.int .i64 set, .pointer (some ⟨P, 0, none⟩), .pointer (some ⟨C, 0, none⟩)] (w.drewN q) fun e w' => e = .returned (.int .i64 (costS pl cs set)) ∧ ∃ n, w' = w.drewN n :=
  (cost_any (h.below (below_drewN (Below.refl _ _) q)) hok hl h12 set hset).mono fun _ _ ⟨h1, n, h2⟩ => ⟨h1, _, h2.trans (World.drewN_drewN ..)⟩

set_option maxRecDepth 100000 in
set_option maxHeartbeats 4000000 in
theorem less57 (h : CostW w P C cv cs g hs b x pl L) (hok : CsOk cs) (hl : cs.length = hs.length) (h12 : hs.length ≤ 12) (F : Nat) (hF : w.cell? ⟨F, 0, none⟩ = some (.func (.func 55) #[] #[.pointer (some ⟨P, 0, none⟩), .pointer (some ⟨C, 0, none⟩)]))
    (i j : Nat) (hi : i < 4096) (hj : j < 4096) :
    Calls Try.prog 57 #[.int .i64 i, .int .i64 j, .pointer (some ⟨F, 0, none⟩)] w fun e w' => e = .returned (.int .i64 (cmpI (costS pl cs i) (costS pl cs j))) ∧ ∃ q, w' = w.drewN q := by
  have CI := Lib.hid (cost_q h hok hl h12 i hi)
  have CJ := Lib.hid (cost_q h hok hl h12 j hj)
  have CC := Lib.hid (fun W => compare_any (costS pl cs i) (costS pl cs j) W)
  generalize costS pl cs i = ci at *
  generalize costS pl cs j = cj at *
  generalize cmpI ci cj = r at *
  clear h hok hl h12
  have hkeep : ∀ q : Nat, (∃ q', w.drewN q = w.drewN q') ∧ (w.drewN q).cell? ⟨F, 0, none⟩ = some (.func (.func 55) #[] #[.pointer (some ⟨P, 0, none⟩), .pointer (some ⟨C, 0, none⟩)]) := fun q => ⟨⟨q, rfl⟩, ((below_drewN (Below.refl w.heap.size w) q).cell (cell_lt hF)).trans hF⟩
  have HK := Lib.hid hkeep
  have HHS := Lib.hid (hkeep 1)
  clear hkeep
  go_enter Try.func57, Try.ntmps57
  go_wp2_with fail
  refine wp_region_held_drew (S := fun w' => (∃ q', w' = w.drewN q') ∧ w'.cell? ⟨F, 0, none⟩ = some (.func (.func 55) #[] #[.pointer (some ⟨P, 0, none⟩), .pointer (some ⟨C, 0, none⟩)])) (by kernel_rfl) HHS.out (fun hHeld => ?_)
  refine wpAnyH_take (i := 0) (v := ?_) rfl (by kernel_rfl) (by kernel_rfl) (by kernel_rfl) (fun _ _ _ h => h) (Or.inl ⟨by rfl, ?_⟩) (by assumption) ?_
  rotate_left; · (intro w hSw; (try dsimp only at hSw); go_simp; try with_reducible rfl)
  try simp only [Act.put, List.getElem_toArray, List.getElem_cons_zero, List.getElem_cons_succ, List.setIfInBounds_toArray, List.set_cons_zero, List.set_cons_succ]
  refine wpAnyH_take (i := 1) (v := ?_) rfl (by kernel_rfl) (by kernel_rfl) (by kernel_rfl) (fun _ _ _ h => h) (Or.inl ⟨by rfl, ?_⟩) (by assumption) ?_
  rotate_left; · (intro w hSw; (try dsimp only at hSw); go_simp; try with_reducible rfl)
  try simp only [Act.put, List.getElem_toArray, List.getElem_cons_zero, List.getElem_cons_succ, List.setIfInBounds_toArray, List.set_cons_zero, List.set_cons_succ]
  refine wpAnyH_take (i := 3) (v := ?_) rfl (by kernel_rfl) (by kernel_rfl) (by kernel_rfl) (fun _ _ _ h => h) (Or.inl ⟨by rfl, ?_⟩) (by assumption) ?_
  rotate_left; · (intro w hSw; (try dsimp only at hSw); go_simp; try with_reducible rfl)
  try simp only [Act.put, List.getElem_toArray, List.getElem_cons_zero, List.getElem_cons_succ, List.setIfInBounds_toArray, List.set_cons_zero, List.set_cons_succ]
  refine wpAnyH_take (i := 4) (v := ?_) rfl (by kernel_rfl) (by kernel_rfl) (by kernel_rfl) (fun _ _ _ h => h) (Or.inl ⟨by rfl, ?_⟩) (by assumption) ?_
  rotate_left; · (intro w hSw; (try dsimp only at hSw); go_simp; try with_reducible rfl)
  try simp only [Act.put, List.getElem_toArray, List.getElem_cons_zero, List.getElem_cons_succ, List.setIfInBounds_toArray, List.set_cons_zero, List.set_cons_succ]
  refine wpAnyH_ready (rs := [2]) (by kernel_rfl) (by simp) ?_
  refine AllReadyH.cons rfl (fun K hK => ?_) AllReadyH.nil
  go_simp
  refine (CI.out 1).mono ?_
  rintro e w9 ⟨rfl, q, rfl⟩
  go_wp2_with fail
  refine hK.out _ _ (HK.out q) (fun hNew => ?_)
  clear hK K hHeld
  have hHeld := hNew
  clear hNew
  try simp only [Act.put, List.getElem_toArray, List.getElem_cons_zero, List.getElem_cons_succ, List.setIfInBounds_toArray, List.set_cons_zero, List.set_cons_succ]
  refine wpAnyH_ready (rs := [5]) (by kernel_rfl) (by simp) ?_
  refine AllReadyH.cons rfl (fun K hK => ?_) AllReadyH.nil
  go_simp
  refine (CJ.out q).mono ?_
  rintro e w9 ⟨rfl, q2, rfl⟩
  go_wp2_with fail
  refine hK.out _ _ (HK.out q2) (fun hNew => ?_)
  clear hK K hHeld
  have hHeld := hNew
  clear hNew
  try simp only [Act.put, List.getElem_toArray, List.getElem_cons_zero, List.getElem_cons_succ, List.setIfInBounds_toArray, List.set_cons_zero, List.set_cons_succ]
  refine wpAnyH_ready (rs := [6]) (by kernel_rfl) (by simp) ?_
  refine AllReadyH.cons rfl (fun K hK => ?_) AllReadyH.nil
  go_simp
  go_at_call 58
  refine (CC.out _).mono ?_
  rintro e w9 ⟨rfl, rfl⟩
  go_wp2_with fail
  refine hK.out _ _ (HK.out q2) (fun hNew => ?_)
  clear hK K hHeld
  have hHeld := hNew
  clear hNew
  try simp only [Act.put, List.getElem_toArray, List.getElem_cons_zero, List.getElem_cons_succ, List.setIfInBounds_toArray, List.set_cons_zero, List.set_cons_succ]
  refine wpAnyH_take (i := 7) (v := ?_) rfl (by kernel_rfl) (by kernel_rfl) (by kernel_rfl) (fun _ _ _ h => h) (Or.inl ⟨by rfl, ?_⟩) (by assumption) ?_
  rotate_left; · (intro w hSw; (try dsimp only at hSw); go_simp; try with_reducible rfl)
  try simp only [Act.put, List.getElem_toArray, List.getElem_cons_zero, List.getElem_cons_succ, List.setIfInBounds_toArray, List.set_cons_zero, List.set_cons_succ]
  refine wpAnyH_done (by kernel_rfl) ?_ _
  go_wp2
  go_ret
  exact ⟨rfl, _, rfl⟩
end

theorem cmpI_neg (a b : Int) : cmpI a b < 0 ↔ a < b := by unfold cmpI; split <;> (try split) <;> omega
def castN (d : List Nat) : List Int := d.map fun a : Nat => (a : Int)
/-- The cheaper of two sets, the first if they cost the same. -/
def minS (pl : List Nat) (cs : List Int) (b s : Nat) : Nat := if costS pl cs s < costS pl cs b then s else b
/-- What MinFunc answers. -/
def chL (pl : List Nat) (cs : List Int) : List Nat → Nat
  | [] => 0
  | a :: r => r.foldl (minS pl cs) a
theorem chL_snoc {pl : List Nat} {cs : List Int} {Q : List Nat} (h : Q ≠ []) (x : Nat) : chL pl cs (Q ++ [x]) = minS pl cs (chL pl cs Q) x := by
  cases Q with
  | nil => exact absurd rfl h
  | cons a r => simp [chL, List.foldl_append]
theorem minS_or (pl : List Nat) (cs : List Int) (b s : Nat) : minS pl cs b s = b ∨ minS pl cs b s = s := by unfold minS; split <;> simp
theorem foldM_mem (pl : List Nat) (cs : List Int) : ∀ (r : List Nat) (a : Nat), r.foldl (minS pl cs) a = a ∨ r.foldl (minS pl cs) a ∈ r
  | [], a => .inl rfl
  | x :: r, a => by
    rw [List.foldl_cons]
    rcases foldM_mem pl cs r (minS pl cs a x) with h | h
    · rw [h]
      rcases minS_or pl cs a x with e | e
      · exact .inl e
      · rw [e]; exact .inr (by simp)
    · exact .inr (by simp [h])
theorem chL_mem {pl : List Nat} {cs : List Int} {Q : List Nat} (h : Q ≠ []) : chL pl cs Q ∈ Q := by
  cases Q with
  | nil => exact absurd rfl h
  | cons a r =>
    rcases foldM_mem pl cs r a with e | e
    · show r.foldl (minS pl cs) a ∈ a :: r
      rw [e]; simp
    · exact List.mem_cons_of_mem _ e

section
variable {w w' : World} {P C : Nat} {cv : Value} {cs : List Int} {g : Gl} {hs : List Hd} {b : Nat} {x : PlanV} {pl : List Nat} {L : List Hd}
set_option maxRecDepth 100000 in
set_option maxHeartbeats 4000000 in
theorem minFunc_any (h : CostW w P C cv cs g hs b x pl L) (hok : CsOk cs) (hl : cs.length = hs.length) (h12 : hs.length ≤ 12) (F : Nat) (hF : w.cell? ⟨F, 0, none⟩ = some (.func (.func 55) #[] #[.pointer (some ⟨P, 0, none⟩), .pointer (some ⟨C, 0, none⟩)]))
    (v : Value) (Q : List Nat) (hv : ReadsI w v (castN Q)) (hQ : Q ≠ []) (hlt : ∀ a ∈ Q, a < 4096) :
    Calls Try.prog 56 #[v, .func (.func 57) #[] #[.pointer (some ⟨F, 0, none⟩)]] w fun e w' => e = .returned (.int .i64 ((chL pl cs Q : Nat) : Int)) ∧ ∃ q, w' = w.drewN q := by
  obtain ⟨ao, c, ub, uo, rfl, hul, hum, hucell⟩ := hv.at
  have hcl : (castN Q).length = Q.length := List.length_map ..
  rw [hcl] at hul hum hucell ⊢
  have hel : ∀ i, i < Q.length → (castN Q).getD i 0 = ((Q.getD i 0 : Nat) : Int) := fun i hi => by
    rw [getD_at _ _ _ (by rw [hcl]; exact hi), getD_at _ _ _ hi]
    unfold castN
    rw [List.getElem_map]
  have hl0 : 0 < Q.length := List.length_pos_iff.2 hQ
  have HU := Lib.hid (fun (q i : Nat) (hi : i < Q.length) => show ao = some ⟨ub, uo, none⟩ ∧ (w.drewN q).cell? ⟨ub, uo + i, none⟩ = some (.int .i64 ((Q.getD i 0 : Nat) : Int)) from ⟨(hucell i hi).1, by
    have e := (hucell i hi).2
    rw [hel i hi] at e
    exact ((below_drewN (Below.refl w.heap.size w) q).cell (cell_lt e)).trans e⟩)
  have CL := Lib.hid (fun (q i j : Nat) (hi : i < 4096) (hj : j < 4096) => (less57 (h.below (below_drewN (Below.refl _ _) q)) hok hl h12 F (((below_drewN (Below.refl w.heap.size w) q).cell (cell_lt hF)).trans hF) i j hi hj))
  have HLT := Lib.hid (fun i (hi : i < Q.length) => show Q.getD i 0 < 4096 by rw [getD_at _ _ _ hi]; exact hlt _ (List.getElem_mem hi))
  have HCH := Lib.hid (fun k (hk : 0 < k) (hkl : k ≤ Q.length) => show chL pl cs (Q.take k) < 4096 from hlt _ (List.mem_of_mem_take (chL_mem (by
    intro e
    have := congrArg List.length e
    rw [List.length_take, List.length_nil] at this
    omega))))
  have HSN := Lib.hid (fun k (hk : 0 < k) (hkl : k < Q.length) => show chL pl cs (Q.take (k + 1)) = if costS pl cs (Q.getD k 0) < costS pl cs (chL pl cs (Q.take k)) then Q.getD k 0 else chL pl cs (Q.take k) by
    rw [List.take_succ_eq_append_getElem hkl, chL_snoc (by
      intro e
      have := congrArg List.length e
      rw [List.length_take, List.length_nil] at this
      omega), getD_at _ _ _ hkl]
    rfl)
  have H1 := Lib.hid (show chL pl cs (Q.take 1) = Q.getD 0 0 by
    cases Q with
    | nil => exact absurd rfl hQ
    | cons a r => rfl)
  obtain ⟨r, hr⟩ : ∃ r, r = chL pl cs Q := ⟨_, rfl⟩
  rw [← hr]
  have HR := Lib.hid hr
  obtain ⟨e0, c0⟩ := HU.out 0 0 hl0
  subst e0
  rw [Nat.add_zero] at c0
  have c0 : w.cell? ⟨ub, uo, none⟩ = some (.int .i64 ((Q.getD 0 0 : Nat) : Int)) := c0
  clear h hok hl h12 hF hv hQ hlt hucell hel hr hcl
  generalize Q.getD 0 0 = q0 at c0 H1
  generalize hql : Q.length = ql at *
  have HQL := Lib.hid hql
  clear hql
  have k1 : decide ((ql : Int) < 1) = false := decide_eq_false (by omega)
  go_enter Try.func56, Try.ntmps56
  go_wp2
  clear k1 c0
  go_loopg [5, 6] (ql - 1) (fun gk v5 v6 wx => ∃ k q : Nat, k + gk = ql ∧ 0 < k ∧ v6 = .int .i64 k ∧ v5 = .int .i64 ((chL pl cs (Q.take k) : Nat) : Int) ∧ wx = w.drewN q)
  case atStart => exact ⟨1, 0, by omega, by omega, rfl, by rw [H1.out], rfl⟩
  case round =>
    obtain ⟨k, q, hk, hk0, rfl, rfl, rfl⟩ := hrel
    cases gk with
    | zero =>
      obtain rfl : k = ql := by omega
      have hr := HR.out
      rw [← List.take_length (l := Q), HQL.out] at hr
      subst hr
      go_wp2
      go_ret
      exact ⟨rfl, _, rfl⟩
    | succ go =>
      have hkl : k < ql := by omega
      obtain ⟨_, hc⟩ := HU.out q k hkl
      have h1 := HLT.out k hkl
      have h2 := HCH.out k hk0 (by omega)
      have h3 := HSN.out k hk0 hkl
      have CC := Lib.hid (CL.out q (Q.getD k 0) (chL pl cs (Q.take k)) h1 h2)
      have hng := cmpI_neg (costS pl cs (Q.getD k 0)) (costS pl cs (chL pl cs (Q.take k)))
      have H3 := Lib.hid h3
      clear h1 h2 h3
      generalize hs9 : Q.getD k 0 = s at *
      have HS9 := Lib.hid hs9
      clear hs9
      generalize chL pl cs (Q.take k) = t at *
      by_cases hq : costS pl cs s < costS pl cs t
      · have k2 : decide (cmpI (costS pl cs s) (costS pl cs t) < 0) = true := decide_eq_true (hng.2 hq)
        have h3 := H3.out
        rw [if_pos hq] at h3
        have H4 := Lib.hid h3
        clear h3 hng hq
        generalize cmpI (costS pl cs s) (costS pl cs t) = cc at *
        go_wp2_with fail
        refine CC.out.mono ?_
        rintro e w5 ⟨rfl, q2, rfl⟩
        have hc2 := (HU.out (q + q2) k hkl).2
        rw [HS9.out] at hc2
        go_wp2
        go_roundg go
        case measure => omega
        case rel => exact ⟨k + 1, _, by omega, by omega, by go_num, by rw [H4.out], rfl⟩
      · have k2 : decide (cmpI (costS pl cs s) (costS pl cs t) < 0) = false := decide_eq_false (fun h => hq (hng.1 h))
        have h3 := H3.out
        rw [if_neg hq] at h3
        have H4 := Lib.hid h3
        clear h3 hng hq
        generalize cmpI (costS pl cs s) (costS pl cs t) = cc at *
        go_wp2_with fail
        refine CC.out.mono ?_
        rintro e w5 ⟨rfl, q2, rfl⟩
        go_wp2
        go_roundg go
        case measure => omega
        case rel => exact ⟨k + 1, _, by omega, by omega, by go_num, by rw [H4.out], rfl⟩
end

end Go.Proofs.Ytapjgjjmlbhanaa
