/- Greedy. -/
import Derived.Test.YtapjgjjmlbhanaaH2
namespace Go.Proofs.Ytapjgjjmlbhanaa
open Go.RowKit Go.Lib

/-- Another row appended. -/
theorem OwnI.appendI {V : World} {base b2 : Nat} {v u : Value} {ds es : List Int} (h : OwnI V base v ds) (hu : OwnI V b2 u es) (hne : es ≠ []) (hn : ds.length ≤ 1000000000) (hm : es.length ≤ 1000000000) (hbase : base ≤ V.heap.size) :
    ∃ v' w', (Builtin.append_ #[24, 24] 24 #[v, u]).run Try.prog V = .ok v' w' ∧ OwnI w' base v' (ds ++ es) ∧ Below base V w' ∧ (∀ b, b < V.heap.size → v.ownBlock ≠ some b → w'.heap[b]? = V.heap[b]?) := by
  obtain ⟨i0, hi, hz0, hz1, hz2⟩ := info_parts (P := Try.prog) (t := 3) (z := .int .i64 0) (s := 1) (b := 8) (by kernel_rfl)
  obtain ⟨xs, hown, hxs⟩ := h
  obtain ⟨ys, hown2, hys⟩ := hu
  have h0 := hown2
  obtain ⟨hl2, h2⟩ := h0
  rcases h2 with ⟨_, e0⟩ | ⟨g, cap, cur, rfl, _⟩
  · rw [e0, Nat.zero_mul] at hl2
    exact absurd (List.length_eq_zero_iff.1 e0) hne
  · obtain ⟨v', w', r, o1, o2, _, o4⟩ := run_append_own_at (P := Try.prog) V base 24 24 3 i0 (.int .i64 0) 1 8 Try.underlying24 hi hz0 hz1 hz2 rfl (by omega) v _ _ hown ⟨g, 0, none⟩ es.length cap ys hl2 (by
      intro j x hj
      have hadd : (⟨g, 0, none⟩ : Addr).add j = ⟨g, j, none⟩ := by unfold Addr.add; split <;> simp_all
      have hlt := (List.getElem?_eq_some_iff.1 hj).1
      rw [hadd, hown2.cellAt j (by omega), hj]) (by
      intro x hx
      obtain ⟨j, hj, rfl⟩ := List.getElem_of_mem hx
      have := hys j 0 (by omega) (by omega)
      simp only [Nat.mul_one, Nat.add_zero] at this
      rw [List.getElem?_eq_getElem hj] at this
      rw [Option.some.inj this]
      rfl) (by unfold maxLen; omega) (by omega) hbase
    refine ⟨v', w', r, ⟨xs ++ ys, by rw [List.length_append]; exact o1, fun i j hi' hj => ?_⟩, ⟨o2.os, o2.tape, o2.output, o2.size, fun i hi => o2.block i (by omega) (fun e => by have := (hown.lt i e.symm).1; omega)⟩, fun b hb hn' => o2.block b hb (fun e => hn' e.symm)⟩
    have hlen := hown.1
    rw [List.length_append] at hi'
    obtain rfl : j = 0 := by omega
    by_cases hin : i < ds.length
    · rw [List.getElem?_append_left (by omega), hxs i 0 hin hj]
      dsimp only
      rw [getD_at _ _ _ hin, getD_at _ _ _ (by rw [List.length_append]; omega), List.getElem_append_left hin]
    · rw [List.getElem?_append_right (by omega), show i * 1 + 0 - xs.length = (i - ds.length) * 1 + 0 by omega, hys (i - ds.length) 0 (by omega) hj]
      dsimp only
      rw [getD_at _ _ _ (show i - ds.length < es.length by omega), getD_at _ _ _ (by rw [List.length_append]; omega), List.getElem_append_right (by omega)]

/-- The gain-wise best of the first holdings that are not in the set: its bit, and what then lacks. -/
def pickG (g : Gl) (L : List Hd) (set : Nat) : Nat → Nat × Int
  | 0 => (0, 0)
  | i + 1 => if set / 2 ^ i % 2 = 1 then pickG g L set i else if (pickG g L set i).1 = 0 ∨ sumL g L (set ||| 2 ^ i) < (pickG g L set i).2 then (2 ^ i, sumL g L (set ||| 2 ^ i)) else pickG g L set i
def grd (g : Gl) (L : List Hd) : Nat → Nat → List Int
  | 0, _ => []
  | f + 1, set => if sufB g L set = true then [] else devL L (pickG g L set L.length).1 ++ grd g L f (set ||| (pickG g L set L.length).1)
def greedyL (g : Gl) (L : List Hd) : List Int := grd g L L.length 0
/-- How many of the first n holdings are not in the set. -/
def unset (set n : Nat) : Nat := (List.range n).countP fun i => !set.testBit i

theorem unset_zero {set n : Nat} (h : unset set n = 0) (hs : set < 2 ^ n) : set = 2 ^ n - 1 := by
  unfold unset at h
  rw [List.countP_eq_zero] at h
  refine Nat.eq_of_testBit_eq fun i => ?_
  rw [Nat.testBit_two_pow_sub_one]
  by_cases hi : i < n
  · have := h i (List.mem_range.2 hi)
    simp at this
    simp [this, hi]
  · rw [Nat.testBit_lt_two_pow (Nat.lt_of_lt_of_le hs (Nat.pow_le_pow_right (by omega) (by omega)))]
    simp [hi]
theorem unset_or {set n i : Nat} (hi : i < n) (hb : set.testBit i = false) : unset (set ||| 2 ^ i) n + 1 = unset set n := by
  unfold unset
  obtain ⟨s, t, e⟩ := List.append_of_mem (List.mem_range.2 hi)
  have hnd : (s ++ i :: t).Nodup := e ▸ List.nodup_range
  have hne : ∀ r : List Nat, i ∉ r → r.countP (fun j => !(set ||| 2 ^ i).testBit j) = r.countP fun j => !set.testBit j := fun r hr => List.countP_congr fun j hj => by
    have : i ≠ j := fun x => hr (x ▸ hj)
    simp [Nat.testBit_or, this]
  rw [List.nodup_append] at hnd
  have h1 : i ∉ s := fun h => hnd.2.2 i h i (by simp) rfl
  have h2 : i ∉ t := (List.nodup_cons.1 hnd.2.1).1
  rw [e, List.countP_append, List.countP_append, List.countP_cons, List.countP_cons, hne s h1, hne t h2]
  simp [Nat.testBit_or, hb]
  omega
theorem bit_test (set i : Nat) : (set / 2 ^ i % 2 = 1) ↔ set.testBit i = true := by
  rw [Nat.testBit_eq_decide_div_mod_eq]; simp
theorem pickG_spec (g : Gl) (L : List Hd) (set : Nat) : ∀ n, ((pickG g L set n).1 = 0 ∧ unset set n = 0) ∨ ∃ i, i < n ∧ (pickG g L set n).1 = 2 ^ i ∧ set.testBit i = false
  | 0 => .inl ⟨rfl, rfl⟩
  | n + 1 => by
    have ih := pickG_spec g L set n
    have hu : unset set (n + 1) = unset set n + if set.testBit n = true then 0 else 1 := by
      unfold unset
      rw [List.range_succ, List.countP_append, List.countP_cons, List.countP_nil]
      cases set.testBit n <;> simp
    unfold pickG
    by_cases hb : set / 2 ^ n % 2 = 1
    · rw [if_pos hb]
      rw [if_pos ((bit_test set n).1 hb)] at hu
      rcases ih with ⟨h1, h2⟩ | ⟨i, h1, h2, h3⟩
      · exact .inl ⟨h1, by omega⟩
      · exact .inr ⟨i, by omega, h2, h3⟩
    · rw [if_neg hb]
      have hb' : set.testBit n = false := by
        cases h : set.testBit n with
        | false => rfl
        | true => exact absurd ((bit_test set n).2 h) hb
      split
      · exact .inr ⟨n, by omega, rfl, hb'⟩
      · rename_i hc
        rcases ih with ⟨h1, h2⟩ | ⟨i, h1, h2, h3⟩
        · exact absurd (.inl h1) hc
        · exact .inr ⟨i, by omega, h2, h3⟩
theorem or12 (a j : Nat) (ha : a < 4096) (hj : j < 12) : bits .or .i64 (a : Int) (2 ^ j) = ((a ||| 2 ^ j : Nat) : Int) := by
  have e : ((2 : Int) ^ j) = ((2 ^ j : Nat) : Int) := by simp
  rw [e]
  have h1 : 2 ^ j < 2 ^ 63 := Nat.pow_lt_pow_right (by omega) (by omega)
  exact (bits_nat .i64 63 (by decide) wraps_i64 a (2 ^ j) (by omega) h1).2
theorem orN12 (a b : Nat) (ha : a < 4096) (hb : b < 4096) : bits .or .i64 (a : Int) (b : Int) = ((a ||| b : Nat) : Int) :=
  (bits_nat .i64 63 (by decide) wraps_i64 a b (by omega) (by omega)).2
theorem devL_bit {L : List Hd} {i : Nat} (hi : i < L.length) : devL L (2 ^ i) ≠ [] := by
  have : ∀ n, i < n → devTo L (2 ^ i) n ≠ [] := by
    intro n
    induction n with
    | zero => intro h; omega
    | succ n ih =>
      intro h
      unfold devTo
      by_cases e : i = n
      · subst e
        rw [if_pos (by rw [bit_test, Nat.testBit_two_pow]; simp)]
        simp
      · have := ih (by omega)
        simp [this]
  exact this _ hi

end Go.Proofs.Ytapjgjjmlbhanaa

/- Greedy, walked. -/
namespace Go.Proofs.Ytapjgjjmlbhanaa
open Go.RowKit Go.Lib

/-- What Greedy answers. -/
def GreedyPost (g : Gl) (L : List Hd) (w : World) (e : Ending) (w' : World) : Prop :=
  (sufB g L (2 ^ L.length - 1) = false ∧ e = .returned (.tuple #[.slice none 0 0, .int .i64 10]) ∧ Below w.heap.size w w') ∨
  (sufB g L (2 ^ L.length - 1) = true ∧ ∃ v, e = .returned (.tuple #[v, .int .i64 0]) ∧ ReadsI w' v (greedyL g L) ∧ Below w.heap.size w w')

theorem sumL_bd {g : Gl} {hs L : List Hd} (hok : Ok g hs) (set : Nat) : 0 ≤ sumL g L set ∧ sumL g L set ≤ 1000 := by
  unfold sumL sumS
  have h1 := lackS_bd g.thr (ofL g L set) hok.1.2.1.2
  have h2 := lackTo_bd g.ns (ofL g L set) hok.2.1.2 g.ns.length (Nat.le_refl _)
  have h3 := hok.1.1
  split <;> omega

set_option maxRecDepth 100000 in
set_option maxHeartbeats 8000000 in
theorem greedy_ok (g : Gl) (v : Value) (hs : List Hd) (w : World) (hg : GlAt w g) (hv : ReadsH w v hs) (hok : Ok g hs) :
    Calls Try.prog 23 #[g.v, v] w fun e w' => ∃ L : List Hd, L.Perm hs ∧ (L.map Hd.dev).Pairwise (· < ·) ∧ GreedyPost g L w e w' := by
  have cc := fun W h1 h2 => read_ok g v hs W h1 h2 hok
  obtain ⟨na, n1, nc, pa, n2, pc, sa, n3, sc, e1⟩ := hg.val
  obtain ⟨ao, n4, c4, rfl⟩ := hv.val
  rw [e1] at cc ⊢
  have CC := Lib.hid cc
  have HG := Lib.hid hg
  have HV := Lib.hid hv
  have HOK := Lib.hid hok
  clear hg hv hok cc e1
  go_enter Try.func23, Try.ntmps23
  go_wp2_with fail
  refine (CC.out _ (HG.out.below (by (repeat' (first | (with_reducible exact Below.refl _ _) | (with_reducible assumption) | (with_reducible refine Below.alloc ?_ ?_ _) | (with_reducible refine Below.drew ?_) | (with_reducible refine below_drewN ?_ _) | (with_reducible refine Below.setCell ?_ ?_ _) | (with_reducible refine below_step ?_ (by with_reducible assumption) ?_) | go_size)))) (HV.out.below (by (repeat' (first | (with_reducible exact Below.refl _ _) | (with_reducible assumption) | (with_reducible refine Below.alloc ?_ ?_ _) | (with_reducible refine Below.drew ?_) | (with_reducible refine below_drewN ?_ _) | (with_reducible refine Below.setCell ?_ ?_ _) | (with_reducible refine below_step ?_ (by with_reducible assumption) ?_) | go_size))))).mono ?_
  rintro e w1 ⟨b, x, pl, L, rfl, hpo, hb⟩
  have hw1 : Below w.heap.size w w1 := by (repeat' (first | (with_reducible exact Below.refl _ _) | (with_reducible assumption) | (with_reducible refine Below.alloc ?_ ?_ _) | (with_reducible refine Below.drew ?_) | (with_reducible refine below_drewN ?_ _) | (with_reducible refine Below.setCell ?_ ?_ _) | (with_reducible refine below_step ?_ (by with_reducible assumption) ?_) | go_size))
  have hl12 : L.length ≤ 12 := by have := hpo.len; have := HOK.out.1.2.2; omega
  have hp12 := two12 hl12
  have hp0 : 1 ≤ 2 ^ L.length := Nat.one_le_two_pow
  have PO := Lib.hid hpo
  have HPL := Lib.hid hpo.permL
  have HSD := Lib.hid hpo.sorted
  have C53 := Lib.hid (all_plan HOK.out hpo)
  obtain ⟨N, hN⟩ : ∃ N, N = 2 ^ L.length - 1 := ⟨_, rfl⟩
  have HN := Lib.hid hN
  rw [← hN] at C53
  have hN4 : N < 4096 := by omega
  have C52 := Lib.hid (suffices_plan HOK.out hpo N hN4)
  have z1 := hw1.size
  clear hpo hb hN
  go_wp2_with fail
  refine C53.out.mono ?_
  rintro e w2 ⟨rfl, rfl⟩
  by_cases hall : sufB g L N = true
  · have c52 := C52.out
    rw [hall] at c52
    have C52' := Lib.hid c52
    have HALL := Lib.hid hall
    clear c52 hall C52
    go_wp2_with fail
    refine C52'.out.mono ?_
    rintro e w2 ⟨rfl, hb2⟩
    have hw2 : Below w.heap.size w w2 := hw1.trans (hb2.mono z1)
    have PO2 := Lib.hid (PO.out.below hb2)
    have z2 := hb2.size
    go_wp2_with fail
    go_loopg [8, 9] L.length (fun gk v8 v9 wx => ∃ (set : Nat) (out : List Int), set < 2 ^ L.length ∧ unset set L.length = gk ∧ v9 = .int .i64 set ∧ OwnI wx w2.heap.size v8 out ∧ out.length ≤ 12 * (12 - gk) ∧ gk ≤ 12 ∧ out ++ grd g L gk set = greedyL g L ∧ Below w2.heap.size w2 wx)
    case atStart => exact ⟨0, [], by omega, by simp [unset], rfl, OwnI.nil _ _, by simp, by omega, rfl, Below.refl _ _⟩
    case round =>
      obtain ⟨set, out, hset, hun, rfl, hown, hol, hgk, hrun, hbx⟩ := hrel
      have HO := Lib.hid hown
      have HRUN := Lib.hid hrun
      have HUN := Lib.hid hun
      have zx := hbx.size
      have C52 := Lib.hid (suffices_plan HOK.out (PO2.out.below hbx) set (by omega))
      clear hown hrun hun
      by_cases hsf : sufB g L set = true
      · have hr := HRUN.out
        have hg0 : grd g L gk set = [] := by
          cases gk with
          | zero => rfl
          | succ f => show (if sufB g L set = true then [] else _) = []; rw [if_pos hsf]
        rw [hg0, List.append_nil] at hr
        have c52 := C52.out
        rw [hsf] at c52
        have C52' := Lib.hid c52
        have HR := Lib.hid hr
        clear hr hg0 c52 hsf C52
        go_wp2_with fail
        refine C52'.out.mono ?_
        rintro e w3 ⟨rfl, hb3⟩
        have hown3 := HO.out.below hb3
        have hrd := hown3.reads (by omega)
        rw [HR.out] at hrd
        have HRD := Lib.hid hrd
        have B3 := hw2.trans ((hbx.trans (hb3.mono zx)).mono (Nat.le_trans z1 z2))
        clear hown3 hrd hb3
        go_wp2
        go_ret2
        exact ⟨L, HPL.out, HSD.out, .inr ⟨by rw [← HN.out]; exact HALL.out, _, rfl, HRD.out, B3⟩⟩
      · have hsf0 : sufB g L set = false := by simpa using hsf
        have c52 := C52.out
        rw [hsf0] at c52
        have C52' := Lib.hid c52
        cases gk with
        | zero =>
          exfalso
          have := unset_zero HUN.out hset
          rw [← HN.out] at this
          rw [this] at hsf
          exact hsf HALL.out
        | succ go =>
          have hr := HRUN.out
          have hg1 : grd g L (go + 1) set = devL L (pickG g L set L.length).1 ++ grd g L go (set ||| (pickG g L set L.length).1) := by
            show (if sufB g L set = true then [] else _) = _
            rw [if_neg hsf]
          rw [hg1, ← List.append_assoc] at hr
          have HR := Lib.hid hr
          clear hr hg1 c52 hsf hsf0 C52
          go_wp2_with fail
          refine C52'.out.mono ?_
          rintro e w3 ⟨rfl, hb3⟩
          have hb03 := hbx.trans (hb3.mono zx)
          have z3 := hb3.size
          have pk := PO2.out.below hb03
          obtain ⟨lao, lc, elv⟩ : ∃ ao c, x.lv = .slice ao L.length c := by
            obtain ⟨ao, c, _, _, e, _⟩ := pk.list.at
            exact ⟨ao, c, e⟩
          have c6 := pk.plan.cell 6 (by omega)
          have e6 : x.cell 6 = x.lv := rfl
          rw [e6, elv] at c6
          have PK := Lib.hid pk
          have HO3 := Lib.hid (HO.out.below hb3)
          clear pk elv e6 HO
          generalize hn : L.length = n at *
          have HNN := Lib.hid hn
          clear hn
          go_wp2_with fail
          go_loopg [10, 11, 37] n (fun g2 v10 v11 v37 wy => ∃ i : Nat, i + g2 = n ∧ v37 = .int .i64 i ∧ v10 = .int .i64 ((pickG g L set i).1 : Nat) ∧ v11 = .int .i64 (pickG g L set i).2 ∧ Below w3.heap.size w3 wy)
          case atStart => exact ⟨0, by omega, rfl, rfl, rfl, Below.refl _ _⟩
          case round =>
            obtain ⟨i, hi, rfl, rfl, rfl, hby⟩ := hrel
            have zy := hby.size
            cases gk with
            | zero =>
              obtain rfl : i = n := by omega
              obtain ⟨q, hq1, hq2, hq3⟩ : ∃ q, q < i ∧ (pickG g L set i).1 = 2 ^ q ∧ set.testBit q = false := by
                rcases pickG_spec g L set i with ⟨_, h0⟩ | h
                · have := HUN.out; omega
                · exact h
              have hr := HR.out
              rw [hq2] at hr
              rw [hq2]
              have hq4 : 2 ^ q < 4096 := by
                have : 2 ^ q < 2 ^ 12 := Nat.pow_lt_pow_right (by omega) (by omega)
                exact this
              have hqn : 2 ^ q < 2 ^ i := Nat.pow_lt_pow_right (by omega) hq1
              have hor := orN12 set (2 ^ q) (by omega) hq4
              have hlt2 : set ||| 2 ^ q < 2 ^ i := Nat.or_lt_two_pow hset hqn
              have hun := unset_or hq1 hq3
              have hne := devL_bit (L := L) (i := q) (by rw [HNN.out]; exact hq1)
              have hdl := devL_le L (2 ^ q)
              rw [HNN.out] at hdl
              have C51 := Lib.hid (devices_plan HOK.out (PK.out.below hby) (2 ^ q) hq4)
              have HR2 := Lib.hid hr
              have HUN2 := Lib.hid (show unset (set ||| 2 ^ q) i = go by have := HUN.out; omega)
              have HNE := Lib.hid hne
              clear hr HR hun hne
              have hol2 : (out ++ devL L (2 ^ q)).length ≤ 12 * (12 - go) := by rw [List.length_append]; omega
              generalize devL L (2 ^ q) = es at *
              generalize (2 ^ q : Nat) = c at *
              generalize set ||| c = s2 at *
              clear hq2
              go_wp2_with fail
              refine C51.out.mono ?_
              rintro e w5 ⟨u5, rfl, ho5, hb5⟩
              have z5 := hb5.size
              obtain ⟨a5, c5, e5⟩ := ho5.slice
              obtain ⟨v3, w6, r3, o1, o2, o3⟩ := ((HO3.out.below hby).below hb5).appendI ho5 HNE.out (by omega) (by omega) (by omega)
              have O1 := Lib.hid o1
              have B6 := Lib.hid ((hb03.trans ((hby.mono (by omega)).trans (hb5.mono (by omega)))).trans o2)
              clear o1 o2 o3 ho5
              subst e5
              go_wp2_with (at_builtin; refine wpList_append_run (by rfl) (.tmp 67) (.tmp 70) 24 (by rfl) _ (.slice a5 es.length c5) v3 w6 (by rfl) (by rfl) r3 ?_)
              go_roundg go
              case measure => omega
              case rel => exact ⟨s2, out ++ es, hlt2, HUN2.out, rfl, O1.out, hol2, by omega, HR2.out, B6.out⟩
            | succ g2 =>
              have hin : i < n := by omega
              have hst : pickG g L set (i + 1) = if set / 2 ^ i % 2 = 1 then pickG g L set i else if (pickG g L set i).1 = 0 ∨ sumL g L (set ||| 2 ^ i) < (pickG g L set i).2 then (2 ^ i, sumL g L (set ||| 2 ^ i)) else pickG g L set i := rfl
              have hand := bit_and set i (by omega)
              have hPin : (pickG g L set i).1 ≤ 4096 := by
                rcases pickG_spec g L set i with ⟨h0, _⟩ | ⟨q, h1, h2, _⟩
                · omega
                · rw [h2]; exact two12 (by omega)
              by_cases hq : set / 2 ^ i % 2 = 1
              · rw [hq, show ((1 : Nat) : Int) = 1 from rfl] at hand
                rw [if_pos hq] at hst
                have HST := Lib.hid hst
                clear hst hq
                generalize pickG g L set i = cl at *
                go_wp2_with fail
                go_roundg g2
                case measure => omega
                case rel => exact ⟨i + 1, by omega, by go_num, by rw [HST.out], by rw [HST.out], hby⟩
              · rw [show set / 2 ^ i % 2 = 0 by omega, show ((0 : Nat) : Int) = 0 from rfl] at hand
                rw [if_neg hq] at hst
                have hlt2 : set ||| 2 ^ i < 2 ^ 12 := Nat.or_lt_two_pow (by show set < 4096; omega) (Nat.pow_lt_pow_right (by omega) (by omega))
                have hw2 : IntKind.i64.wrap (2 ^ i) = (2 ^ i : Int) := by
                  have e : ((2 : Int) ^ i) = ((2 ^ i : Nat) : Int) := by simp
                  have hp : 2 ^ i < 2 ^ 12 := Nat.pow_lt_pow_right (by omega) (by omega)
                  rw [e]
                  generalize (2 ^ i : Nat) = pw at hp
                  exact wraps_i64 _ (by omega) (by omega)
                have hor := or12 set i (by omega) (by omega)
                have C42 := Lib.hid (of_plan HOK.out (PK.out.below hby) (set ||| 2 ^ i) hlt2)
                have C54 := Lib.hid (fun w' hb => sum_plan (w := w') HOK.out ((PK.out.below hby).below hb) (ofL g L (set ||| 2 ^ i)) (ofL_wf HOK.out HPL.out (set ||| 2 ^ i)))
                have hsum := sumL_bd (L := L) HOK.out (set ||| 2 ^ i)
                have hsl : sumL g L (set ||| 2 ^ i) = sumS g.thr g.ns (ofL g L (set ||| 2 ^ i)) := rfl
                have hpw : ((2 ^ i : Nat) : Int) = (2 : Int) ^ i := by simp
                rw [hsl] at hst hsum
                have HST := Lib.hid hst
                have HPW := Lib.hid hpw
                clear hst hq hsl hpw
                generalize sumS g.thr g.ns (ofL g L (set ||| 2 ^ i)) = t at *
                generalize ofL g L (set ||| 2 ^ i) = s at *
                generalize set ||| 2 ^ i = s2 at *
                generalize pickG g L set i = cl at *
                obtain ⟨c, l⟩ := cl
                simp only at hPin HST ⊢
                go_wp2_with fail
                refine C42.out.mono ?_
                rintro e w5 ⟨rfl, hb5⟩
                go_wp2_with fail
                refine (C54.out _ hb5).mono ?_
                rintro e w6 ⟨rfl, hb6⟩
                have B6 := Lib.hid (hby.trans ((hb5.trans (hb6.mono hb5.size)).mono zy))
                clear hb5 hb6
                by_cases hc : c = 0
                · have k1 : ((c : Int) == 0) = true := by simp; omega
                  have hst := HST.out
                  rw [if_pos (.inl hc)] at hst
                  have HST2 := Lib.hid hst
                  clear hst hc HST
                  go_wp2_with fail
                  go_roundg g2
                  case measure => omega
                  case rel => exact ⟨i + 1, by omega, by go_num, by rw [HST2.out, HPW.out], by rw [HST2.out], B6.out⟩
                · have k1 : ((c : Int) == 0) = false := by simp; omega
                  by_cases hlt : t < l
                  · have hst := HST.out
                    rw [if_pos (.inr hlt)] at hst
                    have HST2 := Lib.hid hst
                    clear hst hc HST
                    go_wp2_with fail
                    go_roundg g2
                    case measure => omega
                    case rel => exact ⟨i + 1, by omega, by go_num, by rw [HST2.out, HPW.out], by rw [HST2.out], B6.out⟩
                  · have hst := HST.out
                    rw [if_neg (fun h => h.elim hc hlt)] at hst
                    have HST2 := Lib.hid hst
                    have hlt2 : decide (t < l) = false := decide_eq_false hlt
                    clear hst hc HST
                    go_wp2_with fail
                    go_roundg g2
                    case measure => omega
                    case rel => exact ⟨i + 1, by omega, by go_num, by rw [HST2.out], by rw [HST2.out], B6.out⟩
  · have hall0 : sufB g L N = false := by simpa using hall
    have c52 := C52.out
    rw [hall0] at c52
    have C52' := Lib.hid c52
    have HALL := Lib.hid hall0
    clear c52 hall hall0 C52
    go_wp2_with fail
    refine C52'.out.mono ?_
    rintro e w2 ⟨rfl, hb2⟩
    have hw2 : Below w.heap.size w w2 := hw1.trans (hb2.mono z1)
    go_wp2
    go_ret2
    exact ⟨L, HPL.out, HSD.out, .inl ⟨by rw [← HN.out]; exact HALL.out, rfl, hw2⟩⟩

end Go.Proofs.Ytapjgjjmlbhanaa
