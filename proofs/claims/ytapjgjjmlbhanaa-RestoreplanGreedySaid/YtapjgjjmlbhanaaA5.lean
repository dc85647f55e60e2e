/- Small functions of the library and of the reference: Compare, Index, Contains, Ints, OnesCount16. -/
import Derived.Test.YtapjgjjmlbhanaaA1
import Derived.Test.YtapjgjjmlbhanaaA6
import Derived.Laws.BitsLemmas
import Derived.Laws.Bits64b
namespace Go.Proofs.Ytapjgjjmlbhanaa
open Go.RowKit Go.Lib

theorem isNaN_any (x : Int) (w : World) : Calls Try.prog 74 #[.int .i64 x] w fun e w' => e = .returned (.bool false) ∧ w = w' := by
  go_enter Try.func74, Try.ntmps74
  go_wp2
  go_returns
  exact ⟨by simp, rfl⟩

/-- cmp.Compare. -/
def cmpI (x y : Int) : Int := if x < y then -1 else if y < x then 1 else 0

theorem compare_any (x y : Int) (w : World) : Calls Try.prog 58 #[.int .i64 x, .int .i64 y] w fun e w' => e = .returned (.int .i64 (cmpI x y)) ∧ w = w' := by
  by_cases h1 : x < y
  · have e1 : cmpI x y = -1 := by unfold cmpI; rw [if_pos h1]
    rw [e1]
    clear e1
    go_enter Try.func58, Try.ntmps58
    go_wp2_with (go_at_call 74; refine (isNaN_any _ _).mono ?_; rintro e w' ⟨rfl, rfl⟩)
    go_ret
    exact ⟨rfl, rfl⟩
  · by_cases h2 : y < x
    · have e1 : cmpI x y = 1 := by unfold cmpI; rw [if_neg h1, if_pos h2]
      rw [e1]
      clear e1
      go_enter Try.func58, Try.ntmps58
      go_wp2_with (go_at_call 74; refine (isNaN_any _ _).mono ?_; rintro e w' ⟨rfl, rfl⟩)
      go_ret
      exact ⟨rfl, rfl⟩
    · have e1 : cmpI x y = 0 := by unfold cmpI; rw [if_neg h1, if_neg h2]
      rw [e1]
      clear e1
      go_enter Try.func58, Try.ntmps58
      go_wp2_with (go_at_call 74; refine (isNaN_any _ _).mono ?_; rintro e w' ⟨rfl, rfl⟩)
      go_ret
      exact ⟨rfl, rfl⟩

set_option maxHeartbeats 1000000 in
/-- slices.Index: at least 0 where the element is there. -/
theorem index_any (v : Value) (zs : List Int) (x : Int) (w : World) (hv : ReadsI w v zs) :
    Calls Try.prog 78 #[v, .int .i64 x] w fun e w' => (∃ i : Int, e = .returned (.int .i64 i) ∧ decide (0 ≤ i) = decide (x ∈ zs)) ∧ w = w' := by
  obtain ⟨ao, c, b, off, rfl, hl, hm, hcell⟩ := hv.at
  have HC := Lib.hid hcell
  clear hcell hv
  obtain ⟨r, hr⟩ : ∃ r, r = decide (x ∈ zs) := ⟨_, rfl⟩
  rw [← hr]
  have HR := Lib.hid hr
  clear hr
  obtain ⟨R, hRR⟩ : ∃ R : Ending → Prop, R = fun e => ∃ i : Int, e = .returned (.int .i64 i) ∧ decide (0 ≤ i) = r := ⟨_, rfl⟩
  have hRi : ∀ i : Int, decide (0 ≤ i) = r → R (.returned (.int .i64 i)) := fun i h => by rw [hRR]; exact ⟨i, rfl, h⟩
  suffices h : Calls Try.prog 78 #[Value.slice ao (zs.length) c, .int .i64 x] w fun e w' => R e ∧ w = w' by
    refine h.mono ?_
    rintro e w' ⟨h1, h2⟩
    rw [hRR] at h1
    exact ⟨h1, h2⟩
  have HRI := Lib.hid hRi
  clear hRi hRR
  go_enter Try.func78, Try.ntmps78
  go_wp2
  go_loop [5, 8] (fun _ v8 => ∃ j : Nat, j ≤ zs.length ∧ v8 = .int .i64 j ∧ x ∉ zs.take j) (fun _ v8 => zs.length - (intOf v8).toNat)
  case atStart => exact ⟨0, Nat.zero_le _, rfl, by simp⟩
  case round =>
    obtain ⟨j, hj, rfl, hnot⟩ := hrel
    have HN := Lib.hid hnot
    clear hnot
    by_cases hlt : j < zs.length
    · obtain ⟨e1, e2⟩ := HC.out j hlt
      subst e1
      have hg := getD_at zs j 0 hlt
      have hs := mem_take_succ zs x j hlt
      have HS := Lib.hid hs
      rw [hg] at e2
      have hmem : zs[j] ∈ zs := List.getElem_mem hlt
      have HM := Lib.hid hmem
      clear hs hg hmem
      generalize zs[j] = y at e2 HS HM
      by_cases hy : x = y
      · have k1 : (x == y) = true := by simp [hy]
        obtain rfl : r = true := by rw [HR.out]; exact decide_eq_true (by rw [hy]; exact HM.out)
        clear hy
        go_wp2
        go_ret
        exact ⟨HRI.out _ (by simp), rfl⟩
      · have k1 : (x == y) = false := by simp [hy]
        have HY := Lib.hid hy
        clear hy
        go_wp2
        go_round
        case rel => exact ⟨j + 1, by omega, by go_num, fun h => by (rcases HS.out.1 h with h | h; (exact HN.out h); (exact HY.out h))⟩
        case measure => simp [intOf]; omega
    · have hjl : j = zs.length := by omega
      subst hjl
      have hn := HN.out
      rw [List.take_length] at hn
      obtain rfl : r = false := by rw [HR.out]; exact decide_eq_false hn
      clear hn
      go_wp2
      go_ret
      exact ⟨HRI.out _ (by decide), rfl⟩

theorem slContains_any (v : Value) (zs : List Int) (x : Int) (w : World) (hv : ReadsI w v zs) :
    Calls Try.prog 69 #[v, .int .i64 x] w fun e w' => e = .returned (.bool (decide (x ∈ zs))) ∧ w = w' := by
  have CI := Lib.hid (index_any v zs x w hv)
  clear hv
  go_enter Try.func69, Try.ntmps69
  go_wp2_with fail
  refine CI.out.mono ?_
  rintro e w' ⟨⟨i, rfl, hi⟩, rfl⟩
  have HI := Lib.hid hi
  clear hi
  go_wp2
  go_ret
  exact ⟨by rw [← HI.out]; rfl, rfl⟩

theorem wraps_u16 (n : Int) (h₀ : 0 ≤ n) (h₁ : n < 2 ^ 16) : IntKind.u16.wrap n = n := by
  simp [IntKind.wrap, IntKind.bits, IntKind.signed]
  omega

theorem pop8_of (n : Nat) (h : n < 256) : pop8 (n : Int) = (pop 8 n : Int) := pop8_pop ⟨n, h⟩

set_option maxRecDepth 100000 in
set_option maxHeartbeats 4000000 in
theorem ones16_any (n : Nat) (w : World) (h1 : n ≤ 65535) :
    Calls Try.prog 71 #[.int .u16 n] w fun e w' => e = .returned (.int .i64 (pop 16 n : Nat)) ∧ ∃ q, w' = w.drewN q := by
  have hp := pop16 n
  have p1 := pop8_of (n % 256) (by omega)
  have p2 := pop8_of (n / 256) (by omega)
  have l1 := pop_le 8 (n % 256)
  have l2 := pop_le 8 (n / 256)
  rw [Nat.mod_eq_of_lt (show n / 256 < 256 by omega)] at hp
  rw [hp]
  have hk := bits_mask .u16 16 (by decide) wraps_u16 8 (by decide) (n : Int) (by omega) (by omega)
  rw [show ((2 : Int) ^ 8 - 1) = 255 from rfl, show ((2 : Int) ^ 8) = 256 from rfl] at hk
  have c1 : ((n / 256 : Nat) : Int) = (n : Int) / 256 := by omega
  have c2 : ((n % 256 : Nat) : Int) = (n : Int) % 256 := by omega
  rw [c1] at p2
  rw [c2] at p1
  have q1 : 0 ≤ (n : Int) / 256 := by omega
  have q2 : (n : Int) / 256 ≤ 255 := by omega
  have q3 : 0 ≤ (n : Int) % 256 := by omega
  have q4 : (n : Int) % 256 ≤ 255 := by omega
  clear c1 c2 hp
  generalize pop 8 (n % 256) = a at *
  generalize pop 8 (n / 256) = b at *
  have m1 : IntKind.u8.wrap ((b : Int) + a) = (b : Int) + a := by rw [IntKind.wrap_u8]; omega
  have m2 : IntKind.i64.wrap ((b : Int) + a) = (b : Int) + a := by rw [IntKind.wrap_i64]; omega
  go_enter Try.func71, Try.ntmps71
  go_wp2_with fail
  simp only [List.append_eq, List.cons_append, List.nil_append, Lib.fold_pop8tab]
  go_quiet (fail)
  go_wp2
  go_ret
  refine ⟨?_, _, rfl⟩
  first | rfl | (refine congrArg Ending.returned ?_; show Value.int _ _ = Value.int _ _; congr 1; omega)

set_option maxHeartbeats 1000000 in
theorem ints_any (v u : Value) (zs ys : List Int) (w : World) (hv : ReadsI w v zs) (hu : ReadsI w u ys) :
    Calls Try.prog 25 #[v, u] w fun e w' => e = .returned (.bool (decide (zs = ys))) ∧ ∃ q, w' = w.drewN q := by
  obtain ⟨ao, c, b, off, rfl, hl, hm, hcell⟩ := hv.at
  obtain ⟨ao', c', b', off', rfl, hl', hm', hcell'⟩ := hu.at
  have HC := Lib.hid hcell
  have HC' := Lib.hid hcell'
  clear hcell hv hcell' hu
  obtain ⟨r, hr⟩ : ∃ r, r = decide (zs = ys) := ⟨_, rfl⟩
  rw [← hr]
  have HR := Lib.hid hr
  clear hr
  by_cases hn : zs.length = ys.length
  · obtain ⟨n, hnn⟩ : ∃ n, n = ys.length := ⟨_, rfl⟩
    rw [hn] at hl hm HC ⊢
    have HN := Lib.hid hn
    rw [← hnn] at hl hm HC hl' hm' HC' ⊢
    have HNN := Lib.hid hnn
    clear hn hnn
    have ext : (∀ i, i < n → zs.getD i 0 = ys.getD i 0) → zs = ys := fun h => by
      refine List.ext_getElem HN.out fun i h1 h2 => ?_
      have := h i (by rw [HNN.out]; exact h2)
      rw [getD_at _ _ _ h1, getD_at _ _ _ h2] at this
      exact this
    have HE := Lib.hid ext
    clear ext
    go_enter Try.func25, Try.ntmps25
    go_wp2
    go_loopw [5] (fun v5 wr => ∃ j q : Nat, j ≤ n ∧ v5 = .int .i64 j ∧ (∀ i, i < j → zs.getD i 0 = ys.getD i 0) ∧ wr = w.drewN q) (fun v5 _ => n - (intOf v5).toNat)
    case atStart => exact ⟨0, 0, Nat.zero_le _, rfl, fun i hi => by omega, rfl⟩
    case round =>
      obtain ⟨j, q, hj, rfl, hall, rfl⟩ := hrel
      have HA := Lib.hid hall
      clear hall
      by_cases hlt : j < n
      · obtain ⟨e1, e2⟩ := HC.out j hlt
        obtain ⟨e1', e2'⟩ := HC'.out j hlt
        subst e1 e1'
        have hne : zs.getD j 0 ≠ ys.getD j 0 → r = false := fun h => by rw [HR.out]; exact decide_eq_false fun e => h (by rw [e])
        have hnx : zs.getD j 0 = ys.getD j 0 → ∀ i, i < j + 1 → zs.getD i 0 = ys.getD i 0 := fun h i hi => by
          by_cases e : i = j
          · subst e; exact h
          · exact HA.out i (by omega)
        have H1 := Lib.hid hne
        have H2 := Lib.hid hnx
        clear hne hnx
        generalize zs.getD j 0 = x at e2 H1 H2
        generalize ys.getD j 0 = y at e2' H1 H2
        by_cases hxy : x = y
        · have k1 : (x != y) = false := by simp [hxy]
          have H3 := Lib.hid (H2.out hxy)
          clear hxy
          go_wp2
          go_quiet (fail)
          go_wp2
          go_roundw
          case rel => exact ⟨j + 1, _, by omega, by go_num, H3.out, rfl⟩
          case measure => simp [intOf]; omega
        · have k1 : (x != y) = true := by simp [hxy]
          have hr := H1.out hxy
          subst hr
          clear hxy
          go_wp2
          go_quiet (fail)
          go_wp2
          go_ret
          exact ⟨rfl, _, World.drewN_drewN ..⟩
      · have hjl : j = n := by omega
        subst hjl
        obtain rfl : r = true := by rw [HR.out]; exact decide_eq_true (HE.out HA.out)
        go_wp2
        go_ret
        exact ⟨rfl, _, rfl⟩
  · have hrf : r = false := by rw [HR.out]; exact decide_eq_false fun e => hn (by rw [e])
    subst hrf
    have k1 : (zs.length == ys.length) = false := by simp [hn]
    have k2 : ((zs.length : Int) != (ys.length : Int)) = true := by simp; omega
    go_enter Try.func25, Try.ntmps25
    go_wp2
    go_ret
    exact ⟨rfl, 0, rfl⟩

end Go.Proofs.Ytapjgjjmlbhanaa
