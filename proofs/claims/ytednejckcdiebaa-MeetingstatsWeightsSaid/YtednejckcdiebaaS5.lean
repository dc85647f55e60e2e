/- The reference's weight. -/
import Derived.Test.YtednejckcdiebaaS4
import Derived.Test.YtednejckcdiebaaT
namespace Go.Proofs.Ytednejckcdiebaa
open Go.RowKit Go.Lib Go.ChangeMaps
set_option linter.unusedSimpArgs false

/-- 2 to the 20, halved k times. -/
def halved (k : Nat) : Int := ((1048576 / 2 ^ k : Nat) : Int)
theorem halved_step (k : Nat) : halved (k + 1) = halved k / 2 := by
  unfold halved
  rw [Nat.pow_succ, ← Nat.div_div_eq_div_mul, Int.natCast_ediv]
  rfl
theorem halved_bound (k : Nat) : 0 ≤ halved k ∧ halved k ≤ 1048576 := by
  unfold halved
  have := Nat.div_le_self 1048576 (2 ^ k)
  exact ⟨Int.natCast_nonneg _, Int.ofNat_le.2 this⟩
theorem halved_mono {i k : Nat} (h : i ≤ k) : halved k ≤ halved i := by
  unfold halved
  exact Int.ofNat_le.2 (Nat.div_le_div_left (Nat.pow_le_pow_right (by omega) h) (Nat.two_pow_pos i))
theorem halved_zero (k : Nat) (h : 21 ≤ k) : halved k = 0 := by
  unfold halved
  have h1 : 2 ^ 21 ≤ 2 ^ k := Nat.pow_le_pow_right (by omega) h
  rw [Nat.div_eq_of_lt (by omega)]
  rfl
theorem halved_grain (k : Nat) (h : k ≤ 20) : halved k = 2 ^ (20 - k) := by
  unfold halved
  have : (1048576 : Nat) = 2 ^ (20 - k) * 2 ^ k := by rw [← Nat.pow_add, Nat.sub_add_cancel h]
  rw [this, Nat.mul_div_cancel _ (Nat.two_pow_pos k)]
  simp
/-- The weight of a day. -/
def wref (d x : Int) : Int := if x ≤ d then halved ((d - x) / 8).toNat else 0
def wsum (zs : List Int) (d : Int) : Int := (zs.map (wref d)).sum
theorem wref_bound (d x : Int) : 0 ≤ wref d x ∧ wref d x ≤ 1048576 := by
  unfold wref
  split
  · exact halved_bound _
  · omega
theorem wsum_bound (d : Int) : ∀ zs : List Int, 0 ≤ wsum zs d ∧ wsum zs d ≤ 1048576 * zs.length
  | [] => by simp [wsum]
  | m :: r => by
    have h := wsum_bound d r
    have := wref_bound d m
    simp only [wsum, List.map_cons, List.sum_cons, List.length_cons] at h ⊢
    omega
theorem wsum_snoc (zs : List Int) (d : Int) (i : Nat) (h : i < zs.length) : wsum (zs.take (i + 1)) d = wsum (zs.take i) d + wref d (zs.getD i 0) := by
  rw [List.take_succ_eq_append_getElem h]
  simp only [wsum, List.map_append, List.sum_append, List.getD, List.getElem?_eq_getElem h, Option.getD_some]
  simp
theorem wsum_heft (zs : List Int) (d : Int) (hs : zs.Pairwise (· ≤ ·)) : wsum zs d = heft (win zs (d - 168 + 1) d) d := by
  rw [win_filter zs _ _ hs (by omega)]
  clear hs
  unfold wsum heft
  induction zs with
  | nil => rfl
  | cons x r ih =>
    rw [List.map_cons, List.sum_cons, ih]
    by_cases h : d - 168 + 1 ≤ x ∧ x ≤ d
    · rw [List.filter_cons_of_pos (by simpa using h), List.map_cons, List.sum_cons]
      congr 1
      unfold wref grain
      rw [if_pos h.2, halved_grain _ (by omega)]
      congr 1
      omega
    · rw [List.filter_cons_of_neg (by simpa using h)]
      have : wref d x = 0 := by
        unfold wref
        split
        · exact halved_zero _ (by omega)
        · rfl
      omega

set_option maxRecDepth 100000 in
set_option maxHeartbeats 4000000 in
theorem refWeight_any (v : Value) (zs : List Int) (d : Int) (w : World) (hv : Reads w v zs) (hlen : zs.length ≤ 1000000) (hlo : ∀ x ∈ zs, 0 ≤ x ∧ x ≤ 999999) (h0 : 0 ≤ d) (h1 : d ≤ 999999) :
    Calls Try.prog 34 #[v, .int .i64 d] w fun e w' => e = .returned (.int .i64 (wsum zs d)) ∧ Below w.heap.size w w' := by
  obtain ⟨ao, c, b, off, rfl, hl, hcell⟩ := hv.at
  have HC := Lib.hid hcell
  have HLO := Lib.hid hlo
  clear hcell hv hlo
  go_enter Try.func34, Try.ntmps34
  go_wp2
  go_loopw [5, 6, 7, 8] (fun v5 v6 _ _ wr => ∃ j : Nat, j ≤ zs.length ∧ v6 = .int .i64 j ∧ v5 = .int .i64 (wsum (zs.take j) d) ∧ Below w.heap.size w wr) (fun _ v6 _ _ _ => zs.length - (intOf v6).toNat)
  case atStart => exact ⟨0, Nat.zero_le _, rfl, rfl, Below.refl _ _⟩
  case round =>
    obtain ⟨j, hj, rfl, rfl, hbel⟩ := hrel
    have HB := Lib.hid hbel
    by_cases hlt : j < zs.length
    · obtain ⟨e1, e2⟩ := HC.out j hlt
      subst e1
      have e2 := bc hbel e2
      have HX := Lib.hid (HLO.out (zs.getD j 0) (by rw [List.getD, List.getElem?_eq_getElem hlt]; exact List.getElem_mem hlt))
      have HS := Lib.hid (wsum_snoc zs d j hlt)
      have hbd := wsum_bound d (zs.take j)
      have hl2 : (zs.take j).length ≤ 1000000 := by simp; omega
      have HBD := Lib.hid (show 0 ≤ wsum (zs.take j) d ∧ wsum (zs.take j) d ≤ 1048576000000 by omega)
      clear hbd hl2 hbel
      generalize zs.getD j 0 = x at *
      generalize wsum (zs.take j) d = s at *
      have hx := HX.out
      by_cases hxd : x ≤ d
      · obtain ⟨q, hq⟩ : ∃ q : Nat, (q : Int) = (d - x) / 8 := ⟨((d - x) / 8).toNat, by omega⟩
        have HQ := Lib.hid hq
        have hq2 : (d - x).tdiv 8 = q := by rw [Int.tdiv_eq_ediv_of_nonneg (by omega)]; omega
        have HW := Lib.hid (show wref d x = halved q by unfold wref; rw [if_pos hxd, ← hq]; rfl)
        have hqb : (q : Int) ≤ 125000 := by omega
        clear hq
        go_wp2
        go_loop [7, 8] (fun v7 v8 => ∃ kx : Nat, v8 = .int .i64 kx ∧ v7 = .int .i64 (halved kx) ∧ kx ≤ q) (fun _ v8 => q - (intOf v8).toNat)
        case atStart => exact ⟨0, rfl, rfl, Nat.zero_le _⟩
        case round =>
          obtain ⟨kx, rfl, rfl, hkq⟩ := hrel
          have HHB := Lib.hid (halved_bound kx)
          have HHS := Lib.hid (halved_step kx)
          have HHM := Lib.hid (halved_mono hkq)
          have HH0 := Lib.hid (halved_bound q)
          obtain ⟨hk, hhk⟩ : ∃ hk, hk = halved kx := ⟨_, rfl⟩
          rw [← hhk] at HHB HHS HHM ⊢
          have HK := Lib.hid hhk
          clear hhk
          have hkb := HHB.out
          have HSB := HBD.out
          have tail : ∀ hv : Int, hv = halved q → IntKind.i64.wrap (s + hv) = wsum (zs.take (j + 1)) d := fun hv e => by
            have := HH0.out
            rw [HS.out, HW.out, ← e, IntKind.wrap_i64]
            omega
          have TAIL := Lib.hid tail
          clear tail
          by_cases hlt2 : kx < q
          · by_cases hpos : 0 < hk
            · have hq3 : hk.tdiv 2 = hk / 2 := by rw [Int.tdiv_eq_ediv_of_nonneg (by omega)]
              go_wp2
              go_round
              case rel => exact ⟨kx + 1, by go_num, by rw [HHS.out], by omega⟩
              case measure => simp [intOf]; omega
            · have hz : hk = 0 := by omega
              have HE := Lib.hid (show hk = halved q by have := HHM.out; have := HH0.out; omega)
              subst hz
              go_wp2
              go_roundw
              case rel => exact ⟨j + 1, by omega, by go_num, congrArg _ (show s = _ by have := TAIL.out 0 HE.out; rw [IntKind.wrap_i64] at this; omega), HB.out⟩
              case measure => simp [intOf]; omega
          · have hkk : kx = q := by omega
            subst hkk
            go_wp2
            go_roundw
            case rel => exact ⟨j + 1, by omega, by go_num, congrArg _ (show s + hk = _ by have := TAIL.out hk HK.out; rw [IntKind.wrap_i64] at this; omega), HB.out⟩
            case measure => simp [intOf]; omega
      · have hq2 : (d - x).tdiv 8 ≤ 0 := by
          have : (d - x).tdiv 8 = -((x - d).tdiv 8) := by rw [← Int.neg_tdiv]; congr 1; omega
          rw [this, Int.tdiv_eq_ediv_of_nonneg (by omega)]
          omega
        have hq4 : -125001 ≤ (d - x).tdiv 8 := by
          have : (d - x).tdiv 8 = -((x - d).tdiv 8) := by rw [← Int.neg_tdiv]; congr 1; omega
          rw [this, Int.tdiv_eq_ediv_of_nonneg (by omega)]
          omega
        have HE := Lib.hid (show wsum (zs.take (j + 1)) d = s by rw [HS.out]; unfold wref; rw [if_neg hxd]; omega)
        have hq5 : ¬ 0 < (d - x).tdiv 8 := by omega
        clear hq2 hq4
        go_wp2
        go_loop [7, 8] (fun v7 v8 => v8 = .int .i64 0 ∧ v7 = .int .i64 1048576) (fun _ v8 => 0)
        case atStart => exact ⟨rfl, rfl⟩
        case round =>
          obtain ⟨rfl, rfl⟩ := hrel
          go_wp2
          go_roundw
          case rel => exact ⟨j + 1, by omega, by go_num, by rw [HE.out], HB.out⟩
          case measure => simp [intOf]; omega
    · have hjl : j = zs.length := by omega
      subst hjl
      rw [List.take_length]
      go_wp2
      go_ret
      exact ⟨rfl, HB.out⟩

end Go.Proofs.Ytednejckcdiebaa
