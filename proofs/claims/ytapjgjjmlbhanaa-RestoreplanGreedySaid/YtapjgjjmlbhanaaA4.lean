/- Shares: the reference's shares, the program's validShares. -/
import Derived.Test.YtapjgjjmlbhanaaA2
namespace Go.Proofs.Ytapjgjjmlbhanaa
open Go.RowKit Go.Lib

/-- One share, valid behind the one before it. -/
def ShAt (zs : List Int) (i : Nat) : Prop := 1 ≤ zs.getD i 0 ∧ zs.getD i 0 ≤ 255 ∧ (0 < i → zs.getD (i - 1) 0 < zs.getD i 0)
instance (zs : List Int) (i : Nat) : Decidable (ShAt zs i) := inferInstanceAs (Decidable (_ ∧ _))
/-- Shares that ascend from 1 to 255. -/
def ShOk (zs : List Int) : Prop := ∀ i, i < zs.length → ShAt zs i
instance (zs : List Int) : Decidable (ShOk zs) := inferInstanceAs (Decidable (∀ i, i < zs.length → ShAt zs i))

set_option maxRecDepth 100000 in
set_option maxHeartbeats 1000000 in
theorem shares_any (v : Value) (zs : List Int) (w : World) (hv : ReadsI w v zs) :
    Calls Try.prog 47 #[v] w fun e w' => e = .returned (.bool (decide (ShOk zs))) ∧ ∃ q, w' = w.drewN q := by
  obtain ⟨ao, c, b, off, rfl, hl, hm, hcell⟩ := hv.at
  have HC := Lib.hid hcell
  clear hcell hv
  obtain ⟨r, hr⟩ : ∃ r, r = decide (ShOk zs) := ⟨_, rfl⟩
  rw [← hr]
  have HR := Lib.hid hr
  clear hr
  go_enter Try.func47, Try.ntmps47
  go_wp2
  go_loopw [3] (fun v3 wr => ∃ j q : Nat, j ≤ zs.length ∧ v3 = .int .i64 j ∧ (∀ i, i < j → ShAt zs i) ∧ wr = w.drewN q) (fun v3 _ => zs.length - (intOf v3).toNat)
  case atStart => exact ⟨0, 0, Nat.zero_le _, rfl, fun i hi => by omega, rfl⟩
  case round =>
    obtain ⟨j, q, hj, rfl, hok, rfl⟩ := hrel
    have HN := Lib.hid hok
    clear hok
    by_cases hlt : j < zs.length
    · obtain ⟨e1, e2⟩ := HC.out j hlt
      subst e1
      have ha : ShAt zs j ↔ (1 ≤ zs.getD j 0 ∧ zs.getD j 0 ≤ 255 ∧ (0 < j → zs.getD (j - 1) 0 < zs.getD j 0)) := Iff.rfl
      have hno : ¬ ShAt zs j → r = false := fun h => by rw [HR.out]; exact decide_eq_false fun hh => h (hh j hlt)
      have hyes : ShAt zs j → ∀ i, i < j + 1 → ShAt zs i := fun h i hi => by
        by_cases e : i = j
        · subst e; exact h
        · exact HN.out i (by omega)
      have HNO := Lib.hid hno
      have HY := Lib.hid hyes
      clear hno hyes
      match j, hlt, hj, e2, ha, HN, HNO, HY with
      | 0, hlt, hj, e2, ha, HN, HNO, HY =>
        simp only [Nat.add_zero] at e2
        have HA := Lib.hid ha
        clear ha
        generalize zs.getD 0 0 = y at e2 HA
        simp only [Int.ofNat_zero]
        by_cases k1 : y < 1
        · have hr := HNO.out fun h => by (have := HA.out.1 h; omega)
          subst hr
          go_wp2
          go_quiet (fail)
          go_wp2
          go_ret
          exact ⟨rfl, _, World.drewN_drewN ..⟩
        · by_cases k2 : 255 < y
          · have hr := HNO.out fun h => by (have := HA.out.1 h; omega)
            subst hr
            have q1 : decide (y < 1) = false := decide_eq_false k1
            have q2 : decide (255 < y) = true := decide_eq_true k2
            go_wp2
            go_quiet (fail)
            go_wp2
            go_ret
            exact ⟨rfl, _, World.drewN_drewN ..⟩
          · have hy := HY.out (HA.out.2 ⟨by omega, by omega, fun h => by omega⟩)
            have HYY := Lib.hid hy
            clear hy
            have q1 : decide (y < 1) = false := decide_eq_false k1
            have q2 : decide (255 < y) = false := decide_eq_false k2
            go_wp2
            go_quiet (fail)
            go_wp2
            go_roundw
            case rel => exact ⟨1, _, by omega, by go_num, HYY.out, rfl⟩
            case measure => simp [intOf]; omega
      | m + 1, hlt, hj, e2, ha, HN, HNO, HY =>
        obtain ⟨_, e3⟩ := HC.out m (by omega)
        simp only [Nat.add_sub_cancel] at ha
        have HA := Lib.hid ha
        clear ha
        generalize zs.getD (m + 1) 0 = y at e2 HA
        generalize zs.getD m 0 = x at e3 HA
        simp only [Int.natCast_add, Int.natCast_one]
        have hm1 : m + 1 < zs.length := hlt
        have hm0 : m < zs.length := by omega
        by_cases k1 : y < 1
        · have hr := HNO.out fun h => by (have := HA.out.1 h; omega)
          subst hr
          go_wp2
          go_quiet (fail)
          go_wp2
          go_ret
          exact ⟨rfl, _, World.drewN_drewN ..⟩
        · by_cases k2 : 255 < y
          · have hr := HNO.out fun h => by (have := HA.out.1 h; omega)
            subst hr
            have q1 : decide (y < 1) = false := decide_eq_false k1
            have q2 : decide (255 < y) = true := decide_eq_true k2
            go_wp2
            go_quiet (fail)
            go_wp2
            go_ret
            exact ⟨rfl, _, World.drewN_drewN ..⟩
          · have q1 : decide (y < 1) = false := decide_eq_false k1
            have q2 : decide (255 < y) = false := decide_eq_false k2
            by_cases k3 : y ≤ x
            · have hr := HNO.out fun h => by (have := (HA.out.1 h).2.2 (by omega); omega)
              subst hr
              have q3 : decide (y ≤ x) = true := decide_eq_true k3
              go_wp2
              go_quiet (fail)
              go_wp2
              go_ret
              exact ⟨rfl, _, World.drewN_drewN ..⟩
            · have q3 : decide (y ≤ x) = false := decide_eq_false k3
              have hy := HY.out (HA.out.2 ⟨by omega, by omega, fun h => by omega⟩)
              have HYY := Lib.hid hy
              clear hy
              go_wp2
              go_quiet (fail)
              go_wp2
              go_roundw
              case rel => exact ⟨m + 1 + 1, _, by omega, by go_num, HYY.out, rfl⟩
              case measure => simp [intOf]; omega
    · have hjl : j = zs.length := by omega
      subst hjl
      obtain rfl : r = true := by rw [HR.out]; exact decide_eq_true HN.out
      go_wp2
      go_ret
      exact ⟨rfl, _, rfl⟩

set_option maxRecDepth 100000 in
set_option maxHeartbeats 1000000 in
theorem validShares_any (v : Value) (zs : List Int) (w : World) (hv : ReadsI w v zs) :
    Calls Try.prog 64 #[v] w fun e w' => e = .returned (.bool (decide (ShOk zs))) ∧ w = w' := by
  obtain ⟨ao, c, b, off, rfl, hl, hm, hcell⟩ := hv.at
  have HC := Lib.hid hcell
  clear hcell hv
  obtain ⟨r, hr⟩ : ∃ r, r = decide (ShOk zs) := ⟨_, rfl⟩
  rw [← hr]
  have HR := Lib.hid hr
  clear hr
  go_enter Try.func64, Try.ntmps64
  go_wp2
  go_loop [7] (fun v3 => ∃ j : Nat, j ≤ zs.length ∧ v3 = .int .i64 j ∧ (∀ i, i < j → ShAt zs i)) (fun v3 => zs.length - (intOf v3).toNat)
  case atStart => exact ⟨0, Nat.zero_le _, rfl, fun i hi => by omega⟩
  case round =>
    obtain ⟨j, hj, rfl, hok⟩ := hrel
    have HN := Lib.hid hok
    clear hok
    by_cases hlt : j < zs.length
    · obtain ⟨e1, e2⟩ := HC.out j hlt
      subst e1
      have ha : ShAt zs j ↔ (1 ≤ zs.getD j 0 ∧ zs.getD j 0 ≤ 255 ∧ (0 < j → zs.getD (j - 1) 0 < zs.getD j 0)) := Iff.rfl
      have hno : ¬ ShAt zs j → r = false := fun h => by rw [HR.out]; exact decide_eq_false fun hh => h (hh j hlt)
      have hyes : ShAt zs j → ∀ i, i < j + 1 → ShAt zs i := fun h i hi => by
        by_cases e : i = j
        · subst e; exact h
        · exact HN.out i (by omega)
      have HNO := Lib.hid hno
      have HY := Lib.hid hyes
      clear hno hyes
      match j, hlt, hj, e2, ha, HN, HNO, HY with
      | 0, hlt, hj, e2, ha, HN, HNO, HY =>
        simp only [Nat.add_zero] at e2
        have HA := Lib.hid ha
        clear ha
        generalize zs.getD 0 0 = y at e2 HA
        simp only [Int.ofNat_zero]
        by_cases k1 : y < 1
        · have hr := HNO.out fun h => by (have := HA.out.1 h; omega)
          subst hr
          go_wp2
          go_ret
          exact ⟨rfl, rfl⟩
        · by_cases k2 : 255 < y
          · have hr := HNO.out fun h => by (have := HA.out.1 h; omega)
            subst hr
            have q1 : decide (y < 1) = false := decide_eq_false k1
            have q2 : decide (255 < y) = true := decide_eq_true k2
            go_wp2
            go_ret
            exact ⟨rfl, rfl⟩
          · have hy := HY.out (HA.out.2 ⟨by omega, by omega, fun h => by omega⟩)
            have HYY := Lib.hid hy
            clear hy
            have q1 : decide (y < 1) = false := decide_eq_false k1
            have q2 : decide (255 < y) = false := decide_eq_false k2
            go_wp2
            go_round
            case rel => exact ⟨1, by omega, by go_num, HYY.out⟩
            case measure => simp [intOf]; omega
      | m + 1, hlt, hj, e2, ha, HN, HNO, HY =>
        obtain ⟨_, e3⟩ := HC.out m (by omega)
        simp only [Nat.add_sub_cancel] at ha
        have HA := Lib.hid ha
        clear ha
        generalize zs.getD (m + 1) 0 = y at e2 HA
        generalize zs.getD m 0 = x at e3 HA
        simp only [Int.natCast_add, Int.natCast_one]
        have hm1 : m + 1 < zs.length := hlt
        have hm0 : m < zs.length := by omega
        by_cases k1 : y < 1
        · have hr := HNO.out fun h => by (have := HA.out.1 h; omega)
          subst hr
          go_wp2
          go_ret
          exact ⟨rfl, rfl⟩
        · by_cases k2 : 255 < y
          · have hr := HNO.out fun h => by (have := HA.out.1 h; omega)
            subst hr
            have q1 : decide (y < 1) = false := decide_eq_false k1
            have q2 : decide (255 < y) = true := decide_eq_true k2
            go_wp2
            go_ret
            exact ⟨rfl, rfl⟩
          · have q1 : decide (y < 1) = false := decide_eq_false k1
            have q2 : decide (255 < y) = false := decide_eq_false k2
            by_cases k3 : y ≤ x
            · have hr := HNO.out fun h => by (have := (HA.out.1 h).2.2 (by omega); omega)
              subst hr
              have q3 : decide (y ≤ x) = true := decide_eq_true k3
              go_wp2
              go_ret
              exact ⟨rfl, rfl⟩
            · have q3 : decide (y ≤ x) = false := decide_eq_false k3
              have hy := HY.out (HA.out.2 ⟨by omega, by omega, fun h => by omega⟩)
              have HYY := Lib.hid hy
              clear hy
              go_wp2
              go_round
              case rel => exact ⟨m + 1 + 1, by omega, by go_num, HYY.out⟩
              case measure => simp [intOf]; omega
    · have hjl : j = zs.length := by omega
      subst hjl
      obtain rfl : r = true := by rw [HR.out]; exact decide_eq_true HN.out
      go_wp2
      go_ret
      exact ⟨rfl, rfl⟩

end Go.Proofs.Ytapjgjjmlbhanaa
