/- Plain laws for MeetingstatsGrows: the chance to meet does not fall with the days. -/
import Derived.Test.YtednejckcdiebaaV
namespace Go.Proofs.Ytednejckcdiebaa

/-- The lowest form of a fraction keeps its value and its bounds. -/
theorem low_form (num den T : Int) (h1 : 0 ≤ num) (h2 : num ≤ T) (h3 : 1 ≤ den) (h4 : den ≤ T) :
    0 ≤ num / (Int.gcd num den) ∧ num / (Int.gcd num den) ≤ T ∧ 1 ≤ den / (Int.gcd num den) ∧ den / (Int.gcd num den) ≤ T ∧ (0 : Int) < Int.gcd num den ∧
      num = (Int.gcd num den) * (num / (Int.gcd num den)) ∧ den = (Int.gcd num den) * (den / (Int.gcd num den)) := by
  have hg : 0 < Int.gcd num den := Int.gcd_pos_of_ne_zero_right _ (by omega)
  have hg' : (0 : Int) < Int.gcd num den := by omega
  have e1 : num = (Int.gcd num den) * (num / (Int.gcd num den)) := (Int.mul_ediv_cancel' (Int.gcd_dvd_left ..)).symm
  have e2 : den = (Int.gcd num den) * (den / (Int.gcd num den)) := (Int.mul_ediv_cancel' (Int.gcd_dvd_right ..)).symm
  refine ⟨Int.ediv_nonneg h1 (by omega), Int.le_trans (Int.ediv_le_self _ h1) h2, ?_, Int.le_trans (Int.ediv_le_self _ (by omega)) h4, hg', e1, e2⟩
  have : 0 ≤ den / (Int.gcd num den) := Int.ediv_nonneg (by omega) (by omega)
  have hne : den / (Int.gcd num den) ≠ 0 := by
    intro h
    rw [h, Int.mul_zero] at e2
    omega
  omega

theorem cancel_le {A B C D g h l0 l1 w0 w1 : Int} (hg : 0 < g) (hh : 0 < h) (e1 : A = g * l0) (e2 : B = g * l1) (e3 : C = h * w0) (e4 : D = h * w1) (hle : A * D ≤ C * B) : l0 * w1 ≤ w0 * l1 := by
  have k1 : A * D = (g * h) * (l0 * w1) := by rw [e1, e4]; ac_rfl
  have k2 : C * B = (g * h) * (w0 * l1) := by rw [e3, e2]; ac_rfl
  rw [k1, k2] at hle
  exact Int.le_of_mul_le_mul_left hle (Int.mul_pos hg hh)

theorem grows_plain (P Z z : Int) (hP : 0 ≤ P) (hZ : 0 ≤ Z) (hz : z ≤ 32) : (P - Z) * (P * 32) ≤ (P * 32 - Z * z) * P := by
  have h : (P * Z) * z ≤ (P * Z) * 32 := Int.mul_le_mul_of_nonneg_left hz (Int.mul_nonneg hP hZ)
  have e1 : (P - Z) * (P * 32) = P * P * 32 - P * Z * 32 := by rw [Int.sub_mul]; congr 1 <;> ac_rfl
  have e2 : (P * 32 - Z * z) * P = P * P * 32 - P * Z * z := by rw [Int.sub_mul]; congr 1 <;> ac_rfl
  rw [e1, e2]
  omega

/-- The chance's numerator and denominator, in lowest terms. -/
def cNum (z : Int) (k : Nat) : Int := (32 ^ k - z ^ k) / (Int.gcd (32 ^ k - z ^ k) (32 ^ k))
def cDen (z : Int) (k : Nat) : Int := 32 ^ k / (Int.gcd (32 ^ k - z ^ k) (32 ^ k))

theorem c_bounds (z : Int) (h0 : 0 ≤ z) (h1 : z ≤ 32) (k : Nat) (hk : k ≤ 12) : 0 ≤ cNum z k ∧ cNum z k ≤ 9223372036854775807 ∧ 0 < cDen z k ∧ cDen z k ≤ 9223372036854775807 := by
  obtain ⟨m, rfl⟩ := Int.eq_ofNat_of_zero_le h0
  have e1 := Nat.pow_le_pow_left (show m ≤ 32 by omega) k
  have e2 := Nat.pow_le_pow_right (n := 32) (by omega) hk
  have e4 : 1 ≤ 32 ^ k := Nat.one_le_pow _ _ (by omega)
  have c1 : ((m : Int)) ^ k = ((m ^ k : Nat) : Int) := by simp
  have c2 : (32 : Int) ^ k = ((32 ^ k : Nat) : Int) := by simp
  have e5 : (32 : Nat) ^ 12 = 1152921504606846976 := by decide
  rw [e5] at e2
  unfold cNum cDen
  rw [c1, c2]
  obtain ⟨r1, r2, r3, r4, _⟩ := low_form (((32 ^ k : Nat) : Int) - ((m ^ k : Nat) : Int)) ((32 ^ k : Nat) : Int) 9223372036854775807 (by omega) (by omega) (by omega) (by omega)
  exact ⟨r1, r2, by omega, r4⟩

theorem c_grows (z : Int) (h0 : 0 ≤ z) (h1 : z ≤ 32) (k : Nat) : cNum z k * cDen z (k + 1) ≤ cNum z (k + 1) * cDen z k := by
  obtain ⟨m, rfl⟩ := Int.eq_ofNat_of_zero_le h0
  have bound : ∀ j, (m : Int) ^ j ≤ 32 ^ j ∧ 1 ≤ (32 : Int) ^ j ∧ 0 ≤ (m : Int) ^ j := by
    intro j
    have e1 := Nat.pow_le_pow_left (show m ≤ 32 by omega) j
    have e4 : 1 ≤ 32 ^ j := Nat.one_le_pow _ _ (by omega)
    have c1 : ((m : Int)) ^ j = ((m ^ j : Nat) : Int) := by simp
    have c2 : (32 : Int) ^ j = ((32 ^ j : Nat) : Int) := by simp
    rw [c1, c2]
    omega
  have b1 := bound k
  have b2 := bound (k + 1)
  have f1 := low_form (32 ^ k - (m : Int) ^ k) (32 ^ k) (32 ^ k) (by omega) (by omega) (by omega) (by omega)
  have f2 := low_form (32 ^ (k + 1) - (m : Int) ^ (k + 1)) (32 ^ (k + 1)) (32 ^ (k + 1)) (by omega) (by omega) (by omega) (by omega)
  refine cancel_le f1.2.2.2.2.1 f2.2.2.2.2.1 f1.2.2.2.2.2.1 f1.2.2.2.2.2.2 f2.2.2.2.2.2.1 f2.2.2.2.2.2.2 ?_
  rw [Int.pow_succ, Int.pow_succ]
  exact grows_plain _ _ _ (by omega) (by omega) h1

theorem c_zero (z : Int) : cNum z 0 = 0 ∧ cDen z 0 = 1 := by
  unfold cNum cDen
  simp

theorem c_one (z : Int) : cNum z 1 = (32 - z) / (Int.gcd (32 - z) 32) ∧ cDen z 1 = 32 / (Int.gcd (32 - z) 32) := by
  have e1 : z ^ 1 = z := Int.pow_succ z 0 |>.trans (by simp)
  have e2 : (32 : Int) ^ 1 = 32 := rfl
  unfold cNum cDen
  rw [e1, e2]
  exact ⟨rfl, rfl⟩

end Go.Proofs.Ytednejckcdiebaa
