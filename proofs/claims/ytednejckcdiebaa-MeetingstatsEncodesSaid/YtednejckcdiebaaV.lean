/- Plain laws on the order of fractions: no program in sight. -/
import Derived.Handy
namespace Go.Proofs.Ytednejckcdiebaa

/-- -1, 0 or 1: how two numbers lie. -/
def ord (x y : Int) : Int := if x < y then -1 else if y < x then 1 else 0

theorem ord_lt {x y : Int} (h : x < y) : ord x y = -1 := by simp [ord, h]
theorem ord_gt {x y : Int} (h : y < x) : ord x y = 1 := by
  have : ¬ x < y := by omega
  simp [ord, h, this]
theorem ord_self (x : Int) : ord x x = 0 := by simp [ord]
theorem ord_neg (x y : Int) : ord y x = -ord x y := by
  rcases Int.lt_trichotomy x y with h | h | h
  · rw [ord_lt h, ord_gt h]; rfl
  · subst h; rw [ord_self]; rfl
  · rw [ord_gt h, ord_lt h]
theorem ord_add (z x y : Int) : ord (z + x) (z + y) = ord x y := by
  rcases Int.lt_trichotomy x y with h | h | h
  · rw [ord_lt h, ord_lt (by omega)]
  · subst h; rw [ord_self, ord_self]
  · rw [ord_gt h, ord_gt (by omega)]
theorem ord_neg2 (x y : Int) : ord (-x) (-y) = -ord x y := by
  rcases Int.lt_trichotomy x y with h | h | h
  · rw [ord_lt h, ord_gt (by omega)]; rfl
  · subst h; rw [ord_self, ord_self]; rfl
  · rw [ord_gt h, ord_lt (by omega)]
theorem ord_cases (x y : Int) : (ord x y = -1 ∧ x < y) ∨ (ord x y = 0 ∧ x = y) ∨ (ord x y = 1 ∧ y < x) := by
  rcases Int.lt_trichotomy x y with h | h | h
  · exact Or.inl ⟨ord_lt h, h⟩
  · subst h; exact Or.inr (Or.inl ⟨ord_self x, rfl⟩)
  · exact Or.inr (Or.inr ⟨ord_gt h, h⟩)

theorem split_prod (a b d p x : Int) (h : a = b * p + x) : a * d = p * (b * d) + x * d := by
  rw [h, Int.add_mul, Int.mul_comm b p, Int.mul_assoc]

theorem parts_lt {a b c d p q x y : Int} (hb : 0 < b) (hd : 0 < d) (h1 : a = b * p + x) (h2 : c = d * q + y) (hx : x < b) (hy0 : 0 ≤ y) (hpq : p < q) : a * d < c * b := by
  rw [split_prod a b d p x h1, split_prod c d b q y h2, Int.mul_comm d b]
  have e1 : x * d < b * d := Int.mul_lt_mul_of_pos_right hx hd
  have e2 : (p + 1) * (b * d) ≤ q * (b * d) := Int.mul_le_mul_of_nonneg_right (by omega) (Int.le_of_lt (Int.mul_pos hb hd))
  have e3 : 0 ≤ y * b := Int.mul_nonneg hy0 (Int.le_of_lt hb)
  rw [Int.add_mul] at e2
  omega

theorem parts_eq {a b c d p x y : Int} (h1 : a = b * p + x) (h2 : c = d * p + y) : ord (a * d) (c * b) = ord (x * d) (y * b) := by
  rw [split_prod a b d p x h1, split_prod c d b p y h2, Int.mul_comm d b, ord_add]

/-- The quotient and the rest as Go reckons them, mended for a rest below 0. -/
theorem floor_parts (a b : Int) (hb : 0 < b) : (a.tmod b < 0 → a / b = a.tdiv b - 1 ∧ a % b = a.tmod b + b) ∧ (¬ a.tmod b < 0 → a / b = a.tdiv b ∧ a % b = a.tmod b) := by
  have e := Int.mul_tdiv_add_tmod a b
  have e' := Int.mul_ediv_add_emod a b
  have l := Int.emod_lt_of_pos a hb
  have g := Int.emod_nonneg a (Int.ne_of_gt hb)
  have hl : a.tmod b < b := by
    have := Int.tmod_lt_of_pos a hb
    exact this
  have hg : -b < a.tmod b := by
    have h := Int.lt_tmod_of_pos a hb
    exact h
  have key : ∀ (q r : Int), a = b * q + r → 0 ≤ r → r < b → a / b = q ∧ a % b = r := by
    intro q r h h0 h1
    have : a / b = q := by
      rw [h, Int.add_comm, Int.add_mul_ediv_left _ _ (Int.ne_of_gt hb), Int.ediv_eq_zero_of_lt h0 h1]
      omega
    refine ⟨this, ?_⟩
    rw [this] at e'
    omega
  constructor
  · intro hn
    refine key _ _ ?_ (by omega) (by omega)
    rw [Int.mul_sub, Int.mul_one]
    omega
  · intro hn
    exact key _ _ (by omega) (by omega) hl

/-- A product of two words, by its halves. -/
theorem ord_halves (p q K : Nat) (hK : 0 < K) : ord (p : Int) (q : Int) = (if ord ((p / K : Nat) : Int) ((q / K : Nat) : Int) = 0 then ord ((p % K : Nat) : Int) ((q % K : Nat) : Int) else ord ((p / K : Nat) : Int) ((q / K : Nat) : Int)) := by
  have ep := Nat.div_add_mod p K
  have eq := Nat.div_add_mod q K
  have lp := Nat.mod_lt p hK
  have lq := Nat.mod_lt q hK
  rcases Nat.lt_trichotomy (p / K) (q / K) with h | h | h
  · rw [ord_lt (x := ((p / K : Nat) : Int)) (by omega), if_neg (by decide)]
    have := Nat.mul_le_mul_left K (show p / K + 1 ≤ q / K from h)
    rw [Nat.mul_add] at this
    exact ord_lt (by omega)
  · rw [h, ord_self, if_pos rfl]
    rw [h] at ep
    rcases Nat.lt_trichotomy (p % K) (q % K) with g | g | g
    · rw [ord_lt (x := ((p % K : Nat) : Int)) (by omega)]; exact ord_lt (by omega)
    · rw [g, ord_self]
      have : p = q := by omega
      rw [this, ord_self]
    · rw [ord_gt (x := ((p % K : Nat) : Int)) (by omega)]; exact ord_gt (by omega)
  · rw [ord_gt (x := ((p / K : Nat) : Int)) (by omega), if_neg (by decide)]
    have := Nat.mul_le_mul_left K (show q / K + 1 ≤ p / K from h)
    rw [Nat.mul_add] at this
    exact ord_gt (by omega)

theorem ord_differ (an bn : Int) (n m : Nat) (hn : 0 < n) (hm : 0 < m) (h : ord an 0 ≠ ord bn 0) : ord (ord an 0) (ord bn 0) = ord (an * m) (bn * n) := by
  have pos : ∀ (x : Int) (k : Nat), 0 < k → 0 < x → 0 < x * k := fun x k hk hx => Int.mul_pos hx (by omega)
  have neg : ∀ (x : Int) (k : Nat), 0 < k → x < 0 → x * k < 0 := fun x k hk hx => Int.mul_neg_of_neg_of_pos hx (by omega)
  have zer : ∀ (x : Int) (k : Nat), x = 0 → x * k = 0 := fun x k hx => by rw [hx, Int.zero_mul]
  rcases ord_cases an 0 with ⟨e1, g1⟩ | ⟨e1, g1⟩ | ⟨e1, g1⟩ <;> rcases ord_cases bn 0 with ⟨e2, g2⟩ | ⟨e2, g2⟩ | ⟨e2, g2⟩ <;> rw [e1, e2] at h ⊢
  · exact absurd rfl h
  · rw [zer bn n g2]; have := neg an m hm g1; rw [ord_lt this]; rfl
  · have := neg an m hm g1; have := pos bn n hn g2; rw [ord_lt (x := an * m) (by omega)]; rfl
  · rw [zer an m g1]; have := neg bn n hn g2; rw [ord_gt this]; rfl
  · exact absurd rfl h
  · rw [zer an m g1]; have := pos bn n hn g2; rw [ord_lt this]; rfl
  · have := pos an m hm g1; have := neg bn n hn g2; rw [ord_gt (x := an * m) (by omega)]; rfl
  · rw [zer bn n g2]; have := pos an m hm g1; rw [ord_gt this]; rfl
  · exact absurd rfl h

theorem ord_signs (an bn : Int) (n m : Nat) (h : ord an 0 = ord bn 0) : ord an 0 * ord ((an.natAbs * m : Nat) : Int) ((bn.natAbs * n : Nat) : Int) = ord (an * m) (bn * n) := by
  rw [Int.natCast_mul, Int.natCast_mul]
  rcases ord_cases an 0 with ⟨e1, g1⟩ | ⟨e1, g1⟩ | ⟨e1, g1⟩ <;> rcases ord_cases bn 0 with ⟨e2, g2⟩ | ⟨e2, g2⟩ | ⟨e2, g2⟩ <;> rw [e1, e2] at h <;> rw [e1] <;> first | (exfalso; omega) | skip
  · rw [show ((an.natAbs : Nat) : Int) = -an by omega, show ((bn.natAbs : Nat) : Int) = -bn by omega, Int.neg_mul an, Int.neg_mul bn, ord_neg2]
    omega
  · subst g1 g2; rw [Int.zero_mul, Int.zero_mul, Int.zero_mul, ord_self]
  · rw [show ((an.natAbs : Nat) : Int) = an by omega, show ((bn.natAbs : Nat) : Int) = bn by omega, Int.one_mul]

theorem ord_bounds (x y : Int) : -1 ≤ ord x y ∧ ord x y ≤ 1 := by
  rcases ord_cases x y with ⟨e, _⟩ | ⟨e, _⟩ | ⟨e, _⟩ <;> rw [e] <;> omega

end Go.Proofs.Ytednejckcdiebaa
