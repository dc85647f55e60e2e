/- Tasks compared: plain laws, no program in sight. -/
import Derived.Test.YtcgilfnhbliadaaA1
namespace Go.Proofs.Ytcgilfnhbliadaa
open Go

/-- -1, 0 or 1: how two numbers lie. -/
def ord (x y : Int) : Int := if x < y then -1 else if y < x then 1 else 0
theorem ord_cases (x y : Int) : (ord x y = -1 ∧ x < y) ∨ (ord x y = 0 ∧ x = y) ∨ (ord x y = 1 ∧ y < x) := by
  unfold ord
  by_cases h1 : x < y
  · simp [h1]
  · by_cases h2 : y < x
    · simp [h1, h2]
    · simp [h1, h2]; omega
def cmpS (a b : ByteArray) : Int := if Op.bytesLess a.toList b.toList = true then -1 else if a = b then 0 else 1
def orL : List Int → Int
  | [] => 0
  | x :: r => if x = 0 then orL r else x

/-- A comparison that orders what fulfils P. -/
structure Cm {α : Type} (P : α → Prop) (c : α → α → Int) : Prop where
  self : ∀ x, c x x = 0
  neg : ∀ x y, P x → P y → c y x = - c x y
  rng : ∀ x y, c x y = -1 ∨ c x y = 0 ∨ c x y = 1
  tr : ∀ x y z, P x → P y → P z → c x y ≤ 0 → c y z ≤ 0 → c x z ≤ 0 ∧ (c x z = 0 → c x y = 0 ∧ c y z = 0)
def th {α : Type} (c d : α → α → Int) (x y : α) : Int := if c x y = 0 then d x y else c x y
theorem Cm.th {α : Type} {P : α → Prop} {c d : α → α → Int} (hc : Cm P c) (hd : Cm P d) : Cm P (th c d) where
  self x := by unfold Ytcgilfnhbliadaa.th; rw [if_pos (hc.self x)]; exact hd.self x
  neg x y px py := by
    unfold Ytcgilfnhbliadaa.th
    have h1 := hc.neg x y px py
    have h2 := hd.neg x y px py
    by_cases h : c x y = 0
    · rw [if_pos h, if_pos (by omega)]; exact h2
    · rw [if_neg h, if_neg (by omega)]; exact h1
  rng x y := by
    unfold Ytcgilfnhbliadaa.th
    split
    · exact hd.rng x y
    · exact hc.rng x y
  tr x y z px py pz h1 h2 := by
    unfold Ytcgilfnhbliadaa.th at *
    have t1 := hc.tr x y z px py pz
    have t2 := hd.tr x y z px py pz
    have r1 := hc.rng x y
    have r2 := hc.rng y z
    have r3 := hc.rng x z
    by_cases a : c x y = 0
    · rw [if_pos a] at h1
      rw [if_pos a]
      by_cases b : c y z = 0
      · rw [if_pos b] at h2
        rw [if_pos b]
        obtain ⟨u1, u2⟩ := t1 (by omega) (by omega)
        have hxz : c x z = 0 := by
          have n1 := hc.neg x y px py
          have n2 := hc.neg y z py pz
          have n3 := hc.neg x z px pz
          have := (hc.tr z y x pz py px (by omega) (by omega)).1
          omega
        rw [if_pos hxz]
        exact t2 h1 h2
      · rw [if_neg b] at h2
        rw [if_neg b]
        obtain ⟨u1, u2⟩ := t1 (by omega) (by omega)
        have hxz : c x z ≠ 0 := fun e => b (u2 e).2
        rw [if_neg hxz]
        exact ⟨u1, fun e => absurd e hxz⟩
    · rw [if_neg a] at h1
      rw [if_neg a]
      have h2' : c y z ≤ 0 := by
        split at h2 <;> omega
      obtain ⟨u1, u2⟩ := t1 h1 h2'
      have hxz : c x z ≠ 0 := fun e => a (u2 e).1
      rw [if_neg hxz]
      exact ⟨u1, fun e => absurd e hxz⟩

theorem Cm.key {α : Type} {P : α → Prop} (k : α → Int) : Cm P (fun x y => ord (k x) (k y)) where
  self x := by rcases ord_cases (k x) (k x) with h | h | h <;> omega
  neg x y _ _ := by
    rcases ord_cases (k x) (k y) with h | h | h <;> rcases ord_cases (k y) (k x) with g | g | g <;> omega
  rng x y := by rcases ord_cases (k x) (k y) with h | h | h <;> omega
  tr x y z _ _ _ h1 h2 := by
    rcases ord_cases (k x) (k y) with h | h | h <;> rcases ord_cases (k y) (k z) with g | g | g <;> rcases ord_cases (k x) (k z) with f | f | f <;> omega

/-- Fractions with a positive denominator. -/
theorem Cm.frac {α : Type} {P : α → Prop} (n d : α → Int) (hd : ∀ x, P x → 0 < d x) : Cm P (fun x y => ord (n x * d y) (n y * d x)) where
  self x := by rcases ord_cases (n x * d x) (n x * d x) with h | h | h <;> omega
  neg x y _ _ := by
    rcases ord_cases (n x * d y) (n y * d x) with h | h | h <;> rcases ord_cases (n y * d x) (n x * d y) with g | g | g <;> omega
  rng x y := by rcases ord_cases (n x * d y) (n y * d x) with h | h | h <;> omega
  tr x y z px py pz h1 h2 := by
    have dx := hd x px
    have dy := hd y py
    have dz := hd z pz
    have e1 : n x * d y ≤ n y * d x := by rcases ord_cases (n x * d y) (n y * d x) with h | h | h <;> omega
    have e2 : n y * d z ≤ n z * d y := by rcases ord_cases (n y * d z) (n z * d y) with h | h | h <;> omega
    have m1 : n x * d y * d z ≤ n y * d x * d z := Int.mul_le_mul_of_nonneg_right e1 (by omega)
    have m2 : n y * d z * d x ≤ n z * d y * d x := Int.mul_le_mul_of_nonneg_right e2 (by omega)
    have r1 : n y * d x * d z = n y * d z * d x := by rw [Int.mul_assoc, Int.mul_comm (d x), ← Int.mul_assoc]
    have r2 : n x * d y * d z = n x * d z * d y := by rw [Int.mul_assoc, Int.mul_comm (d y), ← Int.mul_assoc]
    have r3 : n z * d y * d x = n z * d x * d y := by rw [Int.mul_assoc, Int.mul_comm (d y), ← Int.mul_assoc]
    have m3 : n x * d z * d y ≤ n z * d x * d y := by omega
    have e3 : n x * d z ≤ n z * d x := Int.le_of_mul_le_mul_right m3 dy
    refine ⟨by rcases ord_cases (n x * d z) (n z * d x) with h | h | h <;> omega, fun e => ?_⟩
    have e4 : n x * d z = n z * d x := by rcases ord_cases (n x * d z) (n z * d x) with h | h | h <;> omega
    have e5 : n x * d z * d y = n z * d x * d y := by rw [e4]
    have q1 : n x * d y * d z = n y * d x * d z := by omega
    have q2 : n y * d z * d x = n z * d y * d x := by omega
    have f1 : n x * d y = n y * d x := Int.eq_of_mul_eq_mul_right (by omega) q1
    have f2 : n y * d z = n z * d y := Int.eq_of_mul_eq_mul_right (by omega) q2
    constructor
    · rcases ord_cases (n x * d y) (n y * d x) with h | h | h <;> omega
    · rcases ord_cases (n y * d z) (n z * d y) with h | h | h <;> omega

theorem less_irr : ∀ l : List UInt8, Op.bytesLess l l = false
  | [] => rfl
  | a :: r => by
    unfold Op.bytesLess
    rw [less_irr r]
    simp
theorem less_tr : ∀ x y z : List UInt8, Op.bytesLess x y = true → Op.bytesLess y z = true → Op.bytesLess x z = true
  | _, [], _, h, _ => by
    unfold Op.bytesLess at h
    cases h
  | _, _ :: _, [], _, h => by
    unfold Op.bytesLess at h
    cases h
  | [], _ :: _, _ :: _, _, _ => rfl
  | a :: x, b :: y, c :: z, h1, h2 => by
    simp only [Op.bytesLess, Bool.or_eq_true, decide_eq_true_eq, Bool.and_eq_true, beq_iff_eq] at *
    rcases h1 with h1 | ⟨rfl, h1⟩
    · rcases h2 with h2 | ⟨rfl, h2⟩
      · exact .inl (UInt8.lt_trans h1 h2)
      · exact .inl h1
    · rcases h2 with h2 | ⟨rfl, h2⟩
      · exact .inl h2
      · exact .inr ⟨rfl, less_tr x y z h1 h2⟩
theorem less_tot : ∀ x y : List UInt8, Op.bytesLess x y = false → Op.bytesLess y x = false → x = y
  | [], [], _, _ => rfl
  | _ :: _, [], _, h => by unfold Op.bytesLess at h; cases h
  | [], _ :: _, h, _ => by unfold Op.bytesLess at h; cases h
  | a :: x, b :: y, h1, h2 => by
    simp only [Op.bytesLess, Bool.or_eq_false_iff, decide_eq_false_iff_not, Bool.and_eq_false_iff, beq_eq_false_iff_ne] at *
    obtain ⟨a1, a2⟩ := h1
    obtain ⟨b1, b2⟩ := h2
    have e : a = b := UInt8.le_antisymm (UInt8.not_lt.1 b1) (UInt8.not_lt.1 a1)
    subst e
    have e2 := less_tot x y (a2.resolve_left (fun h => h rfl)) (b2.resolve_left (fun h => h rfl))
    rw [e2]
theorem bytes_list {a b : ByteArray} (h : a.toList = b.toList) : a = b := by
  have := str_eq a b
  rw [h] at this
  simpa using this.symm
theorem cmpS_cases (a b : ByteArray) : (cmpS a b = -1 ∧ Op.bytesLess a.toList b.toList = true) ∨ (cmpS a b = 0 ∧ a = b) ∨ (cmpS a b = 1 ∧ Op.bytesLess b.toList a.toList = true) := by
  unfold cmpS
  by_cases h1 : Op.bytesLess a.toList b.toList = true
  · simp [h1]
  · by_cases h2 : a = b
    · simp [h2, less_irr]
    · refine .inr (.inr ⟨by simp [h1, h2], ?_⟩)
      cases h : Op.bytesLess b.toList a.toList with
      | true => rfl
      | false => exact absurd (bytes_list (less_tot _ _ (by simpa using h1) h)) h2
theorem less_asym {a b : List UInt8} (h : Op.bytesLess a b = true) : Op.bytesLess b a = false := by
  cases h2 : Op.bytesLess b a with
  | false => rfl
  | true => have := less_tr _ _ _ h h2; rw [less_irr] at this; cases this
theorem Cm.str {α : Type} {P : α → Prop} (k : α → ByteArray) : Cm P (fun x y => cmpS (k x) (k y)) where
  self x := by unfold cmpS; simp [less_irr]
  neg x y _ _ := by
    rcases cmpS_cases (k x) (k y) with ⟨h, h'⟩ | ⟨h, h'⟩ | ⟨h, h'⟩ <;> rcases cmpS_cases (k y) (k x) with ⟨g, g'⟩ | ⟨g, g'⟩ | ⟨g, g'⟩ <;> rw [h, g] <;> first | rfl | (exfalso; rw [less_asym h'] at g'; cases g') | (exfalso; rw [g', less_irr] at h'; cases h') | (exfalso; rw [h', less_irr] at g'; cases g')
  rng x y := by rcases cmpS_cases (k x) (k y) with h | h | h <;> simp [h.1]
  tr x y z _ _ _ h1 h2 := by
    rcases cmpS_cases (k x) (k y) with ⟨h, h'⟩ | ⟨h, h'⟩ | ⟨h, h'⟩
    · rcases cmpS_cases (k y) (k z) with ⟨g, g'⟩ | ⟨g, g'⟩ | ⟨g, g'⟩
      · have := less_tr _ _ _ h' g'
        have e : cmpS (k x) (k z) = -1 := by unfold cmpS; rw [if_pos this]
        rw [e]
        exact ⟨by omega, fun c => by omega⟩
      · rw [← g', h]
        exact ⟨by omega, fun c => by omega⟩
      · omega
    · rw [h']
      rw [h'] at h
      exact ⟨h2, fun c => ⟨h, c⟩⟩
    · omega

/-- How two tasks lie. -/
def cmpT (a b : Tk) : Int := orL [ord a.spare b.spare, ord (a.num * b.den) (b.num * a.den), ord a.day b.day, ord a.size b.size, cmpS a.st b.st, ord a.ix b.ix]
theorem cmpT_th (a b : Tk) : cmpT a b = th (fun x y : Tk => ord x.spare y.spare) (th (fun x y => ord (x.num * y.den) (y.num * x.den)) (th (fun x y => ord x.day y.day) (th (fun x y => ord x.size y.size) (th (fun x y => cmpS x.st y.st) (fun x y => ord x.ix y.ix))))) a b := by
  simp only [cmpT, orL, th]
  split
  · split
    · split
      · split
        · split
          · split
            · rename_i h; exact h.symm
            · rfl
          · rfl
        · rfl
      · rfl
    · rfl
  · rfl

/-- A valid task. -/
def TOk (t : Tk) : Prop := t.st.size = 32 ∧ (0 ≤ t.ix ∧ t.ix ≤ 15) ∧ (0 ≤ t.size ∧ t.size ≤ 1048576) ∧ (-16 ≤ t.spare ∧ t.spare ≤ 16) ∧ (1 ≤ t.den ∧ t.den ≤ 1073741824) ∧ (0 ≤ t.num ∧ t.num ≤ t.den) ∧ Nat.gcd t.den.toNat t.num.toNat = 1 ∧ (0 ≤ t.day ∧ t.day ≤ 999999)
instance (t : Tk) : Decidable (TOk t) := inferInstanceAs (Decidable (_ ∧ _))

theorem cmpT_cm : Cm TOk cmpT := by
  have h : cmpT = th (fun x y : Tk => ord x.spare y.spare) (th (fun x y => ord (x.num * y.den) (y.num * x.den)) (th (fun x y => ord x.day y.day) (th (fun x y => ord x.size y.size) (th (fun x y => cmpS x.st y.st) (fun x y => ord x.ix y.ix))))) := funext fun a => funext fun b => cmpT_th a b
  rw [h]
  exact (Cm.key _).th ((Cm.frac _ _ fun x hx => by have := hx.2.2.2.2.1; omega).th ((Cm.key _).th ((Cm.key _).th ((Cm.str _).th (Cm.key _)))))

theorem frac_eq {a b c d : Nat} (hb : Nat.gcd b a = 1) (hd : Nat.gcd d c = 1) (h : a * d = c * b) : a = c ∧ b = d := by
  have e1 : b ∣ d := by
    have : b ∣ a * d := by rw [h]; exact Nat.dvd_mul_left _ _
    exact Nat.Coprime.dvd_of_dvd_mul_left hb this
  have e2 : d ∣ b := by
    have : d ∣ c * b := by rw [← h]; exact Nat.dvd_mul_left _ _
    exact Nat.Coprime.dvd_of_dvd_mul_left hd this
  have e3 : b = d := Nat.dvd_antisymm e1 e2
  subst e3
  refine ⟨?_, rfl⟩
  rcases Nat.eq_zero_or_pos b with h0 | h0
  · subst h0
    rw [Nat.gcd_zero_left] at hb hd
    omega
  · exact Nat.eq_of_mul_eq_mul_right h0 h

theorem cmpT_eq {a b : Tk} (ha : TOk a) (hb : TOk b) (h : cmpT a b = 0) : a = b := by
  unfold cmpT at h
  have z : ∀ x r, orL (x :: r) = 0 → x = 0 ∧ orL r = 0 := fun x r h => by
    unfold orL at h
    by_cases e : x = 0
    · rw [if_pos e] at h; exact ⟨e, h⟩
    · rw [if_neg e] at h; exact absurd h e
  obtain ⟨h1, h⟩ := z _ _ h
  obtain ⟨h2, h⟩ := z _ _ h
  obtain ⟨h3, h⟩ := z _ _ h
  obtain ⟨h4, h⟩ := z _ _ h
  obtain ⟨h5, h⟩ := z _ _ h
  obtain ⟨h6, _⟩ := z _ _ h
  have e1 : a.spare = b.spare := by rcases ord_cases a.spare b.spare with q | q | q <;> omega
  have e2 : a.num * b.den = b.num * a.den := by rcases ord_cases (a.num * b.den) (b.num * a.den) with q | q | q <;> omega
  have e3 : a.day = b.day := by rcases ord_cases a.day b.day with q | q | q <;> omega
  have e4 : a.size = b.size := by rcases ord_cases a.size b.size with q | q | q <;> omega
  have e5 : a.st = b.st := by rcases cmpS_cases a.st b.st with q | q | q <;> first | omega | exact q.2
  have e6 : a.ix = b.ix := by rcases ord_cases a.ix b.ix with q | q | q <;> omega
  obtain ⟨_, _, _, _, a1, a2, a3, _⟩ := ha
  obtain ⟨_, _, _, _, b1, b2, b3, _⟩ := hb
  have e7 : a.num.toNat * b.den.toNat = b.num.toNat * a.den.toNat := by
    have := congrArg Int.toNat e2
    rw [Int.toNat_mul (by omega) (by omega), Int.toNat_mul (by omega) (by omega)] at this
    exact this
  obtain ⟨f1, f2⟩ := frac_eq a3 b3 e7
  have e8 : a.num = b.num := by omega
  have e9 : a.den = b.den := by omega
  obtain ⟨s, i, z, p, n, d, y⟩ := a
  obtain ⟨s', i', z', p', n', d', y'⟩ := b
  simp only at e1 e3 e4 e5 e6 e8 e9
  subst e1 e3 e4 e5 e6 e8 e9
  rfl
theorem cmpT_iff {a b : Tk} (ha : TOk a) (hb : TOk b) : cmpT a b = 0 ↔ a = b := ⟨cmpT_eq ha hb, fun e => e ▸ cmpT_cm.self a⟩

/-- The law Total, plain. -/
theorem total_plain {a b c : Tk} (ha : TOk a) (hb : TOk b) (hc : TOk c) :
    cmpT a b = -cmpT b a ∧ (cmpT a b = 0 ↔ a = b) ∧ (-1 ≤ cmpT a b ∧ cmpT a b ≤ 1) ∧ (0 < cmpT a b ∨ 0 < cmpT b c ∨ cmpT a c < 0 ∨ (cmpT a c = 0 ∧ cmpT a b = 0 ∧ cmpT b c = 0)) := by
  refine ⟨by have := cmpT_cm.neg a b ha hb; omega, cmpT_iff ha hb, by rcases cmpT_cm.rng a b with h | h | h <;> omega, ?_⟩
  by_cases h1 : 0 < cmpT a b
  · exact .inl h1
  · by_cases h2 : 0 < cmpT b c
    · exact .inr (.inl h2)
    · obtain ⟨h3, h4⟩ := cmpT_cm.tr a b c ha hb hc (by omega) (by omega)
      by_cases h5 : cmpT a c = 0
      · exact .inr (.inr (.inr ⟨h5, h4 h5⟩))
      · exact .inr (.inr (.inl (by omega)))

end Go.Proofs.Ytcgilfnhbliadaa
