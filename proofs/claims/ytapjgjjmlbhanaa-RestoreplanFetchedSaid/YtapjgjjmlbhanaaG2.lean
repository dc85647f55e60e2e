/- compare: the order of sets, by a key. -/
import Derived.Test.YtapjgjjmlbhanaaC5
namespace Go.Proofs.Ytapjgjjmlbhanaa
open Go.RowKit Go.Lib

/-- The bits of a set, turned round. -/
def revB : Nat → Nat → Nat
  | 0, _ => 0
  | n + 1, a => a % 2 * 2 ^ n + revB n (a / 2)
/-- The first bit in which two sets differ lies in the first. -/
def firstD : Nat → Nat → Nat → Bool
  | 0, _, _ => false
  | n + 1, a, b => if a % 2 = b % 2 then firstD n (a / 2) (b / 2) else decide (a % 2 = 1)
def lowZ : Nat → Nat → Nat
  | 0, _ => 0
  | n + 1, d => if d % 2 = 1 then 0 else lowZ n (d / 2) + 1

theorem revB_lt (n : Nat) : ∀ a, revB n a < 2 ^ n := by
  induction n with
  | zero => intro a; simp [revB]
  | succ n ih =>
    intro a
    unfold revB
    have := ih (a / 2)
    have h2 : a % 2 < 2 := Nat.mod_lt _ (by omega)
    rw [Nat.pow_succ]
    rcases (show a % 2 = 0 ∨ a % 2 = 1 by omega) with h | h <;> rw [h] <;> omega
theorem firstD_rev (n : Nat) : ∀ a b, a < 2 ^ n → b < 2 ^ n → (firstD n a b = true ↔ revB n b < revB n a) := by
  induction n with
  | zero => intro a b _ _; simp [firstD, revB]
  | succ n ih =>
    intro a b ha hb
    rw [Nat.pow_succ] at ha hb
    have := ih (a / 2) (b / 2) (by omega) (by omega)
    have h1 := revB_lt n (a / 2)
    have h2 := revB_lt n (b / 2)
    unfold firstD revB
    by_cases h : a % 2 = b % 2
    · rw [if_pos h, this, h]
      omega
    · rw [if_neg h]
      rcases (show a % 2 = 0 ∨ a % 2 = 1 by omega) with g | g
      · rw [g, show b % 2 = 1 by omega]; simp; omega
      · rw [g, show b % 2 = 0 by omega]; simp; omega
theorem revB_inj (n : Nat) : ∀ a b, a < 2 ^ n → b < 2 ^ n → revB n a = revB n b → a = b := by
  induction n with
  | zero => intro a b ha hb _; omega
  | succ n ih =>
    intro a b ha hb h
    rw [Nat.pow_succ] at ha hb
    unfold revB at h
    have h1 := revB_lt n (a / 2)
    have h2 := revB_lt n (b / 2)
    have := ih (a / 2) (b / 2) (by omega) (by omega)
    rcases (show a % 2 = 0 ∨ a % 2 = 1 by omega) with g | g <;> rcases (show b % 2 = 0 ∨ b % 2 = 1 by omega) with k | k <;> rw [g, k] at h <;> (first | (exfalso; omega) | (have := this (by omega); omega))

theorem lowZ_all : ∀ i j : Fin 64, i.val * 64 + j.val ≠ 0 → bits .and .i64 ((i.val * 64 + j.val : Nat) : Int) (-((i.val * 64 + j.val : Nat) : Int)) = ((2 ^ lowZ 12 (i.val * 64 + j.val) : Nat) : Int) ∧ lowZ 12 (i.val * 64 + j.val) < 12 := by decide +kernel
theorem lowZ_low (d : Nat) (h : d < 4096) (h0 : d ≠ 0) : bits .and .i64 (d : Int) (-(d : Int)) = ((2 ^ lowZ 12 d : Nat) : Int) ∧ lowZ 12 d < 12 := by
  have := lowZ_all ⟨d / 64, by omega⟩ ⟨d % 64, by omega⟩
  simp only at this
  rw [show d / 64 * 64 + d % 64 = d by omega] at this
  exact this h0
theorem firstD_test (n : Nat) : ∀ a b, a < 2 ^ n → b < 2 ^ n → a ≠ b → a.testBit (lowZ n (a ^^^ b)) = firstD n a b := by
  induction n with
  | zero => intro a b ha hb h; omega
  | succ n ih =>
    intro a b ha hb h
    rw [Nat.pow_succ] at ha hb
    unfold lowZ firstD
    have e : (a ^^^ b) / 2 = a / 2 ^^^ b / 2 := Nat.xor_div_two ..
    have m : (a ^^^ b) % 2 = 1 ↔ a % 2 ≠ b % 2 := by
      have := Nat.testBit_xor a b 0
      rw [Nat.testBit_zero, Nat.testBit_zero, Nat.testBit_zero] at this
      rw [← decide_eq_true_iff (p := (a ^^^ b) % 2 = 1), this]
      rcases (show a % 2 = 0 ∨ a % 2 = 1 by omega) with x | x <;> rcases (show b % 2 = 0 ∨ b % 2 = 1 by omega) with y | y <;> rw [x, y] <;> simp
    by_cases g : a % 2 = b % 2
    · rw [if_neg (fun x => m.1 x g), if_pos g, e, Nat.testBit_succ]
      exact ih _ _ (by omega) (by omega) (by omega)
    · rw [if_pos (m.2 g), if_neg g, Nat.testBit_zero]

/-- The key of a set: fewer first, then by the first that differs. -/
def keyS (a : Nat) : Int := (pop 64 a : Int) * 4096 + (4095 - (revB 12 a : Int))
theorem keyS_inj {a b : Nat} (ha : a < 4096) (hb : b < 4096) (h : keyS a = keyS b) : a = b := by
  have h1 := revB_lt 12 a
  have h2 := revB_lt 12 b
  unfold keyS at h
  exact revB_inj 12 a b ha hb (by omega)

theorem xor_i64 (a b : Nat) (ha : a < 4096) (hb : b < 4096) : bits .xor .i64 (a : Int) (b : Int) = ((a ^^^ b : Nat) : Int) := by
  have hp : (4096 : Nat) < 2 ^ IntKind.i64.bits := by decide
  have h1 : a % 2 ^ IntKind.i64.bits = a := Nat.mod_eq_of_lt (by omega)
  have h2 : b % 2 ^ IntKind.i64.bits = b := Nat.mod_eq_of_lt (by omega)
  have h3 : a ^^^ b < 2 ^ 12 := Nat.xor_lt_two_pow ha hb
  simp only [Go.bits, BitVec.ofInt_natCast, BitVec.toNat_xor, BitVec.toNat_ofNat, h1, h2]
  exact wraps_i64 _ (by omega) (by omega)
theorem and_i64 (a b : Nat) (ha : a < 4096) (hb : b < 4096) : bits .and .i64 (a : Int) (b : Int) = ((a &&& b : Nat) : Int) :=
  (bits_nat .i64 63 (by decide) wraps_i64 a b (by omega) (by omega)).1
theorem and_two (a k : Nat) : (a &&& 2 ^ k ≠ 0) ↔ a.testBit k = true := by
  constructor
  · intro h
    by_cases g : a.testBit k = true
    · exact g
    · refine absurd (Nat.eq_of_testBit_eq fun j => ?_) h
      rw [Nat.testBit_and, Nat.testBit_two_pow, Nat.zero_testBit]
      by_cases e : k = j
      · subst e; simp at g; simp [g]
      · simp [e]
  · intro h e
    have := congrArg (fun x => x.testBit k) e
    simp [Nat.testBit_and, h] at this

theorem u64_i64 (a : Nat) (ha : a < 4096) : IntKind.u64.wrap (a : Int) = (a : Int) := wraps_u64 _ (by omega) (by omega)

set_option maxHeartbeats 1000000 in
theorem ones_any (x : Nat) (w : World) (h1 : x < 4096) :
    Calls Try.prog 79 #[.int .u64 x] w fun e w' => e = .returned (.int .i64 (pop 64 x : Nat)) ∧ w = w' := by
  have CO := Lib.hid (fun W => ones64_any x W (by omega))
  generalize pop 64 x = r at *
  go_enter Try.func79, Try.ntmps79
  go_wp2_with fail
  refine (CO.out _).mono ?_
  rintro e w' ⟨rfl, rfl⟩
  go_wp2
  go_ret
  exact ⟨rfl, rfl⟩

theorem cmpI_key (a b : Nat) (ha : a < 4096) (hb : b < 4096) (h : a ≠ b) :
    cmpI (keyS a) (keyS b) = if pop 64 a = pop 64 b then (if firstD 12 a b = true then -1 else 1) else cmpI (pop 64 a : Int) (pop 64 b : Int) := by
  have h1 := revB_lt 12 a
  have h2 := revB_lt 12 b
  have h3 := firstD_rev 12 a b ha hb
  have h4 : revB 12 a ≠ revB 12 b := fun e => h (revB_inj 12 a b ha hb e)
  unfold keyS cmpI
  by_cases e : pop 64 a = pop 64 b
  · rw [if_pos e, e]
    by_cases g : firstD 12 a b = true
    · rw [if_pos g, if_pos]
      have := h3.1 g
      omega
    · rw [if_neg g, if_neg, if_pos]
      · have : ¬ revB 12 b < revB 12 a := fun x => g (h3.2 x)
        omega
      · have : ¬ revB 12 b < revB 12 a := fun x => g (h3.2 x)
        omega
  · rw [if_neg e]
    by_cases g : pop 64 a < pop 64 b
    · rw [if_pos (by omega), if_pos (by omega)]
    · rw [if_neg (by omega), if_pos (by omega), if_neg (by omega), if_pos (by omega)]

set_option maxRecDepth 100000 in
set_option maxHeartbeats 2000000 in
theorem compareS_any (a b : Nat) (w : World) (ha : a < 4096) (hb : b < 4096) :
    Calls Try.prog 72 #[.int .i64 a, .int .i64 b] w fun e w' => e = .returned (.int .i64 (cmpI (keyS a) (keyS b))) ∧ w = w' := by
  have u1 := u64_i64 a ha
  have u2 := u64_i64 b hb
  have C1 := Lib.hid (fun W => ones_any a W ha)
  have C2 := Lib.hid (fun W => ones_any b W hb)
  by_cases hab : a = b
  · subst hab
    have r0 : cmpI (keyS a) (keyS a) = 0 := by unfold cmpI; simp
    rw [r0]
    clear r0
    go_enter Try.func72, Try.ntmps72
    go_wp2
    go_ret
    exact ⟨rfl, rfl⟩
  · have hk := cmpI_key a b ha hb hab
    have CC := Lib.hid (fun W => compare_any (pop 64 a) (pop 64 b) W)
    have hx := xor_i64 a b ha hb
    have hx12 : a ^^^ b < 4096 := Nat.xor_lt_two_pow (n := 12) ha hb
    have hx0 : a ^^^ b ≠ 0 := fun e => hab (by have := congrArg (fun x => x ^^^ b) e; simpa [Nat.xor_assoc] using this)
    obtain ⟨hlow, hlt⟩ := lowZ_low _ hx12 hx0
    have hft := firstD_test 12 a b ha hb hab
    have hneg : IntKind.i64.wrap (-((a ^^^ b : Nat) : Int)) = -((a ^^^ b : Nat) : Int) := by rw [IntKind.wrap_i64]; omega
    generalize a ^^^ b = d at *
    generalize lowZ 12 d = k at *
    have hp : 2 ^ k < 2 ^ 12 := Nat.pow_lt_pow_right (by omega) hlt
    have hand := and_i64 a (2 ^ k) ha hp
    have htw := and_two a k
    rw [hft] at htw
    have hle : a &&& 2 ^ k ≤ 4096 := Nat.le_trans Nat.and_le_left (by omega)
    generalize (2 ^ k : Nat) = q at *
    generalize a &&& q = t at *
    generalize cmpI (keyS a) (keyS b) = r at *
    have HK := Lib.hid hk
    have hne : ((a : Int) == b) = false := by simp; omega
    have HAB := Lib.hid hab
    have HFT := Lib.hid hft
    have HTW := Lib.hid htw
    have HLOW := Lib.hid hlow
    have HAND := Lib.hid hand
    have HX := Lib.hid hx
    have HNEG := Lib.hid hneg
    clear hk hab hft htw hx0 hlow hand hx hneg
    generalize hpa : pop 64 a = pa at *
    generalize hpb : pop 64 b = pb at *
    clear hpa hpb
    go_enter Try.func72, Try.ntmps72
    go_wp2_with fail
    refine (C1.out _).mono ?_
    rintro e w' ⟨rfl, rfl⟩
    go_wp2_with fail
    refine (C2.out _).mono ?_
    rintro e w' ⟨rfl, rfl⟩
    go_wp2_with fail
    refine (CC.out _).mono ?_
    rintro e w' ⟨rfl, rfl⟩
    by_cases hp2 : pa = pb
    · have e0 : cmpI (pa : Int) (pb : Int) = 0 := by unfold cmpI; simp [hp2]
      rw [e0]
      have hk := HK.out
      rw [if_pos hp2] at hk
      have HK2 := Lib.hid hk
      clear hk e0 HK
      have hlow := HLOW.out
      have hand := HAND.out
      have hx := HX.out
      have hneg := HNEG.out
      by_cases hf : firstD 12 a b = true
      · have ht := HTW.out.2 hf
        have t1 : ((t : Int) != 0) = true := by simp; omega
        have hr := HK2.out
        rw [if_pos hf] at hr
        subst hr
        clear ht hf HTW HFT HK2
        go_wp2
        go_ret
        exact ⟨rfl, rfl⟩
      · have ht : t = 0 := Decidable.byContradiction fun e => hf (HTW.out.1 e)
        have t1 : ((t : Int) != 0) = false := by simp; omega
        have hr := HK2.out
        rw [if_neg hf] at hr
        subst hr
        clear ht hf HTW HFT HK2
        go_wp2
        go_ret
        exact ⟨rfl, rfl⟩
    · have e0 : (cmpI (pa : Int) (pb : Int) != 0) = true := by
        unfold cmpI
        by_cases g : (pa : Int) < pb
        · rw [if_pos g]; rfl
        · rw [if_neg g, if_pos (by omega)]; rfl
      have hk := HK.out
      rw [if_neg hp2] at hk
      subst hk
      clear HK hp2
      go_wp2
      go_ret
      exact ⟨rfl, rfl⟩

end Go.Proofs.Ytapjgjjmlbhanaa
