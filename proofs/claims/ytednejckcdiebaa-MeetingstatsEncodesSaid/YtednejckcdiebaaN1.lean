/- Plain: numbers in groups of seven bits; the encoding of a book, written and read. -/
import Derived.Test.YtednejckcdiebaaP
namespace Go.Proofs.Ytednejckcdiebaa
set_option linter.unusedSimpArgs false

def Byt (bs : List Int) : Prop := ∀ b ∈ bs, 0 ≤ b ∧ b ≤ 255
theorem Byt.tail {b : Int} {r : List Int} (h : Byt (b :: r)) : Byt r := fun x hx => h x (List.mem_cons_of_mem _ hx)
theorem Byt.append_right {a r : List Int} (h : Byt (a ++ r)) : Byt r := fun x hx => h x (List.mem_append_right _ hx)

/-- A number, the least group first. -/
def encN (n : Nat) : List Int := if n < 128 then [(n : Int)] else ((n % 128 + 128 : Nat) : Int) :: encN (n / 128)
termination_by n
decreasing_by omega
theorem encN_small {n : Nat} (h : n < 128) : encN n = [(n : Int)] := by rw [encN, if_pos h]
theorem encN_big {n : Nat} (h : ¬ n < 128) : encN n = ((n % 128 + 128 : Nat) : Int) :: encN (n / 128) := by rw [encN, if_neg h]
theorem encN_len (n : Nat) : 1 ≤ (encN n).length := by
  rw [encN]; split <;> simp
theorem encN_byt (n : Nat) : Byt (encN n) := by
  induction n using Nat.strongRecOn with
  | _ n ih =>
    by_cases h : n < 128
    · rw [encN_small h]; intro b hb; simp at hb; omega
    · rw [encN_big h]
      intro b hb
      rcases List.mem_cons.1 hb with rfl | hb
      · omega
      · exact ih (n / 128) (by omega) b hb

/-- A number read: the groups from the i-th one on, behind what was read. -/
def numG : Nat → Nat → List Int → Option (Nat × List Int)
  | _, _, [] => none
  | i, acc, b :: r => if 10 ≤ i then none else if 128 ≤ b then numG (i + 1) (acc + (b - 128).toNat * 128 ^ i) r else if (0 < i ∧ b = 0) ∨ (i = 9 ∧ 1 < b) then none else some (acc + b.toNat * 128 ^ i, r)
theorem numG_ten (acc : Nat) (bs : List Int) : numG 10 acc bs = none := by
  cases bs with
  | nil => rfl
  | cons b r => simp [numG]

set_option maxRecDepth 100000 in
theorem numG_enc (n : Nat) : ∀ (i acc : Nat) (r : List Int), i ≤ 9 → (i = 0 ∨ 0 < n) → n * 128 ^ i < 18446744073709551616 → numG i acc (encN n ++ r) = some (acc + n * 128 ^ i, r) := by
  induction n using Nat.strongRecOn with
  | _ n ih =>
    intro i acc r hi h0 hn
    have e9 : 128 ^ 9 = 9223372036854775808 := by decide
    by_cases h : n < 128
    · rw [encN_small h]
      simp only [List.cons_append, List.nil_append, numG]
      rw [if_neg (by omega), if_neg (by omega), if_neg ?_]
      · simp
      · rintro (⟨h1, h2⟩ | ⟨h1, h2⟩)
        · omega
        · subst h1
          rw [e9] at hn
          omega
    · rw [encN_big h]
      simp only [List.cons_append, numG]
      have hi9 : i ≤ 8 := by
        rcases Nat.lt_or_ge i 9 with h9 | h9
        · omega
        · have : i = 9 := by omega
          subst this
          rw [e9] at hn
          omega
      rw [if_neg (by omega), if_pos (by omega)]
      have e : (((n % 128 + 128 : Nat) : Int) - 128).toNat = n % 128 := by omega
      have hs : n * 128 ^ i = n % 128 * 128 ^ i + n / 128 * 128 ^ (i + 1) := by
        have h1 : n = n / 128 * 128 + n % 128 := by omega
        have h2 : n * 128 ^ i = (n / 128 * 128 + n % 128) * 128 ^ i := by rw [← h1]
        rw [h2, Nat.add_mul, Nat.pow_succ, Nat.mul_assoc, Nat.mul_comm 128 (128 ^ i), Nat.add_comm]
      rw [e, ih (n / 128) (by omega) (i + 1) _ r (by omega) (.inr (by omega)) (by omega), hs]
      congr 2
      omega

set_option maxRecDepth 100000 in
theorem numG_inv : ∀ (bs : List Int) (i acc v : Nat) (r : List Int), Byt bs → numG i acc bs = some (v, r) →
    ∃ n, bs = encN n ++ r ∧ v = acc + n * 128 ^ i ∧ (i = 0 ∨ 0 < n) ∧ n * 128 ^ i < 18446744073709551616 ∧ i ≤ 9
  | [], _, _, _, _, _, h => by simp [numG] at h
  | b :: t, i, acc, v, r, hb, h => by
    have hb0 := hb b (by simp)
    have e9 : 128 ^ 9 = 9223372036854775808 := by decide
    unfold numG at h
    split at h
    · cases h
    rename_i h10
    split at h
    · rename_i hbig
      obtain ⟨m, e1, e2, e3, e4, e5⟩ := numG_inv t (i + 1) _ v r hb.tail h
      have hm : 0 < m := by omega
      obtain ⟨x, hx⟩ : ∃ x : Nat, x = (b - 128).toNat := ⟨_, rfl⟩
      have hx2 : x < 128 := by omega
      have hbx : b = ((x + 128 : Nat) : Int) := by omega
      refine ⟨m * 128 + x, ?_, ?_, .inr (by omega), ?_, by omega⟩
      · rw [encN_big (by omega), show (m * 128 + x) / 128 = m by omega, show (m * 128 + x) % 128 = x by omega, ← hbx, List.cons_append, ← e1]
      · rw [e2, ← hx, Nat.pow_succ, Nat.add_mul, Nat.mul_assoc m 128, Nat.mul_comm 128 (128 ^ i)]
        omega
      · have hK : 18446744073709551616 = 2 ^ (64 - 7 * (i + 1)) * 128 ^ (i + 1) := by
          rw [show (128 : Nat) = 2 ^ 7 from rfl, ← Nat.pow_mul, ← Nat.pow_add, show 64 - 7 * (i + 1) + 7 * (i + 1) = 64 by omega]
        have hP : 0 < 128 ^ i := Nat.pow_pos (by omega)
        rw [hK] at e4
        have hm1 := Nat.lt_of_mul_lt_mul_right e4
        have h1 : (m * 128 + x) * 128 ^ i < (m * 128 + 128) * 128 ^ i := Nat.mul_lt_mul_of_pos_right (by omega) hP
        have h2 : (m * 128 + 128) * 128 ^ i = (m + 1) * 128 ^ (i + 1) := by
          rw [Nat.pow_succ, show m * 128 + 128 = (m + 1) * 128 by omega, Nat.mul_assoc, Nat.mul_comm 128]
        have h3 : (m + 1) * 128 ^ (i + 1) ≤ 2 ^ (64 - 7 * (i + 1)) * 128 ^ (i + 1) := Nat.mul_le_mul_right _ hm1
        rw [hK]
        omega
    · rename_i hsm
      split at h
      · cases h
      · rename_i hno
        cases h
        have hbx : ((b.toNat : Nat) : Int) = b := by omega
        refine ⟨b.toNat, by rw [encN_small (by omega), hbx]; rfl, rfl, ?_, ?_, by omega⟩
        · by_cases h0 : i = 0
          · exact .inl h0
          · exact .inr (by have : b ≠ 0 := fun e => hno (.inl ⟨by omega, e⟩); omega)
        · rcases Nat.lt_or_ge i 9 with h9 | h9
          · have h1 : b.toNat * 128 ^ i < 128 * 128 ^ i := Nat.mul_lt_mul_of_pos_right (by omega) (Nat.pow_pos (by omega))
            have h2 : 128 * 128 ^ i = 128 ^ (i + 1) := by rw [Nat.pow_succ, Nat.mul_comm]
            have h3 : 128 ^ (i + 1) ≤ 128 ^ 9 := Nat.pow_le_pow_right (by omega) (by omega)
            rw [e9] at h3
            omega
          · have h10 : i = 9 := by omega
            subst h10
            have : ¬ 1 < b := fun e => hno (.inr ⟨rfl, e⟩)
            rw [e9]; omega

theorem num_enc (n : Nat) (r : List Int) (h : n < 18446744073709551616) : numG 0 0 (encN n ++ r) = some (n, r) := by
  have := numG_enc n 0 0 r (by omega) (.inl rfl) (by simpa using h)
  simpa using this
theorem num_inv {bs : List Int} {v : Nat} {r : List Int} (hb : Byt bs) (h : numG 0 0 bs = some (v, r)) : bs = encN v ++ r ∧ v < 18446744073709551616 := by
  obtain ⟨n, e1, e2, _, e4, _⟩ := numG_inv bs 0 0 v r hb h
  have : v = n := by simpa using e2
  subst this
  exact ⟨e1, by simpa using e4⟩

/-- The days of a pair: each by its distance from the one before. -/
def encDays : Int → List Int → List Int
  | _, [] => []
  | last, d :: r => encN (d - last).toNat ++ encDays d r
def encPair (zs : List Int) : List Int := encN zs.length ++ encDays 0 zs
def DOk : Bool → Int → List Int → Prop
  | _, _, [] => True
  | first, day, d :: r => day ≤ d ∧ (first = false → day < d) ∧ d ≤ 999999 ∧ DOk false d r
theorem encDays_len : ∀ (zs : List Int) (last : Int), zs.length ≤ (encDays last zs).length
  | [], _ => Nat.le_refl _
  | d :: r, last => by
    have := encDays_len r d
    have := encN_len (d - last).toNat
    simp only [encDays, List.length_append, List.length_cons]
    omega
theorem DOk.len : ∀ {zs : List Int} {day : Int}, DOk false day zs → day ≤ 999999 → (zs.length : Int) ≤ 999999 - day
  | [], day, _, h => by simp; omega
  | d :: r, day, h, _ => by
    obtain ⟨h1, h2, h3, h4⟩ := h
    have := DOk.len h4 h3
    have := h2 rfl
    simp only [List.length_cons]
    omega
theorem DOk.len0 {zs : List Int} (h : DOk true 0 zs) : zs.length ≤ 1000000 := by
  cases zs with
  | nil => simp
  | cons d r =>
    obtain ⟨h1, h2, h3, h4⟩ := h
    have := DOk.len h4 h3
    simp only [List.length_cons]
    omega
theorem DOk.low : ∀ {zs : List Int} {f : Bool} {day : Int}, DOk f day zs → ∀ x ∈ zs, day ≤ x ∧ (f = false → day < x) ∧ x ≤ 999999
  | [], _, _, _, x, hx => by simp at hx
  | d :: r, f, day, h, x, hx => by
    obtain ⟨h1, h2, h3, h4⟩ := h
    rcases List.mem_cons.1 hx with rfl | hx
    · exact ⟨h1, h2, h3⟩
    · have := DOk.low h4 x hx
      have := this.2.1 rfl
      exact ⟨by omega, fun _ => by omega, by omega⟩
theorem DOk.sorted : ∀ {zs : List Int} {f : Bool} {day : Int}, DOk f day zs → zs.Pairwise (· < ·)
  | [], _, _, _ => List.Pairwise.nil
  | d :: r, f, day, h => by
    obtain ⟨h1, h2, h3, h4⟩ := h
    exact List.pairwise_cons.2 ⟨fun x hx => (DOk.low h4 x hx).2.1 rfl, DOk.sorted h4⟩
theorem dok_of : ∀ (zs : List Int) (f : Bool) (day : Int), zs.Pairwise (· < ·) → (∀ x ∈ zs, day ≤ x ∧ (f = false → day < x) ∧ x ≤ 999999) → DOk f day zs
  | [], _, _, _, _ => trivial
  | d :: r, f, day, hs, h => by
    have h1 := h d (by simp)
    have h2 := List.pairwise_cons.1 hs
    exact ⟨h1.1, h1.2.1, h1.2.2, dok_of r false d h2.2 fun x hx => ⟨by have := h2.1 x hx; omega, fun _ => h2.1 x hx, (h x (by simp [hx])).2.2⟩⟩

/-- Days read. -/
def daysG : Nat → Bool → Int → List Int → Option (List Int × List Int)
  | 0, _, _, bs => some ([], bs)
  | c + 1, first, day, bs => match numG 0 0 bs with
    | none => none
    | some (s, r) => if 999999 < s ∨ (first = false ∧ s = 0) ∨ 999999 < day + s then none else
      match daysG c false (day + s) r with
      | none => none
      | some (ds, r') => some ((day + s) :: ds, r')
theorem daysG_enc : ∀ (zs : List Int) (first : Bool) (day : Int) (r : List Int), 0 ≤ day → DOk first day zs → daysG zs.length first day (encDays day zs ++ r) = some (zs, r)
  | [], _, _, _, _, _ => rfl
  | d :: t, first, day, r, h0, h => by
    obtain ⟨h1, h2, h3, h4⟩ := h
    simp only [List.length_cons, daysG, encDays, List.append_assoc]
    rw [num_enc _ _ (by omega)]
    simp only
    have e : day + ((d - day).toNat : Int) = d := by omega
    rw [e, if_neg, daysG_enc t false d r (by omega) h4]
    rintro (h | ⟨h, h'⟩ | h)
    · omega
    · have := h2 h; omega
    · omega
theorem daysG_inv : ∀ (c : Nat) (first : Bool) (day : Int) (bs zs r : List Int), 0 ≤ day → Byt bs → daysG c first day bs = some (zs, r) → zs.length = c ∧ DOk first day zs ∧ bs = encDays day zs ++ r
  | 0, first, day, bs, zs, r, _, _, h => by
    simp only [daysG, Option.some.injEq, Prod.mk.injEq] at h
    obtain ⟨rfl, rfl⟩ := h
    exact ⟨rfl, trivial, rfl⟩
  | c + 1, first, day, bs, zs, r, h0, hb, h => by
    unfold daysG at h
    split at h
    · cases h
    rename_i s t hn
    obtain ⟨e1, e2⟩ := num_inv hb hn
    split at h
    · cases h
    rename_i hno
    split at h
    · cases h
    rename_i ds r' hd
    cases h
    obtain ⟨g1, g2, g3⟩ := daysG_inv c false (day + s) t ds r (by omega) (by rw [e1] at hb; exact hb.append_right) hd
    refine ⟨by simp [g1], ⟨by omega, fun hf => ?_, ?_, g2⟩, ?_⟩
    · have : s ≠ 0 := fun e => hno (.inr (.inl ⟨hf, e⟩))
      omega
    · have : ¬ 999999 < day + (s : Int) := fun e => hno (.inr (.inr e))
      omega
    · rw [encDays, show (day + (s : Int) - day).toNat = s by omega, List.append_assoc, ← g3, ← e1]

/-- A pair read. -/
def pairG (bs : List Int) : Option (List Int × List Int) := match numG 0 0 bs with
  | none => none
  | some (c, r) => if min bs.length 1000000 < c then none else daysG c true 0 r
theorem pairG_enc (zs r : List Int) (h : DOk true 0 zs) : pairG (encPair zs ++ r) = some (zs, r) := by
  have hl := h.len0
  have hd := encDays_len zs 0
  unfold pairG encPair
  rw [List.append_assoc, num_enc _ _ (by omega)]
  simp only
  rw [if_neg, daysG_enc zs true 0 r (by omega) h]
  simp only [List.length_append]
  omega
theorem pairG_inv (bs zs r : List Int) (hb : Byt bs) (h : pairG bs = some (zs, r)) : DOk true 0 zs ∧ bs = encPair zs ++ r := by
  unfold pairG at h
  split at h
  · cases h
  rename_i c t hn
  obtain ⟨e1, e2⟩ := num_inv hb hn
  split at h
  · cases h
  obtain ⟨g1, g2, g3⟩ := daysG_inv c true 0 t zs r (by omega) (by rw [e1] at hb; exact hb.append_right) h
  exact ⟨g2, by unfold encPair; rw [g1, List.append_assoc, ← g3, ← e1]⟩

def setM (M : Days) (p : Int × Int) (zs : List Int) : Days := fun a b => if a = p.1 ∧ b = p.2 then zs else M a b
def pairsG : List (Int × Int) → Days → List Int → Option (Days × List Int)
  | [], M, bs => some (M, bs)
  | p :: ps, M, bs => match pairG bs with
    | none => none
    | some (zs, r) => pairsG ps (setM M p zs) r
def encPairs (M : Days) (ps : List (Int × Int)) : List Int := ps.flatMap fun p => encPair (M p.1 p.2)
theorem pairsG_enc (K : Days) : ∀ (ps : List (Int × Int)) (M : Days) (r : List Int), (∀ p ∈ ps, DOk true 0 (K p.1 p.2)) →
    pairsG ps M (encPairs K ps ++ r) = some (fun a b => if (a, b) ∈ ps then K a b else M a b, r)
  | [], M, r, _ => by simp [pairsG, encPairs]
  | p :: ps, M, r, h => by
    have ih := pairsG_enc K ps (setM M p (K p.1 p.2)) r (fun q hq => h q (by simp [hq]))
    have e : encPairs K (p :: ps) ++ r = encPair (K p.1 p.2) ++ (encPairs K ps ++ r) := by simp [encPairs]
    rw [e, pairsG, pairG_enc _ _ (h p (by simp))]
    simp only
    rw [ih]
    congr 2
    funext a b
    by_cases hq : (a, b) ∈ ps
    · rw [if_pos hq, if_pos (by simp [hq])]
    · rw [if_neg hq]
      unfold setM
      by_cases hp : a = p.1 ∧ b = p.2
      · rw [if_pos hp, if_pos (by rw [hp.1, hp.2]; simp), hp.1, hp.2]
      · rw [if_neg hp, if_neg]
        intro hm
        rcases List.mem_cons.1 hm with e | e
        · exact hp ⟨by rw [← e], by rw [← e]⟩
        · exact hq e
theorem pairsG_inv : ∀ (ps : List (Int × Int)) (M0 M : Days) (bs r : List Int), Byt bs → ps.Nodup → pairsG ps M0 bs = some (M, r) →
    bs = encPairs M ps ++ r ∧ (∀ p ∈ ps, DOk true 0 (M p.1 p.2)) ∧ ∀ a b, (a, b) ∉ ps → M a b = M0 a b
  | [], M0, M, bs, r, _, _, h => by
    simp only [pairsG, Option.some.injEq, Prod.mk.injEq] at h
    obtain ⟨rfl, rfl⟩ := h
    exact ⟨by simp [encPairs], by simp, fun _ _ _ => rfl⟩
  | p :: ps, M0, M, bs, r, hb, hn, h => by
    unfold pairsG at h
    split at h
    · cases h
    rename_i zs t hp
    obtain ⟨g1, g2⟩ := pairG_inv bs zs t hb hp
    obtain ⟨n1, n2⟩ := List.nodup_cons.1 hn
    obtain ⟨i1, i2, i3⟩ := pairsG_inv ps (setM M0 p zs) M t r (by rw [g2] at hb; exact hb.append_right) n2 h
    have e : M p.1 p.2 = zs := by
      rw [i3 p.1 p.2 n1]
      unfold setM
      rw [if_pos ⟨rfl, rfl⟩]
    refine ⟨?_, fun q hq => ?_, fun a b hab => ?_⟩
    · rw [g2, i1]
      simp only [encPairs, List.flatMap_cons, e, List.append_assoc]
    · rcases List.mem_cons.1 hq with rfl | hq
      · rw [e]; exact g1
      · exact i2 q hq
    · rw [i3 a b (fun h => hab (by simp [h]))]
      unfold setM
      rw [if_neg]
      rintro ⟨rfl, rfl⟩
      exact hab (by simp)

/-- All pairs of n devices, in order. -/
def pairL (n : Nat) : List (Int × Int) := (List.range n).flatMap fun a : Nat => (List.range' (a + 1) (n - (a + 1))).map fun b : Nat => ((a : Int), (b : Int))
theorem mem_pairL {n : Nat} {p : Int × Int} : p ∈ pairL n ↔ 0 ≤ p.1 ∧ p.1 < p.2 ∧ p.2 < n := by
  obtain ⟨x, y⟩ := p
  simp only [pairL, List.mem_flatMap, List.mem_range, List.mem_map, List.mem_range'_1, Prod.mk.injEq]
  constructor
  · rintro ⟨a, ha, b, hb, rfl, rfl⟩; omega
  · rintro ⟨h1, h2, h3⟩
    exact ⟨x.toNat, by omega, y.toNat, by omega, by omega, by omega⟩
theorem pairL_nodup (n : Nat) : (pairL n).Nodup := by
  unfold pairL
  unfold List.Nodup
  refine List.pairwise_flatMap.2 ⟨fun a _ => ?_, ?_⟩
  · rw [List.pairwise_map]
    exact (List.nodup_range' (step := 1)).imp fun {x y} h e => h (by simp only [Prod.mk.injEq, true_and] at e; omega)
  · refine List.nodup_range.imp fun {a a'} h => ?_
    intro p hp q hq e
    obtain ⟨b, _, rfl⟩ := List.mem_map.1 hp
    obtain ⟨b', _, rfl⟩ := List.mem_map.1 hq
    simp only [Prod.mk.injEq] at e
    omega
/-- The encoding of a book. -/
def encB (n : Nat) (M : Days) : List Int := encN n ++ encPairs M (pairL n)
def decG (bs : List Int) : Option (Nat × Days) := match numG 0 0 bs with
  | none => none
  | some (n, r) => if n < 2 ∨ 12 < n then none else match pairsG (pairL n) (fun _ _ => []) r with
    | some (M, []) => some (n, M)
    | _ => none
theorem decG_inv {bs : List Int} {n : Nat} {M : Days} (hb : Byt bs) (h : decG bs = some (n, M)) : bs = encB n M ∧ (2 ≤ n ∧ n ≤ 12) ∧ (∀ a b, DOk true 0 (M a b)) := by
  unfold decG at h
  split at h
  · cases h
  rename_i m t hn
  obtain ⟨e1, _⟩ := num_inv hb hn
  split at h
  · cases h
  split at h
  · rename_i M' hp
    cases h
    obtain ⟨i1, i2, i3⟩ := pairsG_inv _ _ _ _ _ (by rw [e1] at hb; exact hb.append_right) (pairL_nodup _) hp
    refine ⟨?_, by omega, fun a b => ?_⟩
    · rw [e1, i1]; unfold encB; simp
    · by_cases hm : (a, b) ∈ pairL n
      · exact i2 _ hm
      · rw [i3 a b hm]; trivial
  · cases h
theorem decG_enc {n : Nat} {M : Days} (h2 : 2 ≤ n) (h12 : n ≤ 12) (hd : ∀ a b, DOk true 0 (M a b)) (ho : ∀ a b, (a, b) ∉ pairL n → M a b = []) : decG (encB n M) = some (n, M) := by
  unfold decG encB
  rw [num_enc _ _ (by omega)]
  simp only
  rw [if_neg (by omega)]
  have := pairsG_enc M (pairL n) (fun _ _ => []) [] (fun p _ => hd _ _)
  rw [List.append_nil] at this
  rw [this]
  simp only [Option.some.injEq, Prod.mk.injEq, true_and]
  funext a b
  by_cases hm : (a, b) ∈ pairL n
  · rw [if_pos hm]
  · rw [if_neg hm, ho a b hm]

end Go.Proofs.Ytednejckcdiebaa
