/- The methods of a book that look: recent, weight, Rate, Within, Expected, Weight. -/
import Derived.Test.YtednejckcdiebaaK
namespace Go.Proofs.Ytednejckcdiebaa
open Go.RowKit Go.Lib

theorem IsBook.cell0 {w : World} {F : Nat → Prop} {k : Nat} {n N : Int} {M : Days} (h : IsBook w F k n N M) : w.cell? ⟨k, 0, none⟩ = some (.int .i64 n) := by
  obtain ⟨mb, L, c, fk, fm, hk, _⟩ := h
  rw [cell_of_block hk]; rfl

theorem IsBook.cell2 {w : World} {F : Nat → Prop} {k : Nat} {n N : Int} {M : Days} (h : IsBook w F k n N M) : w.cell? ⟨k, 2, none⟩ = some (.int .i64 N) := by
  obtain ⟨mb, L, c, fk, fm, hk, _⟩ := h
  rw [cell_of_block hk]; rfl

/-- Two devices of n, different ones, and a day. -/
def Fit (n a b d : Int) : Prop := 0 ≤ a ∧ a < n ∧ 0 ≤ b ∧ b < n ∧ a ≠ b ∧ 0 ≤ d ∧ d ≤ 999999

set_option maxHeartbeats 1000000 in
theorem recent_ok (F : Nat → Prop) (k : Nat) (n N : Int) (M : Days) (w : World) (hB : IsBook w F k n N M) (hR : Rise N M) (a b d : Int) (hf : Fit n a b d) :
    Calls Try.prog 38 #[.pointer (some ⟨k, 0, none⟩), .int .i64 a, .int .i64 b, .int .i64 d] w fun e w' => e = .returned (.tuple #[.int .i64 ((win (M (min a b) (max a b)) (d - 32 + 1) d).length : Nat), .int .i64 0]) ∧ Below w.heap.size w w' := by
  obtain ⟨h1, h2, h3, h4, h5, h6, h7⟩ := hf
  have cA := asked_ok k n a b d w hB.cell0 h1 h2 h3 h4 h5 h6 h7
  have CA := Lib.hid cA
  have HB := Lib.hid hB
  clear cA hB
  obtain ⟨p, hp⟩ : ∃ p, p = min a b := ⟨_, rfl⟩
  obtain ⟨q, hq⟩ : ∃ q, q = max a b := ⟨_, rfl⟩
  rw [← hp, ← hq] at CA ⊢
  clear hp hq
  go_enter Try.func38, Try.ntmps38
  go_wp2_with fail
  refine CA.out.mono ?_
  rintro e w1 ⟨rfl, hb⟩
  have z1 := hb.size
  go_wp2_with fail
  refine (between_any F k n N M _ ?_ hR p q (d - 32 + 1) d (by omega) (by omega) (by omega)).mono ?_
  · exact (HB.out.below hb).below (by (repeat' (first | (with_reducible exact Below.refl _ _) | (with_reducible assumption) | (with_reducible refine Below.alloc ?_ ?_ _) | (with_reducible refine Below.drew ?_) | (with_reducible refine below_drewN ?_ _) | (with_reducible refine Below.setCell ?_ ?_ _) | (with_reducible refine below_step ?_ (by with_reducible assumption) ?_) | go_size)))
  rintro e w2 ⟨v, rfl, hv, hb2⟩
  obtain ⟨ao, c, rfl, hc, _⟩ := hv
  go_wp2
  go_ret2
  refine ⟨rfl, ?_⟩
  (repeat' (first | (with_reducible exact Below.refl _ _) | (with_reducible assumption) | (with_reducible refine Below.alloc ?_ ?_ _) | (with_reducible refine Below.drew ?_) | (with_reducible refine below_drewN ?_ _) | (with_reducible refine Below.setCell ?_ ?_ _) | (with_reducible refine below_step ?_ (by with_reducible assumption) ?_) | go_size))

set_option maxHeartbeats 1000000 in
theorem recent_bad (k : Nat) (n : Int) (w : World) (hB : w.cell? ⟨k, 0, none⟩ = some (.int .i64 n)) (a b d : Int) (hf : ¬ Fit n a b d) :
    Calls Try.prog 38 #[.pointer (some ⟨k, 0, none⟩), .int .i64 a, .int .i64 b, .int .i64 d] w fun e w' => e = .returned (.tuple #[.int .i64 0, .int .i64 1]) ∧ Below w.heap.size w w' := by
  have cA := asked_bad k n a b d w hB hf
  have CA := Lib.hid cA
  clear cA hB
  go_enter Try.func38, Try.ntmps38
  go_wp2_with fail
  refine CA.out.mono ?_
  rintro e w1 ⟨rfl, hb⟩
  have z1 := hb.size
  go_wp2
  go_ret2
  refine ⟨rfl, ?_⟩
  (repeat' (first | (with_reducible exact Below.refl _ _) | (with_reducible assumption) | (with_reducible refine Below.alloc ?_ ?_ _) | (with_reducible refine Below.drew ?_) | (with_reducible refine below_drewN ?_ _) | (with_reducible refine Below.setCell ?_ ?_ _) | (with_reducible refine below_step ?_ (by with_reducible assumption) ?_) | go_size))

/-- What a day weighs on a later one. -/
def grain (d m : Int) : Int := 2 ^ (20 - (d - m) / 8).toNat

def heft (zs : List Int) (d : Int) : Int := (zs.map (grain d)).sum

theorem grain_bound (d m : Int) (h1 : m ≤ d) : 0 ≤ grain d m ∧ grain d m ≤ 1048576 := by
  unfold grain
  have hk : (20 - (d - m) / 8).toNat ≤ 20 := by omega
  generalize (20 - (d - m) / 8).toNat = k at hk
  have e : (2 : Int) ^ k = ((2 ^ k : Nat) : Int) := by simp
  have := Nat.pow_le_pow_right (n := 2) (by omega) hk
  rw [e]
  exact ⟨Int.natCast_nonneg _, Int.ofNat_le.2 (Nat.le_trans this (by decide))⟩

theorem heft_bound (d : Int) : ∀ (zs : List Int), (∀ m ∈ zs, m ≤ d) → 0 ≤ heft zs d ∧ heft zs d ≤ 1048576 * zs.length
  | [], _ => by simp [heft]
  | m :: r, h => by
    obtain ⟨h1, h2⟩ := heft_bound d r (fun x hx => h x (by simp [hx]))
    have := grain_bound d m (h m (by simp))
    simp only [heft, List.map_cons, List.sum_cons, List.length_cons] at h1 h2 ⊢
    omega

theorem heft_snoc (zs : List Int) (d : Int) (i : Nat) (h : i < zs.length) : heft (zs.take (i + 1)) d = heft (zs.take i) d + grain d (zs.getD i 0) := by
  rw [List.take_succ_eq_append_getElem h]
  simp only [heft, List.map_append, List.sum_append, List.getD, List.getElem?_eq_getElem h, Option.getD_some]
  simp

/-- The elements of a window. -/
theorem countP_drop : ∀ (zs : List Int) (f : Int), zs.Pairwise (· ≤ ·) → zs.drop (zs.countP (· < f)) = zs.filter (fun x => !decide (x < f))
  | [], _, _ => rfl
  | z :: r, f, h => by
    obtain ⟨h1, h2⟩ := List.pairwise_cons.1 h
    by_cases hz : z < f
    · rw [List.countP_cons_of_pos (by simpa using hz), List.drop_succ_cons, countP_drop r f h2, List.filter_cons_of_neg (by simpa using hz)]
    · have h0 : (z :: r).countP (· < f) = 0 := by
        rw [List.countP_eq_zero]
        intro y hy
        rcases List.mem_cons.1 hy with e | hy
        · subst e; simpa using hz
        · have := h1 y hy; simp; omega
      rw [h0, List.drop_zero, List.filter_eq_self.2]
      intro y hy
      rcases List.mem_cons.1 hy with e | hy
      · subst e; simpa using hz
      · have := h1 y hy; simp; omega

theorem countP_take : ∀ (zs : List Int) (f : Int), zs.Pairwise (· ≤ ·) → zs.take (zs.countP (· < f)) = zs.filter (fun x => decide (x < f))
  | [], _, _ => rfl
  | z :: r, f, h => by
    obtain ⟨h1, h2⟩ := List.pairwise_cons.1 h
    by_cases hz : z < f
    · rw [List.countP_cons_of_pos (by simpa using hz), List.take_succ_cons, countP_take r f h2, List.filter_cons_of_pos (by simpa using hz)]
    · have h0 : ∀ y ∈ z :: r, ¬ y < f := by
        intro y hy
        rcases List.mem_cons.1 hy with e | hy
        · subst e; exact hz
        · have := h1 y hy; omega
      rw [List.countP_eq_zero.2 (fun y hy => by simpa using h0 y hy), List.take_zero, List.filter_eq_nil_iff.2 (fun y hy => by simpa using h0 y hy)]

/-- A window of a rising list is the days that lie within. -/
theorem win_filter (zs : List Int) (f l : Int) (hs : zs.Pairwise (· ≤ ·)) (_h : f ≤ l + 1) : win zs f l = zs.filter (fun x => decide (f ≤ x ∧ x ≤ l)) := by
  unfold win
  rw [← List.drop_take, countP_take zs (l + 1) hs]
  have hs2 : (zs.filter (fun x => decide (x < l + 1))).Pairwise (· ≤ ·) := hs.filter _
  have e : zs.countP (· < f) = (zs.filter (fun x => decide (x < l + 1))).countP (· < f) := by
    rw [List.countP_filter]
    refine List.countP_congr fun x _ => ?_
    simp
    omega
  rw [e, countP_drop _ f hs2, List.filter_filter]
  refine List.filter_congr fun x _ => ?_
  rw [Bool.eq_iff_iff]
  simp
  omega

theorem mem_win {zs : List Int} {f l x : Int} (hs : zs.Pairwise (· ≤ ·)) (h : f ≤ l + 1) (hx : x ∈ win zs f l) : f ≤ x ∧ x ≤ l ∧ x ∈ zs := by
  rw [win_filter zs f l hs h] at hx
  simp at hx
  exact ⟨hx.2.1, hx.2.2, hx.1⟩

set_option maxHeartbeats 2000000 in
theorem weight_any (F : Nat → Prop) (k : Nat) (n N : Int) (M : Days) (w : World) (hB : IsBook w F k n N M) (hR : Rise N M) (p q d : Int) (h6 : 0 ≤ d) (h7 : d ≤ 999999) :
    Calls Try.prog 47 #[.pointer (some ⟨k, 0, none⟩), .agg #[.int .i64 p, .int .i64 q], .int .i64 d] w fun e w' => e = .returned (.int .i64 (heft (win (M p q) (d - 168 + 1) d) d)) ∧ Below w.heap.size w w' := by
  have hmem : ∀ x, x ∈ win (M p q) (d - 168 + 1) d → d - 168 + 1 ≤ x ∧ x ≤ d := fun x hx => by
    have := mem_win (rise_le hR p q) (by omega) hx
    exact ⟨this.1, this.2.1⟩
  have hlen : (win (M p q) (d - 168 + 1) d).length ≤ 1000000 := by
    unfold win
    have := rise_length hR p q
    simp
    omega
  have cB := fun w h => between_any F k n N M w h hR p q (d - 168 + 1) d (by omega) (by omega) (by omega)
  have CB := Lib.hid cB
  have HB := Lib.hid hB
  clear cB hB hR
  generalize win (M p q) (d - 168 + 1) d = zs at hmem hlen CB ⊢
  have HM := Lib.hid hmem
  clear hmem
  go_enter Try.func47, Try.ntmps47
  go_wp2_with fail
  refine (CB.out _ ?_).mono ?_
  · exact HB.out.below (by (repeat' (first | (with_reducible exact Below.refl _ _) | (with_reducible assumption) | (with_reducible refine Below.alloc ?_ ?_ _) | (with_reducible refine Below.drew ?_) | (with_reducible refine below_drewN ?_ _) | (with_reducible refine Below.setCell ?_ ?_ _) | (with_reducible refine below_step ?_ (by with_reducible assumption) ?_) | go_size)))
  rintro e w2 ⟨v, rfl, hv, hb2⟩
  have z2 := hb2.size
  obtain ⟨ao, c, rfl, hc, hcell⟩ := hv
  have hcell2 : ∃ b off, ∀ j, j < zs.length → ao = some ⟨b, off, none⟩ ∧ w2.cell? ⟨b, off + j, none⟩ = some (.int .i64 (zs.getD j 0)) := by
    by_cases h0 : zs.length = 0
    · exact ⟨0, 0, fun j hj => by omega⟩
    · obtain ⟨b, off, e, _⟩ := hcell 0 (by omega)
      refine ⟨b, off, fun j hj => ?_⟩
      obtain ⟨b', off', e', h'⟩ := hcell j hj
      rw [e] at e'
      cases e'
      exact ⟨e, h'⟩
  clear hcell
  obtain ⟨b, off, hcell⟩ := hcell2
  have HC := Lib.hid hcell
  clear hcell
  go_wp2
  go_loop [7, 18] (fun v7 v18 => ∃ j : Nat, j ≤ zs.length ∧ v18 = .int .i64 j ∧ v7 = .int .i64 (heft (zs.take j) d)) (fun _ v18 => zs.length - (intOf v18).toNat)
  case atStart => exact ⟨0, Nat.zero_le _, rfl, rfl⟩
  case round =>
    obtain ⟨j, hj, rfl, rfl⟩ := hrel
    by_cases hlt : j < zs.length
    · obtain ⟨e1, e2⟩ := HC.out j hlt
      subst e1
      have hm := HM.out (zs.getD j 0) (by rw [List.getD, List.getElem?_eq_getElem hlt]; exact List.getElem_mem hlt)
      obtain ⟨hm1, hm2⟩ := hm
      have hb := heft_bound d (zs.take j) (fun m h => (HM.out m (List.mem_of_mem_take h)).2)
      obtain ⟨hb1, hb2⟩ := hb
      have hs := heft_snoc zs d j hlt
      have HS := Lib.hid hs
      clear hs
      generalize zs.getD j 0 = m at hm1 hm2 e2 HS
      have hl : (zs.take j).length = j := by simp; omega
      rw [hl] at hb2
      clear hl
      generalize heft (zs.take j) d = s at hb1 hb2 HS ⊢
      have hg := grain_bound d m hm2
      go_wp2
      go_round
      case rel =>
        refine ⟨j + 1, by omega, by go_num, ?_⟩
        rw [HS.out]
        have e : (2 : Int) ^ (20 - (d - m) / 8).toNat = grain d m := rfl
        rw [e, IntWalk.wrap64_in (grain d m) (by constructor <;> omega), IntWalk.wrap64_in _ (by constructor <;> omega)]
      case measure => simp [intOf]; omega
    · have hjl : j = zs.length := by omega
      subst hjl
      rw [List.take_length]
      go_wp2
      go_ret
      exact ⟨rfl, by (repeat' (first | (with_reducible exact Below.refl _ _) | (with_reducible assumption) | (with_reducible refine Below.alloc ?_ ?_ _) | (with_reducible refine Below.drew ?_) | (with_reducible refine below_drewN ?_ _) | (with_reducible refine Below.setCell ?_ ?_ _) | (with_reducible refine below_step ?_ (by with_reducible assumption) ?_) | go_size))⟩

theorem win_len {N : Int} {M : Days} (h : Rise N M) (a b f l : Int) : (win (M a b) f l).length ≤ 1000000 := by
  have := rise_length h a b
  unfold win
  simp
  omega

/-- No more days than the window is long. -/
theorem win_short {N : Int} {M : Days} (h : Rise N M) (a b f l : Int) (hfl : f ≤ l + 1) : ((win (M a b) f l).length : Int) ≤ l - f + 1 := by
  rw [win_filter _ _ _ (rise_le h a b) hfl]
  rcases rising_length ((M a b).filter (fun x => decide (f ≤ x ∧ x ≤ l))) f l ((h.sorted a b).filter _) (fun x hx => by simp at hx; exact hx.2.1) (fun x hx => by simp at hx; exact hx.2.2) with e | e
  · exact e
  · rw [e]; simp; omega

set_option maxHeartbeats 1000000 in
/-- Book.Weight. -/
theorem Weight_ok (F : Nat → Prop) (k : Nat) (n N : Int) (M : Days) (w : World) (hB : IsBook w F k n N M) (hR : Rise N M) (a b d : Int) (hf : Fit n a b d) :
    Calls Try.prog 29 #[.pointer (some ⟨k, 0, none⟩), .int .i64 a, .int .i64 b, .int .i64 d] w fun e w' => e = .returned (.tuple #[.int .i64 (heft (win (M (min a b) (max a b)) (d - 168 + 1) d) d), .int .i64 0]) ∧ Below w.heap.size w w' := by
  obtain ⟨h1, h2, h3, h4, h5, h6, h7⟩ := hf
  have cA := asked_ok k n a b d w hB.cell0 h1 h2 h3 h4 h5 h6 h7
  have CA := Lib.hid cA
  have HB := Lib.hid hB
  clear cA hB
  obtain ⟨p, hp⟩ : ∃ p, p = min a b := ⟨_, rfl⟩
  obtain ⟨q, hq⟩ : ∃ q, q = max a b := ⟨_, rfl⟩
  rw [← hp, ← hq] at CA ⊢
  clear hp hq
  go_enter Try.func29, Try.ntmps29
  go_wp2_with fail
  refine CA.out.mono ?_
  rintro e w1 ⟨rfl, hb⟩
  have z1 := hb.size
  go_wp2_with fail
  refine (weight_any F k n N M _ ?_ hR p q d (by omega) (by omega)).mono ?_
  · exact (HB.out.below hb).below (by (repeat' (first | (with_reducible exact Below.refl _ _) | (with_reducible assumption) | (with_reducible refine Below.alloc ?_ ?_ _) | (with_reducible refine Below.drew ?_) | (with_reducible refine below_drewN ?_ _) | (with_reducible refine Below.setCell ?_ ?_ _) | (with_reducible refine below_step ?_ (by with_reducible assumption) ?_) | go_size)))
  rintro e w2 ⟨rfl, hb2⟩
  have z2 := hb2.size
  go_wp2
  go_ret2
  refine ⟨rfl, ?_⟩
  (repeat' (first | (with_reducible exact Below.refl _ _) | (with_reducible assumption) | (with_reducible refine Below.alloc ?_ ?_ _) | (with_reducible refine Below.drew ?_) | (with_reducible refine below_drewN ?_ _) | (with_reducible refine Below.setCell ?_ ?_ _) | (with_reducible refine below_step ?_ (by with_reducible assumption) ?_) | go_size))

set_option maxHeartbeats 1000000 in
theorem Weight_bad (k : Nat) (n : Int) (w : World) (hB : w.cell? ⟨k, 0, none⟩ = some (.int .i64 n)) (a b d : Int) (hf : ¬ Fit n a b d) :
    Calls Try.prog 29 #[.pointer (some ⟨k, 0, none⟩), .int .i64 a, .int .i64 b, .int .i64 d] w fun e w' => e = .returned (.tuple #[.int .i64 0, .int .i64 1]) ∧ Below w.heap.size w w' := by
  have cA := asked_bad k n a b d w hB hf
  have CA := Lib.hid cA
  clear cA hB
  go_enter Try.func29, Try.ntmps29
  go_wp2_with fail
  refine CA.out.mono ?_
  rintro e w1 ⟨rfl, hb⟩
  have z1 := hb.size
  go_wp2
  go_ret2
  refine ⟨rfl, ?_⟩
  (repeat' (first | (with_reducible exact Below.refl _ _) | (with_reducible assumption) | (with_reducible refine Below.alloc ?_ ?_ _) | (with_reducible refine Below.drew ?_) | (with_reducible refine below_drewN ?_ _) | (with_reducible refine Below.setCell ?_ ?_ _) | (with_reducible refine below_step ?_ (by with_reducible assumption) ?_) | go_size))

/-- A fraction in lowest terms. -/
def fracV (num den : Int) : Value := .agg #[.int .i64 (num / (Int.gcd num den)), .int .i64 (den / (Int.gcd num den))]

set_option maxHeartbeats 1000000 in
/-- Book.Rate. -/
theorem Rate_ok (F : Nat → Prop) (k : Nat) (n N : Int) (M : Days) (w : World) (hB : IsBook w F k n N M) (hR : Rise N M) (a b d : Int) (hf : Fit n a b d) :
    Calls Try.prog 21 #[.pointer (some ⟨k, 0, none⟩), .int .i64 a, .int .i64 b, .int .i64 d] w fun e w' => e = .returned (.tuple #[fracV ((win (M (min a b) (max a b)) (d - 32 + 1) d).length : Nat) 32, .int .i64 0]) ∧ Below w.heap.size w w' := by
  have cA := fun w hB => recent_ok F k n N M w hB hR a b d hf
  have hl := win_short hR (min a b) (max a b) (d - 32 + 1) d (by omega)
  generalize (win (M (min a b) (max a b)) (d - 32 + 1) d).length = m at cA hl ⊢
  have CA := Lib.hid cA
  have HB := Lib.hid hB
  clear cA hB
  go_enter Try.func21, Try.ntmps21
  go_wp2_with fail
  refine (CA.out _ (HB.out.below (by (repeat' (first | (with_reducible exact Below.refl _ _) | (with_reducible assumption) | (with_reducible refine Below.alloc ?_ ?_ _) | (with_reducible refine Below.drew ?_) | (with_reducible refine below_drewN ?_ _) | (with_reducible refine Below.setCell ?_ ?_ _) | (with_reducible refine below_step ?_ (by with_reducible assumption) ?_) | go_size))))).mono ?_
  rintro e w1 ⟨rfl, hb⟩
  have z1 := hb.size
  obtain ⟨c1, f1⟩ := bcell hb
  go_wp2_with fail
  refine (reduced_pos _ _ _ (by omega) (by omega) (by omega) (by omega)).mono ?_
  rintro e w2 ⟨rfl, hb2⟩
  have z2 := hb2.size
  obtain ⟨c2, f2⟩ := bcell hb2
  have z3 : w.heap.size < w1.heap.size := by simp at z1; omega
  rw [Int.tdiv_eq_ediv_of_nonneg (by omega)]
  go_wp2
  refine bodyPost_ret (v := .tuple #[fracV m 32, .int .i64 0]) (by simp [results, Try.results21, go_sem, c2, c1, z3, fracV]) rfl ⟨rfl, ?_⟩
  (repeat' (first | (with_reducible exact Below.refl _ _) | (with_reducible assumption) | (with_reducible refine Below.alloc ?_ ?_ _) | (with_reducible refine Below.drew ?_) | (with_reducible refine below_drewN ?_ _) | (with_reducible refine Below.setCell ?_ ?_ _) | (with_reducible refine below_step ?_ (by with_reducible assumption) ?_) | go_size))

set_option maxHeartbeats 1000000 in
theorem Rate_bad (k : Nat) (n : Int) (w : World) (hB : w.cell? ⟨k, 0, none⟩ = some (.int .i64 n)) (a b d : Int) (hf : ¬ Fit n a b d) :
    Calls Try.prog 21 #[.pointer (some ⟨k, 0, none⟩), .int .i64 a, .int .i64 b, .int .i64 d] w fun e w' => e = .returned (.tuple #[.agg #[.int .i64 0, .int .i64 0], .int .i64 1]) ∧ Below w.heap.size w w' := by
  have cA := fun w hB => recent_bad k n w hB a b d hf
  have CA := Lib.hid cA
  have klt := cell_lt hB
  have HB := Lib.hid hB
  clear cA hB
  go_enter Try.func21, Try.ntmps21
  go_wp2_with fail
  refine (CA.out _ ?_).mono ?_
  · rw [((Below.refl _ w).alloc (Nat.le_refl _) _).cell (p := ⟨k, 0, none⟩) klt]; exact HB.out
  rintro e w1 ⟨rfl, hb⟩
  have z1 := hb.size
  obtain ⟨c1, f1⟩ := bcell hb
  have z3 : w.heap.size < w1.heap.size := by simp at z1; omega
  go_wp2
  refine bodyPost_ret (v := .tuple #[.agg #[.int .i64 0, .int .i64 0], .int .i64 1]) (by simp [results, Try.results21, go_sem, c1]) rfl ⟨rfl, ?_⟩
  (repeat' (first | (with_reducible exact Below.refl _ _) | (with_reducible assumption) | (with_reducible refine Below.alloc ?_ ?_ _) | (with_reducible refine Below.drew ?_) | (with_reducible refine below_drewN ?_ _) | (with_reducible refine Below.setCell ?_ ?_ _) | (with_reducible refine below_step ?_ (by with_reducible assumption) ?_) | go_size))

end Go.Proofs.Ytednejckcdiebaa
