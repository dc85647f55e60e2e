/- Greedy. -/
import Derived.Test.YtapjgjjmlbhanaaH4
namespace Go.Proofs.Ytapjgjjmlbhanaa
open Go.RowKit Go.Lib

/-- Another row appended. -/
theorem OwnI.appendI {V : World} {base b2 : Nat} {v u : Value} {ds es : List Int} (h : OwnI V base v ds) (hu : OwnI V b2 u es) (hne : es ≠ []) (hn : ds.length ≤ 1000000000) (hm : es.length ≤ 1000000000) (hbase : base ≤ V.heap.size) :
    ∃ v' w', (Builtin.append_ #[24, 24] 24 #[v, u]).run Try.prog V = .ok v' w' ∧ OwnI w' base v' (ds ++ es) ∧ Below base V w' ∧ (∀ b, b < V.heap.size → v.ownBlock ≠ some b → w'.heap[b]? = V.heap[b]?) := by
  obtain ⟨i0, hi, hz0, hz1, hz2⟩ := info_parts (P := Try.prog) (t := 3) (z := .int .i64 0) (s := 1) (b := 8) (by kernel_rfl)
  obtain ⟨xs, hown, hxs⟩ := h
  obtain ⟨ys, hown2, hys⟩ := hu
  have h0 := hown2
  obtain ⟨hl2, h2⟩ := h0
  rcases h2 with ⟨_, e0⟩ | ⟨g, cap, cur, rfl, _⟩
  · rw [e0, Nat.zero_mul] at hl2
    exact absurd (List.length_eq_zero_iff.1 e0) hne
  · obtain ⟨v', w', r, o1, o2, _, o4⟩ := run_append_own_at (P := Try.prog) V base 24 24 3 i0 (.int .i64 0) 1 8 Try.underlying24 hi hz0 hz1 hz2 rfl (by omega) v _ _ hown ⟨g, 0, none⟩ es.length cap ys hl2 (by
      intro j x hj
      have hadd : (⟨g, 0, none⟩ : Addr).add j = ⟨g, j, none⟩ := by unfold Addr.add; split <;> simp_all
      have hlt := (List.getElem?_eq_some_iff.1 hj).1
      rw [hadd, hown2.cellAt j (by omega), hj]) (by
      intro x hx
      obtain ⟨j, hj, rfl⟩ := List.getElem_of_mem hx
      have := hys j 0 (by omega) (by omega)
      simp only [Nat.mul_one, Nat.add_zero] at this
      rw [List.getElem?_eq_getElem hj] at this
      rw [Option.some.inj this]
      rfl) (by unfold maxLen; omega) (by omega) hbase
    refine ⟨v', w', r, ⟨xs ++ ys, by rw [List.length_append]; exact o1, fun i j hi' hj => ?_⟩, ⟨o2.os, o2.tape, o2.output, o2.size, fun i hi => o2.block i (by omega) (fun e => by have := (hown.lt i e.symm).1; omega)⟩, fun b hb hn' => o2.block b hb (fun e => hn' e.symm)⟩
    have hlen := hown.1
    rw [List.length_append] at hi'
    obtain rfl : j = 0 := by omega
    by_cases hin : i < ds.length
    · rw [List.getElem?_append_left (by omega), hxs i 0 hin hj]
      dsimp only
      rw [getD_at _ _ _ hin, getD_at _ _ _ (by rw [List.length_append]; omega), List.getElem_append_left hin]
    · rw [List.getElem?_append_right (by omega), show i * 1 + 0 - xs.length = (i - ds.length) * 1 + 0 by omega, hys (i - ds.length) 0 (by omega) hj]
      dsimp only
      rw [getD_at _ _ _ (show i - ds.length < es.length by omega), getD_at _ _ _ (by rw [List.length_append]; omega), List.getElem_append_right (by omega)]

/-- The gain-wise best of the first holdings that are not in the set: its bit, and what then lacks. -/
def pickG (g : Gl) (L : List Hd) (set : Nat) : Nat → Nat × Int
  | 0 => (0, 0)
  | i + 1 => if set / 2 ^ i % 2 = 1 then pickG g L set i else if (pickG g L set i).1 = 0 ∨ sumL g L (set ||| 2 ^ i) < (pickG g L set i).2 then (2 ^ i, sumL g L (set ||| 2 ^ i)) else pickG g L set i
def grd (g : Gl) (L : List Hd) : Nat → Nat → List Int
  | 0, _ => []
  | f + 1, set => if sufB g L set = true then [] else devL L (pickG g L set L.length).1 ++ grd g L f (set ||| (pickG g L set L.length).1)
def greedyL (g : Gl) (L : List Hd) : List Int := grd g L L.length 0
/-- How many of the first n holdings are not in the set. -/
def unset (set n : Nat) : Nat := (List.range n).countP fun i => !set.testBit i

theorem unset_zero {set n : Nat} (h : unset set n = 0) (hs : set < 2 ^ n) : set = 2 ^ n - 1 := by
  unfold unset at h
  rw [List.countP_eq_zero] at h
  refine Nat.eq_of_testBit_eq fun i => ?_
  rw [Nat.testBit_two_pow_sub_one]
  by_cases hi : i < n
  · have := h i (List.mem_range.2 hi)
    simp at this
    simp [this, hi]
  · rw [Nat.testBit_lt_two_pow (Nat.lt_of_lt_of_le hs (Nat.pow_le_pow_right (by omega) (by omega)))]
    simp [hi]
theorem unset_or {set n i : Nat} (hi : i < n) (hb : set.testBit i = false) : unset (set ||| 2 ^ i) n + 1 = unset set n := by
  unfold unset
  obtain ⟨s, t, e⟩ := List.append_of_mem (List.mem_range.2 hi)
  have hnd : (s ++ i :: t).Nodup := e ▸ List.nodup_range
  have hne : ∀ r : List Nat, i ∉ r → r.countP (fun j => !(set ||| 2 ^ i).testBit j) = r.countP fun j => !set.testBit j := fun r hr => List.countP_congr fun j hj => by
    have : i ≠ j := fun x => hr (x ▸ hj)
    simp [Nat.testBit_or, this]
  rw [List.nodup_append] at hnd
  have h1 : i ∉ s := fun h => hnd.2.2 i h i (by simp) rfl
  have h2 : i ∉ t := (List.nodup_cons.1 hnd.2.1).1
  rw [e, List.countP_append, List.countP_append, List.countP_cons, List.countP_cons, hne s h1, hne t h2]
  simp [Nat.testBit_or, hb]
  omega
theorem bit_test (set i : Nat) : (set / 2 ^ i % 2 = 1) ↔ set.testBit i = true := by
  rw [Nat.testBit_eq_decide_div_mod_eq]; simp
theorem pickG_spec (g : Gl) (L : List Hd) (set : Nat) : ∀ n, ((pickG g L set n).1 = 0 ∧ unset set n = 0) ∨ ∃ i, i < n ∧ (pickG g L set n).1 = 2 ^ i ∧ set.testBit i = false
  | 0 => .inl ⟨rfl, rfl⟩
  | n + 1 => by
    have ih := pickG_spec g L set n
    have hu : unset set (n + 1) = unset set n + if set.testBit n = true then 0 else 1 := by
      unfold unset
      rw [List.range_succ, List.countP_append, List.countP_cons, List.countP_nil]
      cases set.testBit n <;> simp
    unfold pickG
    by_cases hb : set / 2 ^ n % 2 = 1
    · rw [if_pos hb]
      rw [if_pos ((bit_test set n).1 hb)] at hu
      rcases ih with ⟨h1, h2⟩ | ⟨i, h1, h2, h3⟩
      · exact .inl ⟨h1, by omega⟩
      · exact .inr ⟨i, by omega, h2, h3⟩
    · rw [if_neg hb]
      have hb' : set.testBit n = false := by
        cases h : set.testBit n with
        | false => rfl
        | true => exact absurd ((bit_test set n).2 h) hb
      split
      · exact .inr ⟨n, by omega, rfl, hb'⟩
      · rename_i hc
        rcases ih with ⟨h1, h2⟩ | ⟨i, h1, h2, h3⟩
        · exact absurd (.inl h1) hc
        · exact .inr ⟨i, by omega, h2, h3⟩
theorem or12 (a j : Nat) (ha : a < 4096) (hj : j < 12) : bits .or .i64 (a : Int) (2 ^ j) = ((a ||| 2 ^ j : Nat) : Int) := by
  have e : ((2 : Int) ^ j) = ((2 ^ j : Nat) : Int) := by simp
  rw [e]
  have h1 : 2 ^ j < 2 ^ 63 := Nat.pow_lt_pow_right (by omega) (by omega)
  exact (bits_nat .i64 63 (by decide) wraps_i64 a (2 ^ j) (by omega) h1).2
theorem orN12 (a b : Nat) (ha : a < 4096) (hb : b < 4096) : bits .or .i64 (a : Int) (b : Int) = ((a ||| b : Nat) : Int) :=
  (bits_nat .i64 63 (by decide) wraps_i64 a b (by omega) (by omega)).2
theorem devL_bit {L : List Hd} {i : Nat} (hi : i < L.length) : devL L (2 ^ i) ≠ [] := by
  have : ∀ n, i < n → devTo L (2 ^ i) n ≠ [] := by
    intro n
    induction n with
    | zero => intro h; omega
    | succ n ih =>
      intro h
      unfold devTo
      by_cases e : i = n
      · subst e
        rw [if_pos (by rw [bit_test, Nat.testBit_two_pow]; simp)]
        simp
      · have := ih (by omega)
        simp [this]
  exact this _ hi

end Go.Proofs.Ytapjgjjmlbhanaa
