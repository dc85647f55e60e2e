/- Cheapest, plain: the reference's answer is the code's. -/
import Derived.Test.YtapjgjjmlbhanaaU1
import Derived.Test.YtapjgjjmlbhanaaM5
namespace Go.Proofs.Ytapjgjjmlbhanaa
open Go.RowKit Go.Lib
set_option linter.unusedSimpArgs false

/-- What devices cost, by the reference: the first n holdings. -/
def costRTo (hs : List Hd) (devs cs : List Int) : Nat → Int
  | 0 => 0
  | n + 1 => costRTo hs devs cs n + (if (hs.getD n default).dev ∈ devs then cs.getD n 0 else 0)
def costR (hs : List Hd) (devs cs : List Int) : Int := costRTo hs devs cs hs.length
theorem costRTo_bd {hs : List Hd} {cs : List Int} (h : CsOk cs) (devs : List Int) : ∀ n, 0 ≤ costRTo hs devs cs n ∧ costRTo hs devs cs n ≤ n * 1099511627776
  | 0 => by unfold costRTo; omega
  | n + 1 => by
    have ih := costRTo_bd (hs := hs) h devs n
    have hc := h.at n
    unfold costRTo
    split <;> omega
theorem costRTo_sum (hs : List Hd) (devs cs : List Int) : ∀ n, costRTo hs devs cs n = ((List.range n).map fun i => if (hs.getD i default).dev ∈ devs then cs.getD i 0 else 0).sum
  | 0 => rfl
  | n + 1 => by
    rw [List.range_succ, List.map_append, List.sum_append_int, ← costRTo_sum hs devs cs n]
    simp [costRTo]
theorem costTo_sum (pl : List Nat) (cs : List Int) (set : Nat) : ∀ n, n ≤ pl.length → costTo pl cs set n = ((List.range n).map fun j => if set / 2 ^ j % 2 = 1 then cs.getD (pl.getD j 0) 0 else 0).sum
  | 0, _ => rfl
  | n + 1, h => by
    rw [List.range_succ, List.map_append, List.sum_append_int, ← costTo_sum pl cs set n (by omega)]
    simp [costTo]

theorem permSum {l m : List Int} (h : l.Perm m) : l.sum = m.sum := by
  induction h with
  | nil => rfl
  | cons x _ ih => rw [List.sum_cons, List.sum_cons, ih]
  | swap x y l => rw [List.sum_cons, List.sum_cons, List.sum_cons, List.sum_cons]; omega
  | trans _ _ i j => rw [i, j]

section
variable {g : Gl} {hs L : List Hd} {pl : List Nat} {cs : List Int}
theorem dev_bit {L : List Hd} (hsd : (L.map Hd.dev).Pairwise (· < ·)) (set : Nat) {j : Nat} (hj : j < L.length) : (L.getD j default).dev ∈ devL L set ↔ set / 2 ^ j % 2 = 1 := by
  unfold devL
  rw [devTo_mem, bit_test]
  constructor
  · rintro ⟨i, h1, h2, h3⟩
    rw [← dev_inj hsd h1 hj h3]
    exact h2
  · intro h
    exact ⟨j, hj, h, rfl⟩
theorem costR_eq (hperm : pl.Perm (List.range hs.length)) (hL : L = pl.map fun i => hs.getD i default) (hsd : (L.map Hd.dev).Pairwise (· < ·)) (set : Nat) : costR hs (devL L set) cs = costS pl cs set := by
  unfold costR costS
  rw [costRTo_sum, costTo_sum _ _ _ _ (Nat.le_refl _)]
  have hlen : L.length = pl.length := by rw [hL, List.length_map]
  have e : ((List.range pl.length).map fun j => if set / 2 ^ j % 2 = 1 then cs.getD (pl.getD j 0) 0 else 0) = pl.map fun i => if (hs.getD i default).dev ∈ devL L set then cs.getD i 0 else 0 := by
    refine List.ext_getElem (by simp) fun j h1 h2 => ?_
    have hj : j < pl.length := by simpa using h2
    rw [List.getElem_map, List.getElem_map, List.getElem_range, getD_at pl _ _ hj]
    have hb := dev_bit hsd set (j := j) (by omega)
    have hg : L.getD j default = hs.getD pl[j] default := by
      rw [getD_at _ _ _ (by omega)]
      simp only [hL, List.getElem_map]
    rw [hg] at hb
    by_cases hq : set / 2 ^ j % 2 = 1
    · rw [if_pos hq, if_pos (hb.2 hq)]
    · rw [if_neg hq, if_neg (fun h => hq (hb.1 h))]
  rw [e]
  exact (permSum (hperm.map _)).symm

/-- A step of the reference. -/
def stepC (g : Gl) (hs : List Hd) (cs : List Int) (t : List Int × Bool) (xs : List Int) : List Int × Bool :=
  if (t.2 = false ∨ costR hs xs cs < costR hs t.1 cs) ∧ sumR g hs xs = 0 then (xs, true) else t
def chTo (g : Gl) (hs : List Hd) (cs : List Int) (A : List (List Int)) (n : Nat) : List Int × Bool := (A.take n).foldl (stepC g hs cs) (devsOf hs, false)
def chR (g : Gl) (hs : List Hd) (cs : List Int) : List Int := (chTo g hs cs (allL (devsOf hs)) (allL (devsOf hs)).length).1
theorem chTo_succ (g : Gl) (hs : List Hd) (cs : List Int) (A : List (List Int)) (n : Nat) (h : n < A.length) : chTo g hs cs A (n + 1) = stepC g hs cs (chTo g hs cs A n) (A.getD n []) := by
  unfold chTo
  rw [List.take_succ_eq_append_getElem h, List.foldl_append, getD_at _ _ _ h]
  rfl

section
variable (hok : Ok g hs) (hp : L.Perm hs) (hperm : pl.Perm (List.range hs.length)) (hL : L = pl.map fun i => hs.getD i default) (hsd : (L.map Hd.dev).Pairwise (· < ·))
include hok hp hperm hL hsd
theorem fold_true : ∀ (X : List Nat), (∀ a ∈ X, a < 2 ^ L.length) → ∀ c, (X.map (devL L)).foldl (stepC g hs cs) (devL L c, true) = (devL L ((X.filter (sufB g L)).foldl (minS pl cs) c), true)
  | [], _, c => rfl
  | a :: X, hX, c => by
    have ha := hX a (by simp)
    have ih := fold_true X (fun x hx => hX x (by simp [hx]))
    rw [List.map_cons, List.foldl_cons]
    have e1 : sumR g hs (devL L a) = 0 ↔ sufB g L a = true := by
      rw [sumR_devL hok hp hsd ha]; unfold sufB; rw [decide_eq_true_eq]
    have hst : stepC g hs cs (devL L c, true) (devL L a) = if sufB g L a = true then (devL L (minS pl cs c a), true) else (devL L c, true) := by
      unfold stepC minS
      simp only [costR_eq hperm hL hsd]
      by_cases hq : sufB g L a = true
      · rw [if_pos hq]
        by_cases hc : costS pl cs a < costS pl cs c
        · rw [if_pos ⟨.inr hc, e1.2 hq⟩, if_pos hc]
        · rw [if_neg (by rintro ⟨h | h, _⟩; simp at h; exact hc h), if_neg hc]
      · rw [if_neg hq, if_neg (fun h => hq (e1.1 h.2))]
    rw [hst, List.filter_cons]
    split
    · rw [List.foldl_cons]
      exact ih _
    · exact ih _
theorem fold_false (b : List Int) : ∀ (X : List Nat), (∀ a ∈ X, a < 2 ^ L.length) → ∀ a r, X.filter (sufB g L) = a :: r → (X.map (devL L)).foldl (stepC g hs cs) (b, false) = (devL L (r.foldl (minS pl cs) a), true)
  | [], _, a, r, h => by simp at h
  | x :: X, hX, a, r, h => by
    have hx := hX x (by simp)
    have e1 : sumR g hs (devL L x) = 0 ↔ sufB g L x = true := by
      rw [sumR_devL hok hp hsd hx]; unfold sufB; rw [decide_eq_true_eq]
    rw [List.map_cons, List.foldl_cons]
    rw [List.filter_cons] at h
    by_cases hq : sufB g L x = true
    · rw [if_pos hq] at h
      injection h with h1 h2
      subst h1
      rw [show stepC g hs cs (b, false) (devL L x) = (devL L x, true) from if_pos ⟨.inl rfl, e1.2 hq⟩]
      rw [fold_true hok hp hperm hL hsd X (fun y hy => hX y (by simp [hy])) x, h2]
    · rw [if_neg hq] at h
      rw [show stepC g hs cs (b, false) (devL L x) = (b, false) from if_neg (fun h => hq (e1.1 h.2))]
      exact fold_false b X (fun y hy => hX y (by simp [hy])) a r h
theorem chR_eq (h6 : L.length ≤ 6) (hne : suffL g L ≠ []) : chR g hs cs = devL L (chL pl cs (suffL g L)) := by
  unfold chR chTo
  rw [List.take_length, devsOf_eq hok.2.2.2 hp hsd, allL_eq L h6]
  have hall : ∀ a ∈ allB L.length, a < 2 ^ L.length := fun a ha => List.mem_range.1 ((allB_perm h6).mem_iff.1 ha)
  cases hq : suffL g L with
  | nil => exact absurd hq hne
  | cons a r =>
    rw [suffL_all h6] at hq
    rw [fold_false hok hp hperm hL hsd _ _ hall a r hq]
    rfl
end
end

end Go.Proofs.Ytapjgjjmlbhanaa
