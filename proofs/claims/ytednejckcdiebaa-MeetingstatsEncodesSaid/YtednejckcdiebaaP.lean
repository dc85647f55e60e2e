/- Meetings as plain lists: what the reference makes of them, and that a book agrees. -/
import Derived.Test.YtednejckcdiebaaE
namespace Go.Proofs.Ytednejckcdiebaa
open Go.RowKit Go.Lib

structure Mt where
  a : Int
  b : Int
  d : Int

def hits (x : Mt) (a b : Int) : Bool := (x.a == a && x.b == b) || (x.a == b && x.b == a)
def addDay (out : List Int) (d : Int) : List Int := if out.getLast? = some d then out else out ++ [d]
def dayStep (a b : Int) (out : List Int) (x : Mt) : List Int := if hits x a b then addDay out x.d else out
/-- The days of a pair, as the reference has them. -/
def refDays (done : List Mt) (a b : Int) : List Int := done.foldl (dayStep a b) []

def newest (done : List Mt) : Int := (done.getLast?.map (·.d)).getD 0

/-- The meetings that are taken. -/
noncomputable def took (n : Int) (done : List Mt) (x : Mt) : List Mt := open Classical in if Fit n x.a x.b x.d ∧ newest done ≤ x.d then done ++ [x] else done
noncomputable def played (n : Int) (xs : List Mt) : List Mt := xs.foldl (took n) []

theorem refDays_snoc (done : List Mt) (x : Mt) (a b : Int) : refDays (done ++ [x]) a b = dayStep a b (refDays done a b) x := by
  unfold refDays; rw [List.foldl_append]; rfl

theorem played_snoc (n : Int) (xs : List Mt) (x : Mt) : played n (xs ++ [x]) = took n (played n xs) x := by
  unfold played; rw [List.foldl_append]; rfl

theorem hits_comm (x : Mt) (a b : Int) : hits x a b = hits x b a := by unfold hits; rw [Bool.or_comm]

theorem refDays_comm (done : List Mt) (a b : Int) : refDays done a b = refDays done b a := by
  unfold refDays
  have : dayStep a b = dayStep b a := by funext o x; unfold dayStep; rw [hits_comm]
  rw [this]

/-- A book says of the meetings that were taken what the reference says. -/
structure Track (n : Int) (done : List Mt) (N : Int) (M : Days) : Prop where
  days : ∀ p q, p ≤ q → M p q = refDays done p q
  rise : Rise N M
  fit : ∀ x ∈ done, Fit n x.a x.b x.d
  new : (N = -1 ∧ done = []) ∨ (done ≠ [] ∧ N = newest done ∧ 0 ≤ N)

theorem track_nil (n : Int) : Track n [] (-1) (fun _ _ => []) := ⟨fun _ _ _ => rfl, ⟨by simp, by simp, by simp, by omega⟩, by simp, Or.inl ⟨rfl, rfl⟩⟩

theorem last_of_rising : ∀ (l : List Int) (d : Int), l.Pairwise (· < ·) → (∀ x ∈ l, x ≤ d) → (d ∈ l ↔ l.getLast? = some d)
  | [], d, _, _ => by simp
  | [x], d, _, _ => by simp [eq_comm]
  | x :: y :: r, d, hp, hm => by
    obtain ⟨h1, h2⟩ := List.pairwise_cons.1 hp
    have ih := last_of_rising (y :: r) d h2 (fun z hz => hm z (by simp [hz]))
    rw [List.getLast?_cons_cons, ← ih, List.mem_cons]
    constructor
    · rintro (e | h)
      · subst e
        have := h1 y (by simp)
        have := hm y (by simp)
        omega
      · exact h
    · exact Or.inr

theorem hits_iff {x : Mt} {p q : Int} (_hne : x.a ≠ x.b) (hpq : p ≤ q) : hits x p q = true ↔ p = min x.a x.b ∧ q = max x.a x.b := by
  unfold hits
  simp
  omega

theorem track_step {n : Int} {done : List Mt} {N : Int} {M : Days} (h : Track n done N M) (x : Mt) (hf : Fit n x.a x.b x.d) (hd : N ≤ x.d) :
    Track n (done ++ [x]) x.d (meet M (min x.a x.b) (max x.a x.b) x.d) := by
  have hf' := hf
  obtain ⟨f1, f2, f3, f4, f5, f6, f7⟩ := hf
  refine ⟨fun p q hpq => ?_, rise_meet h.rise _ _ _ hd f6 f7, fun y hy => ?_, Or.inr ⟨by simp, by simp [newest], f6⟩⟩
  · rw [refDays_snoc]
    unfold dayStep
    have hmm : min x.a x.b ≤ max x.a x.b := by omega
    by_cases hh : p = min x.a x.b ∧ q = max x.a x.b
    · have h1 := (hits_iff f5 hpq).2 hh
      rw [h1]
      unfold meet
      rw [if_pos hh, if_pos rfl]
      obtain ⟨rfl, rfl⟩ := hh
      rw [← h.days _ _ hmm]
      have hl := last_of_rising (M (min x.a x.b) (max x.a x.b)) x.d (h.rise.sorted _ _) (fun y hy => by have := h.rise.high _ _ y hy; omega)
      unfold addDay
      by_cases hm : x.d ∈ M (min x.a x.b) (max x.a x.b)
      · rw [if_pos hm, if_pos (hl.1 hm)]
      · rw [if_neg hm, if_neg (fun e => hm (hl.2 e))]
    · have h1 : hits x p q = false := by
        cases hq : hits x p q with
        | false => rfl
        | true => exact absurd ((hits_iff f5 hpq).1 hq) hh
      rw [h1]
      unfold meet
      rw [if_neg hh]
      exact h.days p q hpq
  · rcases List.mem_append.1 hy with hy | hy
    · exact h.fit y hy
    · simp at hy; subst hy; exact hf'

/-- Before the newest day: for the book as for the reference. -/
theorem track_early {n : Int} {done : List Mt} {N : Int} {M : Days} (h : Track n done N M) (d : Int) (h0 : 0 ≤ d) : d < N ↔ d < newest done := by
  rcases h.new with ⟨rfl, rfl⟩ | ⟨_, rfl, _⟩
  · simp [newest]; omega
  · rfl

theorem newest_nonneg {n : Int} {done : List Mt} {N : Int} {M : Days} (h : Track n done N M) : 0 ≤ newest done ∧ newest done ≤ 999999 := by
  rcases h.new with ⟨rfl, rfl⟩ | ⟨_, e, h0⟩
  · simp [newest]
  · rw [← e]; exact ⟨h0, h.rise.most⟩

theorem track_at {n : Int} {done : List Mt} {N : Int} {M : Days} (h : Track n done N M) (a b : Int) : M (min a b) (max a b) = refDays done a b := by
  rw [h.days _ _ (by omega)]
  rcases Int.le_total a b with e | e
  · rw [Int.min_eq_left e, Int.max_eq_right e]
  · rw [Int.min_eq_right e, Int.max_eq_left e, refDays_comm]

/-- No days of what is no pair. -/
theorem refDays_none {n : Int} {done : List Mt} (h : ∀ x ∈ done, Fit n x.a x.b x.d) (a b : Int) (hp : ¬ (0 ≤ a ∧ a < n ∧ 0 ≤ b ∧ b < n ∧ a ≠ b)) : refDays done a b = [] := by
  unfold refDays
  have : ∀ (l : List Mt), (∀ x ∈ l, Fit n x.a x.b x.d) → ∀ o, l.foldl (dayStep a b) o = o := by
    intro l
    induction l with
    | nil => intro _ o; rfl
    | cons x r ih =>
      intro hl o
      obtain ⟨f1, f2, f3, f4, f5, f6, f7⟩ := hl x (by simp)
      have hh : hits x a b = false := by
        unfold hits
        rw [Bool.or_eq_false_iff]
        constructor <;> (rw [Bool.and_eq_false_iff]; simp; omega)
      rw [List.foldl_cons]
      unfold dayStep at ih ⊢
      rw [hh]
      exact ih (fun y hy => hl y (by simp [hy])) o
  exact this done h []

theorem took_length (n : Int) (done : List Mt) (x : Mt) : (took n done x).length ≤ done.length + 1 := by
  unfold took; split <;> simp

theorem played_length (n : Int) (xs : List Mt) : (played n xs).length ≤ xs.length := by
  unfold played
  have : ∀ (l : List Mt) (o : List Mt), (l.foldl (took n) o).length ≤ o.length + l.length := by
    intro l
    induction l with
    | nil => intro o; simp
    | cons x r ih => intro o; have h1 := ih (took n o x); have h2 := took_length n o x; simp at h1 ⊢; omega
  have := this xs []
  simpa using this

end Go.Proofs.Ytednejckcdiebaa
