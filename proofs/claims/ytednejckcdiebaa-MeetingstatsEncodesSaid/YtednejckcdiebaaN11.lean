/- Decode, step by step (plain). -/
import Derived.Test.YtednejckcdiebaaN10
namespace Go.Proofs.Ytednejckcdiebaa
open Go.RowKit Go.Lib Go.ChangeMaps
set_option linter.unusedSimpArgs false

/-- The newest day is the greatest one, or -1. -/
def NMax (N : Int) (M : Days) : Prop := (∀ a b x, x ∈ M a b → x ≤ N) ∧ ((N = -1 ∧ ∀ a b, M a b = []) ∨ ∃ a b, N ∈ M a b)
theorem nmax_none : NMax (-1) (fun _ _ => []) := ⟨fun _ _ _ h => by simp at h, .inl ⟨rfl, fun _ _ => rfl⟩⟩
/-- One more day of a pair. -/
def addM (M : Days) (p q d : Int) : Days := fun a b => if a = p ∧ b = q then M p q ++ [d] else M a b
theorem nmax_add {N : Int} {M : Days} (h : NMax N M) (p q d : Int) (hd : 0 ≤ d) : NMax (max N d) (addM M p q d) := by
  obtain ⟨h1, h2⟩ := h
  refine ⟨fun a b x hx => ?_, ?_⟩
  · unfold addM at hx
    split at hx
    · rcases List.mem_append.1 hx with h | h
      · have := h1 p q x h; omega
      · rw [List.mem_singleton.1 h]; omega
    · have := h1 a b x hx; omega
  · by_cases hm : N ≤ d
    · refine .inr ⟨p, q, ?_⟩
      unfold addM
      rw [if_pos ⟨rfl, rfl⟩, show max N d = d by omega]
      simp
    · rcases h2 with ⟨h2, _⟩ | ⟨a, b, h2⟩
      · omega
      · refine .inr ⟨a, b, ?_⟩
        unfold addM
        rw [show max N d = N by omega]
        split
        · rename_i e; rw [← e.1, ← e.2]; exact List.mem_append_left _ h2
        · exact h2
theorem addM_set (M : Days) (p : Int × Int) (zs : List Int) (d : Int) : addM (setM M p zs) p.1 p.2 d = setM M p (zs ++ [d]) := by
  funext a b
  unfold addM setM
  by_cases h : a = p.1 ∧ b = p.2
  · simp [h]
  · simp [h]
theorem setM_nil (M : Days) (p : Int × Int) (h : M p.1 p.2 = []) : setM M p [] = M := by
  funext a b
  unfold setM
  by_cases e : a = p.1 ∧ b = p.2
  · rw [if_pos e, e.1, e.2, h]
  · rw [if_neg e]
theorem setM_at (M : Days) (p : Int × Int) (zs : List Int) : setM M p zs p.1 p.2 = zs := by unfold setM; rw [if_pos ⟨rfl, rfl⟩]

/-- What is left to do of a pair. -/
def contG (ps : List (Int × Int)) (M : Days) (p : Int × Int) (done : List Int) : Option (List Int × List Int) → Option (Days × List Int)
  | none => none
  | some (zs, r) => pairsG ps (setM M p (done ++ zs)) r
theorem pairsG_cont (ps : List (Int × Int)) (M : Days) (p : Int × Int) (bs : List Int) : pairsG (p :: ps) M bs = contG ps M p [] (pairG bs) := by
  rw [pairsG]
  cases pairG bs with
  | none => rfl
  | some x => rfl
theorem pairG_count {bs r : List Int} {cn : Nat} (h : numG 0 0 bs = some (cn, r)) : pairG bs = if min bs.length 1000000 < cn then none else daysG cn true 0 r := by
  unfold pairG
  rw [h]
theorem pairG_fail {bs : List Int} (h : numG 0 0 bs = none) : pairG bs = none := by unfold pairG; rw [h]
theorem contG_done (ps : List (Int × Int)) (M : Days) (p : Int × Int) (done : List Int) (first : Bool) (day : Int) (bs : List Int) : contG ps M p done (daysG 0 first day bs) = pairsG ps (setM M p done) bs := by simp [contG, daysG]
theorem contG_fail (ps : List (Int × Int)) (M : Days) (p : Int × Int) (done : List Int) (cn : Nat) (first : Bool) (day : Int) (bs : List Int) (h : numG 0 0 bs = none) : contG ps M p done (daysG (cn + 1) first day bs) = none := by
  rw [daysG, h]; rfl
theorem contG_bad (ps : List (Int × Int)) (M : Days) (p : Int × Int) (done : List Int) (cn : Nat) (first : Bool) (day : Int) (bs : List Int) {s : Nat} {r : List Int} (h : numG 0 0 bs = some (s, r)) (hb : 999999 < s ∨ (first = false ∧ s = 0) ∨ 999999 < day + s) : contG ps M p done (daysG (cn + 1) first day bs) = none := by
  rw [daysG, h]
  simp only
  rw [if_pos hb]
  rfl
theorem contG_step (ps : List (Int × Int)) (M : Days) (p : Int × Int) (done : List Int) (cn : Nat) (first : Bool) (day : Int) (bs : List Int) {s : Nat} {r : List Int} (h : numG 0 0 bs = some (s, r)) (hb : ¬ (999999 < s ∨ (first = false ∧ s = 0) ∨ 999999 < day + s)) :
    contG ps M p done (daysG (cn + 1) first day bs) = contG ps M p (done ++ [day + s]) (daysG cn false (day + s) r) := by
  rw [daysG, h]
  simp only
  rw [if_neg hb]
  cases daysG cn false (day + s) r with
  | none => rfl
  | some x => simp [contG]

end Go.Proofs.Ytednejckcdiebaa
