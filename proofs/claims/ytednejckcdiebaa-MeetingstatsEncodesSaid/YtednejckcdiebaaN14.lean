/- Books and their encodings, plainly: what Encode and Decode say of a book that follows the list. -/
import Derived.Test.YtednejckcdiebaaN5
import Derived.Test.YtednejckcdiebaaN11
namespace Go.Proofs.Ytednejckcdiebaa
open Go.RowKit Go.Lib
set_option linter.unusedSimpArgs false

theorem encB_congr {n : Nat} {M K : Days} (h : ∀ p ∈ pairL n, M p.1 p.2 = K p.1 p.2) : encB n M = encB n K := by
  unfold encB encPairs
  have : ∀ ps : List (Int × Int), (∀ p ∈ ps, M p.1 p.2 = K p.1 p.2) → (ps.flatMap fun p => encPair (M p.1 p.2)) = ps.flatMap fun p => encPair (K p.1 p.2) := by
    intro ps
    induction ps with
    | nil => intro _; rfl
    | cons p r ih => intro h; rw [List.flatMap_cons, List.flatMap_cons, h p (by simp), ih (fun q hq => h q (by simp [hq]))]
  rw [this _ h]

/-- The days of the pairs alone. -/
def only (n : Nat) (M : Days) : Days := fun a b => if (a, b) ∈ pairL n then M a b else []
theorem only_in {n : Nat} {M : Days} {a b : Int} (h : (a, b) ∈ pairL n) : only n M a b = M a b := if_pos h
theorem only_out {n : Nat} {M : Days} {a b : Int} (h : (a, b) ∉ pairL n) : only n M a b = [] := if_neg h
theorem only_mem {n : Nat} {M : Days} {a b x : Int} (h : x ∈ only n M a b) : x ∈ M a b ∧ (a, b) ∈ pairL n := by
  by_cases hm : (a, b) ∈ pairL n
  · rw [only_in hm] at h; exact ⟨h, hm⟩
  · rw [only_out hm] at h; cases h
theorem only_rise {n : Nat} {N : Int} {M : Days} (h : Rise N M) : Rise N (only n M) := by
  refine ⟨fun a b => ?_, fun a b x hx => h.low a b x (only_mem hx).1, fun a b x hx => h.high a b x (only_mem hx).1, h.most⟩
  by_cases hm : (a, b) ∈ pairL n
  · rw [only_in hm]; exact h.sorted a b
  · rw [only_out hm]; exact List.Pairwise.nil
theorem rise_dok {N : Int} {M : Days} (h : Rise N M) : ∀ a b, DOk true 0 (M a b) := fun a b =>
  dok_of _ _ _ (h.sorted a b) fun x hx => ⟨h.low a b x hx, (fun e => by cases e), Int.le_trans (h.high a b x hx) h.most⟩
theorem encB_only (n : Nat) (M : Days) : encB n (only n M) = encB n M := encB_congr fun _ hp => only_in hp
theorem encB_ref {n : Nat} {done : List Mt} {N : Int} {M : Days} (hT : Track (n : Int) done N M) : encB n (refDays done) = encB n M :=
  encB_congr fun p hp => (hT.days _ _ (by have := (mem_pairL.1 hp).2.1; omega)).symm
theorem ref_dok {n : Int} {done : List Mt} {N : Int} {M : Days} (hT : Track n done N M) : ∀ a b, DOk true 0 (refDays done a b) := fun a b => by
  rw [← track_at hT a b]; exact rise_dok hT.rise _ _
theorem only_len {n : Nat} {done : List Mt} {N : Int} {M : Days} (hT : Track (n : Int) done N M) (a b : Int) : (only n M a b).length ≤ done.length := by
  by_cases hm : (a, b) ∈ pairL n
  · rw [only_in hm, hT.days _ _ (by have := (mem_pairL.1 hm).2.1; simp only at this; omega)]
    exact refDays_length done a b
  · rw [only_out hm]; exact Nat.zero_le _
theorem encB_len {n : Nat} {done : List Mt} {N : Int} {M : Days} (hT : Track (n : Int) done N M) (hn : n ≤ 12) (hl : done.length ≤ 60) : (encB n M).length ≤ 100000 := by
  rw [← encB_only]
  exact encB_le hn (rise_dok (only_rise hT.rise)) (fun a b => Nat.le_trans (only_len hT a b) hl) (by omega)
theorem encB_byt (n : Nat) (M : Days) : Byt (encB n M) := by
  have hd : ∀ (zs : List Int) (l : Int), Byt (encDays l zs) := by
    intro zs
    induction zs with
    | nil => intro l b hb; simp [encDays] at hb
    | cons d r ih =>
      intro l b hb
      simp only [encDays, List.mem_append] at hb
      rcases hb with hb | hb
      · exact encN_byt _ b hb
      · exact ih d b hb
  intro b hb
  unfold encB encPairs at hb
  rcases List.mem_append.1 hb with hb | hb
  · exact encN_byt _ b hb
  · obtain ⟨p, _, hb⟩ := List.mem_flatMap.1 hb
    unfold encPair at hb
    rcases List.mem_append.1 hb with hb | hb
    · exact encN_byt _ b hb
    · exact hd _ _ b hb
theorem dec_only {n : Nat} {N : Int} {M : Days} (hR : Rise N M) (h2 : 2 ≤ n) (h12 : n ≤ 12) : decG (encB n M) = some (n, only n M) := by
  rw [← encB_only]
  exact decG_enc h2 h12 (rise_dok (only_rise hR)) fun a b h => only_out h

theorem newest_in (n : Int) (done : List Mt) (h : ∀ x ∈ done, Fit n x.a x.b x.d) (hne : done ≠ []) : ∃ a b, newest done ∈ refDays done a b ∧ 0 ≤ a ∧ a < b ∧ b < n := by
  obtain ⟨x, hx⟩ : ∃ x, done.getLast? = some x := by
    cases e : done.getLast? with
    | none => exact absurd (List.getLast?_eq_none_iff.1 e) hne
    | some x => exact ⟨x, rfl⟩
  obtain ⟨f1, f2, f3, f4, f5, f6, f7⟩ := h x (List.mem_of_getLast? hx)
  obtain ⟨ys, rfl⟩ := List.getLast?_eq_some_iff.1 hx
  refine ⟨min x.a x.b, max x.a x.b, ?_, by omega, by omega, by omega⟩
  have e : newest (ys ++ [x]) = x.d := by unfold newest; rw [hx]; rfl
  rw [e, refDays_snoc]
  unfold dayStep
  rw [if_pos ((hits_iff f5 (by omega)).2 ⟨rfl, rfl⟩)]
  unfold addDay
  split
  · rename_i hh; exact List.mem_of_getLast? hh
  · simp

theorem same_newest {n : Nat} {done : List Mt} {N N' : Int} {M : Days} (hT : Track (n : Int) done N M) (h : NMax N' (only n M)) : N' = N := by
  rcases hT.new with ⟨rfl, rfl⟩ | ⟨hne, e, h0⟩
  · rcases h.2 with ⟨h, _⟩ | ⟨a, b, h⟩
    · exact h
    · obtain ⟨h1, h2⟩ := only_mem h
      rw [hT.days _ _ (by have := (mem_pairL.1 h2).2.1; simp only at this; omega)] at h1
      simp [refDays] at h1
  · obtain ⟨a, b, hm, g1, g2, g3⟩ := newest_in _ done hT.fit hne
    have hp : (a, b) ∈ pairL n := mem_pairL.2 ⟨g1, g2, g3⟩
    have hm2 : N ∈ only n M a b := by rw [only_in hp, hT.days _ _ (by omega), e]; exact hm
    have h1 := h.1 a b N hm2
    rcases h.2 with ⟨_, h⟩ | ⟨x, y, h⟩
    · rw [h] at hm2; cases hm2
    · have := hT.rise.high x y N' (only_mem h).1
      omega

/-- One more meeting: the two books still answer alike. -/
theorem encB_meet {n : Nat} {M : Days} {p q : Int} (d : Int) (h : (p, q) ∈ pairL n) : encB n (meet M p q d) = encB n (meet (only n M) p q d) := by
  refine encB_congr fun x hx => ?_
  unfold meet
  rw [only_in h, only_in hx]
theorem meet_len {n : Nat} {done : List Mt} {N : Int} {M : Days} (hT : Track (n : Int) done N M) (hn : n ≤ 12) (hl : done.length ≤ 60) (p q d : Int) (hR : Rise d (meet (only n M) p q d)) : (encB n (meet (only n M) p q d)).length ≤ 100000 := by
  refine encB_le hn (rise_dok hR) (m := 61) (fun a b => ?_) (by omega)
  unfold meet
  have h1 := only_len hT p q
  have h2 := only_len hT a b
  split
  · split
    · omega
    · simp; omega
  · omega

end Go.Proofs.Ytednejckcdiebaa
