/- One more meeting, whatever it is; two books side by side. -/
import Derived.Test.YtednejckcdiebaaN14
import Derived.Test.YtednejckcdiebaaR6
namespace Go.Proofs.Ytednejckcdiebaa
open Go.RowKit Go.Lib
set_option linter.unusedSimpArgs false

noncomputable def mres (n N A B D : Int) : Int := open Classical in if Fit n A B D then (if D < N then 6 else 0) else 1
noncomputable def mnew (n N A B D : Int) : Int := open Classical in if Fit n A B D ∧ N ≤ D then D else N
noncomputable def mday (n N A B D : Int) (M : Days) : Days := open Classical in if Fit n A B D ∧ N ≤ D then meet M (min A B) (max A B) D else M

theorem meet_any (F : Nat → Prop) (k : Nat) (n N : Int) (M : Days) (A B D : Int) (w : World) (hB : IsBook w F k n N M) (hR : Rise N M) :
    Calls Try.prog 28 #[.pointer (some ⟨k, 0, none⟩), .int .i64 A, .int .i64 B, .int .i64 D] w fun e w' => e = .returned (.int .i64 (mres n N A B D)) ∧ ∃ F', IsBook w' F' k n (mnew n N A B D) (mday n N A B D M) ∧ Upd F F' w w' := by
  unfold mres mnew mday
  by_cases hf : Fit n A B D
  · by_cases hd : D < N
    · rw [if_pos hf, if_pos hd, if_neg (by rintro ⟨_, h⟩; omega), if_neg (by rintro ⟨_, h⟩; omega)]
      refine (meet_early F k n N M w hB A B D hf hd).mono ?_
      rintro e w' ⟨rfl, hb⟩
      exact ⟨rfl, F, hB.below hb, Upd.of_below hb⟩
    · rw [if_pos hf, if_neg hd, if_pos ⟨hf, by omega⟩, if_pos ⟨hf, by omega⟩]
      exact meet_ok F k n N M w hB hR A B D hf (by omega)
  · rw [if_neg hf, if_neg (fun h => hf h.1), if_neg (fun h => hf h.1)]
    refine (meet_bad k n w hB.cell0 A B D hf).mono ?_
    rintro e w' ⟨rfl, hb⟩
    exact ⟨rfl, F, hB.below hb, Upd.of_below hb⟩

theorem mday_rise {n N A B D : Int} {M : Days} (hR : Rise N M) : Rise (mnew n N A B D) (mday n N A B D M) := by
  unfold mnew mday
  split
  · rename_i h
    obtain ⟨⟨_, _, _, _, _, h6, h7⟩, hd⟩ := h
    exact rise_meet hR _ _ _ hd h6 h7
  · exact hR
theorem mday_enc {n : Nat} {N A B D : Int} {M : Days} : encB n (mday n N A B D M) = encB n (mday n N A B D (only n M)) := by
  unfold mday
  split
  · rename_i h
    obtain ⟨⟨h1, h2, h3, h4, h5, _, _⟩, _⟩ := h
    exact encB_meet D (mem_pairL.2 ⟨by simp only; omega, by simp only; omega, by simp only; omega⟩)
  · exact (encB_only n M).symm
theorem mday_len {n : Nat} {done : List Mt} {N A B D : Int} {M : Days} (hT : Track (n : Int) done N M) (hn : n ≤ 12) (hl : done.length ≤ 60) : (encB n (mday n N A B D (only n M))).length ≤ 100000 := by
  have hR := mday_rise (n := n) (A := A) (B := B) (D := D) (only_rise (n := n) hT.rise)
  unfold mday mnew at *
  split
  · rename_i h
    rw [if_pos h, if_pos h] at hR
    exact meet_len hT hn hl _ _ _ hR
  · rw [encB_only]; exact encB_len hT hn hl

/-- Two books side by side; the first is written. -/
theorem first_met {w w' : World} {F F1 G : Nat → Prop} {lo mid nb l : Nat} {A B D n N : Int} {K : Days} (hU : Upd F F1 w w') (hF : ∀ b, F b → lo ≤ b ∧ b < mid) (hG : ∀ b, G b → mid ≤ b ∧ b < w.heap.size)
    (hB : IsBook w G l n N K) (ht : Trip w nb A B D) (hn : nb < lo) (hlo : lo ≤ w.heap.size) : IsBook w' G l n N K ∧ Trip w' nb A B D ∧ Below lo w w' :=
  ⟨hB.same fun b hb => hU.keep b (hG b hb).2 fun e => by have := (hF b e).2; have := (hG b hb).1; omega,
   by unfold Trip; rw [hU.keep nb ht.lt fun e => by have := (hF nb e).1; omega]; exact ht,
   hU.below hlo fun b hb => (hF b hb).1⟩

/-- .. and the second. -/
theorem second_met {w w' w'' : World} {F F1 G G1 : Nat → Prop} {lo mid nb k : Nat} {A B D n N : Int} {K : Days} (hU : Upd F F1 w w') (hV : Upd G G1 w' w'') (hF : ∀ b, F b → lo ≤ b ∧ b < mid) (hG : ∀ b, G b → mid ≤ b ∧ b < w.heap.size)
    (hB : IsBook w' F1 k n N K) (ht : Trip w' nb A B D) (hn : nb < lo) (hm : lo ≤ mid) (hlo : lo ≤ w.heap.size) : (∃ F2, IsBook w'' F2 k n N K) ∧ Trip w'' nb A B D ∧ Below lo w' w'' := by
  refine ⟨⟨_, hB.tight.same fun b hb => hV.keep b hb.2 fun e => ?_⟩, ?_, hV.below (Nat.le_trans hlo hU.size) fun b hb => by have := (hG b hb).1; omega⟩
  · have h1 := hG b e
    rcases hU.grow b hb.1 with h | h
    · have := (hF b h).2; omega
    · omega
  · unfold Trip; rw [hV.keep nb ht.lt fun e => by have := (hG nb e).1; omega]; exact ht

end Go.Proofs.Ytednejckcdiebaa
