/- Plain laws for MeetingstatsHelps: a further meeting lowers neither rate nor weight. -/
import Derived.Test.YtednejckcdiebaaG1
import Derived.Test.YtednejckcdiebaaL
namespace Go.Proofs.Ytednejckcdiebaa

theorem c_more (z1 z2 : Int) (h0 : 0 ≤ z2) (h1 : z2 ≤ z1) (h2 : z1 ≤ 32) (k : Nat) : cNum z1 k * cDen z2 k ≤ cNum z2 k * cDen z1 k := by
  obtain ⟨m1, rfl⟩ := Int.eq_ofNat_of_zero_le (show 0 ≤ z1 by omega)
  obtain ⟨m2, rfl⟩ := Int.eq_ofNat_of_zero_le h0
  have e1 := Nat.pow_le_pow_left (show m1 ≤ 32 by omega) k
  have e2 := Nat.pow_le_pow_left (show m2 ≤ m1 by omega) k
  have e4 : 1 ≤ 32 ^ k := Nat.one_le_pow _ _ (by omega)
  have c1 : ((m1 : Int)) ^ k = ((m1 ^ k : Nat) : Int) := by simp
  have c2 : ((m2 : Int)) ^ k = ((m2 ^ k : Nat) : Int) := by simp
  have c3 : (32 : Int) ^ k = ((32 ^ k : Nat) : Int) := by simp
  unfold cNum cDen
  rw [c1, c2, c3]
  generalize m1 ^ k = p1 at e1 e2
  generalize m2 ^ k = p2 at e2
  generalize 32 ^ k = q at e1 e4
  have f1 := low_form ((q : Int) - p1) q q (by omega) (by omega) (by omega) (by omega)
  have f2 := low_form ((q : Int) - p2) q q (by omega) (by omega) (by omega) (by omega)
  refine cancel_le f1.2.2.2.2.1 f2.2.2.2.2.1 f1.2.2.2.2.2.1 f1.2.2.2.2.2.2 f2.2.2.2.2.2.1 f2.2.2.2.2.2.2 ?_
  exact Int.mul_le_mul_of_nonneg_right (by omega) (by omega)

theorem sorted_snoc {zs : List Int} {d : Int} (hs : zs.Pairwise (· ≤ ·)) (hl : ∀ x ∈ zs, x ≤ d) : (zs ++ [d]).Pairwise (· ≤ ·) := by
  rw [List.pairwise_append]
  exact ⟨hs, by simp, fun x hx y hy => by simp at hy; subst hy; exact hl x hx⟩

theorem win_snoc (zs : List Int) (f d : Int) (hs : zs.Pairwise (· ≤ ·)) (hl : ∀ x ∈ zs, x ≤ d) (hf : f ≤ d) : win (zs ++ [d]) f d = win zs f d ++ [d] := by
  rw [win_filter _ _ _ (sorted_snoc hs hl) (by omega), win_filter _ _ _ hs (by omega), List.filter_append]
  congr 1
  simp [hf]

/-- The days behind a further meeting of the pair. -/
def more (zs : List Int) (d : Int) : List Int := if d ∈ zs then zs else zs ++ [d]

theorem win_more (zs : List Int) (f d : Int) (hs : zs.Pairwise (· ≤ ·)) (hl : ∀ x ∈ zs, x ≤ d) (hf : f ≤ d) : (win zs f d).length ≤ (win (more zs d) f d).length := by
  unfold more
  split
  · exact Nat.le_refl _
  · rw [win_snoc zs f d hs hl hf]; simp

theorem heft_more (zs : List Int) (f d : Int) (hs : zs.Pairwise (· ≤ ·)) (hl : ∀ x ∈ zs, x ≤ d) (hf : f ≤ d) : heft (win zs f d) d ≤ heft (win (more zs d) f d) d := by
  unfold more
  split
  · exact Int.le_refl _
  · rw [win_snoc zs f d hs hl hf]
    have := grain_bound d d (Int.le_refl _)
    simp only [heft, List.map_append, List.sum_append, List.map_cons, List.map_nil, List.sum_cons, List.sum_nil]
    omega

end Go.Proofs.Ytednejckcdiebaa
