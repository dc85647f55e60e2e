/- Next: what gives, plain and walked. -/
import Derived.Test.YtijcicgbhcphjaaU1
namespace Go.Proofs.Ytijcicgbhcphjaa
open Go.RowKit Go.Lib Go.ChangeMaps
set_option linter.unusedSimpArgs false

/-- A piece from which the job computes lies at the device. -/
def helpX (zs : List Int) (d x : Int) : Prop := 0 ≤ x ∧ x < zs.length ∧ zs.getD x.toNat 0 = d
instance (zs : List Int) (d x : Int) : Decidable (helpX zs d x) := inferInstanceAs (Decidable (_ ∧ _))
def helpB (V : Vp) (d : Int) (j : Jp) : Bool := match findP V.held j.pc.st with
  | none => false
  | some k => decide (∃ x ∈ j.from_, helpX (V.held.getD k default).at_ d x)
def givesB (V : Vp) (gone : Nat → Bool) (d : Nat) (j : Jp) : Bool := !gone d && helpB V d j
/-- The other device of a meeting. -/
def otherD (a b : Int) (j : Jp) : Int := if j.to = b then a else if j.to = a then b else -1
def nextB (V : Vp) (ls : List Int) (a b : Int) (j : Jp) : Bool := decide (0 ≤ otherD a b j) && thereB V ls (otherD a b j) && helpB V (otherD a b j) j

theorem idxI_get {y : Int} : ∀ {zs : List Int}, 0 ≤ idxI y zs → (idxI y zs).toNat < zs.length ∧ zs.getD (idxI y zs).toNat 0 = y
  | [], h => by simp [idxI] at h
  | x :: r, h => by
    unfold idxI at h ⊢
    by_cases e : y = x
    · rw [if_pos e]
      exact ⟨by simp, by simp [e]⟩
    · rw [if_neg e] at h ⊢
      by_cases h2 : idxI y r < 0
      · rw [if_pos h2] at h
        omega
      · rw [if_neg h2]
        obtain ⟨h3, h4⟩ := idxI_get (y := y) (zs := r) (by omega)
        have e2 : (idxI y r + 1).toNat = (idxI y r).toNat + 1 := by omega
        rw [e2]
        exact ⟨by simp; omega, by simpa using h4⟩
theorem atOk_inj {n : Int} {zs : List Int} (h : AtOk n zs) {i k : Nat} (hi : i < zs.length) (hk : k < zs.length) (he : zs.getD i 0 = zs.getD k 0) (hn : zs.getD i 0 ≠ -1) : i = k := by
  have hd := (atOk_iff n zs).1 h
  rcases Nat.lt_trichotomy i k with hlt | rfl | hlt
  · exfalso
    rcases hd k hk with ⟨_, e⟩ | ⟨_, e⟩
    · exact hn (he.trans e)
    · apply e
      rw [← he, getD_at _ _ _ hi]
      rw [List.mem_take_iff_getElem]
      exact ⟨i, by omega, rfl⟩
  · rfl
  · exfalso
    rcases hd i hi with ⟨_, e⟩ | ⟨_, e⟩
    · exact hn e
    · apply e
      rw [he, getD_at _ _ _ hk]
      rw [List.mem_take_iff_getElem]
      exact ⟨k, by omega, rfl⟩
theorem help_idx {n : Int} {zs fs : List Int} (h : AtOk n zs) {d : Int} (hd : 0 ≤ d) : (∃ x ∈ fs, helpX zs d x) ↔ 0 ≤ idxI d zs ∧ idxI d zs ∈ fs := by
  constructor
  · rintro ⟨x, hx, h0, h1, h2⟩
    have hm : d ∈ zs := by rw [← h2, getD_at _ _ _ (show x.toNat < zs.length by omega)]; exact List.getElem_mem _
    have hi := idxI_mem.2 hm
    obtain ⟨h3, h4⟩ := idxI_get hi
    have := atOk_inj h h3 (show x.toNat < zs.length by omega) (by rw [h4, h2]) (by rw [h4]; omega)
    have e : idxI d zs = x := by omega
    rw [e]
    exact ⟨h0, hx⟩
  · rintro ⟨h1, h2⟩
    obtain ⟨h3, h4⟩ := idxI_get h1
    exact ⟨_, h2, h1, by omega, h4⟩

end Go.Proofs.Ytijcicgbhcphjaa
