/- do. -/
import Derived.Test.YtijcicgbhcphjaaD1
namespace Go.Proofs.Ytijcicgbhcphjaa
open Go.RowKit Go.Lib Go.ChangeMaps
set_option linter.unusedSimpArgs false

theorem findP_some {s : ByteArray} : ∀ {hs : List Hp} {k : Nat}, findP hs s = some k → k < hs.length ∧ (hs.getD k default).id = s
  | [], _, h => by simp [findP] at h
  | x :: r, k, h => by
    unfold findP at h
    split at h
    · rename_i e
      cases h
      exact ⟨by simp, by simp [List.getD, e]⟩
    · cases hr : findP r s with
      | none => rw [hr] at h; simp at h
      | some m =>
        rw [hr] at h
        simp at h
        subst h
        have := findP_some hr
        exact ⟨by simp; omega, by simpa [List.getD] using this.2⟩

/-- The pieces from which a job computes: they ascend, and are left. -/
def FrAt (left fs : List Int) (i : Nat) : Prop := (0 < i → fs.getD (i - 1) 0 < fs.getD i 0) ∧ fs.getD i 0 ∈ left
instance (left fs : List Int) (i : Nat) : Decidable (FrAt left fs i) := inferInstanceAs (Decidable (_ ∧ _))
def FrOk (left fs : List Int) : Prop := ∀ i, i < fs.length → FrAt left fs i
instance (left fs : List Int) : Decidable (FrOk left fs) := inferInstanceAs (Decidable (∀ i, i < fs.length → FrAt left fs i))
/-- Whether a job is possible. -/
def possB (V : Vp) (gone : Nat → Bool) (j : Jp) : Bool := match findP V.held j.pc.st with
  | none => false
  | some k => decide (j.pc.ix ∈ otherI gone (V.held.getD k default).at_) && decide ((j.from_.length : Int) = (V.held.getD k default).data) && decide (j.size = (V.held.getD k default).block) &&
      decide (FrOk (leftI gone (V.held.getD k default).at_) j.from_) && canB V gone k j.to
def doP (V : Vp) (j : Jp) : Vp := match findP V.held j.pc.st with
  | none => V
  | some k => setRoomP (setAtP V k j.pc.ix.toNat j.to) j.to.toNat (V.room.getD j.to.toNat 0 - j.size)

theorem possB_some {V : Vp} {gone : Nat → Bool} {j : Jp} (h : possB V gone j = true) : ∃ k, findP V.held j.pc.st = some k ∧ j.pc.ix ∈ otherI gone (V.held.getD k default).at_ ∧ (j.from_.length : Int) = (V.held.getD k default).data ∧
    j.size = (V.held.getD k default).block ∧ FrOk (leftI gone (V.held.getD k default).at_) j.from_ ∧ canB V gone k j.to = true := by
  unfold possB at h
  cases hf : findP V.held j.pc.st with
  | none => rw [hf] at h; cases h
  | some k =>
    rw [hf] at h
    simp only [Bool.and_eq_true, decide_eq_true_eq] at h
    exact ⟨k, rfl, h.1.1.1.1, h.1.1.1.2, h.1.1.2, h.1.2, h.2⟩
theorem canB_true {V : Vp} {gone : Nat → Bool} {k : Nat} {d : Int} (h : canB V gone k d = true) : 0 ≤ d ∧ d < V.mem.length ∧ gone d.toNat = false ∧ (V.held.getD k default).block ≤ V.room.getD d.toNat 0 ∧ d ∉ (V.held.getD k default).at_ := by
  unfold canB at h
  simp only [Bool.and_eq_true, decide_eq_true_eq, Bool.not_eq_true', decide_eq_false_iff_not] at h
  exact ⟨h.1.1.1.1, h.1.1.1.2, h.1.1.2, h.1.2, h.2⟩
theorem mem_otherI {gone : Nat → Bool} {zs : List Int} {x : Int} : x ∈ otherI gone zs ↔ ∃ i : Nat, x = i ∧ i < zs.length ∧ goodB gone (zs.getD i 0) = false := by
  unfold otherI otherTo
  simp only [List.mem_map, List.mem_filter, List.mem_range, Bool.not_eq_true']
  constructor
  · rintro ⟨i, ⟨h1, h2⟩, rfl⟩; exact ⟨i, rfl, h1, h2⟩
  · rintro ⟨i, rfl, h1, h2⟩; exact ⟨i, ⟨h1, h2⟩, rfl⟩
theorem mem_leftI {gone : Nat → Bool} {zs : List Int} {x : Int} : x ∈ leftI gone zs ↔ ∃ i : Nat, x = i ∧ i < zs.length ∧ goodB gone (zs.getD i 0) = true := by
  unfold leftI leftTo
  simp only [List.mem_map, List.mem_filter, List.mem_range]
  constructor
  · rintro ⟨i, ⟨h1, h2⟩, rfl⟩; exact ⟨i, rfl, h1, h2⟩
  · rintro ⟨i, rfl, h1, h2⟩; exact ⟨i, ⟨h1, h2⟩, rfl⟩

theorem atOk_set {n : Int} {zs : List Int} (h : AtOk n zs) {i : Nat} (hi : i < zs.length) {d : Int} (h1 : 0 ≤ d) (h2 : d < n) (h3 : d ∉ zs) : AtOk n (zs.set i d) := by
  have he : zs.set i d = zs.take i ++ d :: zs.drop (i + 1) := List.set_eq_take_append_cons_drop .. |>.trans (by rw [if_pos hi])
  have he2 : zs = zs.take i ++ zs[i] :: zs.drop (i + 1) := by rw [List.getElem_cons_drop, List.take_append_drop]
  have hd : [d].filter (· != -1) = [d] := by
    have : ¬ d = -1 := by omega
    simp [this]
  refine ⟨?_, fun x hx => ?_⟩
  · rw [he, List.filter_append, show d :: zs.drop (i + 1) = [d] ++ zs.drop (i + 1) from rfl, List.filter_append, hd]
    have hn := h.1
    rw [he2, List.filter_append, show zs[i] :: zs.drop (i + 1) = [zs[i]] ++ zs.drop (i + 1) from rfl, List.filter_append] at hn
    have hsub : (zs.take i).filter (· != -1) ++ (zs.drop (i + 1)).filter (· != -1) |>.Sublist ((zs.take i).filter (· != -1) ++ ([zs[i]].filter (· != -1) ++ (zs.drop (i + 1)).filter (· != -1))) :=
      List.Sublist.append (List.Sublist.refl _) (List.sublist_append_right _ _)
    have hn2 := hn.sublist hsub
    rw [List.nodup_append] at hn2 ⊢
    refine ⟨hn2.1, ?_, fun a ha b hb e => ?_⟩
    · rw [List.nodup_append]
      refine ⟨by simp, hn2.2.1, fun a ha b hb e => ?_⟩
      simp at ha
      subst ha; subst e
      exact h3 (List.mem_of_mem_drop (List.mem_filter.1 hb).1)
    · rcases List.mem_append.1 hb with hb | hb
      · simp at hb
        subst hb; subst e
        exact h3 (List.mem_of_mem_take (List.mem_filter.1 ha).1)
      · exact hn2.2.2 a ha b hb e
  · rcases List.mem_or_eq_of_mem_set hx with hx | rfl
    · exact h.2 x hx
    · exact .inr ⟨h1, h2⟩

theorem doP_ok {V : Vp} {gone : Nat → Bool} {j : Jp} (hok : VOk V) (h : possB V gone j = true) : VOk (doP V j) := by
  obtain ⟨k, hf, h1, h2, h3, h4, h5⟩ := possB_some h
  obtain ⟨c1, c2, c3, c4, c5⟩ := canB_true h5
  obtain ⟨i, hi, hil, hig⟩ := mem_otherI.1 h1
  obtain ⟨hk, hid⟩ := findP_some hf
  obtain ⟨⟨a1, a2⟩, a3, ⟨a4, a5⟩, a6, a7, a8⟩ := hok
  have hkm : V.held.getD k default ∈ V.held := by rw [getD_at _ _ _ hk]; exact List.getElem_mem hk
  have a9 := a8 _ hkm
  have e : doP V j = setRoomP (setAtP V k i j.to) j.to.toNat (V.room.getD j.to.toNat 0 - j.size) := by
    unfold doP
    rw [hf, hi]
    rfl
  have hr : V.room.getD j.to.toNat 0 ∈ V.room := by
    rw [getD_at _ _ _ (by omega)]; exact List.getElem_mem _
  have hr2 := a5 _ hr
  have hb : 1 ≤ (V.held.getD k default).block := a9.2.2.2.1.1
  rw [e]
  refine ⟨⟨a1, by show (setAtP V k i j.to).held.length ≤ 256; rw [setAt_len]; exact a2⟩, a3, ⟨by show (V.room.set _ _).length = _; rw [List.length_set]; exact a4, fun x hx => ?_⟩, a6, ?_, fun y hy => ?_⟩
  · rcases List.mem_or_eq_of_mem_set (show x ∈ V.room.set _ _ from hx) with hx | rfl
    · exact a5 x hx
    · omega
  · show ((setAtP V k i j.to).held.map Hp.id).Nodup
    rw [setAt_ids]; exact a7
  · rcases List.mem_or_eq_of_mem_set (show y ∈ V.held.set _ _ from hy) with hy | rfl
    · exact a8 y hy
    · obtain ⟨b1, b2, b3, b4, b5, b6⟩ := a9
      exact ⟨b1, b2, b3, b4, by show (((V.held.getD k default).at_.set i j.to).length : Int) = _; rw [List.length_set]; exact b5, atOk_set b6 hil c1 c2 c5⟩

end Go.Proofs.Ytijcicgbhcphjaa
