/- What the plan does, plain. -/
import Derived.Test.YtijcicgbhcphjaaG3
namespace Go.Proofs.Ytijcicgbhcphjaa
open Go.RowKit Go.Lib Go.ChangeMaps

/-- A job that the plan has. -/
def PJob (V0 : Vp) (gone : Nat → Bool) (j : Jp) : Prop := ∃ V k, VOk V ∧ Grow V0 gone V ∧ k < V.held.length ∧ openB V gone k = true ∧ j = jobK V0 gone V k
theorem planF_all (V0 : Vp) (gone : Nat → Bool) : ∀ (n : Nat) (V : Vp) (js : List Jp), VOk V → Grow V0 gone V → ∃ tail, (planF V0 gone n V js).2 = js ++ tail ∧ doAllP gone V tail = some (planF V0 gone n V js).1 ∧ VOk (planF V0 gone n V js).1 ∧ Grow V0 gone (planF V0 gone n V js).1 ∧ ∀ j ∈ tail, PJob V0 gone j
  | 0, V, js, hok, hg => ⟨[], by simp [planF], rfl, hok, hg, fun j hj => by simp at hj⟩
  | n + 1, V, js, hok, hg => by
    unfold planF
    cases hx : nextJ V0 gone V with
    | none => exact ⟨[], by simp, rfl, hok, hg, fun j hj => by simp at hj⟩
    | some j =>
      simp only
      unfold nextJ at hx
      split at hx
      · cases hx
      · rename_i hp
        have hr := bestTo_range (openB V gone) (btS V gone) V.held.length
        have ha := bestTo_allowed (openB V gone) (btS V gone) V.held.length
        change -1 ≤ placeI V gone ∧ placeI V gone < V.held.length at hr
        change 0 ≤ placeI V gone → openB V gone (placeI V gone).toNat = true at ha
        obtain ⟨k, hk⟩ : ∃ k : Nat, placeI V gone = k := ⟨(placeI V gone).toNat, by omega⟩
        rw [hk, Int.toNat_natCast] at hx
        rw [hk, Int.toNat_natCast] at ha
        have hop := ha (by omega)
        have hkl : k < V.held.length := by omega
        have hj : j = jobK V0 gone V k := by cases hx; rfl
        have hposs := (jobK_poss hok hg hkl hop).1
        have hgs := (hg.step hok hkl hop).1
        rw [← hj] at hposs hgs
        obtain ⟨tail, h1, h2, h3, h4, h5⟩ := planF_all V0 gone n (doP V j) (js ++ [j]) (doP_ok hok hposs) hgs
        refine ⟨j :: tail, by rw [h1]; simp, ?_, h3, h4, fun x hx => ?_⟩
        · unfold doAllP
          rw [if_pos hposs]
          exact h2
        · rcases List.mem_cons.1 hx with rfl | hx
          · exact ⟨V, k, hok, hg, hkl, hop, hj⟩
          · exact h5 x hx
theorem planR_all {V : Vp} (gone : Nat → Bool) (hok : VOk V) : doAllP gone V (planR V gone).2 = some (planR V gone).1 ∧ VOk (planR V gone).1 ∧ Grow V gone (planR V gone).1 ∧ ∀ j ∈ (planR V gone).2, PJob V gone j := by
  obtain ⟨tail, h1, h2, h3, h4, h5⟩ := planF_all V gone (missN gone V.held + 1) V [] hok (Grow.refl _ _)
  rw [List.nil_append] at h1
  unfold planR
  rw [h1]
  exact ⟨h2, h3, h4, h5⟩

theorem goneB_mem {ms : List Mem} {ls : List Int} {x : Int} (h : x ∈ ls) (h0 : 0 ≤ x) : goneB ms ls x.toNat = true := by
  unfold goneB
  rw [Int.toNat_of_nonneg h0]
  simp [h]
/-- What a job of the plan holds. -/
theorem pjob_facts {V0 : Vp} {ls : List Int} {j : Jp} (hok0 : VOk V0) (h : PJob V0 (goneB V0.mem ls) j) : j.to ∉ ls ∧ j.from_.length ≤ 8 ∧ ∀ h ∈ V0.held, h.id = j.pc.st → (j.from_.length : Int) = h.data ∧ j.size = h.block := by
  obtain ⟨V, k, hok, hg, hk, hop, rfl⟩ := h
  obtain ⟨hp, hf⟩ := jobK_poss hok hg hk hop
  obtain ⟨k', hf', h1, h2, h3, h4, h5⟩ := possB_some hp
  rw [hf] at hf'
  cases hf'
  obtain ⟨c1, c2, c3, c4, c5⟩ := canB_true h5
  obtain ⟨g1, g2, g3, g4⟩ := hg.fields k
  have hk0 : k < V0.held.length := by rw [← hg.len]; exact hk
  have hd := (hok0.small.2.2.2.2 k hk0).2.1
  refine ⟨fun hm => ?_, ?_, fun h hh hid => ?_⟩
  · rw [goneB_mem hm c1] at c3
    cases c3
  · have := h2
    rw [g3] at this
    omega
  · obtain ⟨m, hm, rfl⟩ := List.getElem_of_mem hh
    have e1 := findP_self hok0.2.2.2.2.1 hm
    have e2 := findP_self hok0.2.2.2.2.1 hk0
    rw [getD_at V0.held m default hm, hid] at e1
    have : (jobK V0 (goneB V0.mem ls) V k).pc.st = (V0.held.getD k default).id := g1
    rw [this] at e1
    rw [e2] at e1
    cases e1
    rw [← getD_at V0.held k default hk0, ← g3, ← g2]
    exact ⟨h2, h3⟩

theorem check_plan {V : Vp} {ls : List Int} (hf : Fits V ls) : checkB V ls (planR V (goneB V.mem ls)).2 = true := by
  unfold checkB
  rw [(planR_all (goneB V.mem ls) hf.1).1, decide_eq_true hf]
  rfl
theorem check_bad {V : Vp} {ls : List Int} {js : List Jp} (hf : ¬ Fits V ls) : checkB V ls js = false := by
  unfold checkB
  rw [decide_eq_false hf]
  rfl
theorem planR_len {V : Vp} (gone : Nat → Bool) (hok : VOk V) : (planR V gone).2.length ≤ 4096 := by
  have key : ∀ (n : Nat) (V' : Vp) (js : List Jp), VOk V' → Grow V gone V' → (planF V gone n V' js).2.length ≤ js.length + missN gone V'.held := by
    intro n
    induction n with
    | zero => intro V' js _ _; simp [planF]
    | succ n ih =>
      intro V' js hok' hg
      unfold planF
      cases hx : nextJ V gone V' with
      | none => simp
      | some j =>
        simp only
        unfold nextJ at hx
        split at hx
        · cases hx
        · have hr := bestTo_range (openB V' gone) (btS V' gone) V'.held.length
          have ha := bestTo_allowed (openB V' gone) (btS V' gone) V'.held.length
          change -1 ≤ placeI V' gone ∧ placeI V' gone < V'.held.length at hr
          change 0 ≤ placeI V' gone → openB V' gone (placeI V' gone).toNat = true at ha
          obtain ⟨k, hk⟩ : ∃ k : Nat, placeI V' gone = k := ⟨(placeI V' gone).toNat, by omega⟩
          rw [hk, Int.toNat_natCast] at hx ha
          have hop := ha (by omega)
          have hkl : k < V'.held.length := by omega
          have hj : j = jobK V gone V' k := by cases hx; rfl
          have hposs := (jobK_poss hok' hg hkl hop).1
          obtain ⟨hgs, hm⟩ := hg.step hok' hkl hop
          rw [← hj] at hposs hgs hm
          have := ih (doP V' j) (js ++ [j]) (doP_ok hok' hposs) hgs
          rw [List.length_append, List.length_singleton] at this
          omega
  have h1 := key (missN gone V.held + 1) V [] hok (Grow.refl _ _)
  have h2 := missN_le gone V.held fun h hh => by
    obtain ⟨k, hk, rfl⟩ := List.getElem_of_mem hh
    rw [← getD_at V.held k default hk]
    exact (hok.small.2.2.2.2 k hk).at_small.1
  have h3 := hok.small.2.1
  unfold planR
  simp only [List.length_nil] at h1
  omega

end Go.Proofs.Ytijcicgbhcphjaa
