/- Planning again, plain. -/
import Derived.Test.YtijcicgbhcphjaaM1
namespace Go.Proofs.Ytijcicgbhcphjaa
open Go.RowKit Go.Lib Go.ChangeMaps

theorem bestTo_none {al : Nat → Bool} {bt : Nat → Nat → Bool} : ∀ {m : Nat}, bestTo al bt m < 0 → ∀ i, i < m → al i = false
  | 0, _, i, hi => by omega
  | m + 1, h, i, hi => by
    unfold bestTo at h
    split at h
    · omega
    · rename_i hn
      by_cases e : i = m
      · subst e
        cases ha : al i with
        | false => rfl
        | true => exact absurd ⟨ha, .inl h⟩ hn
      · exact bestTo_none h i (by omega)
theorem bestTo_all {al : Nat → Bool} {bt : Nat → Nat → Bool} : ∀ {m : Nat}, (∀ i, i < m → al i = false) → bestTo al bt m = -1
  | 0, _ => rfl
  | m + 1, h => by
    unfold bestTo
    rw [if_neg (by rw [h m (by omega)]; simp)]
    exact bestTo_all fun i hi => h i (by omega)

theorem planF_end (V0 : Vp) (gone : Nat → Bool) : ∀ (n : Nat) (V : Vp) (js : List Jp), VOk V → Grow V0 gone V → missN gone V.held + 1 ≤ n → placeI (planF V0 gone n V js).1 gone < 0
  | 0, V, js, _, _, h => by omega
  | n + 1, V, js, hok, hg, hn => by
    unfold planF
    cases hx : nextJ V0 gone V with
    | none =>
      unfold nextJ at hx
      split at hx
      · assumption
      · cases hx
    | some j =>
      simp only
      unfold nextJ at hx
      split at hx
      · cases hx
      · have hr := bestTo_range (openB V gone) (btS V gone) V.held.length
        have ha := bestTo_allowed (openB V gone) (btS V gone) V.held.length
        change -1 ≤ placeI V gone ∧ placeI V gone < V.held.length at hr
        change 0 ≤ placeI V gone → openB V gone (placeI V gone).toNat = true at ha
        obtain ⟨k, hk⟩ : ∃ k : Nat, placeI V gone = k := ⟨(placeI V gone).toNat, by omega⟩
        rw [hk, Int.toNat_natCast] at hx ha
        have hop := ha (by omega)
        have hkl : k < V.held.length := by omega
        have hj : j = jobK V0 gone V k := by cases hx; rfl
        have hposs := (jobK_poss hok hg hkl hop).1
        obtain ⟨hgs, hm⟩ := hg.step hok hkl hop
        rw [← hj] at hposs hgs hm
        exact planF_end V0 gone n _ _ (doP_ok hok hposs) hgs (by omega)

/-! What taking away the pieces that are gone leaves as it is. -/
theorem clean_good (gone : Nat → Bool) (x : Int) : goodB gone (if goodB gone x = true then x else -1) = goodB gone x := by
  by_cases h : goodB gone x = true
  · rw [if_pos h]
  · rw [if_neg h]
    simp only [Bool.not_eq_true] at h
    rw [h]
    rfl
theorem clean_getD (gone : Nat → Bool) (zs : List Int) {i : Nat} (hi : i < zs.length) : (cleanAt gone zs).getD i 0 = if goodB gone (zs.getD i 0) = true then zs.getD i 0 else -1 := by
  rw [getD_at _ _ _ (by simp [cleanAt]; exact hi), getD_at _ _ _ hi]
  simp [cleanAt]
theorem clean_left (gone : Nat → Bool) (zs : List Int) : leftI gone (cleanAt gone zs) = leftI gone zs := by
  unfold leftI leftTo
  rw [show (cleanAt gone zs).length = zs.length by simp [cleanAt]]
  congr 1
  apply List.filter_congr
  intro i hi
  rw [clean_getD gone zs (List.mem_range.1 hi), clean_good]
theorem clean_other (gone : Nat → Bool) (zs : List Int) : otherI gone (cleanAt gone zs) = otherI gone zs := by
  unfold otherI otherTo
  rw [show (cleanAt gone zs).length = zs.length by simp [cleanAt]]
  congr 1
  apply List.filter_congr
  intro i hi
  rw [clean_getD gone zs (List.mem_range.1 hi), clean_good]
theorem clean_mem {gone : Nat → Bool} {zs : List Int} {d : Int} (hd : goodB gone d = true) : d ∈ cleanAt gone zs ↔ d ∈ zs := by
  unfold cleanAt
  rw [List.mem_map]
  constructor
  · rintro ⟨x, hx, e⟩
    by_cases h : goodB gone x = true
    · rw [if_pos h] at e; rw [← e]; exact hx
    · rw [if_neg h] at e
      subst e
      cases hd
  · exact fun h => ⟨d, h, by rw [if_pos hd]⟩
theorem cleanV_at (gone : Nat → Bool) (V : Vp) {k : Nat} (hk : k < V.held.length) : (cleanV gone V).held.getD k default = cleanH gone (V.held.getD k default) := by
  rw [getD_at _ _ _ (by simp [cleanV]; exact hk), getD_at _ _ _ hk]
  simp [cleanV]
theorem cleanV_len (gone : Nat → Bool) (V : Vp) : (cleanV gone V).held.length = V.held.length := by simp [cleanV]
theorem clean_spare (gone : Nat → Bool) (V : Vp) {k : Nat} (hk : k < V.held.length) : spareI (cleanV gone V) gone k = spareI V gone k := by
  unfold spareI
  rw [cleanV_at gone V hk]
  show ((leftI gone (cleanAt gone (V.held.getD k default).at_)).length : Int) - (V.held.getD k default).data = _
  rw [clean_left]
theorem clean_can (gone : Nat → Bool) (V : Vp) {k : Nat} (hk : k < V.held.length) (d : Nat) : canB (cleanV gone V) gone k d = canB V gone k d := by
  unfold canB
  rw [cleanV_at gone V hk]
  show (decide (0 ≤ (d : Int)) && decide ((d : Int) < V.mem.length) && !gone (d : Int).toNat && decide ((V.held.getD k default).block ≤ V.room.getD (d : Int).toNat 0) && !decide ((d : Int) ∈ cleanAt gone (V.held.getD k default).at_)) = _
  cases hg : gone (d : Int).toNat with
  | true => simp
  | false =>
    have hgd : goodB gone (d : Int) = true := by simp only [goodB, hg]; simp
    rw [show decide ((d : Int) ∈ cleanAt gone (V.held.getD k default).at_) = decide ((d : Int) ∈ (V.held.getD k default).at_) from decide_eq_decide.2 (clean_mem hgd)]
theorem clean_target (gone : Nat → Bool) (V : Vp) {k : Nat} (hk : k < V.held.length) : targetI (cleanV gone V) gone k = targetI V gone k := by
  unfold targetI
  have e : (fun d : Nat => canB (cleanV gone V) gone k d) = fun d : Nat => canB V gone k d := funext fun d => clean_can gone V hk d
  rw [e]
  rfl
theorem clean_open (gone : Nat → Bool) (V : Vp) {k : Nat} (hk : k < V.held.length) : openB (cleanV gone V) gone k = openB V gone k := by
  unfold openB
  rw [clean_spare gone V hk, clean_target gone V hk, cleanV_at gone V hk]
  show (_ && decide (0 < (otherI gone (cleanAt gone (V.held.getD k default).at_)).length) && _) = _
  rw [clean_other]
theorem cleanV_ok {gone : Nat → Bool} {V : Vp} (hok : VOk V) : VOk (cleanV gone V) := by
  have key : ∀ k, k ≤ V.held.length → VOk (cleanTo gone V k) := by
    intro k
    induction k with
    | zero => intro _; rw [cleanTo_zero]; exact hok
    | succ k ih =>
      intro hk
      have hc := ih (by omega)
      have hkc : k < (cleanTo gone V k).held.length := by rw [cleanTo_len gone V k (by omega)]; omega
      rw [← cleanTo_succ gone V k (by omega)]
      refine putAt_ok hc hkc ?_ ?_
      · rw [cleanTo_at gone V k (by omega)]; simp [cleanAt]
      · have := (hc.small.2.2.2.2 k hkc).2.2.2.2.2
        rw [cleanTo_at gone V k (by omega)] at this
        rw [← negs_other]
        exact atOk_negs _ _ this
  rw [← cleanTo_all]
  exact key _ (Nat.le_refl _)

/-- After the plan: nothing more to plan, nothing less spare. -/
theorem after_plan {V : Vp} {ls : List Int} (hf : Fits V ls) : ∃ V', doAllP (goneB V.mem ls) V (planR V (goneB V.mem ls)).2 = some V' ∧ V'.mem = V.mem ∧ V'.held.length = V.held.length ∧ VOk V' ∧ Grow V (goneB V.mem ls) V' ∧ Fits (cleanV (goneB V.mem ls) V') ls ∧
    (planR (cleanV (goneB V.mem ls) V') (goneB V.mem ls)).2 = [] ∧ ∀ k, k < V.held.length → openB V' (goneB V.mem ls) k = false := by
  obtain ⟨h1, h2, h3, h4⟩ := planR_all (goneB V.mem ls) hf.1
  have hend := planF_end V (goneB V.mem ls) (missN (goneB V.mem ls) V.held + 1) V [] hf.1 (Grow.refl _ _) (Nat.le_refl _)
  change placeI (planR V (goneB V.mem ls)).1 (goneB V.mem ls) < 0 at hend
  generalize (planR V (goneB V.mem ls)).1 = V' at *
  generalize hgn : goneB V.mem ls = gone at *
  have hno : ∀ k, k < V.held.length → openB V' gone k = false := fun k hk => bestTo_none hend k (by rw [h3.len]; exact hk)
  refine ⟨V', h1, h3.mem, h3.len, h2, h3, ⟨cleanV_ok h2, ?_⟩, ?_, hno⟩
  · show LostOk V'.mem.length ls
    rw [h3.mem]; exact hf.2
  · have hp : placeI (cleanV gone V') gone = -1 := bestTo_all fun k hk => by
      rw [cleanV_len] at hk
      rw [clean_open gone V' hk]
      exact hno k (by rw [← h3.len]; exact hk)
    unfold planR planF
    have : nextJ (cleanV gone V') gone (cleanV gone V') = none := by unfold nextJ; rw [hp]; rfl
    rw [this]
theorem leastTo_mono {V W : Vp} {gone : Nat → Bool} : ∀ m, (∀ k, k < m → spareI V gone k ≤ spareI W gone k) → leastTo V gone m ≤ leastTo W gone m
  | 0, _ => Int.le_refl _
  | m + 1, h => by
    have h1 := leastTo_mono m (fun k hk => h k (by omega))
    have h2 := h m (by omega)
    unfold leastTo
    split <;> split <;> omega
theorem left_len {V0 V : Vp} {gone : Nat → Bool} (g : Grow V0 gone V) (k : Nat) : (leftI gone (V0.held.getD k default).at_).length ≤ (leftI gone (V.held.getD k default).at_).length := by
  unfold leftI leftTo
  rw [List.length_map, List.length_map, ← List.countP_eq_length_filter, ← List.countP_eq_length_filter, g.alen k]
  refine List.countP_mono_left fun i _ h => ?_
  rw [g.kept k i h]
  exact h
theorem least_plan {V V' : Vp} {gone : Nat → Bool} (g : Grow V gone V') : leastI V gone ≤ leastI (cleanV gone V') gone := by
  unfold leastI
  rw [cleanV_len, g.len]
  refine leastTo_mono _ fun k hk => ?_
  rw [clean_spare gone V' (by rw [g.len]; exact hk)]
  unfold spareI
  have := left_len g k
  rw [(g.fields k).2.2.1]
  omega

end Go.Proofs.Ytijcicgbhcphjaa
