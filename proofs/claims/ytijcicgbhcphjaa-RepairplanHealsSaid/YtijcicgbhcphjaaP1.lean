/- What the plan does, plain. -/
import Derived.Test.YtijcicgbhcphjaaG3
namespace Go.Proofs.Ytijcicgbhcphjaa
open Go.RowKit Go.Lib Go.ChangeMaps

/-- A job that the plan has. -/
def PJob (V0 : Vp) (gone : Nat → Bool) (j : Jp) : Prop := ∃ V k, VOk V ∧ Grow V0 gone V ∧ k < V.held.length ∧ openB V gone k = true ∧ j = jobK V0 gone V k
theorem planF_all (V0 : Vp) (gone : Nat → Bool) : ∀ (n : Nat) (V : Vp) (js : List Jp), VOk V → Grow V0 gone V → ∃ tail, (planF V0 gone n V js).2 = js ++ tail ∧ doAllP gone V tail = some (planF V0 gone n V js).1 ∧ VOk (planF V0 gone n V js).1 ∧ Grow V0 gone (planF V0 gone n V js).1 ∧ ∀ j ∈ tail, PJob V0 gone j
  | 0, V, js, hok, hg => ⟨[], by simp [planF], rfl, hok, hg, fun j hj => by simp at hj⟩
  | n + 1, V, js, hok, hg => by
    unfold planF
    cases hx : nextJ V0 gone V with
    | none => exact ⟨[], by simp, rfl, hok, hg, fun j hj => by simp at hj⟩
    | some j =>
      simp only
      unfold nextJ at hx
      split at hx
      · cases hx
      · rename_i hp
        have hr := bestTo_range (openB V gone) (btS V gone) V.held.length
        have ha := bestTo_allowed (openB V gone) (btS V gone) V.held.length
        change -1 ≤ placeI V gone ∧ placeI V gone < V.held.length at hr
        change 0 ≤ placeI V gone → openB V gone (placeI V gone).toNat = true at ha
        obtain ⟨k, hk⟩ : ∃ k : Nat, placeI V gone = k := ⟨(placeI V gone).toNat, by omega⟩
        rw [hk, Int.toNat_natCast] at hx
        rw [hk, Int.toNat_natCast] at ha
        have hop := ha (by omega)
        have hkl : k < V.held.length := by omega
        have hj : j = jobK V0 gone V k := by cases hx; rfl
        have hposs := (jobK_poss hok hg hkl hop).1
        have hgs := (hg.step hok hkl hop).1
        rw [← hj] at hposs hgs
        obtain ⟨tail, h1, h2, h3, h4, h5⟩ := planF_all V0 gone n (doP V j) (js ++ [j]) (doP_ok hok hposs) hgs
        refine ⟨j :: tail, by rw [h1]; simp, ?_, h3, h4, fun x hx => ?_⟩
        · unfold doAllP
          rw [if_pos hposs]
          exact h2
        · rcases List.mem_cons.1 hx with rfl | hx
          · exact ⟨V, k, hok, hg, hkl, hop, hj⟩
          · exact h5 x hx
theorem planR_all {V : Vp} (gone : Nat → Bool) (hok : VOk V) : doAllP gone V (planR V gone).2 = some (planR V gone).1 ∧ VOk (planR V gone).1 ∧ Grow V gone (planR V gone).1 ∧ ∀ j ∈ (planR V gone).2, PJob V gone j := by
  obtain ⟨tail, h1, h2, h3, h4, h5⟩ := planF_all V gone (missN gone V.held + 1) V [] hok (Grow.refl _ _)
  rw [List.nil_append] at h1
  unfold planR
  rw [h1]
  exact ⟨h2, h3, h4, h5⟩

theorem goneB_mem {ms : List Mem} {ls : List Int} {x : Int} (h : x ∈ ls) (h0 : 0 ≤ x) : goneB ms ls x.toNat = true := by
  unfold goneB
  rw [Int.toNat_of_nonneg h0]
  simp [h]
/-- What a job of the plan holds. -/
theorem pjob_facts {V0 : Vp} {ls : List Int} {j : Jp} (hok0 : VOk V0) (h : PJob V0 (goneB V0.mem ls) j) : j.to ∉ ls ∧ j.from_.length ≤ 8 ∧ ∀ h ∈ V0.held, h.id = j.pc.st → (j.from_.length : Int) = h.data ∧ j.size = h.block := by
  obtain ⟨V, k, hok, hg, hk, hop, rfl⟩ := h
  obtain ⟨hp, hf⟩ := jobK_poss hok hg hk hop
  obtain ⟨k', hf', h1, h2, h3, h4, h5⟩ := possB_some hp
  rw [hf] at hf'
  cases hf'
  obtain ⟨c1, c2, c3, c4, c5⟩ := canB_true h5
  obtain ⟨g1, g2, g3, g4⟩ := hg.fields k
  have hk0 : k < V0.held.length := by rw [← hg.len]; exact hk
  have hd := (hok0.small.2.2.2.2 k hk0).2.1
  refine ⟨fun hm => ?_, ?_, fun h hh hid => ?_⟩
  · rw [goneB_mem hm c1] at c3
    cases c3
  · have := h2
    rw [g3] at this
    omega
  · obtain ⟨m, hm, rfl⟩ := List.getElem_of_mem hh
    have e1 := findP_self hok0.2.2.2.2.1 hm
    have e2 := findP_self hok0.2.2.2.2.1 hk0
    rw [getD_at V0.held m default hm, hid] at e1
    have : (jobK V0 (goneB V0.mem ls) V k).pc.st = (V0.held.getD k default).id := g1
    rw [this] at e1
    rw [e2] at e1
    cases e1
    rw [← getD_at V0.held k default hk0, ← g3, ← g2]
    exact ⟨h2, h3⟩

theorem check_plan {V : Vp} {ls : List Int} (hf : Fits V ls) : checkB V ls (planR V (goneB V.mem ls)).2 = true := by
  unfold checkB
  rw [(planR_all (goneB V.mem ls) hf.1).1, decide_eq_true hf]
  rfl
theorem check_bad {V : Vp} {ls : List Int} {js : List Jp} (hf : ¬ Fits V ls) : checkB V ls js = false := by
  unfold checkB
  rw [decide_eq_false hf]
  rfl
theorem planR_len {V : Vp} (gone : Nat → Bool) (hok : VOk V) : (planR V gone).2.length ≤ 4096 := by
  have key : ∀ (n : Nat) (V' : Vp) (js : List Jp), VOk V' → Grow V gone V' → (planF V gone n V' js).2.length ≤ js.length + missN gone V'.held := by
    intro n
    induction n with
    | zero => intro V' js _ _; simp [planF]
    | succ n ih =>
      intro V' js hok' hg
      unfold planF
      cases hx : nextJ V gone V' with
      | none => simp
      | some j =>
        simp only
        unfold nextJ at hx
        split at hx
        · cases hx
        · have hr := bestTo_range (openB V' gone) (btS V' gone) V'.held.length
          have ha := bestTo_allowed (openB V' gone) (btS V' gone) V'.held.length
          change -1 ≤ placeI V' gone ∧ placeI V' gone < V'.held.length at hr
          change 0 ≤ placeI V' gone → openB V' gone (placeI V' gone).toNat = true at ha
          obtain ⟨k, hk⟩ : ∃ k : Nat, placeI V' gone = k := ⟨(placeI V' gone).toNat, by omega⟩
          rw [hk, Int.toNat_natCast] at hx ha
          have hop := ha (by omega)
          have hkl : k < V'.held.length := by omega
          have hj : j = jobK V gone V' k := by cases hx; rfl
          have hposs := (jobK_poss hok' hg hkl hop).1
          obtain ⟨hgs, hm⟩ := hg.step hok' hkl hop
          rw [← hj] at hposs hgs hm
          have := ih (doP V' j) (js ++ [j]) (doP_ok hok' hposs) hgs
          rw [List.length_append, List.length_singleton] at this
          omega
  have h1 := key (missN gone V.held + 1) V [] hok (Grow.refl _ _)
  have h2 := missN_le gone V.held fun h hh => by
    obtain ⟨k, hk, rfl⟩ := List.getElem_of_mem hh
    rw [← getD_at V.held k default hk]
    exact (hok.small.2.2.2.2 k hk).at_small.1
  have h3 := hok.small.2.1
  unfold planR
  simp only [List.length_nil] at h1
  omega

end Go.Proofs.Ytijcicgbhcphjaa

/- A view without the pieces that are gone. -/
namespace Go.Proofs.Ytijcicgbhcphjaa
open Go.RowKit Go.Lib Go.ChangeMaps

def cleanAt (gone : Nat → Bool) (zs : List Int) : List Int := zs.map fun d => if goodB gone d = true then d else -1
def cleanH (gone : Nat → Bool) (h : Hp) : Hp := { h with at_ := cleanAt gone h.at_ }
def cleanV (gone : Nat → Bool) (V : Vp) : Vp := { V with held := V.held.map (cleanH gone) }
/-- The first k stripes without the pieces that are gone. -/
def cleanTo (gone : Nat → Bool) (V : Vp) (k : Nat) : Vp := { V with held := (V.held.take k).map (cleanH gone) ++ V.held.drop k }
/-- Pieces taken away. -/
def negs (zs os : List Int) : List Int := os.foldl (fun z i => z.set i.toNat (-1)) zs
def putAt (V : Vp) (k : Nat) (ys : List Int) : Vp := { V with held := V.held.set k { V.held.getD k default with at_ := ys } }

theorem negs_len : ∀ (os zs : List Int), (negs zs os).length = zs.length
  | [], _ => rfl
  | o :: r, zs => by
    show (negs (zs.set o.toNat (-1)) r).length = _
    rw [negs_len r, List.length_set]
theorem negs_snoc (zs os : List Int) (o : Int) : negs zs (os ++ [o]) = (negs zs os).set o.toNat (-1) := by
  unfold negs
  rw [List.foldl_append]
  rfl
theorem negs_getD : ∀ (os zs : List Int) (m : Nat), m < zs.length → (∀ o ∈ os, 0 ≤ o) → (negs zs os).getD m 0 = if (m : Int) ∈ os then -1 else zs.getD m 0
  | [], _, _, _, _ => by simp [negs]
  | o :: r, zs, m, hm, h => by
    show (negs (zs.set o.toNat (-1)) r).getD m 0 = _
    rw [negs_getD r _ m (by rw [List.length_set]; exact hm) (fun x hx => h x (by simp [hx]))]
    have h0 := h o (by simp)
    by_cases hr : (m : Int) ∈ r
    · rw [if_pos hr, if_pos (by simp [hr])]
    · rw [if_neg hr]
      by_cases e : (m : Int) = o
      · rw [if_pos (by simp [e])]
        have : o.toNat = m := by omega
        rw [this, getD_set_self _ _ _ _ hm]
      · rw [if_neg (by simp [e, hr]), getD_set_ne _ _ _ (by omega)]
theorem negs_other (gone : Nat → Bool) (zs : List Int) : negs zs (otherI gone zs) = cleanAt gone zs := by
  have hp : ∀ o ∈ otherI gone zs, 0 ≤ o := fun o ho => by
    obtain ⟨i, rfl, _⟩ := mem_otherI.1 ho
    omega
  apply List.ext_getElem
  · rw [negs_len]; simp [cleanAt]
  · intro m h1 h2
    rw [negs_len] at h1
    have hcl : (cleanAt gone zs)[m]'h2 = if goodB gone zs[m] = true then zs[m] else -1 := by simp [cleanAt]
    rw [hcl, ← getD_at _ m 0, negs_getD _ _ _ h1 hp]
    by_cases hg : goodB gone zs[m] = true
    · rw [if_pos hg, if_neg, getD_at _ _ _ h1]
      intro hm
      obtain ⟨i, e, _, hb⟩ := mem_otherI.1 hm
      have : m = i := by omega
      subst this
      rw [getD_at _ _ _ h1, hg] at hb
      cases hb
    · rw [if_neg hg, if_pos]
      exact mem_otherI.2 ⟨m, rfl, h1, by rw [getD_at _ _ _ h1]; simpa using hg⟩

theorem atOk_neg {n : Int} {zs : List Int} (h : AtOk n zs) (i : Nat) : AtOk n (zs.set i (-1)) := by
  by_cases hi : i < zs.length
  · have he : zs.set i (-1) = zs.take i ++ (-1) :: zs.drop (i + 1) := (List.set_eq_take_append_cons_drop ..).trans (by rw [if_pos hi])
    have he2 : zs = zs.take i ++ zs[i] :: zs.drop (i + 1) := by rw [List.getElem_cons_drop, List.take_append_drop]
    refine ⟨?_, fun x hx => ?_⟩
    · have hn := h.1
      rw [he2, List.filter_append, show zs[i] :: zs.drop (i + 1) = [zs[i]] ++ zs.drop (i + 1) from rfl, List.filter_append] at hn
      rw [he, List.filter_append, show (-1 : Int) :: zs.drop (i + 1) = [-1] ++ zs.drop (i + 1) from rfl, List.filter_append]
      refine hn.sublist (List.Sublist.append (List.Sublist.refl _) ?_)
      show List.Sublist ([] ++ _) _
      exact List.sublist_append_right _ _
    · rcases List.mem_or_eq_of_mem_set hx with hx | rfl
      · exact h.2 x hx
      · exact .inl rfl
  · rw [List.set_eq_of_length_le (by omega)]; exact h
theorem atOk_negs {n : Int} : ∀ (os zs : List Int), AtOk n zs → AtOk n (negs zs os)
  | [], _, h => h
  | o :: r, _, h => atOk_negs r _ (atOk_neg h o.toNat)

theorem putAt_ok {V : Vp} {k : Nat} {ys : List Int} (hok : VOk V) (hk : k < V.held.length) (hl : ys.length = (V.held.getD k default).at_.length) (ha : AtOk V.mem.length ys) : VOk (putAt V k ys) := by
  obtain ⟨⟨a1, a2⟩, a3, a4, a5, a7, a8⟩ := hok
  refine ⟨⟨a1, by show (V.held.set _ _).length ≤ 256; rw [List.length_set]; exact a2⟩, a3, a4, a5, ?_, fun y hy => ?_⟩
  · have : (putAt V k ys).held.map Hp.id = V.held.map Hp.id := by
      show (V.held.set k _).map Hp.id = _
      rw [List.map_set]
      apply List.ext_getElem?
      intro a
      rw [List.getElem?_set]
      split
      · rename_i h
        subst h
        rw [if_pos (by simpa using hk)]
        simp [List.getD, hk]
      · rfl
    rw [this]; exact a7
  · rcases List.mem_or_eq_of_mem_set (show y ∈ V.held.set _ _ from hy) with hy | rfl
    · exact a8 y hy
    · obtain ⟨b1, b2, b3, b4, b5, b6⟩ := a8 (V.held.getD k default) (by rw [getD_at _ _ _ hk]; exact List.getElem_mem hk)
      exact ⟨b1, b2, b3, b4, by show (ys.length : Int) = _; rw [hl]; exact b5, ha⟩
theorem putAt_self {V : Vp} {k : Nat} (hk : k < V.held.length) : putAt V k (V.held.getD k default).at_ = V := by
  unfold putAt
  have : V.held.set k (V.held.getD k default) = V.held := by
    rw [getD_at _ _ _ hk]
    exact List.set_getElem_self hk
  obtain ⟨m, h, r, w⟩ := V
  simp only at this ⊢
  rw [this]
theorem putAt_set {V : Vp} {k : Nat} (hk : k < V.held.length) (ys : List Int) (i : Nat) (d : Int) : setAtP (putAt V k ys) k i d = putAt V k (ys.set i d) := by
  have h1 : (putAt V k ys).held.getD k default = { V.held.getD k default with at_ := ys } := by
    unfold putAt
    simp only
    rw [getD_set_self _ _ _ _ hk]
  unfold setAtP
  rw [h1]
  unfold putAt
  simp only [List.set_set]
theorem putAt_at {V : Vp} {k : Nat} (hk : k < V.held.length) (ys : List Int) : ((putAt V k ys).held.getD k default).at_ = ys := by
  unfold putAt
  simp only
  rw [getD_set_self _ _ _ _ hk]
theorem cleanTo_len (gone : Nat → Bool) (V : Vp) (k : Nat) (hk : k ≤ V.held.length) : (cleanTo gone V k).held.length = V.held.length := by
  unfold cleanTo
  simp only [List.length_append, List.length_map, List.length_take, List.length_drop]
  omega
theorem cleanTo_at (gone : Nat → Bool) (V : Vp) (k : Nat) (hk : k < V.held.length) : (cleanTo gone V k).held.getD k default = V.held.getD k default := by
  have hl := cleanTo_len gone V k (by omega)
  rw [getD_at _ _ _ (by omega), getD_at _ _ _ hk]
  unfold cleanTo
  simp only
  rw [List.getElem_append_right (by simp; omega)]
  simp [List.getElem_drop, Nat.min_eq_left (Nat.le_of_lt hk)]
theorem cleanTo_succ (gone : Nat → Bool) (V : Vp) (k : Nat) (hk : k < V.held.length) : putAt (cleanTo gone V k) k (cleanAt gone (V.held.getD k default).at_) = cleanTo gone V (k + 1) := by
  unfold putAt
  rw [cleanTo_at gone V k hk]
  unfold cleanTo
  simp only
  congr 1
  have hd : V.held.drop k = V.held.getD k default :: V.held.drop (k + 1) := drop_at V.held default k hk
  rw [hd, List.set_append_right _ _ (by simp; omega)]
  rw [List.take_succ_eq_append_getElem hk, List.map_append, List.append_assoc]
  congr 1
  rw [show k - ((V.held.take k).map (cleanH gone)).length = 0 by simp; omega, List.set_cons_zero]
  rw [getD_at _ _ _ hk]
  rfl
theorem cleanTo_all (gone : Nat → Bool) (V : Vp) : cleanTo gone V V.held.length = cleanV gone V := by
  unfold cleanTo cleanV
  simp
theorem cleanTo_zero (gone : Nat → Bool) (V : Vp) : cleanTo gone V 0 = V := by
  unfold cleanTo
  simp

end Go.Proofs.Ytijcicgbhcphjaa

/- Planning again, plain. -/
namespace Go.Proofs.Ytijcicgbhcphjaa
open Go.RowKit Go.Lib Go.ChangeMaps

theorem bestTo_none {al : Nat → Bool} {bt : Nat → Nat → Bool} : ∀ {m : Nat}, bestTo al bt m < 0 → ∀ i, i < m → al i = false
  | 0, _, i, hi => by omega
  | m + 1, h, i, hi => by
    unfold bestTo at h
    split at h
    · omega
    · rename_i hn
      by_cases e : i = m
      · subst e
        cases ha : al i with
        | false => rfl
        | true => exact absurd ⟨ha, .inl h⟩ hn
      · exact bestTo_none h i (by omega)
theorem bestTo_all {al : Nat → Bool} {bt : Nat → Nat → Bool} : ∀ {m : Nat}, (∀ i, i < m → al i = false) → bestTo al bt m = -1
  | 0, _ => rfl
  | m + 1, h => by
    unfold bestTo
    rw [if_neg (by rw [h m (by omega)]; simp)]
    exact bestTo_all fun i hi => h i (by omega)

theorem planF_end (V0 : Vp) (gone : Nat → Bool) : ∀ (n : Nat) (V : Vp) (js : List Jp), VOk V → Grow V0 gone V → missN gone V.held + 1 ≤ n → placeI (planF V0 gone n V js).1 gone < 0
  | 0, V, js, _, _, h => by omega
  | n + 1, V, js, hok, hg, hn => by
    unfold planF
    cases hx : nextJ V0 gone V with
    | none =>
      unfold nextJ at hx
      split at hx
      · assumption
      · cases hx
    | some j =>
      simp only
      unfold nextJ at hx
      split at hx
      · cases hx
      · have hr := bestTo_range (openB V gone) (btS V gone) V.held.length
        have ha := bestTo_allowed (openB V gone) (btS V gone) V.held.length
        change -1 ≤ placeI V gone ∧ placeI V gone < V.held.length at hr
        change 0 ≤ placeI V gone → openB V gone (placeI V gone).toNat = true at ha
        obtain ⟨k, hk⟩ : ∃ k : Nat, placeI V gone = k := ⟨(placeI V gone).toNat, by omega⟩
        rw [hk, Int.toNat_natCast] at hx ha
        have hop := ha (by omega)
        have hkl : k < V.held.length := by omega
        have hj : j = jobK V0 gone V k := by cases hx; rfl
        have hposs := (jobK_poss hok hg hkl hop).1
        obtain ⟨hgs, hm⟩ := hg.step hok hkl hop
        rw [← hj] at hposs hgs hm
        exact planF_end V0 gone n _ _ (doP_ok hok hposs) hgs (by omega)

/-! What taking away the pieces that are gone leaves as it is. -/
theorem clean_good (gone : Nat → Bool) (x : Int) : goodB gone (if goodB gone x = true then x else -1) = goodB gone x := by
  by_cases h : goodB gone x = true
  · rw [if_pos h]
  · rw [if_neg h]
    simp only [Bool.not_eq_true] at h
    rw [h]
    rfl
theorem clean_getD (gone : Nat → Bool) (zs : List Int) {i : Nat} (hi : i < zs.length) : (cleanAt gone zs).getD i 0 = if goodB gone (zs.getD i 0) = true then zs.getD i 0 else -1 := by
  rw [getD_at _ _ _ (by simp [cleanAt]; exact hi), getD_at _ _ _ hi]
  simp [cleanAt]
theorem clean_left (gone : Nat → Bool) (zs : List Int) : leftI gone (cleanAt gone zs) = leftI gone zs := by
  unfold leftI leftTo
  rw [show (cleanAt gone zs).length = zs.length by simp [cleanAt]]
  congr 1
  apply List.filter_congr
  intro i hi
  rw [clean_getD gone zs (List.mem_range.1 hi), clean_good]
theorem clean_other (gone : Nat → Bool) (zs : List Int) : otherI gone (cleanAt gone zs) = otherI gone zs := by
  unfold otherI otherTo
  rw [show (cleanAt gone zs).length = zs.length by simp [cleanAt]]
  congr 1
  apply List.filter_congr
  intro i hi
  rw [clean_getD gone zs (List.mem_range.1 hi), clean_good]
theorem clean_mem {gone : Nat → Bool} {zs : List Int} {d : Int} (hd : goodB gone d = true) : d ∈ cleanAt gone zs ↔ d ∈ zs := by
  unfold cleanAt
  rw [List.mem_map]
  constructor
  · rintro ⟨x, hx, e⟩
    by_cases h : goodB gone x = true
    · rw [if_pos h] at e; rw [← e]; exact hx
    · rw [if_neg h] at e
      subst e
      cases hd
  · exact fun h => ⟨d, h, by rw [if_pos hd]⟩
theorem cleanV_at (gone : Nat → Bool) (V : Vp) {k : Nat} (hk : k < V.held.length) : (cleanV gone V).held.getD k default = cleanH gone (V.held.getD k default) := by
  rw [getD_at _ _ _ (by simp [cleanV]; exact hk), getD_at _ _ _ hk]
  simp [cleanV]
theorem cleanV_len (gone : Nat → Bool) (V : Vp) : (cleanV gone V).held.length = V.held.length := by simp [cleanV]
theorem clean_spare (gone : Nat → Bool) (V : Vp) {k : Nat} (hk : k < V.held.length) : spareI (cleanV gone V) gone k = spareI V gone k := by
  unfold spareI
  rw [cleanV_at gone V hk]
  show ((leftI gone (cleanAt gone (V.held.getD k default).at_)).length : Int) - (V.held.getD k default).data = _
  rw [clean_left]
theorem clean_can (gone : Nat → Bool) (V : Vp) {k : Nat} (hk : k < V.held.length) (d : Nat) : canB (cleanV gone V) gone k d = canB V gone k d := by
  unfold canB
  rw [cleanV_at gone V hk]
  show (decide (0 ≤ (d : Int)) && decide ((d : Int) < V.mem.length) && !gone (d : Int).toNat && decide ((V.held.getD k default).block ≤ V.room.getD (d : Int).toNat 0) && !decide ((d : Int) ∈ cleanAt gone (V.held.getD k default).at_)) = _
  cases hg : gone (d : Int).toNat with
  | true => simp
  | false =>
    have hgd : goodB gone (d : Int) = true := by simp only [goodB, hg]; simp
    rw [show decide ((d : Int) ∈ cleanAt gone (V.held.getD k default).at_) = decide ((d : Int) ∈ (V.held.getD k default).at_) from decide_eq_decide.2 (clean_mem hgd)]
theorem clean_target (gone : Nat → Bool) (V : Vp) {k : Nat} (hk : k < V.held.length) : targetI (cleanV gone V) gone k = targetI V gone k := by
  unfold targetI
  have e : (fun d : Nat => canB (cleanV gone V) gone k d) = fun d : Nat => canB V gone k d := funext fun d => clean_can gone V hk d
  rw [e]
  rfl
theorem clean_open (gone : Nat → Bool) (V : Vp) {k : Nat} (hk : k < V.held.length) : openB (cleanV gone V) gone k = openB V gone k := by
  unfold openB
  rw [clean_spare gone V hk, clean_target gone V hk, cleanV_at gone V hk]
  show (_ && decide (0 < (otherI gone (cleanAt gone (V.held.getD k default).at_)).length) && _) = _
  rw [clean_other]
theorem cleanV_ok {gone : Nat → Bool} {V : Vp} (hok : VOk V) : VOk (cleanV gone V) := by
  have key : ∀ k, k ≤ V.held.length → VOk (cleanTo gone V k) := by
    intro k
    induction k with
    | zero => intro _; rw [cleanTo_zero]; exact hok
    | succ k ih =>
      intro hk
      have hc := ih (by omega)
      have hkc : k < (cleanTo gone V k).held.length := by rw [cleanTo_len gone V k (by omega)]; omega
      rw [← cleanTo_succ gone V k (by omega)]
      refine putAt_ok hc hkc ?_ ?_
      · rw [cleanTo_at gone V k (by omega)]; simp [cleanAt]
      · have := (hc.small.2.2.2.2 k hkc).2.2.2.2.2
        rw [cleanTo_at gone V k (by omega)] at this
        rw [← negs_other]
        exact atOk_negs _ _ this
  rw [← cleanTo_all]
  exact key _ (Nat.le_refl _)

/-- After the plan: nothing more to plan, nothing less spare. -/
theorem after_plan {V : Vp} {ls : List Int} (hf : Fits V ls) : ∃ V', doAllP (goneB V.mem ls) V (planR V (goneB V.mem ls)).2 = some V' ∧ V'.mem = V.mem ∧ V'.held.length = V.held.length ∧ VOk V' ∧ Grow V (goneB V.mem ls) V' ∧ Fits (cleanV (goneB V.mem ls) V') ls ∧
    (planR (cleanV (goneB V.mem ls) V') (goneB V.mem ls)).2 = [] ∧ ∀ k, k < V.held.length → openB V' (goneB V.mem ls) k = false := by
  obtain ⟨h1, h2, h3, h4⟩ := planR_all (goneB V.mem ls) hf.1
  have hend := planF_end V (goneB V.mem ls) (missN (goneB V.mem ls) V.held + 1) V [] hf.1 (Grow.refl _ _) (Nat.le_refl _)
  change placeI (planR V (goneB V.mem ls)).1 (goneB V.mem ls) < 0 at hend
  generalize (planR V (goneB V.mem ls)).1 = V' at *
  generalize hgn : goneB V.mem ls = gone at *
  have hno : ∀ k, k < V.held.length → openB V' gone k = false := fun k hk => bestTo_none hend k (by rw [h3.len]; exact hk)
  refine ⟨V', h1, h3.mem, h3.len, h2, h3, ⟨cleanV_ok h2, ?_⟩, ?_, hno⟩
  · show LostOk V'.mem.length ls
    rw [h3.mem]; exact hf.2
  · have hp : placeI (cleanV gone V') gone = -1 := bestTo_all fun k hk => by
      rw [cleanV_len] at hk
      rw [clean_open gone V' hk]
      exact hno k (by rw [← h3.len]; exact hk)
    unfold planR planF
    have : nextJ (cleanV gone V') gone (cleanV gone V') = none := by unfold nextJ; rw [hp]; rfl
    rw [this]
theorem leastTo_mono {V W : Vp} {gone : Nat → Bool} : ∀ m, (∀ k, k < m → spareI V gone k ≤ spareI W gone k) → leastTo V gone m ≤ leastTo W gone m
  | 0, _ => Int.le_refl _
  | m + 1, h => by
    have h1 := leastTo_mono m (fun k hk => h k (by omega))
    have h2 := h m (by omega)
    unfold leastTo
    split <;> split <;> omega
theorem left_len {V0 V : Vp} {gone : Nat → Bool} (g : Grow V0 gone V) (k : Nat) : (leftI gone (V0.held.getD k default).at_).length ≤ (leftI gone (V.held.getD k default).at_).length := by
  unfold leftI leftTo
  rw [List.length_map, List.length_map, ← List.countP_eq_length_filter, ← List.countP_eq_length_filter, g.alen k]
  refine List.countP_mono_left fun i _ h => ?_
  rw [g.kept k i h]
  exact h
theorem least_plan {V V' : Vp} {gone : Nat → Bool} (g : Grow V gone V') : leastI V gone ≤ leastI (cleanV gone V') gone := by
  unfold leastI
  rw [cleanV_len, g.len]
  refine leastTo_mono _ fun k hk => ?_
  rw [clean_spare gone V' (by rw [g.len]; exact hk)]
  unfold spareI
  have := left_len g k
  rw [(g.fields k).2.2.1]
  omega

end Go.Proofs.Ytijcicgbhcphjaa
