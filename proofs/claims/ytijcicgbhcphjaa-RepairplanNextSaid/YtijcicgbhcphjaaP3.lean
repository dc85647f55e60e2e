/- What taking away the pieces that are gone leaves as it is: jobs. -/
import Derived.Test.YtijcicgbhcphjaaP1
import Derived.Test.YtijcicgbhcphjaaR1
namespace Go.Proofs.Ytijcicgbhcphjaa
open Go.RowKit Go.Lib Go.ChangeMaps

theorem other_iff {gone : Nat → Bool} {zs : List Int} {x total : Int} (ht : (zs.length : Int) = total) : x ∈ otherI gone zs ↔ (0 ≤ x ∧ x ≤ total - 1) ∧ x ∉ leftI gone zs := by
  rw [mem_otherI, mem_leftI]
  constructor
  · rintro ⟨i, rfl, hi, hg⟩
    refine ⟨by omega, ?_⟩
    rintro ⟨m, e, _, hm⟩
    obtain rfl : m = i := by omega
    rw [hg] at hm
    cases hm
  · rintro ⟨⟨h1, h2⟩, h3⟩
    refine ⟨x.toNat, by omega, by omega, ?_⟩
    cases hg : goodB gone (zs.getD x.toNat 0) with
    | false => rfl
    | true => exact absurd ⟨x.toNat, by omega, by omega, hg⟩ h3
theorem notin_iff {gone : Nat → Bool} {zs : List Int} {d : Int} (hd : goodB gone d = true) : d ∉ zs ↔ ∀ x ∈ leftI gone zs, zs.getD x.toNat 0 ≠ d := by
  constructor
  · intro h x hx e
    obtain ⟨i, rfl, hi, _⟩ := mem_leftI.1 hx
    rw [Int.toNat_natCast, getD_at _ _ _ hi] at e
    exact h (e ▸ List.getElem_mem hi)
  · intro h hm
    obtain ⟨i, hi, e⟩ := List.getElem_of_mem hm
    refine h i (mem_leftI.2 ⟨i, rfl, hi, ?_⟩) ?_
    · rw [getD_at _ _ _ hi, e]; exact hd
    · rw [Int.toNat_natCast, getD_at _ _ _ hi, e]
theorem there_true {V : Vp} {ls : List Int} {d : Int} (h : thereB V ls d = true) : goodB (goneB V.mem ls) d = true ∧ 0 ≤ d ∧ d < V.mem.length := by
  unfold thereB at h
  rw [Bool.and_eq_true, decide_eq_true_eq] at h
  refine ⟨h.1, ?_, h.2⟩
  have := h.1
  unfold goodB at this
  rw [Bool.and_eq_true, decide_eq_true_eq] at this
  exact this.1
theorem can_there {V : Vp} {ls : List Int} {k : Nat} {d : Int} : canB V (goneB V.mem ls) k d = true ↔ thereB V ls d = true ∧ (V.held.getD k default).block ≤ V.room.getD d.toNat 0 ∧ ∀ x ∈ leftI (goneB V.mem ls) (V.held.getD k default).at_, (V.held.getD k default).at_.getD x.toNat 0 ≠ d := by
  constructor
  · intro h
    obtain ⟨h1, h2, h3, h4, h5⟩ := canB_true h
    have hg : goodB (goneB V.mem ls) d = true := by unfold goodB; rw [h3]; simp [h1]
    exact ⟨by unfold thereB; rw [hg]; simp [h2], h4, (notin_iff hg).1 h5⟩
  · rintro ⟨h1, h2, h3⟩
    obtain ⟨hg, h4, h5⟩ := there_true h1
    have h6 := (notin_iff hg).2 h3
    have h7 : goneB V.mem ls d.toNat = false := by
      have := hg
      unfold goodB at this
      rw [Bool.and_eq_true] at this
      simpa using this.2
    unfold canB
    rw [decide_eq_true h4, decide_eq_true h5, h7, decide_eq_true h2, decide_eq_false h6]
    rfl
/-- Possible, as the reference asks it. -/
def PossAt (V : Vp) (ls : List Int) (k : Nat) (j : Jp) : Prop :=
  (((0 ≤ j.pc.ix ∧ j.pc.ix ≤ (V.held.getD k default).total - 1) ∧ j.pc.ix ∉ leftI (goneB V.mem ls) (V.held.getD k default).at_) ∧ (j.from_.length : Int) = (V.held.getD k default).data) ∧ thereB V ls j.to = true ∧ j.size = (V.held.getD k default).block ∧
    j.size ≤ V.room.getD j.to.toNat 0 ∧ FrOk (leftI (goneB V.mem ls) (V.held.getD k default).at_) j.from_ ∧ ∀ x ∈ leftI (goneB V.mem ls) (V.held.getD k default).at_, (V.held.getD k default).at_.getD x.toNat 0 ≠ j.to
theorem poss_at {V : Vp} {ls : List Int} {k : Nat} {j : Jp} (hok : VOk V) (hf : findP V.held j.pc.st = some k) : possB V (goneB V.mem ls) j = true ↔ PossAt V ls k j := by
  obtain ⟨hk, -⟩ := findP_some hf
  have ht := (hok.small.2.2.2.2 k hk).at_small.2.1
  unfold possB PossAt
  rw [hf]
  simp only [Bool.and_eq_true, decide_eq_true_eq]
  rw [other_iff ht, can_there]
  constructor
  · rintro ⟨⟨⟨⟨h1, h2⟩, h3⟩, h4⟩, h5, h6, h7⟩
    exact ⟨⟨h1, h2⟩, h5, h3, by omega, h4, h7⟩
  · rintro ⟨⟨h1, h2⟩, h5, h3, h6, h4, h7⟩
    exact ⟨⟨⟨⟨h1, h2⟩, h3⟩, h4⟩, h5, by omega, h7⟩
theorem poss_none {V : Vp} {gone : Nat → Bool} {j : Jp} (hf : findP V.held j.pc.st = none) : possB V gone j = false := by
  unfold possB
  rw [hf]

theorem findP_congr {s : ByteArray} : ∀ {hs hs' : List Hp}, hs.map Hp.id = hs'.map Hp.id → findP hs s = findP hs' s
  | [], [], _ => rfl
  | [], _ :: _, h => by simp at h
  | _ :: _, [], h => by simp at h
  | x :: r, y :: t, h => by
    simp only [List.map_cons, List.cons.injEq] at h
    unfold findP
    rw [h.1, findP_congr h.2]
theorem clean_ids (gone : Nat → Bool) (V : Vp) : (cleanV gone V).held.map Hp.id = V.held.map Hp.id := by
  show (V.held.map (cleanH gone)).map Hp.id = _
  rw [List.map_map]
  rfl
theorem clean_find (gone : Nat → Bool) (V : Vp) (s : ByteArray) : findP (cleanV gone V).held s = findP V.held s := findP_congr (clean_ids gone V)
theorem clean_canI (gone : Nat → Bool) (V : Vp) {k : Nat} (hk : k < V.held.length) (d : Int) : canB (cleanV gone V) gone k d = canB V gone k d := by
  by_cases h0 : 0 ≤ d
  · obtain ⟨m, rfl⟩ : ∃ m : Nat, d = m := ⟨d.toNat, by omega⟩
    exact clean_can gone V hk m
  · unfold canB
    simp [h0]
theorem clean_poss (gone : Nat → Bool) (V : Vp) (j : Jp) : possB (cleanV gone V) gone j = possB V gone j := by
  unfold possB
  rw [clean_find]
  cases hf : findP V.held j.pc.st with
  | none => rfl
  | some k =>
    obtain ⟨hk, -⟩ := findP_some hf
    simp only
    rw [clean_canI gone V hk, cleanV_at gone V hk]
    show (decide (j.pc.ix ∈ otherI gone (cleanAt gone (V.held.getD k default).at_)) && _ && _ && decide (FrOk (leftI gone (cleanAt gone (V.held.getD k default).at_)) j.from_) && _) = _
    rw [clean_other, clean_left]
    rfl
theorem cleanAt_set {gone : Nat → Bool} {zs : List Int} {i : Nat} {d : Int} (hd : goodB gone d = true) : cleanAt gone (zs.set i d) = (cleanAt gone zs).set i d := by
  unfold cleanAt
  rw [List.map_set, if_pos hd]
theorem clean_do {gone : Nat → Bool} {V : Vp} {j : Jp} (h : possB V gone j = true) : cleanV gone (doP V j) = doP (cleanV gone V) j := by
  obtain ⟨k, hf, h1, h2, h3, h4, h5⟩ := possB_some h
  obtain ⟨c1, c2, c3, c4, c5⟩ := canB_true h5
  obtain ⟨hk, -⟩ := findP_some hf
  have hg : goodB gone j.to = true := by unfold goodB; rw [c3]; simp [c1]
  unfold doP
  rw [clean_find, hf]
  simp only
  unfold cleanV setRoomP setAtP
  simp only [List.map_set]
  congr 1
  have e : (V.held.map (cleanH gone)).getD k default = cleanH gone (V.held.getD k default) := cleanV_at gone V hk
  rw [e]
  congr 1
  unfold cleanH
  simp only
  rw [cleanAt_set hg]
theorem clean_doAll {gone : Nat → Bool} : ∀ (js : List Jp) (V : Vp), doAllP gone (cleanV gone V) js = (doAllP gone V js).map (cleanV gone)
  | [], _ => rfl
  | j :: r, V => by
    unfold doAllP
    rw [clean_poss]
    by_cases h : possB V gone j = true
    · rw [if_pos h, if_pos h, ← clean_do h]
      exact clean_doAll r _
    · rw [if_neg h, if_neg h]; rfl
theorem clean_mem' (gone : Nat → Bool) (V : Vp) : (cleanV gone V).mem = V.mem := rfl

end Go.Proofs.Ytijcicgbhcphjaa

/- The plan, as the reference finds it, plain. -/
namespace Go.Proofs.Ytijcicgbhcphjaa
open Go.RowKit Go.Lib Go.ChangeMaps

theorem otherTo_nil {gone : Nat → Bool} {zs : List Int} : ∀ (n : Nat), (∀ m, m < n → goodB gone (zs.getD m 0) = true) → otherTo gone zs n = []
  | 0, _ => rfl
  | n + 1, h => by
    rw [otherTo_succ, otherTo_nil n (fun m hm => h m (by omega)), if_pos (h n (by omega))]
    rfl
theorem otherTo_head {gone : Nat → Bool} {zs : List Int} {i : Nat} (h : ∀ m, m < i → goodB gone (zs.getD m 0) = true) (hb : goodB gone (zs.getD i 0) = false) : ∀ (n : Nat), i < n → ∃ r, otherTo gone zs n = (i : Int) :: r
  | 0, hn => by omega
  | n + 1, hn => by
    rw [otherTo_succ]
    by_cases e : n = i
    · subst e
      rw [otherTo_nil n h, if_neg (by rw [hb]; simp)]
      exact ⟨[], rfl⟩
    · obtain ⟨r, hr⟩ := otherTo_head h hb n (by omega)
      rw [hr]
      exact ⟨_, rfl⟩
theorem left_good {gone : Nat → Bool} {zs : List Int} {m : Nat} : (m : Int) ∈ leftI gone zs ↔ m < zs.length ∧ goodB gone (zs.getD m 0) = true := by
  rw [mem_leftI]
  constructor
  · rintro ⟨i, e, h1, h2⟩
    obtain rfl : m = i := by omega
    exact ⟨h1, h2⟩
  · exact fun h => ⟨m, rfl, h.1, h.2⟩
/-- The first piece that is not left. -/
theorem other_first {gone : Nat → Bool} {zs : List Int} {i : Nat} (hi : i ≤ zs.length) (h : ∀ m, m < i → (m : Int) ∈ leftI gone zs) (hb : i < zs.length → (i : Int) ∉ leftI gone zs) :
    (i < zs.length ∧ (otherI gone zs).getD 0 0 = i ∧ 0 < (otherI gone zs).length) ∨ (i = zs.length ∧ otherI gone zs = []) := by
  have hg : ∀ m, m < i → goodB gone (zs.getD m 0) = true := fun m hm => (left_good.1 (h m hm)).2
  by_cases hl : i < zs.length
  · refine .inl ⟨hl, ?_⟩
    have hf : goodB gone (zs.getD i 0) = false := by
      cases e : goodB gone (zs.getD i 0) with
      | false => rfl
      | true => exact absurd (left_good.2 ⟨hl, e⟩) (hb hl)
    obtain ⟨r, hr⟩ := otherTo_head hg hf zs.length hl
    have : otherI gone zs = (i : Int) :: r := hr
    rw [this]
    simp
  · obtain rfl : i = zs.length := by omega
    exact .inr ⟨rfl, otherTo_nil _ hg⟩

/-- The job for a device. -/
def jobD (F N : Vp) (gone : Nat → Bool) (k : Nat) (ix d : Int) : Jp := ⟨⟨(N.held.getD k default).id, ix⟩, (leftI gone (F.held.getD k default).at_).take (N.held.getD k default).data.toNat, d, (N.held.getD k default).block⟩
def alD (F N : Vp) (gone : Nat → Bool) (k : Nat) (ix : Int) (d : Nat) : Bool := possB N gone (jobD F N gone k ix d)
def bestD (F N : Vp) (gone : Nat → Bool) (k : Nat) (ix : Int) : Int := bestTo (alD F N gone k ix) (btW N) N.mem.length

theorem bestTo_congr {al al' : Nat → Bool} {bt : Nat → Nat → Bool} : ∀ {m : Nat}, (∀ i, i < m → al i = al' i) → bestTo al bt m = bestTo al' bt m
  | 0, _ => rfl
  | m + 1, h => by
    unfold bestTo
    rw [h m (by omega), bestTo_congr fun i hi => h i (by omega)]

theorem openD {F N : Vp} {gone : Nat → Bool} {k : Nat} {ix : Nat} (hok : VOk N) (g : Grow F gone N) (hk : k < N.held.length) (hl : ¬ ((leftI gone (F.held.getD k default).at_).length : Int) < (N.held.getD k default).data)
    (hx : (ix < (N.held.getD k default).at_.length ∧ (otherI gone (N.held.getD k default).at_).getD 0 0 = ix ∧ 0 < (otherI gone (N.held.getD k default).at_).length) ∨ (ix = (N.held.getD k default).at_.length ∧ otherI gone (N.held.getD k default).at_ = [])) :
    openB N gone k = decide (0 ≤ bestD F N gone k ix) ∧ (openB N gone k = true → bestD F N gone k ix = targetI N gone k ∧ jobD F N gone k ix (targetI N gone k) = jobK F gone N k) := by
  have hf : findP N.held (N.held.getD k default).id = some k := findP_self hok.2.2.2.2.1 hk
  have hd := (hok.small.2.2.2.2 k hk).2.1
  have hfd := (g.fields k).2.2.1
  have hgl : (leftI gone (F.held.getD k default).at_).length ≤ (leftI gone (N.held.getD k default).at_).length := left_len g k
  have hsp : 0 ≤ spareI N gone k := by unfold spareI; omega
  rcases hx with ⟨h1, h2, h3⟩ | ⟨h1, h2⟩
  · have hal : ∀ d, d < N.mem.length → alD F N gone k ix d = canB N gone k d := fun d _ => by
      unfold alD possB jobD
      simp only
      rw [hf]
      simp only
      rw [decide_eq_true (show (ix : Int) ∈ otherI gone (N.held.getD k default).at_ by rw [← h2, getD_at _ _ _ h3]; exact List.getElem_mem h3),
        decide_eq_true (show (((leftI gone (F.held.getD k default).at_).take (N.held.getD k default).data.toNat).length : Int) = (N.held.getD k default).data by rw [List.length_take]; omega),
        decide_eq_true (show FrOk _ _ from frOk_take (g.left k))]
      simp
    have hb : bestD F N gone k ix = targetI N gone k := bestTo_congr hal
    refine ⟨?_, fun _ => ⟨hb, ?_⟩⟩
    · unfold openB
      rw [hb, decide_eq_true hsp, decide_eq_true h3]
      simp
    · unfold jobD jobK fromL
      rw [h2, if_pos (by rw [← hfd]; omega), hfd]
  · have hal : ∀ d, d < N.mem.length → alD F N gone k ix d = false := fun d _ => by
      unfold alD possB jobD
      simp only
      rw [hf]
      simp only
      rw [h2, decide_eq_false (by simp)]
      simp
    have hb : bestD F N gone k ix = -1 := bestTo_all hal
    have ho : openB N gone k = false := by
      unfold openB
      rw [h2]
      simp
    rw [ho, hb]
    exact ⟨rfl, fun h => by cases h⟩
theorem openD_dead {F N : Vp} {gone : Nat → Bool} {k : Nat} (g : Grow F gone N) (hl : ((leftI gone (F.held.getD k default).at_).length : Int) < (N.held.getD k default).data) : openB N gone k = false := by
  have hfd := (g.fields k).2.2.1
  have hs : spareI N gone k < 0 := by
    unfold spareI
    rw [g.dead k (by rw [← hfd]; exact hl)]
    omega
  unfold openB
  rw [decide_eq_false (by omega)]
  simp

/-! The plan of the clean view. -/
theorem clean_place (gone : Nat → Bool) (V : Vp) : placeI (cleanV gone V) gone = placeI V gone := by
  unfold placeI
  rw [cleanV_len]
  have key : ∀ m, m ≤ V.held.length → bestTo (openB (cleanV gone V) gone) (btS (cleanV gone V) gone) m = bestTo (openB V gone) (btS V gone) m := by
    intro m
    induction m with
    | zero => intro _; rfl
    | succ m ih =>
      intro hm
      have hr := bestTo_range (openB V gone) (btS V gone) m
      unfold bestTo
      rw [ih (by omega), clean_open gone V (show m < V.held.length by omega)]
      by_cases hn : bestTo (openB V gone) (btS V gone) m < 0
      · simp [hn]
      · have : btS (cleanV gone V) gone m (bestTo (openB V gone) (btS V gone) m).toNat = btS V gone m (bestTo (openB V gone) (btS V gone) m).toNat := by
          generalize bestTo (openB V gone) (btS V gone) m = q at *
          unfold btS
          rw [clean_spare gone V (show m < V.held.length by omega), clean_spare gone V (show q.toNat < V.held.length by omega)]
        rw [this]
  exact key _ (Nat.le_refl _)
theorem clean_jobK {gone : Nat → Bool} {V0 V : Vp} {k : Nat} (hk : k < V.held.length) (hk0 : k < V0.held.length) : jobK (cleanV gone V0) gone (cleanV gone V) k = jobK V0 gone V k := by
  unfold jobK fromL
  rw [clean_target gone V hk, cleanV_at gone V hk, cleanV_at gone V0 hk0]
  show (⟨⟨_, (otherI gone (cleanAt gone (V.held.getD k default).at_)).getD 0 0⟩, if (V0.held.getD k default).data ≤ (leftI gone (cleanAt gone (V0.held.getD k default).at_)).length then (leftI gone (cleanAt gone (V0.held.getD k default).at_)).take (V0.held.getD k default).data.toNat else [], _, _⟩ : Jp) = _
  rw [clean_other, clean_left]
  rfl
theorem clean_next {gone : Nat → Bool} {V0 V : Vp} (hl : V.held.length = V0.held.length) : nextJ (cleanV gone V0) gone (cleanV gone V) = nextJ V0 gone V := by
  unfold nextJ
  rw [clean_place]
  split
  · rfl
  · have hr := bestTo_range (openB V gone) (btS V gone) V.held.length
    change -1 ≤ placeI V gone ∧ placeI V gone < V.held.length at hr
    rw [clean_jobK (by omega) (by omega)]
theorem nextJ_some {V0 V : Vp} {gone : Nat → Bool} {j : Jp} (h : nextJ V0 gone V = some j) : ∃ k : Nat, placeI V gone = k ∧ k < V.held.length ∧ openB V gone k = true ∧ j = jobK V0 gone V k := by
  unfold nextJ at h
  split at h
  · cases h
  · have hr := bestTo_range (openB V gone) (btS V gone) V.held.length
    have ha := bestTo_allowed (openB V gone) (btS V gone) V.held.length
    change -1 ≤ placeI V gone ∧ placeI V gone < V.held.length at hr
    change 0 ≤ placeI V gone → openB V gone (placeI V gone).toNat = true at ha
    obtain ⟨k, hk⟩ : ∃ k : Nat, placeI V gone = k := ⟨(placeI V gone).toNat, by omega⟩
    rw [hk, Int.toNat_natCast] at h ha
    exact ⟨k, hk, by omega, ha (by omega), by cases h; rfl⟩
theorem clean_planF {gone : Nat → Bool} (V0 : Vp) : ∀ (n : Nat) (V : Vp) (js : List Jp), VOk V → Grow V0 gone V → planF (cleanV gone V0) gone n (cleanV gone V) js = (cleanV gone (planF V0 gone n V js).1, (planF V0 gone n V js).2)
  | 0, V, js, _, _ => rfl
  | n + 1, V, js, hok, hg => by
    unfold planF
    rw [clean_next hg.len]
    cases hx : nextJ V0 gone V with
    | none => rfl
    | some j =>
      simp only
      obtain ⟨k, hk, hkl, hop, hj⟩ := nextJ_some hx
      have hposs := (jobK_poss hok hg hkl hop).1
      have hgs := (hg.step hok hkl hop).1
      rw [← hj] at hposs hgs
      rw [← clean_do hposs]
      exact clean_planF V0 n _ _ (doP_ok hok hposs) hgs
theorem clean_miss (gone : Nat → Bool) (V : Vp) : missN gone (cleanV gone V).held = missN gone V.held := by
  unfold missN cleanV
  simp only [List.map_map]
  congr 1
  apply List.map_congr_left
  intro h _
  show (otherI gone (cleanAt gone h.at_)).length = _
  rw [clean_other]
theorem clean_planR {gone : Nat → Bool} {V : Vp} (hok : VOk V) : (planR (cleanV gone V) gone).2 = (planR V gone).2 := by
  unfold planR
  rw [clean_miss, clean_planF V _ V [] hok (Grow.refl _ _)]

end Go.Proofs.Ytijcicgbhcphjaa

/- The reference's has, possible. -/
namespace Go.Proofs.Ytijcicgbhcphjaa
open Go.RowKit Go.Lib Go.ChangeMaps
set_option linter.unusedSimpArgs false

set_option maxRecDepth 100000 in
set_option maxHeartbeats 2000000 in
theorem has_any (v : Value) (zs : List Int) (n : Int) (w : World) (hv : ReadsI w v zs) :
    Calls Try.prog 66 #[v, .int .i64 n] w fun e w' => e = .returned (.bool (decide (n ∈ zs))) ∧ w = w' := by
  obtain ⟨la, lc, lb, lo, rfl, ll1, lm1, lcell⟩ := hv.at
  have LC := Lib.hid lcell
  clear lcell hv
  obtain ⟨r, hr⟩ : ∃ r, r = decide (n ∈ zs) := ⟨_, rfl⟩
  rw [← hr]
  have HR := Lib.hid hr
  clear hr
  go_enter Try.func66, Try.ntmps66
  go_wp2
  go_loop [9, 6] (fun v9 _ => ∃ j : Nat, j ≤ zs.length ∧ v9 = .int .i64 j ∧ n ∉ zs.take j) (fun v9 _ => zs.length - (intOf v9).toNat)
  case atStart => exact ⟨0, Nat.zero_le _, rfl, by simp⟩
  case round =>
    obtain ⟨j, hj, rfl, hnot⟩ := hrel
    have HN := Lib.hid hnot
    clear hnot
    by_cases hlt : j < zs.length
    · obtain ⟨e1, e2⟩ := LC.out j hlt
      subst e1
      have hs := mem_take_succ zs n j hlt
      rw [← getD_at zs j 0 hlt] at hs
      have HS := Lib.hid hs
      have hmem : zs.getD j 0 ∈ zs := by rw [getD_at _ _ _ hlt]; exact List.getElem_mem hlt
      have HM := Lib.hid hmem
      clear hs hmem
      generalize zs.getD j 0 = y at *
      by_cases hy : y = n
      · have k1 : (y == n) = true := by simp [hy]
        obtain rfl : r = true := by rw [HR.out]; exact decide_eq_true (hy ▸ HM.out)
        clear hy
        go_wp2
        go_ret
        exact ⟨rfl, rfl⟩
      · have k1 : (y == n) = false := by simp [hy]
        have HY := Lib.hid hy
        clear hy
        go_wp2
        go_round
        case rel => exact ⟨j + 1, by omega, by go_num, fun h => by rcases HS.out.1 h with h | h; (exact HN.out h); (exact HY.out h.symm)⟩
        case measure => simp [intOf]; omega
    · have hjl : j = zs.length := by omega
      have hn := HN.out
      rw [hjl, List.take_length] at hn
      obtain rfl : r = false := by rw [HR.out]; exact decide_eq_false hn
      clear hn
      go_wp2
      go_ret
      exact ⟨rfl, rfl⟩

end Go.Proofs.Ytijcicgbhcphjaa
