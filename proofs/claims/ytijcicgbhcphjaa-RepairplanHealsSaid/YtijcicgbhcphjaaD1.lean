/- The state after a job. -/
import Derived.Test.YtijcicgbhcphjaaC1
namespace Go.Proofs.Ytijcicgbhcphjaa
open Go.RowKit Go.Lib Go.ChangeMaps
set_option linter.unusedSimpArgs false

def setAtP (V : Vp) (k i : Nat) (d : Int) : Vp := { V with held := V.held.set k { V.held.getD k default with at_ := (V.held.getD k default).at_.set i d } }
def setRoomP (V : Vp) (d : Nat) (x : Int) : Vp := { V with room := V.room.set d x }

section
variable {V : Vp} {k i : Nat} {d : Int}
theorem setAt_len : (setAtP V k i d).held.length = V.held.length := by simp [setAtP]
theorem setAt_self (hk : k < V.held.length) : (setAtP V k i d).held.getD k default = { V.held.getD k default with at_ := (V.held.getD k default).at_.set i d } := by
  unfold setAtP
  simp only
  rw [getD_set_self _ _ _ _ hk]
theorem setAt_ne {m : Nat} (h : m ≠ k) : (setAtP V k i d).held.getD m default = V.held.getD m default := by
  unfold setAtP
  simp only
  rw [getD_set_ne _ _ _ h]
theorem setAt_fields (m : Nat) : ((setAtP V k i d).held.getD m default).id = (V.held.getD m default).id ∧ ((setAtP V k i d).held.getD m default).vault = (V.held.getD m default).vault ∧
    ((setAtP V k i d).held.getD m default).block = (V.held.getD m default).block ∧ ((setAtP V k i d).held.getD m default).data = (V.held.getD m default).data ∧
    ((setAtP V k i d).held.getD m default).total = (V.held.getD m default).total ∧ ((setAtP V k i d).held.getD m default).refs = (V.held.getD m default).refs := by
  by_cases hm : m = k
  · subst hm
    by_cases hl : m < V.held.length
    · rw [setAt_self hl]; exact ⟨rfl, rfl, rfl, rfl, rfl, rfl⟩
    · have : (setAtP V m i d).held.getD m default = V.held.getD m default := by
        unfold setAtP
        rw [List.set_eq_of_length_le (by omega)]
      rw [this]; exact ⟨rfl, rfl, rfl, rfl, rfl, rfl⟩
  · rw [setAt_ne hm]; exact ⟨rfl, rfl, rfl, rfl, rfl, rfl⟩
theorem hpCell_setAt (xs : List (Value × Value)) (a b : Nat) : hpCell (setAtP V k i d).held xs a b = hpCell V.held xs a b := by
  obtain ⟨h1, h2, h3, h4, h5, h6⟩ := setAt_fields (V := V) (k := k) (i := i) (d := d) a
  unfold hpCell
  rw [h1, h2, h3, h4, h5]
theorem placesL_congr : ∀ (hs hs' : List Hp) (c : Nat), hs.map Hp.id = hs'.map Hp.id → placesL hs c = placesL hs' c
  | [], [], _, _ => rfl
  | [], _ :: _, _, h => by simp at h
  | _ :: _, [], _, h => by simp at h
  | x :: r, y :: s, c, h => by
    simp only [List.map_cons, List.cons.injEq] at h
    simp only [placesL, h.1, placesL_congr r s (c + 1) h.2]
theorem setAt_ids : (setAtP V k i d).held.map Hp.id = V.held.map Hp.id := by
  unfold setAtP
  rw [List.map_set]
  apply List.ext_getElem?
  intro a
  rw [List.getElem?_set]
  split
  · rename_i h
    subst h
    by_cases hl : k < V.held.length
    · rw [if_pos (by simpa using hl)]
      simp [List.getD, hl]
    · rw [if_neg (by simpa using hl)]
      simp [hl]
  · rfl
end

section
variable {w : World} {lo p : Nat} {mv hv rv wv gv : Value} {mp : Nat} {xs : List (Value × Value)} {V : Vp} {gone : Nat → Bool} {L : List (ByteArray × Value)}

theorem StR.setAt (h : StR w lo p mv hv rv wv gv mp xs V gone L) {k i : Nat} (hk : k < V.held.length) (hi : i < (V.held.getD k default).at_.length) (d : Int) :
    ∃ g c, xsA xs k = .slice (some ⟨g, 0, none⟩) (V.held.getD k default).at_.length c ∧ (V.held.getD k default).at_.length ≤ c ∧ lo ≤ g ∧ g < w.heap.size ∧ w.frozen? ⟨g, i, none⟩ = false ∧ w.cell? ⟨g, i, none⟩ = some (.int .i64 ((V.held.getD k default).at_.getD i 0)) ∧ g ≠ p ∧
      StR (w.setCell ⟨g, i, none⟩ (.int .i64 d)) lo p mv hv rv wv gv mp xs (setAtP V k i d) gone L := by
  obtain ⟨g, c, e, h1, h2, h3, h4, h5, h6⟩ := Own.set (h.vw.at_ k hk) (i := i) (j := 0) hi (by omega) (.int .i64 d) (fun a _ => .int .i64 (((V.held.getD k default).at_.set i d).getD a 0)) (fun a b ha hb => by
    have : b = 0 := by omega
    subst this
    by_cases e : a = i
    · subst e; rw [getD_set_self _ _ _ _ hi]; simp
    · rw [getD_set_ne _ _ _ e]; simp [e])
  simp only [Nat.mul_one, Nat.add_zero] at h4 h5 h6
  have hgb : (xsA xs k).ownBlock = some g := by rw [e]; rfl
  have hgp : g ≠ p := fun e' => own_ne (h.vw.at_ k hk) h.blk (by decide) (by rw [hgb, e'])
  have hgm : g ≠ mp := fun e' => own_ne_map (h.vw.at_ k hk) h.mpb (by rw [hgb, e'])
  have hs : ∀ q, q ≠ g → (w.setCell ⟨g, i, none⟩ (.int .i64 d)).heap[q]? = w.heap[q]? := fun q hq => setCell_other w _ hq
  have ho : ∀ {t : TypeId} {v : Value} {k' n : Nat} {f : Nat → Nat → Value}, Own w lo t v k' n f → 3 ≠ t → Own (w.setCell ⟨g, i, none⟩ (.int .i64 d)) lo t v k' n f := fun o ht => o.same fun q hq => hs q (fun e' => by
    subst e'
    exact own_apart' (h.vw.at_ k hk) o ht q hgb hq)
  have h6' : OwnI (w.setCell ⟨g, i, none⟩ (.int .i64 d)) lo (xsA xs k) ((V.held.getD k default).at_.set i d) := by
    unfold OwnI
    rw [List.length_set]
    exact h6
  have hl := setAt_len (V := V) (k := k) (i := i) (d := d)
  refine ⟨g, c, e, h3, h1, h2, h4, h5, hgp, (hs p (Ne.symm hgp)).trans h.blk, ⟨ho h.vw.m (by decide), ?_, ?_, ?_, ?_, ?_, fun m hm => ?_, fun m hm => ?_, h.vw.apRW, ?_, ?_, ?_⟩, ho h.gn (by decide), (hs mp (Ne.symm hgm)).trans h.mpb, h.lop, h.lom⟩
  · rw [hl]
    exact (ho h.vw.h (by decide)).congr fun a b _ _ => (hpCell_setAt xs a b).symm
  · exact Own.same h.vw.r fun q hq => hs q (fun e' => h.vw.apRA k hk q hq (by rw [e']; exact hgb))
  · exact Own.same h.vw.wt fun q hq => hs q (fun e' => h.vw.apWA k hk q hq (by rw [e']; exact hgb))
  · rw [hl]; exact h.vw.len
  · exact Nat.le_refl _
  · rw [hl] at hm
    rw [(setAt_fields m).2.2.2.2.2]
    exact ho (h.vw.rf m hm) (by decide)
  · rw [hl] at hm
    by_cases e' : m = k
    · subst e'; rw [setAt_self hk]; exact h6'
    · rw [setAt_ne e']
      exact Own.same (h.vw.at_ m hm) fun q hq => hs q (fun e2 => h.vw.apAA m k hm hk e' q hq (by rw [e2]; exact hgb))
  · rw [hl]; exact h.vw.apRA
  · rw [hl]; exact h.vw.apWA
  · rw [hl]; exact h.vw.apAA

theorem StR.setRoom (h : StR w lo p mv hv rv wv gv mp xs V gone L) {i : Nat} (hi : i < V.room.length) (x : Int) :
    ∃ g c, rv = .slice (some ⟨g, 0, none⟩) V.room.length c ∧ V.room.length ≤ c ∧ lo ≤ g ∧ g < w.heap.size ∧ w.frozen? ⟨g, i, none⟩ = false ∧ w.cell? ⟨g, i, none⟩ = some (.int .i64 (V.room.getD i 0)) ∧ g ≠ p ∧
      StR (w.setCell ⟨g, i, none⟩ (.int .i64 x)) lo p mv hv rv wv gv mp xs (setRoomP V i x) gone L := by
  obtain ⟨g, c, e, h1, h2, h3, h4, h5, h6⟩ := Own.set h.vw.r (i := i) (j := 0) hi (by omega) (.int .i64 x) (fun a _ => .int .i64 ((V.room.set i x).getD a 0)) (fun a b ha hb => by
    have : b = 0 := by omega
    subst this
    by_cases e : a = i
    · subst e; rw [getD_set_self _ _ _ _ hi]; simp
    · rw [getD_set_ne _ _ _ e]; simp [e])
  simp only [Nat.mul_one, Nat.add_zero] at h4 h5 h6
  subst e
  have hgp : g ≠ p := fun e' => own_ne h.vw.r h.blk (by decide) (by simp [Value.ownBlock, e'])
  have hgm : g ≠ mp := fun e' => own_ne_map h.vw.r h.mpb (by simp [Value.ownBlock, e'])
  have hs : ∀ q, q ≠ g → (w.setCell ⟨g, i, none⟩ (.int .i64 x)).heap[q]? = w.heap[q]? := fun q hq => setCell_other w _ hq
  have ho : ∀ {t : TypeId} {v : Value} {k' n : Nat} {f : Nat → Nat → Value}, Own w lo t v k' n f → 3 ≠ t → Own (w.setCell ⟨g, i, none⟩ (.int .i64 x)) lo t v k' n f := fun o ht => o.same fun q hq => hs q (fun e' => by
    subst e'
    exact own_apart' h.vw.r o ht q rfl hq)
  have h6' : OwnI (w.setCell ⟨g, i, none⟩ (.int .i64 x)) lo (.slice (some ⟨g, 0, none⟩) V.room.length c) (V.room.set i x) := by
    unfold OwnI
    rw [List.length_set]
    exact h6
  exact ⟨g, c, rfl, h3, h1, h2, h4, h5, hgp, (hs p (Ne.symm hgp)).trans h.blk, ⟨ho h.vw.m (by decide), ho h.vw.h (by decide), h6',
    Own.same h.vw.wt fun q hq => hs q (fun e' => h.vw.apRW g rfl (by rw [← e']; exact hq)), h.vw.len, h.vw.jn, fun m hm => ho (h.vw.rf m hm) (by decide),
    fun m hm => Own.same (h.vw.at_ m hm) fun q hq => hs q (fun e' => h.vw.apRA m hm g rfl (by rw [← e']; exact hq)), h.vw.apRW, h.vw.apRA, h.vw.apWA, h.vw.apAA⟩, ho h.gn (by decide), (hs mp (Ne.symm hgm)).trans h.mpb, h.lop, h.lom⟩
end

/-- What changes lies between lo and hi, or is new. -/
def Keep (lo hi : Nat) (w w' : World) : Prop := Below lo w w' ∧ ∀ g, hi ≤ g → g < w.heap.size → w'.heap[g]? = w.heap[g]?
theorem Keep.refl (lo hi : Nat) (w : World) : Keep lo hi w w := ⟨Below.refl _ _, fun _ _ _ => rfl⟩
theorem Keep.trans {lo hi : Nat} {a b c : World} (h1 : Keep lo hi a b) (h2 : Keep lo hi b c) : Keep lo hi a c :=
  ⟨h1.1.trans h2.1, fun g hg hs => (h2.2 g hg (Nat.lt_of_lt_of_le hs h1.1.size)).trans (h1.2 g hg hs)⟩
theorem Keep.of_below {lo hi : Nat} {a b : World} (h : Below a.heap.size a b) (hl : lo ≤ a.heap.size) : Keep lo hi a b := ⟨h.mono hl, fun g _ hs => h.block g hs⟩
theorem Keep.set {lo hi g i : Nat} (w : World) (u : Value) (h1 : lo ≤ g) (h2 : g < hi) : Keep lo hi w (w.setCell ⟨g, i, none⟩ u) :=
  ⟨Below.setCell (Below.refl _ _) h1 _, fun q hq _ => setCell_other w u (by omega)⟩

end Go.Proofs.Ytijcicgbhcphjaa

/- do. -/
namespace Go.Proofs.Ytijcicgbhcphjaa
open Go.RowKit Go.Lib Go.ChangeMaps
set_option linter.unusedSimpArgs false

theorem findP_some {s : ByteArray} : ∀ {hs : List Hp} {k : Nat}, findP hs s = some k → k < hs.length ∧ (hs.getD k default).id = s
  | [], _, h => by simp [findP] at h
  | x :: r, k, h => by
    unfold findP at h
    split at h
    · rename_i e
      cases h
      exact ⟨by simp, by simp [List.getD, e]⟩
    · cases hr : findP r s with
      | none => rw [hr] at h; simp at h
      | some m =>
        rw [hr] at h
        simp at h
        subst h
        have := findP_some hr
        exact ⟨by simp; omega, by simpa [List.getD] using this.2⟩

/-- The pieces from which a job computes: they ascend, and are left. -/
def FrAt (left fs : List Int) (i : Nat) : Prop := (0 < i → fs.getD (i - 1) 0 < fs.getD i 0) ∧ fs.getD i 0 ∈ left
instance (left fs : List Int) (i : Nat) : Decidable (FrAt left fs i) := inferInstanceAs (Decidable (_ ∧ _))
def FrOk (left fs : List Int) : Prop := ∀ i, i < fs.length → FrAt left fs i
instance (left fs : List Int) : Decidable (FrOk left fs) := inferInstanceAs (Decidable (∀ i, i < fs.length → FrAt left fs i))
/-- Whether a job is possible. -/
def possB (V : Vp) (gone : Nat → Bool) (j : Jp) : Bool := match findP V.held j.pc.st with
  | none => false
  | some k => decide (j.pc.ix ∈ otherI gone (V.held.getD k default).at_) && decide ((j.from_.length : Int) = (V.held.getD k default).data) && decide (j.size = (V.held.getD k default).block) &&
      decide (FrOk (leftI gone (V.held.getD k default).at_) j.from_) && canB V gone k j.to
def doP (V : Vp) (j : Jp) : Vp := match findP V.held j.pc.st with
  | none => V
  | some k => setRoomP (setAtP V k j.pc.ix.toNat j.to) j.to.toNat (V.room.getD j.to.toNat 0 - j.size)

theorem possB_some {V : Vp} {gone : Nat → Bool} {j : Jp} (h : possB V gone j = true) : ∃ k, findP V.held j.pc.st = some k ∧ j.pc.ix ∈ otherI gone (V.held.getD k default).at_ ∧ (j.from_.length : Int) = (V.held.getD k default).data ∧
    j.size = (V.held.getD k default).block ∧ FrOk (leftI gone (V.held.getD k default).at_) j.from_ ∧ canB V gone k j.to = true := by
  unfold possB at h
  cases hf : findP V.held j.pc.st with
  | none => rw [hf] at h; cases h
  | some k =>
    rw [hf] at h
    simp only [Bool.and_eq_true, decide_eq_true_eq] at h
    exact ⟨k, rfl, h.1.1.1.1, h.1.1.1.2, h.1.1.2, h.1.2, h.2⟩
theorem canB_true {V : Vp} {gone : Nat → Bool} {k : Nat} {d : Int} (h : canB V gone k d = true) : 0 ≤ d ∧ d < V.mem.length ∧ gone d.toNat = false ∧ (V.held.getD k default).block ≤ V.room.getD d.toNat 0 ∧ d ∉ (V.held.getD k default).at_ := by
  unfold canB at h
  simp only [Bool.and_eq_true, decide_eq_true_eq, Bool.not_eq_true', decide_eq_false_iff_not] at h
  exact ⟨h.1.1.1.1, h.1.1.1.2, h.1.1.2, h.1.2, h.2⟩
theorem mem_otherI {gone : Nat → Bool} {zs : List Int} {x : Int} : x ∈ otherI gone zs ↔ ∃ i : Nat, x = i ∧ i < zs.length ∧ goodB gone (zs.getD i 0) = false := by
  unfold otherI otherTo
  simp only [List.mem_map, List.mem_filter, List.mem_range, Bool.not_eq_true']
  constructor
  · rintro ⟨i, ⟨h1, h2⟩, rfl⟩; exact ⟨i, rfl, h1, h2⟩
  · rintro ⟨i, rfl, h1, h2⟩; exact ⟨i, ⟨h1, h2⟩, rfl⟩
theorem mem_leftI {gone : Nat → Bool} {zs : List Int} {x : Int} : x ∈ leftI gone zs ↔ ∃ i : Nat, x = i ∧ i < zs.length ∧ goodB gone (zs.getD i 0) = true := by
  unfold leftI leftTo
  simp only [List.mem_map, List.mem_filter, List.mem_range]
  constructor
  · rintro ⟨i, ⟨h1, h2⟩, rfl⟩; exact ⟨i, rfl, h1, h2⟩
  · rintro ⟨i, rfl, h1, h2⟩; exact ⟨i, ⟨h1, h2⟩, rfl⟩

theorem atOk_set {n : Int} {zs : List Int} (h : AtOk n zs) {i : Nat} (hi : i < zs.length) {d : Int} (h1 : 0 ≤ d) (h2 : d < n) (h3 : d ∉ zs) : AtOk n (zs.set i d) := by
  have he : zs.set i d = zs.take i ++ d :: zs.drop (i + 1) := List.set_eq_take_append_cons_drop .. |>.trans (by rw [if_pos hi])
  have he2 : zs = zs.take i ++ zs[i] :: zs.drop (i + 1) := by rw [List.getElem_cons_drop, List.take_append_drop]
  have hd : [d].filter (· != -1) = [d] := by
    have : ¬ d = -1 := by omega
    simp [this]
  refine ⟨?_, fun x hx => ?_⟩
  · rw [he, List.filter_append, show d :: zs.drop (i + 1) = [d] ++ zs.drop (i + 1) from rfl, List.filter_append, hd]
    have hn := h.1
    rw [he2, List.filter_append, show zs[i] :: zs.drop (i + 1) = [zs[i]] ++ zs.drop (i + 1) from rfl, List.filter_append] at hn
    have hsub : (zs.take i).filter (· != -1) ++ (zs.drop (i + 1)).filter (· != -1) |>.Sublist ((zs.take i).filter (· != -1) ++ ([zs[i]].filter (· != -1) ++ (zs.drop (i + 1)).filter (· != -1))) :=
      List.Sublist.append (List.Sublist.refl _) (List.sublist_append_right _ _)
    have hn2 := hn.sublist hsub
    rw [List.nodup_append] at hn2 ⊢
    refine ⟨hn2.1, ?_, fun a ha b hb e => ?_⟩
    · rw [List.nodup_append]
      refine ⟨by simp, hn2.2.1, fun a ha b hb e => ?_⟩
      simp at ha
      subst ha; subst e
      exact h3 (List.mem_of_mem_drop (List.mem_filter.1 hb).1)
    · rcases List.mem_append.1 hb with hb | hb
      · simp at hb
        subst hb; subst e
        exact h3 (List.mem_of_mem_take (List.mem_filter.1 ha).1)
      · exact hn2.2.2 a ha b hb e
  · rcases List.mem_or_eq_of_mem_set hx with hx | rfl
    · exact h.2 x hx
    · exact .inr ⟨h1, h2⟩

theorem doP_ok {V : Vp} {gone : Nat → Bool} {j : Jp} (hok : VOk V) (h : possB V gone j = true) : VOk (doP V j) := by
  obtain ⟨k, hf, h1, h2, h3, h4, h5⟩ := possB_some h
  obtain ⟨c1, c2, c3, c4, c5⟩ := canB_true h5
  obtain ⟨i, hi, hil, hig⟩ := mem_otherI.1 h1
  obtain ⟨hk, hid⟩ := findP_some hf
  obtain ⟨⟨a1, a2⟩, a3, ⟨a4, a5⟩, a6, a7, a8⟩ := hok
  have hkm : V.held.getD k default ∈ V.held := by rw [getD_at _ _ _ hk]; exact List.getElem_mem hk
  have a9 := a8 _ hkm
  have e : doP V j = setRoomP (setAtP V k i j.to) j.to.toNat (V.room.getD j.to.toNat 0 - j.size) := by
    unfold doP
    rw [hf, hi]
    rfl
  have hr : V.room.getD j.to.toNat 0 ∈ V.room := by
    rw [getD_at _ _ _ (by omega)]; exact List.getElem_mem _
  have hr2 := a5 _ hr
  have hb : 1 ≤ (V.held.getD k default).block := a9.2.2.2.1.1
  rw [e]
  refine ⟨⟨a1, by show (setAtP V k i j.to).held.length ≤ 256; rw [setAt_len]; exact a2⟩, a3, ⟨by show (V.room.set _ _).length = _; rw [List.length_set]; exact a4, fun x hx => ?_⟩, a6, ?_, fun y hy => ?_⟩
  · rcases List.mem_or_eq_of_mem_set (show x ∈ V.room.set _ _ from hx) with hx | rfl
    · exact a5 x hx
    · omega
  · show ((setAtP V k i j.to).held.map Hp.id).Nodup
    rw [setAt_ids]; exact a7
  · rcases List.mem_or_eq_of_mem_set (show y ∈ V.held.set _ _ from hy) with hy | rfl
    · exact a8 y hy
    · obtain ⟨b1, b2, b3, b4, b5, b6⟩ := a9
      exact ⟨b1, b2, b3, b4, by show (((V.held.getD k default).at_.set i j.to).length : Int) = _; rw [List.length_set]; exact b5, atOk_set b6 hil c1 c2 c5⟩

end Go.Proofs.Ytijcicgbhcphjaa

/- do, walked. -/
namespace Go.Proofs.Ytijcicgbhcphjaa
open Go.RowKit Go.Lib Go.ChangeMaps
set_option linter.unusedSimpArgs false

def Jp.v (j : Jp) (fv : Value) : Value := .agg #[.string j.pc.st, .int .i64 j.pc.ix, fv, .int .i64 j.to, .int .i64 j.size]

theorem lookPlace {w : World} {mp : Nat} {V : Vp} (h : w.heap[mp]? = some (mapObj encS (placesL V.held 0))) (s : ByteArray) {k : Nat} (hf : findP V.held s = some k) :
    (Instr.lookup 94 (.map (some mp)) (.string s) false).run Try.prog w = .ok (.int .i64 k) w := by
  have := key_str.lookup0 (tm := 94) (te := 3) Try.underlying94 (z := .int .i64 0) (fun w => by kernel_rfl) h s
  rw [this, seek_places, hf]
  simp

set_option maxRecDepth 100000 in
set_option maxHeartbeats 4000000 in
theorem do_any {lo hi p : Nat} {V : Vp} {gone : Nat → Bool} (j : Jp) (fv : Value) (w : World) (hst : StAt w lo hi p V gone) (hj : possB V gone j = true) (hfv : ∃ a n c, fv = .slice a n c) (hlo : lo ≤ w.heap.size) (hhi : hi ≤ w.heap.size) :
    Calls Try.prog 48 #[.pointer (some ⟨p, 0, none⟩), j.v fv] w fun e w' => e = .returned (.tuple #[]) ∧ StAt w' lo hi p (doP V j) gone ∧ Keep lo hi w w' := by
  obtain ⟨k, hf, h1, h2, h3, h4, h5⟩ := possB_some hj
  obtain ⟨c1, c2, c3, c4, c5⟩ := canB_true h5
  obtain ⟨i, hix, hil, hig⟩ := mem_otherI.1 h1
  obtain ⟨hk, hid⟩ := findP_some hf
  have hok' := doP_ok hst.2.1 hj
  obtain ⟨⟨mv, hv, rv, wv, gv, mp, xs, hs, ht1, ht2⟩, hok, hrf⟩ := hst
  obtain ⟨a1, a2, a3, a4, a5⟩ := hok.small
  have a6 := (a5 k hk).at_small.1
  have a7 : 1 ≤ (V.held.getD k default).block ∧ (V.held.getD k default).block ≤ 65536 := (a5 k hk).2.2.2.1
  have a8 : V.room.getD j.to.toNat 0 ≤ 1099511627776 := (hok.2.2.1.2 _ (by rw [getD_at _ _ _ (show j.to.toNat < V.room.length by omega)]; exact List.getElem_mem _)).2
  have hrf' : ∀ h ∈ (doP V j).held, h.refs.length ≤ 1000 := fun h hh => by
    unfold doP at hh
    rw [hf] at hh
    rcases List.mem_or_eq_of_mem_set (show h ∈ V.held.set _ _ from hh) with hh | rfl
    · exact hrf h hh
    · exact hrf (V.held.getD k default) (by rw [getD_at _ _ _ hk]; exact List.getElem_mem hk)
  have hdo : doP V j = setRoomP (setAtP V k i j.to) j.to.toNat (V.room.getD j.to.toNat 0 - j.size) := by
    unfold doP
    rw [hf, hix]
    rfl
  rw [hdo] at hok' hrf' ⊢
  obtain ⟨fa, fn, fc, rfl⟩ := hfv
  obtain ⟨⟨st, ix⟩, fs, dst, size⟩ := j
  simp only at hf hix c1 c2 c3 c4 c5 h3 a8 hdo hok' hrf' ⊢
  subst hix
  obtain ⟨t, rfl⟩ : ∃ t : Nat, dst = t := ⟨dst.toNat, by omega⟩
  simp only [Int.toNat_natCast] at a8 c4 hok' hrf' hdo ⊢
  subst h3
  have ht12 : t < V.mem.length := by omega
  unfold Jp.v
  simp only
  obtain ⟨bv, hbv⟩ : ∃ bv, bv = (V.held.getD k default).block := ⟨_, rfl⟩
  obtain ⟨rm, hrm⟩ : ∃ rm, rm = V.room.getD t 0 := ⟨_, rfl⟩
  rw [← hbv] at a7 c4 hok' hrf' ⊢
  rw [← hrm] at a8 c4 hok' hrf' ⊢
  have hA : Below w.heap.size w (w.alloc (.cells #[.string st, .int .i64 i, .slice fa fn fc, .int .i64 t, .int .i64 bv] 47)).drew := ((Below.refl w.heap.size w).alloc (Nat.le_refl _) _).drew
  have hsW := hs.below hA
  have m0 : (w.alloc (.cells #[.string st, .int .i64 i, .slice fa fn fc, .int .i64 t, .int .i64 bv] 47)).drew.cell? ⟨w.heap.size, 0, none⟩ = some (.string st) := cell_of_row (w.alloc _) _ 0 _ _ _ (heap_alloc_new _ _)
  have m1 : (w.alloc (.cells #[.string st, .int .i64 i, .slice fa fn fc, .int .i64 t, .int .i64 bv] 47)).drew.cell? ⟨w.heap.size, 1, none⟩ = some (.int .i64 i) := cell_of_row (w.alloc _) _ 1 _ _ _ (heap_alloc_new _ _)
  have m3 : (w.alloc (.cells #[.string st, .int .i64 i, .slice fa fn fc, .int .i64 t, .int .i64 bv] 47)).drew.cell? ⟨w.heap.size, 3, none⟩ = some (.int .i64 t) := cell_of_row (w.alloc _) _ 3 _ _ _ (heap_alloc_new _ _)
  have m4 : (w.alloc (.cells #[.string st, .int .i64 i, .slice fa fn fc, .int .i64 t, .int .i64 bv] 47)).drew.cell? ⟨w.heap.size, 4, none⟩ = some (.int .i64 bv) := cell_of_row (w.alloc _) _ 4 _ _ _ (heap_alloc_new _ _)
  have hkW : Keep lo hi w (w.alloc (.cells #[.string st, .int .i64 i, .slice fa fn fc, .int .i64 t, .int .i64 bv] 47)).drew := Keep.of_below hA hlo
  obtain ⟨gh, ch, eh, -, -, hch, -, -, -⟩ := hsW.vw.h.set (i := k) (j := 0) hk (by omega) undef (fun i' j' => if i' = k ∧ j' = 0 then undef else hpCell V.held xs i' j') (fun _ _ _ _ => rfl)
  obtain ⟨ga, ca, ea, hca, hla, hza, fza, cca, hgap, hst2⟩ := hsW.setAt hk hil (t : Int)
  subst eh
  have hcA := hsW.vw.cellA hk
  rw [ea] at hcA
  have hgaN : ga ≠ w.heap.size := by
    have := ht2 k hk ga (by rw [ea]; rfl)
    omega
  have hgah : ga ≠ gh := fun e => own_apart' (hsW.vw.at_ k hk) hsW.vw.h (by decide) ga (by rw [ea]; rfl) (by rw [e]; rfl)
  have hgam : mp ≠ ga := fun e => own_ne_map (hsW.vw.at_ k hk) hsW.mpb (by rw [ea, e]; rfl)
  have hga_hi : ga < hi := ht2 k hk ga (by rw [ea]; rfl)
  have p1 : (w.alloc (.cells #[.string st, .int .i64 i, .slice fa fn fc, .int .i64 t, .int .i64 bv] 47)).drew.cell? ⟨p, 1, none⟩ = some (.slice (some ⟨gh, 0, none⟩) V.held.length ch) := cell_of_row _ p 1 _ _ _ hsW.blk
  have p5 : (w.alloc (.cells #[.string st, .int .i64 i, .slice fa fn fc, .int .i64 t, .int .i64 bv] 47)).drew.cell? ⟨p, 5, none⟩ = some (.map (some mp)) := cell_of_row _ p 5 _ _ _ hsW.blk
  have hlk := lookPlace hsW.mpb st hf
  have hlk2 : ∀ u, (Instr.lookup 94 (.map (some mp)) (.string st) false).run Try.prog ((w.alloc (.cells #[.string st, .int .i64 i, .slice fa fn fc, .int .i64 t, .int .i64 bv] 47)).drew.setCell ⟨ga, i, none⟩ u) = .ok (.int .i64 k) ((w.alloc (.cells #[.string st, .int .i64 i, .slice fa fn fc, .int .i64 t, .int .i64 bv] 47)).drew.setCell ⟨ga, i, none⟩ u) :=
    fun u => lookPlace ((setCell_other _ u hgam).trans hsW.mpb) st hf
  have hmz : (w.alloc (.cells #[.string st, .int .i64 i, .slice fa fn fc, .int .i64 t, .int .i64 bv] 47)).drew.heap.size = w.heap.size + 1 := World.size_alloc _ _
  have HLK2 := Lib.hid hlk2
  have HST2 := Lib.hid hst2
  have HB := Lib.hid hbv
  have HR := Lib.hid hrm
  have HDO := Lib.hid hdo
  have HOK := Lib.hid hok'
  have HRF := Lib.hid hrf'
  generalize hal : (V.held.getD k default).at_.length = al at *
  clear hlk2 hst2 hs hsW hbv hrm hdo hok' hrf' hok hrf h1 h2 h4 h5 hA hid
  go_enter Try.func48, Try.ntmps48
  go_upto_region 1 with fail
  refine wp_region_held_drew (S := fun w' => w'.cell? ⟨p, 1, none⟩ = some (.slice (some ⟨gh, 0, none⟩) V.held.length ch) ∧ w'.cell? ⟨p, 5, none⟩ = some (.map (some mp)) ∧ (Instr.lookup 94 (.map (some mp)) (.string st) false).run Try.prog w' = .ok (.int .i64 k) w' ∧ w'.cell? ⟨gh, k * 7 + 6, none⟩ = some (.slice (some ⟨ga, 0, none⟩) al ca) ∧ w'.cell? ⟨w.heap.size, 0, none⟩ = some (.string st) ∧ w'.cell? ⟨w.heap.size, 1, none⟩ = some (.int .i64 i) ∧ w'.cell? ⟨w.heap.size, 3, none⟩ = some (.int .i64 t)) (by kernel_rfl) ⟨p1, p5, hlk, hcA, m0, m1, m3⟩ (fun hHeld => ?_)
  generalize (w.alloc (.cells #[.string st, .int .i64 i, .slice fa fn fc, .int .i64 t, .int .i64 bv] 47)).drew = W at *
  clear hlk
  refine wpAnyH_take (i := 0) (v := ?_) rfl (by kernel_rfl) (by kernel_rfl) (by kernel_rfl) (fun _ _ _ h => h) (Or.inl ⟨by rfl, ?_⟩) (by assumption) ?_
  rotate_left; · (intro w hSw; (try dsimp only at hSw); go_simp; try with_reducible rfl)
  try simp only [Act.put, List.getElem_toArray, List.getElem_cons_zero, List.getElem_cons_succ, List.setIfInBounds_toArray, List.set_cons_zero, List.set_cons_succ]
  refine wpAnyH_take (i := 1) (v := ?_) rfl (by kernel_rfl) (by kernel_rfl) (by kernel_rfl) (fun _ _ _ h => h) (Or.inl ⟨by rfl, ?_⟩) (by assumption) ?_
  rotate_left; · (intro w hSw; (try dsimp only at hSw); go_simp; try with_reducible rfl)
  try simp only [Act.put, List.getElem_toArray, List.getElem_cons_zero, List.getElem_cons_succ, List.setIfInBounds_toArray, List.set_cons_zero, List.set_cons_succ]
  refine wpAnyH_take (i := 2) (v := ?_) rfl (by kernel_rfl) (by kernel_rfl) (by kernel_rfl) (fun _ _ _ h => h) (Or.inl ⟨by rfl, ?_⟩) (by assumption) ?_
  rotate_left; · (intro w hSw; (try dsimp only at hSw); go_simp; try with_reducible rfl)
  try simp only [Act.put, List.getElem_toArray, List.getElem_cons_zero, List.getElem_cons_succ, List.setIfInBounds_toArray, List.set_cons_zero, List.set_cons_succ]
  refine wpAnyH_take (i := 3) (v := ?_) rfl (by kernel_rfl) (by kernel_rfl) (by kernel_rfl) (fun _ _ _ h => h) (Or.inl ⟨by rfl, ?_⟩) (by assumption) ?_
  rotate_left; · (intro w hSw; (try dsimp only at hSw); go_simp; try with_reducible rfl)
  try simp only [Act.put, List.getElem_toArray, List.getElem_cons_zero, List.getElem_cons_succ, List.setIfInBounds_toArray, List.set_cons_zero, List.set_cons_succ]
  refine wpAnyH_take (i := 4) (v := ?_) rfl (by kernel_rfl) (by kernel_rfl) (by kernel_rfl) (fun _ _ _ h => h) (Or.inl ⟨by rfl, ?_⟩) (by assumption) ?_
  rotate_left; · (intro w hSw; (try dsimp only at hSw); go_simp; try with_reducible rfl)
  try simp only [Act.put, List.getElem_toArray, List.getElem_cons_zero, List.getElem_cons_succ, List.setIfInBounds_toArray, List.set_cons_zero, List.set_cons_succ]
  refine wpAnyH_take (i := 5) (v := ?_) rfl (by kernel_rfl) (by kernel_rfl) (by kernel_rfl) (fun _ _ _ h => h) (Or.inl ⟨by rfl, ?_⟩) (by assumption) ?_
  rotate_left; · (intro w hSw; (try dsimp only at hSw); go_simp; try with_reducible rfl)
  try simp only [Act.put, List.getElem_toArray, List.getElem_cons_zero, List.getElem_cons_succ, List.setIfInBounds_toArray, List.set_cons_zero, List.set_cons_succ]
  refine wpAnyH_take (i := 6) (v := ?_) rfl (by kernel_rfl) (by kernel_rfl) (by kernel_rfl) (fun _ _ _ h => h) (Or.inl ⟨by rfl, ?_⟩) (by assumption) ?_
  rotate_left; · (intro w hSw; (try dsimp only at hSw); go_simp; try with_reducible rfl)
  try simp only [Act.put, List.getElem_toArray, List.getElem_cons_zero, List.getElem_cons_succ, List.setIfInBounds_toArray, List.set_cons_zero, List.set_cons_succ]
  refine wpAnyH_take (i := 7) (v := ?_) rfl (by kernel_rfl) (by kernel_rfl) (by kernel_rfl) (fun _ _ _ h => h) (Or.inl ⟨by rfl, ?_⟩) (by assumption) ?_
  rotate_left; · (intro w hSw; (try dsimp only at hSw); go_simp; try with_reducible rfl)
  try simp only [Act.put, List.getElem_toArray, List.getElem_cons_zero, List.getElem_cons_succ, List.setIfInBounds_toArray, List.set_cons_zero, List.set_cons_succ]
  refine wpAnyH_take (i := 8) (v := ?_) rfl (by kernel_rfl) (by kernel_rfl) (by kernel_rfl) (fun _ _ _ h => h) (Or.inl ⟨by rfl, ?_⟩) (by assumption) ?_
  rotate_left; · (intro w hSw; (try dsimp only at hSw); go_simp; try with_reducible rfl)
  try simp only [Act.put, List.getElem_toArray, List.getElem_cons_zero, List.getElem_cons_succ, List.setIfInBounds_toArray, List.set_cons_zero, List.set_cons_succ]
  refine wpAnyH_take (i := 9) (v := ?_) rfl (by kernel_rfl) (by kernel_rfl) (by kernel_rfl) (fun _ _ _ h => h) (Or.inl ⟨by rfl, ?_⟩) (by assumption) ?_
  rotate_left; · (intro w hSw; (try dsimp only at hSw); go_simp; try with_reducible rfl)
  try simp only [Act.put, List.getElem_toArray, List.getElem_cons_zero, List.getElem_cons_succ, List.setIfInBounds_toArray, List.set_cons_zero, List.set_cons_succ]
  refine wpAnyH_take (i := 10) (v := ?_) rfl (by kernel_rfl) (by kernel_rfl) (by kernel_rfl) (fun _ _ _ h => h) (Or.inl ⟨by rfl, ?_⟩) (by assumption) ?_
  rotate_left; · (intro w hSw; (try dsimp only at hSw); go_simp; try with_reducible rfl)
  try simp only [Act.put, List.getElem_toArray, List.getElem_cons_zero, List.getElem_cons_succ, List.setIfInBounds_toArray, List.set_cons_zero, List.set_cons_succ]
  refine wpAnyH_take (i := 11) (v := ?_) rfl (by kernel_rfl) (by kernel_rfl) (by kernel_rfl) (fun _ _ _ h => h) (Or.inl ⟨by rfl, ?_⟩) (by assumption) ?_
  rotate_left; · (intro w hSw; (try dsimp only at hSw); go_simp; try with_reducible rfl)
  try simp only [Act.put, List.getElem_toArray, List.getElem_cons_zero, List.getElem_cons_succ, List.setIfInBounds_toArray, List.set_cons_zero, List.set_cons_succ]
  refine wpAnyH_take (i := 12) (v := ?_) rfl (by kernel_rfl) (by kernel_rfl) (by kernel_rfl) (fun _ _ _ h => h) (Or.inl ⟨by rfl, ?_⟩) (by assumption) ?_
  rotate_left; · (intro w hSw; (try dsimp only at hSw); go_simp; try with_reducible rfl)
  try simp only [Act.put, List.getElem_toArray, List.getElem_cons_zero, List.getElem_cons_succ, List.setIfInBounds_toArray, List.set_cons_zero, List.set_cons_succ]
  refine wpAnyH_take (i := 13) (v := ?_) rfl (by kernel_rfl) (by kernel_rfl) (by kernel_rfl) (fun _ _ _ h => h) (Or.inl ⟨by rfl, ?_⟩) (by assumption) ?_
  rotate_left; · (intro w hSw; (try dsimp only at hSw); go_simp; try with_reducible rfl)
  try simp only [Act.put, List.getElem_toArray, List.getElem_cons_zero, List.getElem_cons_succ, List.setIfInBounds_toArray, List.set_cons_zero, List.set_cons_succ]
  refine wpAnyH_take (i := 14) (v := ?_) rfl (by kernel_rfl) (by kernel_rfl) (by kernel_rfl) (fun _ _ _ h => h) (Or.inl ⟨by rfl, ?_⟩) (by assumption) ?_
  rotate_left; · (intro w hSw; (try dsimp only at hSw); go_simp; try with_reducible rfl)
  try simp only [Act.put, List.getElem_toArray, List.getElem_cons_zero, List.getElem_cons_succ, List.setIfInBounds_toArray, List.set_cons_zero, List.set_cons_succ]
  refine wpAnyH_take (i := 15) (v := ?_) rfl (by kernel_rfl) (by kernel_rfl) (by kernel_rfl) (fun _ _ _ h => h) (Or.inl ⟨by rfl, ?_⟩) (by assumption) ?_
  rotate_left; · (intro w hSw; (try dsimp only at hSw); go_simp; try with_reducible rfl)
  try simp only [Act.put, List.getElem_toArray, List.getElem_cons_zero, List.getElem_cons_succ, List.setIfInBounds_toArray, List.set_cons_zero, List.set_cons_succ]
  refine wpAnyH_take (i := 16) (v := ?_) rfl (by kernel_rfl) (by kernel_rfl) (by kernel_rfl) (fun _ _ _ h => h) (Or.inl ⟨by rfl, ?_⟩) (by assumption) ?_
  rotate_left; · (intro w hSw; (try dsimp only at hSw); go_simp; try with_reducible rfl)
  try simp only [Act.put, List.getElem_toArray, List.getElem_cons_zero, List.getElem_cons_succ, List.setIfInBounds_toArray, List.set_cons_zero, List.set_cons_succ]
  refine wpAnyH_take (i := 17) (v := ?_) rfl (by kernel_rfl) (by kernel_rfl) (by kernel_rfl) (fun _ _ _ h => h) (Or.inl ⟨by rfl, ?_⟩) (by assumption) ?_
  rotate_left; · (intro w hSw; (try dsimp only at hSw); go_simp; try with_reducible rfl)
  try simp only [Act.put, List.getElem_toArray, List.getElem_cons_zero, List.getElem_cons_succ, List.setIfInBounds_toArray, List.set_cons_zero, List.set_cons_succ]
  refine wpAnyH_take (i := 18) (v := ?_) rfl (by kernel_rfl) (by kernel_rfl) (by kernel_rfl) (fun _ _ _ h => h) (Or.inl ⟨by rfl, ?_⟩) (by assumption) ?_
  rotate_left; · (intro w hSw; (try dsimp only at hSw); go_simp; try with_reducible rfl)
  try simp only [Act.put, List.getElem_toArray, List.getElem_cons_zero, List.getElem_cons_succ, List.setIfInBounds_toArray, List.set_cons_zero, List.set_cons_succ]
  refine wpAnyH_take (i := 19) (v := ?_) rfl (by kernel_rfl) (by kernel_rfl) (by kernel_rfl) (fun _ _ _ h => h) (Or.inl ⟨by rfl, ?_⟩) (by assumption) ?_
  rotate_left; · (intro w hSw; (try dsimp only at hSw); go_simp; try with_reducible rfl)
  try simp only [Act.put, List.getElem_toArray, List.getElem_cons_zero, List.getElem_cons_succ, List.setIfInBounds_toArray, List.set_cons_zero, List.set_cons_succ]
  refine wpAnyH_take (i := 20) (v := ?_) rfl (by kernel_rfl) (by kernel_rfl) (by kernel_rfl) (fun _ _ _ h => h) (Or.inl ⟨by rfl, ?_⟩) (by assumption) ?_
  rotate_left; · (intro w hSw; (try dsimp only at hSw); go_simp; try with_reducible rfl)
  try simp only [Act.put, List.getElem_toArray, List.getElem_cons_zero, List.getElem_cons_succ, List.setIfInBounds_toArray, List.set_cons_zero, List.set_cons_succ]
  refine wpAnyH_take (i := 21) (v := ?_) rfl (by kernel_rfl) (by kernel_rfl) (by kernel_rfl) (fun _ _ _ h => h) (Or.inl ⟨by rfl, ?_⟩) (by assumption) ?_
  rotate_left; · (intro w hSw; (try dsimp only at hSw); go_simp; try with_reducible rfl)
  try simp only [Act.put, List.getElem_toArray, List.getElem_cons_zero, List.getElem_cons_succ, List.setIfInBounds_toArray, List.set_cons_zero, List.set_cons_succ]
  refine wpAnyH_ready (rs := [22]) (by kernel_rfl) (by simp) ?_
  refine AllReadyH.cons rfl (fun K hK => ?_) AllReadyH.nil
  go_simp
  refine hK.out _ _ ⟨(world_off hgap _ _).trans p1, (world_off hgap _ _).trans p5, HLK2.out _, (world_off hgah _ _).trans hcA, (world_off hgaN _ _).trans m0, (world_off hgaN _ _).trans m1, (world_off hgaN _ _).trans m3⟩ (fun hNew => ?_)
  clear hK K hNew hHeld
  try simp only [Act.put, List.getElem_toArray, List.getElem_cons_zero, List.getElem_cons_succ, List.setIfInBounds_toArray, List.set_cons_zero, List.set_cons_succ]
  refine wpAnyH_done (by kernel_rfl) ?_ _
  have hk2 := hkW.trans (Keep.set (hi := hi) (i := i) W (.int .i64 t) hla hga_hi)
  have hs2 := HST2.out.below (Below.refl _ _).drew
  have n3 : (W.setCell ⟨ga, i, none⟩ (.int .i64 t)).drew.cell? ⟨w.heap.size, 3, none⟩ = some (.int .i64 t) := (world_off hgaN i (.int .i64 t)).trans m3
  have n4 : (W.setCell ⟨ga, i, none⟩ (.int .i64 t)).drew.cell? ⟨w.heap.size, 4, none⟩ = some (.int .i64 bv) := (world_off hgaN i (.int .i64 t)).trans m4
  have hk3 : Keep lo hi w (W.setCell ⟨ga, i, none⟩ (.int .i64 t)).drew := ⟨hk2.1.drew, hk2.2⟩
  clear p1 p5 hcA m0 m1 m3 m4 hkW hk2 HLK2 HST2 fza cca hmz
  obtain ⟨gr, cr, er, hcr, hlr, hzr, fzr, ccr, hgrp, hst3⟩ := hs2.setRoom (show t < V.room.length by omega) (rm - bv)
  subst er
  have p2 := cell_of_row _ p 2 _ _ _ hs2.blk
  have ccr' : (W.setCell ⟨ga, i, none⟩ (.int .i64 t)).drew.cell? ⟨gr, t, none⟩ = some (.int .i64 rm) := ccr.trans (congrArg (fun x => some (Value.int .i64 x)) HR.out.symm)
  have hgr_hi : gr < hi := ht1 gr rfl
  have hgrN : gr ≠ w.heap.size := by omega
  have hrl : V.room.length = V.mem.length := a3
  have HST3 := Lib.hid hst3
  have hrl2 : t < V.room.length := by omega
  rw [show (setAtP V k i t).room.length = V.room.length from rfl] at p2 hcr
  clear hst3 hs2 ccr
  go_upto_region 2 with fail
  refine wp_region_held_drew (S := fun w' => w'.cell? ⟨p, 2, none⟩ = some (.slice (some ⟨gr, 0, none⟩) V.room.length cr) ∧ w'.cell? ⟨w.heap.size, 3, none⟩ = some (.int .i64 t) ∧ w'.cell? ⟨w.heap.size, 4, none⟩ = some (.int .i64 bv)) (by kernel_rfl) ⟨p2, n3, n4⟩ (fun hHeld => ?_)
  generalize (W.setCell ⟨ga, i, none⟩ (.int .i64 t)).drew = W2 at *
  refine wpAnyH_take (i := 0) (v := ?_) rfl (by kernel_rfl) (by kernel_rfl) (by kernel_rfl) (fun _ _ _ h => h) (Or.inl ⟨by rfl, ?_⟩) (by assumption) ?_
  rotate_left; · (intro w hSw; (try dsimp only at hSw); go_simp; try with_reducible rfl)
  try simp only [Act.put, List.getElem_toArray, List.getElem_cons_zero, List.getElem_cons_succ, List.setIfInBounds_toArray, List.set_cons_zero, List.set_cons_succ]
  refine wpAnyH_take (i := 1) (v := ?_) rfl (by kernel_rfl) (by kernel_rfl) (by kernel_rfl) (fun _ _ _ h => h) (Or.inl ⟨by rfl, ?_⟩) (by assumption) ?_
  rotate_left; · (intro w hSw; (try dsimp only at hSw); go_simp; try with_reducible rfl)
  try simp only [Act.put, List.getElem_toArray, List.getElem_cons_zero, List.getElem_cons_succ, List.setIfInBounds_toArray, List.set_cons_zero, List.set_cons_succ]
  refine wpAnyH_take (i := 2) (v := ?_) rfl (by kernel_rfl) (by kernel_rfl) (by kernel_rfl) (fun _ _ _ h => h) (Or.inl ⟨by rfl, ?_⟩) (by assumption) ?_
  rotate_left; · (intro w hSw; (try dsimp only at hSw); go_simp; try with_reducible rfl)
  try simp only [Act.put, List.getElem_toArray, List.getElem_cons_zero, List.getElem_cons_succ, List.setIfInBounds_toArray, List.set_cons_zero, List.set_cons_succ]
  refine wpAnyH_take (i := 3) (v := ?_) rfl (by kernel_rfl) (by kernel_rfl) (by kernel_rfl) (fun _ _ _ h => h) (Or.inl ⟨by rfl, ?_⟩) (by assumption) ?_
  rotate_left; · (intro w hSw; (try dsimp only at hSw); go_simp; try with_reducible rfl)
  try simp only [Act.put, List.getElem_toArray, List.getElem_cons_zero, List.getElem_cons_succ, List.setIfInBounds_toArray, List.set_cons_zero, List.set_cons_succ]
  refine wpAnyH_take (i := 4) (v := ?_) rfl (by kernel_rfl) (by kernel_rfl) (by kernel_rfl) (fun _ _ _ h => h) (Or.inl ⟨by rfl, ?_⟩) (by assumption) ?_
  rotate_left; · (intro w hSw; (try dsimp only at hSw); go_simp; try with_reducible rfl)
  try simp only [Act.put, List.getElem_toArray, List.getElem_cons_zero, List.getElem_cons_succ, List.setIfInBounds_toArray, List.set_cons_zero, List.set_cons_succ]
  refine wpAnyH_take (i := 5) (v := ?_) rfl (by kernel_rfl) (by kernel_rfl) (by kernel_rfl) (fun _ _ _ h => h) (Or.inl ⟨by rfl, ?_⟩) (by assumption) ?_
  rotate_left; · (intro w hSw; (try dsimp only at hSw); go_simp; try with_reducible rfl)
  try simp only [Act.put, List.getElem_toArray, List.getElem_cons_zero, List.getElem_cons_succ, List.setIfInBounds_toArray, List.set_cons_zero, List.set_cons_succ]
  refine wpAnyH_take (i := 6) (v := ?_) rfl (by kernel_rfl) (by kernel_rfl) (by kernel_rfl) (fun _ _ _ h => h) (Or.inl ⟨by rfl, ?_⟩) (by assumption) ?_
  rotate_left; · (intro w hSw; (try dsimp only at hSw); go_simp; try with_reducible rfl)
  try simp only [Act.put, List.getElem_toArray, List.getElem_cons_zero, List.getElem_cons_succ, List.setIfInBounds_toArray, List.set_cons_zero, List.set_cons_succ]
  refine wpAnyH_take (i := 7) (v := ?_) rfl (by kernel_rfl) (by kernel_rfl) (by kernel_rfl) (fun _ _ _ h => h) (Or.inl ⟨by rfl, ?_⟩) (by assumption) ?_
  rotate_left; · (intro w hSw; (try dsimp only at hSw); go_simp; try with_reducible rfl)
  try simp only [Act.put, List.getElem_toArray, List.getElem_cons_zero, List.getElem_cons_succ, List.setIfInBounds_toArray, List.set_cons_zero, List.set_cons_succ]
  refine wpAnyH_take (i := 9) (v := ?_) rfl (by kernel_rfl) (by kernel_rfl) (by kernel_rfl) (fun _ _ _ h => h) (Or.inl ⟨by rfl, ?_⟩) (by assumption) ?_
  rotate_left; · (intro w hSw; (try dsimp only at hSw); go_simp; try with_reducible rfl)
  try simp only [Act.put, List.getElem_toArray, List.getElem_cons_zero, List.getElem_cons_succ, List.setIfInBounds_toArray, List.set_cons_zero, List.set_cons_succ]
  refine wpAnyH_take (i := 10) (v := ?_) rfl (by kernel_rfl) (by kernel_rfl) (by kernel_rfl) (fun _ _ _ h => h) (Or.inl ⟨by rfl, ?_⟩) (by assumption) ?_
  rotate_left; · (intro w hSw; (try dsimp only at hSw); go_simp; try with_reducible rfl)
  try simp only [Act.put, List.getElem_toArray, List.getElem_cons_zero, List.getElem_cons_succ, List.setIfInBounds_toArray, List.set_cons_zero, List.set_cons_succ]
  refine wpAnyH_ready (rs := [8]) (by kernel_rfl) (by simp) ?_
  refine AllReadyH.cons rfl (fun K hK => ?_) AllReadyH.nil
  go_simp
  refine hK.out _ _ hHeld (fun hNew => ?_)
  clear hK K hNew
  try simp only [Act.put, List.getElem_toArray, List.getElem_cons_zero, List.getElem_cons_succ, List.setIfInBounds_toArray, List.set_cons_zero, List.set_cons_succ]
  refine wpAnyH_take (i := 11) (v := ?_) rfl (by kernel_rfl) (by kernel_rfl) (by kernel_rfl) (fun _ _ _ h => h) (Or.inl ⟨by rfl, ?_⟩) (by assumption) ?_
  rotate_left; · (intro w hSw; (try dsimp only at hSw); go_simp; try with_reducible rfl)
  try simp only [Act.put, List.getElem_toArray, List.getElem_cons_zero, List.getElem_cons_succ, List.setIfInBounds_toArray, List.set_cons_zero, List.set_cons_succ]
  refine wpAnyH_take (i := 12) (v := ?_) rfl (by kernel_rfl) (by kernel_rfl) (by kernel_rfl) (fun _ _ _ h => h) (Or.inl ⟨by rfl, ?_⟩) (by assumption) ?_
  rotate_left; · (intro w hSw; (try dsimp only at hSw); go_simp; try with_reducible rfl)
  try simp only [Act.put, List.getElem_toArray, List.getElem_cons_zero, List.getElem_cons_succ, List.setIfInBounds_toArray, List.set_cons_zero, List.set_cons_succ]
  refine wpAnyH_ready (rs := [13]) (by kernel_rfl) (by simp) ?_
  refine AllReadyH.cons rfl (fun K hK => ?_) AllReadyH.nil
  go_simp
  refine hK.out _ _ ⟨(world_off hgrp _ _).trans p2, (world_off hgrN _ _).trans n3, (world_off hgrN _ _).trans n4⟩ (fun hNew => ?_)
  clear hK K hNew hHeld
  try simp only [Act.put, List.getElem_toArray, List.getElem_cons_zero, List.getElem_cons_succ, List.setIfInBounds_toArray, List.set_cons_zero, List.set_cons_succ]
  refine wpAnyH_done (by kernel_rfl) ?_ _
  go_wp2
  have hwr : IntKind.i64.wrap (rm - bv) = rm - bv := by rw [IntKind.wrap_i64]; omega
  rw [hwr]
  have hfin := HST3.out
  have hpl : placesL V.held 0 = placesL (setRoomP (setAtP V k i t) t (rm - bv)).held 0 := (placesL_congr _ _ _ setAt_ids).symm
  rw [hpl] at hfin
  have hk4 := hk3.trans (Keep.set (hi := hi) (i := t) W2 (.int .i64 (rm - bv)) hlr hgr_hi)
  refine bodyPost_end (results_none Try.results48 _ _ _) rfl ⟨rfl, ⟨⟨_, _, _, _, _, _, xs, hfin, fun g hg => ht1 g hg, fun m hm g hg => ht2 m (by rw [show (setRoomP (setAtP V k i t) t (rm - bv)).held.length = V.held.length from setAt_len] at hm; exact hm) g hg⟩, HOK.out, HRF.out⟩, hk4⟩

end Go.Proofs.Ytijcicgbhcphjaa
