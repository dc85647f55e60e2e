/- The state after a job. -/
import Derived.Test.YtijcicgbhcphjaaC3
namespace Go.Proofs.Ytijcicgbhcphjaa
open Go.RowKit Go.Lib Go.ChangeMaps
set_option linter.unusedSimpArgs false

def setAtP (V : Vp) (k i : Nat) (d : Int) : Vp := { V with held := V.held.set k { V.held.getD k default with at_ := (V.held.getD k default).at_.set i d } }
def setRoomP (V : Vp) (d : Nat) (x : Int) : Vp := { V with room := V.room.set d x }

section
variable {V : Vp} {k i : Nat} {d : Int}
theorem setAt_len : (setAtP V k i d).held.length = V.held.length := by simp [setAtP]
theorem setAt_self (hk : k < V.held.length) : (setAtP V k i d).held.getD k default = { V.held.getD k default with at_ := (V.held.getD k default).at_.set i d } := by
  unfold setAtP
  simp only
  rw [getD_set_self _ _ _ _ hk]
theorem setAt_ne {m : Nat} (h : m ≠ k) : (setAtP V k i d).held.getD m default = V.held.getD m default := by
  unfold setAtP
  simp only
  rw [getD_set_ne _ _ _ h]
theorem setAt_fields (m : Nat) : ((setAtP V k i d).held.getD m default).id = (V.held.getD m default).id ∧ ((setAtP V k i d).held.getD m default).vault = (V.held.getD m default).vault ∧
    ((setAtP V k i d).held.getD m default).block = (V.held.getD m default).block ∧ ((setAtP V k i d).held.getD m default).data = (V.held.getD m default).data ∧
    ((setAtP V k i d).held.getD m default).total = (V.held.getD m default).total ∧ ((setAtP V k i d).held.getD m default).refs = (V.held.getD m default).refs := by
  by_cases hm : m = k
  · subst hm
    by_cases hl : m < V.held.length
    · rw [setAt_self hl]; exact ⟨rfl, rfl, rfl, rfl, rfl, rfl⟩
    · have : (setAtP V m i d).held.getD m default = V.held.getD m default := by
        unfold setAtP
        rw [List.set_eq_of_length_le (by omega)]
      rw [this]; exact ⟨rfl, rfl, rfl, rfl, rfl, rfl⟩
  · rw [setAt_ne hm]; exact ⟨rfl, rfl, rfl, rfl, rfl, rfl⟩
theorem hpCell_setAt (xs : List (Value × Value)) (a b : Nat) : hpCell (setAtP V k i d).held xs a b = hpCell V.held xs a b := by
  obtain ⟨h1, h2, h3, h4, h5, h6⟩ := setAt_fields (V := V) (k := k) (i := i) (d := d) a
  unfold hpCell
  rw [h1, h2, h3, h4, h5]
theorem placesL_congr : ∀ (hs hs' : List Hp) (c : Nat), hs.map Hp.id = hs'.map Hp.id → placesL hs c = placesL hs' c
  | [], [], _, _ => rfl
  | [], _ :: _, _, h => by simp at h
  | _ :: _, [], _, h => by simp at h
  | x :: r, y :: s, c, h => by
    simp only [List.map_cons, List.cons.injEq] at h
    simp only [placesL, h.1, placesL_congr r s (c + 1) h.2]
theorem setAt_ids : (setAtP V k i d).held.map Hp.id = V.held.map Hp.id := by
  unfold setAtP
  rw [List.map_set]
  apply List.ext_getElem?
  intro a
  rw [List.getElem?_set]
  split
  · rename_i h
    subst h
    by_cases hl : k < V.held.length
    · rw [if_pos (by simpa using hl)]
      simp [List.getD, hl]
    · rw [if_neg (by simpa using hl)]
      simp [hl]
  · rfl
end

section
variable {w : World} {lo p : Nat} {mv hv rv wv gv : Value} {mp : Nat} {xs : List (Value × Value)} {V : Vp} {gone : Nat → Bool} {L : List (ByteArray × Value)}

theorem StR.setAt (h : StR w lo p mv hv rv wv gv mp xs V gone L) {k i : Nat} (hk : k < V.held.length) (hi : i < (V.held.getD k default).at_.length) (d : Int) :
    ∃ g c, xsA xs k = .slice (some ⟨g, 0, none⟩) (V.held.getD k default).at_.length c ∧ (V.held.getD k default).at_.length ≤ c ∧ lo ≤ g ∧ g < w.heap.size ∧ w.frozen? ⟨g, i, none⟩ = false ∧ w.cell? ⟨g, i, none⟩ = some (.int .i64 ((V.held.getD k default).at_.getD i 0)) ∧ g ≠ p ∧
      StR (w.setCell ⟨g, i, none⟩ (.int .i64 d)) lo p mv hv rv wv gv mp xs (setAtP V k i d) gone L := by
  obtain ⟨g, c, e, h1, h2, h3, h4, h5, h6⟩ := Own.set (h.vw.at_ k hk) (i := i) (j := 0) hi (by omega) (.int .i64 d) (fun a _ => .int .i64 (((V.held.getD k default).at_.set i d).getD a 0)) (fun a b ha hb => by
    have : b = 0 := by omega
    subst this
    by_cases e : a = i
    · subst e; rw [getD_set_self _ _ _ _ hi]; simp
    · rw [getD_set_ne _ _ _ e]; simp [e])
  simp only [Nat.mul_one, Nat.add_zero] at h4 h5 h6
  have hgb : (xsA xs k).ownBlock = some g := by rw [e]; rfl
  have hgp : g ≠ p := fun e' => own_ne (h.vw.at_ k hk) h.blk (by decide) (by rw [hgb, e'])
  have hgm : g ≠ mp := fun e' => own_ne_map (h.vw.at_ k hk) h.mpb (by rw [hgb, e'])
  have hs : ∀ q, q ≠ g → (w.setCell ⟨g, i, none⟩ (.int .i64 d)).heap[q]? = w.heap[q]? := fun q hq => setCell_other w _ hq
  have ho : ∀ {t : TypeId} {v : Value} {k' n : Nat} {f : Nat → Nat → Value}, Own w lo t v k' n f → 3 ≠ t → Own (w.setCell ⟨g, i, none⟩ (.int .i64 d)) lo t v k' n f := fun o ht => o.same fun q hq => hs q (fun e' => by
    subst e'
    exact own_apart' (h.vw.at_ k hk) o ht q hgb hq)
  have h6' : OwnI (w.setCell ⟨g, i, none⟩ (.int .i64 d)) lo (xsA xs k) ((V.held.getD k default).at_.set i d) := by
    unfold OwnI
    rw [List.length_set]
    exact h6
  have hl := setAt_len (V := V) (k := k) (i := i) (d := d)
  refine ⟨g, c, e, h3, h1, h2, h4, h5, hgp, (hs p (Ne.symm hgp)).trans h.blk, ⟨ho h.vw.m (by decide), ?_, ?_, ?_, ?_, ?_, fun m hm => ?_, fun m hm => ?_, h.vw.apRW, ?_, ?_, ?_⟩, ho h.gn (by decide), (hs mp (Ne.symm hgm)).trans h.mpb, h.lop, h.lom⟩
  · rw [hl]
    exact (ho h.vw.h (by decide)).congr fun a b _ _ => (hpCell_setAt xs a b).symm
  · exact Own.same h.vw.r fun q hq => hs q (fun e' => h.vw.apRA k hk q hq (by rw [e']; exact hgb))
  · exact Own.same h.vw.wt fun q hq => hs q (fun e' => h.vw.apWA k hk q hq (by rw [e']; exact hgb))
  · rw [hl]; exact h.vw.len
  · exact Nat.le_refl _
  · rw [hl] at hm
    rw [(setAt_fields m).2.2.2.2.2]
    exact ho (h.vw.rf m hm) (by decide)
  · rw [hl] at hm
    by_cases e' : m = k
    · subst e'; rw [setAt_self hk]; exact h6'
    · rw [setAt_ne e']
      exact Own.same (h.vw.at_ m hm) fun q hq => hs q (fun e2 => h.vw.apAA m k hm hk e' q hq (by rw [e2]; exact hgb))
  · rw [hl]; exact h.vw.apRA
  · rw [hl]; exact h.vw.apWA
  · rw [hl]; exact h.vw.apAA

theorem StR.setRoom (h : StR w lo p mv hv rv wv gv mp xs V gone L) {i : Nat} (hi : i < V.room.length) (x : Int) :
    ∃ g c, rv = .slice (some ⟨g, 0, none⟩) V.room.length c ∧ V.room.length ≤ c ∧ lo ≤ g ∧ g < w.heap.size ∧ w.frozen? ⟨g, i, none⟩ = false ∧ w.cell? ⟨g, i, none⟩ = some (.int .i64 (V.room.getD i 0)) ∧ g ≠ p ∧
      StR (w.setCell ⟨g, i, none⟩ (.int .i64 x)) lo p mv hv rv wv gv mp xs (setRoomP V i x) gone L := by
  obtain ⟨g, c, e, h1, h2, h3, h4, h5, h6⟩ := Own.set h.vw.r (i := i) (j := 0) hi (by omega) (.int .i64 x) (fun a _ => .int .i64 ((V.room.set i x).getD a 0)) (fun a b ha hb => by
    have : b = 0 := by omega
    subst this
    by_cases e : a = i
    · subst e; rw [getD_set_self _ _ _ _ hi]; simp
    · rw [getD_set_ne _ _ _ e]; simp [e])
  simp only [Nat.mul_one, Nat.add_zero] at h4 h5 h6
  subst e
  have hgp : g ≠ p := fun e' => own_ne h.vw.r h.blk (by decide) (by simp [Value.ownBlock, e'])
  have hgm : g ≠ mp := fun e' => own_ne_map h.vw.r h.mpb (by simp [Value.ownBlock, e'])
  have hs : ∀ q, q ≠ g → (w.setCell ⟨g, i, none⟩ (.int .i64 x)).heap[q]? = w.heap[q]? := fun q hq => setCell_other w _ hq
  have ho : ∀ {t : TypeId} {v : Value} {k' n : Nat} {f : Nat → Nat → Value}, Own w lo t v k' n f → 3 ≠ t → Own (w.setCell ⟨g, i, none⟩ (.int .i64 x)) lo t v k' n f := fun o ht => o.same fun q hq => hs q (fun e' => by
    subst e'
    exact own_apart' h.vw.r o ht q rfl hq)
  have h6' : OwnI (w.setCell ⟨g, i, none⟩ (.int .i64 x)) lo (.slice (some ⟨g, 0, none⟩) V.room.length c) (V.room.set i x) := by
    unfold OwnI
    rw [List.length_set]
    exact h6
  exact ⟨g, c, rfl, h3, h1, h2, h4, h5, hgp, (hs p (Ne.symm hgp)).trans h.blk, ⟨ho h.vw.m (by decide), ho h.vw.h (by decide), h6',
    Own.same h.vw.wt fun q hq => hs q (fun e' => h.vw.apRW g rfl (by rw [← e']; exact hq)), h.vw.len, h.vw.jn, fun m hm => ho (h.vw.rf m hm) (by decide),
    fun m hm => Own.same (h.vw.at_ m hm) fun q hq => hs q (fun e' => h.vw.apRA m hm g rfl (by rw [← e']; exact hq)), h.vw.apRW, h.vw.apRA, h.vw.apWA, h.vw.apAA⟩, ho h.gn (by decide), (hs mp (Ne.symm hgm)).trans h.mpb, h.lop, h.lom⟩
end

/-- What changes lies between lo and hi, or is new. -/
def Keep (lo hi : Nat) (w w' : World) : Prop := Below lo w w' ∧ ∀ g, hi ≤ g → g < w.heap.size → w'.heap[g]? = w.heap[g]?
theorem Keep.refl (lo hi : Nat) (w : World) : Keep lo hi w w := ⟨Below.refl _ _, fun _ _ _ => rfl⟩
theorem Keep.trans {lo hi : Nat} {a b c : World} (h1 : Keep lo hi a b) (h2 : Keep lo hi b c) : Keep lo hi a c :=
  ⟨h1.1.trans h2.1, fun g hg hs => (h2.2 g hg (Nat.lt_of_lt_of_le hs h1.1.size)).trans (h1.2 g hg hs)⟩
theorem Keep.of_below {lo hi : Nat} {a b : World} (h : Below a.heap.size a b) (hl : lo ≤ a.heap.size) : Keep lo hi a b := ⟨h.mono hl, fun g _ hs => h.block g hs⟩
theorem Keep.set {lo hi g i : Nat} (w : World) (u : Value) (h1 : lo ≤ g) (h2 : g < hi) : Keep lo hi w (w.setCell ⟨g, i, none⟩ u) :=
  ⟨Below.setCell (Below.refl _ _) h1 _, fun q hq _ => setCell_other w u (by omega)⟩

end Go.Proofs.Ytijcicgbhcphjaa
