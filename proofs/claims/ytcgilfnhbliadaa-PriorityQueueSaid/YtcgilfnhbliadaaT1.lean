/- A queue's map: tasks at their pieces. -/
import Derived.Test.YtcgilfnhbliadaaE1
import Derived.Maps.RangeRun
namespace Go.Proofs.Ytcgilfnhbliadaa
open Go.RowKit Go.Lib Go.ChangeMaps
set_option linter.unusedSimpArgs false

def Tk.pc (t : Tk) : Pc := ⟨t.st, t.ix⟩
/-- The map's entries: each task with its stamp. -/
def qents (L : List (Tk × Nat)) : List MapEntry := L.map fun p => ⟨p.1.pc.v, p.1.v, p.2⟩
def qObj (L : List (Tk × Nat)) (ck : Nat) : Obj := .map (qents L).toArray ck
def seekQ (a : Pc) : List (Tk × Nat) → Nat → Option (Nat × Value)
  | [], _ => none
  | x :: r, i => if a = x.1.pc then some (i, x.1.v) else seekQ a r (i + 1)

theorem pc_eq (a b : Pc) : decide (a = b) = (a.st.toList == b.st.toList && a.ix == b.ix) := by
  obtain ⟨s, i⟩ := a
  obtain ⟨t, j⟩ := b
  simp only [Pc.mk.injEq, str_eq]
  rw [Bool.eq_iff_iff]
  simp only [decide_eq_true_eq, Bool.and_eq_true, beq_iff_eq]
theorem eqIn23 (a b : Pc) (w : World) : (Op.equalIn 10000 23 a.v b.v).run Try.prog w = .ok (decide (a = b)) w := by
  rw [pc_eq]
  obtain ⟨s, i⟩ := a
  obtain ⟨t, j⟩ := b
  unfold Pc.v
  simp only
  go_simp
  (repeat' split) <;> simp_all
theorem eq23 (a b : Pc) (w : World) : (Op.equal 23 a.v b.v).run Try.prog w = .ok (decide (a = b)) w := eqIn23 a b w
theorem chk23 (em : Bool) (a : Pc) (w : World) : (Instr.checkKey em 10000 23 a.v).run Try.prog w = .ok () w := by
  obtain ⟨s, i⟩ := a
  kernel_rfl
theorem findAsking23 (a : Pc) (w : World) : ∀ (L : List (Tk × Nat)) (i : Nat), (Instr.findAsking 23 a.v (qents L) i).run Try.prog w = .ok (seekQ a L i) w
  | [], _ => rfl
  | x :: r, i => by
    have h1 := eq23 a x.1.pc w
    have h2 := findAsking23 a w r (i + 1)
    simp only [qents, List.map_cons, Instr.findAsking, seekQ] at h2 ⊢
    by_cases e : a = x.1.pc
    · simp only [e, decide_true] at h1; simp [h1, e, Result.andThen]
    · simp only [e, decide_false] at h1; simp [h1, e, h2, Result.andThen]
theorem findKey23 (a : Pc) (L : List (Tk × Nat)) (w : World) : (Instr.findKey 23 a.v (qents L)).run Try.prog w = .ok (seekQ a L 0) w := by
  unfold Instr.findKey
  cases L with
  | nil => simp [run_underlying Try.underlying23, qents, Instr.findNow, seekQ, Result.andThen]
  | cons x r =>
    have h := findAsking23 a w (x :: r) 0
    simp only [qents, List.map_cons] at h ⊢
    simp [run_underlying Try.underlying23, Instr.findNow, Instr.sameNow, Result.andThen]
    exact h

theorem seekQ_none {a : Pc} : ∀ {L : List (Tk × Nat)} {i : Nat}, seekQ a L i = none ↔ a ∉ L.map (·.1.pc)
  | [], i => by simp [seekQ]
  | x :: r, i => by
    unfold seekQ
    split
    · rename_i h; simp [h]
    · rename_i h; rw [seekQ_none (L := r)]; simp [h]
theorem seekQ_some {a : Pc} : ∀ {L : List (Tk × Nat)} {i : Nat} {p : Nat × Value}, seekQ a L i = some p → ∃ k x, p.1 = i + k ∧ L[k]? = some x ∧ x.1.pc = a ∧ p.2 = x.1.v
  | [], _, _, h => by simp [seekQ] at h
  | x :: r, i, p, h => by
    unfold seekQ at h
    split at h
    · rename_i hc
      cases h
      exact ⟨0, x, rfl, rfl, hc.symm, rfl⟩
    · obtain ⟨k, y, h1, h2, h3, h4⟩ := seekQ_some h
      exact ⟨k + 1, y, by omega, by simpa using h2, h3, h4⟩

/-- The task of a piece is laid in its place. -/
def modQ (t : Tk) (L : List (Tk × Nat)) : List (Tk × Nat) := L.map fun p => if p.1.pc = t.pc then (t, p.2) else p
def delQ (a : Pc) (L : List (Tk × Nat)) : List (Tk × Nat) := L.filter fun p => decide (p.1.pc ≠ a)
theorem nodup_at {L : List (Tk × Nat)} (h : (L.map (·.1.pc)).Nodup) {i j : Nat} {x y : Tk × Nat} (hi : L[i]? = some x) (hj : L[j]? = some y) (he : x.1.pc = y.1.pc) : i = j := by
  obtain ⟨hi1, hi2⟩ := List.getElem?_eq_some_iff.1 hi
  obtain ⟨hj1, hj2⟩ := List.getElem?_eq_some_iff.1 hj
  have := List.pairwise_iff_getElem.1 h
  rcases Nat.lt_trichotomy i j with hl | hl | hl
  · exact absurd (by rw [List.getElem_map, List.getElem_map, hi2, hj2]; exact he) (this i j (by simpa using hi1) (by simpa using hj1) hl)
  · exact hl
  · exact absurd (by rw [List.getElem_map, List.getElem_map, hi2, hj2]; exact he.symm) (this j i (by simpa using hj1) (by simpa using hi1) hl)
theorem modify_modQ {L : List (Tk × Nat)} (h : (L.map (·.1.pc)).Nodup) (t : Tk) {k : Nat} {x : Tk × Nat} (hk : L[k]? = some x) (hx : x.1.pc = t.pc) :
    (qents L).toArray.modify k (fun e => { e with key := t.pc.v, val := t.v }) = (qents (modQ t L)).toArray := by
  apply Array.ext_getElem?
  intro j
  rw [Array.getElem?_modify]
  simp only [List.getElem?_toArray, qents, modQ, List.getElem?_map]
  cases hj : L[j]? with
  | none => simp
  | some y =>
    simp only [Option.map_some]
    by_cases e : k = j
    · subst e
      rw [hk] at hj
      cases hj
      rw [if_pos rfl, if_pos hx]
    · rw [if_neg e, if_neg (fun h2 => e (nodup_at h hk hj (by rw [hx, h2])))]
theorem erase_delQ : ∀ {L : List (Tk × Nat)} (_ : (L.map (·.1.pc)).Nodup) (a : Pc) {k : Nat} {x : Tk × Nat} (_ : L[k]? = some x) (_ : x.1.pc = a), L.eraseIdx k = delQ a L
  | [], _, _, _, _, hk, _ => by simp at hk
  | y :: r, h, a, 0, x, hk, hx => by
    simp only [List.getElem?_cons_zero, Option.some.injEq] at hk
    subst hk
    obtain ⟨h1, h2⟩ := List.nodup_cons.1 (by simpa using h : (y.1.pc :: r.map (·.1.pc)).Nodup)
    rw [List.eraseIdx_cons_zero, delQ, List.filter_cons_of_neg (by simp [hx])]
    refine (List.filter_eq_self.2 fun p hp => ?_).symm
    simp only [decide_eq_true_eq]
    exact fun e => h1 (List.mem_map.2 ⟨p, hp, by rw [e, hx]⟩)
  | y :: r, h, a, k + 1, x, hk, hx => by
    simp only [List.getElem?_cons_succ] at hk
    obtain ⟨h1, h2⟩ := List.nodup_cons.1 (by simpa using h : (y.1.pc :: r.map (·.1.pc)).Nodup)
    have hm : x ∈ r := List.mem_of_getElem? hk
    rw [List.eraseIdx_cons_succ, erase_delQ h2 a hk hx, delQ, delQ, List.filter_cons_of_pos (by
      simp only [decide_eq_true_eq]
      exact fun e => h1 (List.mem_map.2 ⟨x, hm, by rw [hx, e]⟩))]

def delS (a : Pc) (S : List Tk) : List Tk := S.filter fun t => decide (t.pc ≠ a)
theorem delS_none {a : Pc} {S : List Tk} (h : a ∉ S.map Tk.pc) : delS a S = S := List.filter_eq_self.2 fun t ht => by
  simp only [decide_eq_true_eq]
  exact fun e => h (List.mem_map.2 ⟨t, ht, e⟩)
theorem delQ_map (a : Pc) (L : List (Tk × Nat)) : (delQ a L).map (·.1) = delS a (L.map (·.1)) := by
  unfold delQ delS
  rw [List.filter_map]
  rfl

/-- A queue: block b holds the map's block m, whose tasks are those of S. -/
def QAt (w : World) (b m : Nat) (S : List Tk) : Prop := w.heap[b]? = some (.cells #[.map (some m)] 84) ∧ ∃ L ck, w.heap[m]? = some (qObj L ck) ∧ (L.map (·.1.pc)).Nodup ∧ (L.map (·.2)).Nodup ∧ (∀ p ∈ L, p.2 < ck) ∧ (L.map (·.1)).Perm S
theorem QAt.below {w w' : World} {b m : Nat} {S : List Tk} (h : QAt w b m S) (hb : Below w.heap.size w w') : QAt w' b m S := by
  obtain ⟨h1, L, ck, h2, h3⟩ := h
  exact ⟨bb hb h1, L, ck, bb hb h2, h3⟩
theorem QAt.ne {w : World} {b m : Nat} {S : List Tk} (h : QAt w b m S) : b ≠ m := fun e => by
  obtain ⟨h1, L, ck, h2, _⟩ := h
  subst e
  rw [h1] at h2
  cases h2
theorem QAt.perm {w : World} {b m : Nat} {S S' : List Tk} (h : QAt w b m S) (hp : S.Perm S') : QAt w b m S' := by
  obtain ⟨h1, L, ck, h2, h3, h4, h5, h6⟩ := h
  exact ⟨h1, L, ck, h2, h3, h4, h5, h6.trans hp⟩
theorem QAt.nodup {w : World} {b m : Nat} {S : List Tk} (h : QAt w b m S) : (S.map Tk.pc).Nodup := by
  obtain ⟨_, L, ck, _, h3, _, _, h6⟩ := h
  have := h6.map Tk.pc
  rw [List.map_map] at this
  exact this.nodup_iff.1 h3
theorem QAt.len {w : World} {b m : Nat} {S : List Tk} (h : QAt w b m S) : ∃ L ck, w.heap[m]? = some (qObj L ck) ∧ L.length = S.length := by
  obtain ⟨_, L, ck, h2, _, _, _, h6⟩ := h
  exact ⟨L, ck, h2, by have := h6.length_eq; simpa using this⟩

theorem stays23 (a : Pc) (w : World) : (Instr.keyThatStays a.v a.v).run Try.prog w = .ok a.v w := by
  have h : (a.st == a.st) = true := by rw [beq_toListBytes]; simp
  simp [Instr.keyThatStays, Instr.sameBits, Pc.v, h]
theorem modQ_perm : ∀ {L : List (Tk × Nat)} (_ : (L.map (·.1.pc)).Nodup) (t : Tk) (_ : t.pc ∈ L.map (·.1.pc)), ((modQ t L).map (·.1)).Perm (delS t.pc (L.map (·.1)) ++ [t])
  | [], _, _, hm => by simp at hm
  | y :: r, h, t, hm => by
    obtain ⟨h1, h2⟩ := List.nodup_cons.1 (by simpa using h : (y.1.pc :: r.map (·.1.pc)).Nodup)
    simp only [List.map_cons, List.mem_cons] at hm
    by_cases e : y.1.pc = t.pc
    · have hr : ∀ p ∈ r, p.1.pc ≠ t.pc := fun p hp e2 => h1 (List.mem_map.2 ⟨p, hp, by rw [e2, e]⟩)
      have e1 : modQ t r = r := by
        unfold modQ
        conv => rhs; rw [← List.map_id r]
        exact List.map_congr_left fun p hp => if_neg (hr p hp)
      have e2 : delS t.pc ((y :: r).map (·.1)) = r.map (·.1) := by
        unfold delS
        rw [List.map_cons, List.filter_cons_of_neg (by simp [e])]
        refine List.filter_eq_self.2 fun q hq => ?_
        obtain ⟨p, hp, rfl⟩ := List.mem_map.1 hq
        simpa using hr p hp
      rw [e2]
      have e3 : modQ t (y :: r) = (t, y.2) :: r := by
        have : modQ t (y :: r) = (if y.1.pc = t.pc then (t, y.2) else y) :: modQ t r := rfl
        rw [this, if_pos e, e1]
      rw [e3, List.map_cons]
      exact (List.perm_append_singleton t (r.map (·.1))).symm
    · have e3 : modQ t (y :: r) = y :: modQ t r := by
        have : modQ t (y :: r) = (if y.1.pc = t.pc then (t, y.2) else y) :: modQ t r := rfl
        rw [this, if_neg e]
      have e2 : delS t.pc ((y :: r).map (·.1)) = y.1 :: delS t.pc (r.map (·.1)) := by
        unfold delS
        rw [List.map_cons, List.filter_cons_of_pos (by simp [e])]
      rw [e3, e2, List.map_cons, List.cons_append]
      exact (modQ_perm h2 t (hm.resolve_left fun h => e h.symm)).cons _
/-- What the store of a task makes of the map. -/
theorem QAt.put {w : World} {b m : Nat} {S : List Tk} (h : QAt w b m S) (t : Tk) : ∃ o, (Instr.mapUpdate 82 (.map (some m)) t.pc.v t.v).run Try.prog w = .ok () (setBlock w m o) ∧ QAt (setBlock w m o) b m (delS t.pc S ++ [t]) := by
  have hne := h.ne
  obtain ⟨h1, L, ck, h2, h3, h4, h5, h6⟩ := h
  have hml : m < w.heap.size := (Array.getElem?_eq_some_iff.1 h2).1
  have hfk := findKey23 t.pc L w
  unfold qObj at h2
  cases hs : seekQ t.pc L 0 with
  | none =>
    have hno := seekQ_none.1 hs
    rw [hs] at hfk
    refine ⟨qObj (L ++ [(t, ck)]) (ck + 1), ?_, by rw [setBlock_off _ _ hne]; exact h1, L ++ [(t, ck)], ck + 1, setBlock_at hml _, ?_, ?_, ?_, ?_⟩
    · simp [Instr.mapUpdate, run_underlying Try.underlying82, MapKept.run_getObj_map h2, chk23, hfk, Result.andThen, MapKept.run_setObj_map _ h2, setBlock, qObj]
      simp [qents]
    · rw [List.map_append, List.nodup_append]
      refine ⟨h3, by simp, fun x hx y hy e => ?_⟩
      simp only [List.map_cons, List.map_nil, List.mem_singleton] at hy
      subst hy
      exact hno (e ▸ hx)
    · rw [List.map_append, List.nodup_append]
      refine ⟨h4, by simp, fun x hx y hy e => ?_⟩
      simp only [List.map_cons, List.map_nil, List.mem_singleton] at hy
      obtain ⟨p, hp, rfl⟩ := List.mem_map.1 hx
      have := h5 p hp
      omega
    · intro p hp
      rcases List.mem_append.1 hp with hp | hp
      · have := h5 p hp; omega
      · simp only [List.mem_singleton] at hp; subst hp; simp
    · have hno2 : t.pc ∉ S.map Tk.pc := fun hm => hno (by
        have := (h6.map Tk.pc).mem_iff.2 hm
        rwa [List.map_map] at this)
      rw [delS_none hno2, List.map_append]
      exact h6.append (List.Perm.refl _)
  | some p =>
    obtain ⟨k, x, hp1, hx1, hx2, hp2⟩ := seekQ_some hs
    rw [hs] at hfk
    have hk : p.1 = k := by omega
    have hmod := modify_modQ h3 t hx1 hx2
    refine ⟨qObj (modQ t L) ck, ?_, by rw [setBlock_off _ _ hne]; exact h1, modQ t L, ck, setBlock_at hml _, ?_, ?_, ?_, ?_⟩
    · have hgk : ((qents L).toArray[k]?).map (·.key) = some t.pc.v := by
        simp only [List.getElem?_toArray, qents, List.getElem?_map, hx1, Option.map_some, hx2]
      simp only [List.getElem?_toArray] at hgk
      simp [Instr.mapUpdate, run_underlying Try.underlying82, MapKept.run_getObj_map h2, chk23, hfk, Result.andThen, MapKept.run_setObj_map _ h2, setBlock, qObj, hk, hgk, stays23]
      have hmod2 : ((qents L).modify k fun e => { e with key := t.pc.v, val := t.v }) = qents (modQ t L) := by simpa using hmod
      rw [hmod2]
    · have e : (modQ t L).map (·.1.pc) = L.map (·.1.pc) := by
        unfold modQ
        rw [List.map_map]
        refine List.map_congr_left fun p _ => ?_
        show (if p.1.pc = t.pc then (t, p.2) else p).1.pc = p.1.pc
        split
        · rename_i h; exact h.symm
        · rfl
      rw [e]; exact h3
    · have e : (modQ t L).map (·.2) = L.map (·.2) := by
        unfold modQ
        rw [List.map_map]
        refine List.map_congr_left fun p _ => ?_
        show (if p.1.pc = t.pc then (t, p.2) else p).2 = p.2
        split <;> rfl
      rw [e]; exact h4
    · intro q hq
      obtain ⟨p, hp, rfl⟩ := List.mem_map.1 hq
      have := h5 p hp
      split <;> exact this
    · have hp := modQ_perm h3 t (List.mem_map.2 ⟨x, List.mem_of_getElem? hx1, hx2⟩)
      refine hp.trans ?_
      have hd : (delS t.pc (L.map (·.1))).Perm (delS t.pc S) := h6.filter _
      exact hd.append (List.Perm.refl _)

theorem erase_map {α β : Type} (f : α → β) : ∀ (L : List α) (k : Nat), (L.map f).eraseIdx k = (L.eraseIdx k).map f
  | [], _ => rfl
  | _ :: _, 0 => rfl
  | x :: r, k + 1 => by rw [List.map_cons, List.eraseIdx_cons_succ, List.eraseIdx_cons_succ, List.map_cons, erase_map f r k]
/-- What the removal of a piece makes of the map. -/
theorem QAt.del {w : World} {b m : Nat} {S : List Tk} (h : QAt w b m S) (a : Pc) (ty : TypeId) : ∃ o, (Builtin.delete_ #[82, 23] ty #[.map (some m), a.v]).run Try.prog w = .ok (.tuple #[]) (setBlock w m o) ∧ QAt (setBlock w m o) b m (delS a S) := by
  have hne := h.ne
  obtain ⟨h1, L, ck, h2, h3, h4, h5, h6⟩ := h
  have hml : m < w.heap.size := (Array.getElem?_eq_some_iff.1 h2).1
  have hfk := findKey23 a L w
  unfold qObj at h2
  have hsub : (delQ a L).Sublist L := List.filter_sublist
  refine ⟨qObj (delQ a L) ck, ?_, by rw [setBlock_off _ _ hne]; exact h1, delQ a L, ck, setBlock_at hml _, h3.sublist (hsub.map _), h4.sublist (hsub.map _), fun p hp => h5 p (hsub.subset hp), ?_⟩
  · cases hs : seekQ a L 0 with
    | none =>
      have hno := seekQ_none.1 hs
      rw [hs] at hfk
      have e : delQ a L = L := List.filter_eq_self.2 fun p hp => by
        simp only [decide_eq_true_eq]
        exact fun e => hno (List.mem_map.2 ⟨p, hp, e⟩)
      rw [e]
      simp [Builtin.delete_, run_underlying Try.underlying82, MapKept.run_getObj_map h2, chk23, hfk, Result.andThen, MapKept.run_setObj_map _ h2, setBlock, qObj]
    | some p =>
      obtain ⟨k, x, hp1, hx1, hx2, hp2⟩ := seekQ_some hs
      rw [hs] at hfk
      have hk : p.1 = k := by omega
      have he : (qents L).eraseIdx k = qents (delQ a L) := by
        rw [← erase_delQ h3 a hx1 hx2]
        exact erase_map _ _ _
      simp [Builtin.delete_, run_underlying Try.underlying82, MapKept.run_getObj_map h2, chk23, hfk, Result.andThen, MapKept.run_setObj_map _ h2, setBlock, qObj, hk, he]
  · rw [delQ_map]
    exact h6.filter _
theorem QAt.look {w : World} {b m : Nat} {S : List Tk} (h : QAt w b m S) (a : Pc) : ∃ v, (Instr.lookup 82 (.map (some m)) a.v true).run Try.prog w = .ok (.tuple #[v, .bool (decide (a ∈ S.map Tk.pc))]) w ∧ ∃ t : Tk, v = t.v := by
  obtain ⟨h1, L, ck, h2, h3, h4, h5, h6⟩ := h
  have hfk := findKey23 a L w
  unfold qObj at h2
  have hm : a ∈ S.map Tk.pc ↔ a ∈ L.map (·.1.pc) := by
    have := (h6.map Tk.pc).mem_iff (a := a)
    rw [List.map_map] at this
    exact this.symm
  cases hs : seekQ a L 0 with
  | none =>
    have hno := seekQ_none.1 hs
    rw [hs] at hfk
    refine ⟨Tk.v ⟨⟨#[]⟩, 0, 0, 0, 0, 0, 0⟩, ?_, _, rfl⟩
    rw [decide_eq_false (fun h => hno (hm.1 h))]
    simp [Instr.lookup, run_underlying Try.underlying82, MapKept.run_getObj_map h2, chk23, hfk, Result.andThen, Try.zeroValue27]
    rfl
  | some p =>
    obtain ⟨k, x, hp1, hx1, hx2, hp2⟩ := seekQ_some hs
    rw [hs] at hfk
    refine ⟨x.1.v, ?_, _, rfl⟩
    rw [decide_eq_true (hm.2 (List.mem_map.2 ⟨x, List.mem_of_getElem? hx1, hx2⟩)), ← hp2]
    simp [Instr.lookup, run_underlying Try.underlying82, MapKept.run_getObj_map h2, chk23, hfk, Result.andThen]

end Go.Proofs.Ytcgilfnhbliadaa
