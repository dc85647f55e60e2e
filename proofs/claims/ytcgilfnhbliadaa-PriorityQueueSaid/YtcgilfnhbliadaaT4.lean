/- A range over a queue's map. -/
import Derived.Test.YtcgilfnhbliadaaT3
import Derived.Maps.RangeWalk
namespace Go.Proofs.Ytcgilfnhbliadaa
open Go.RowKit Go.Lib Go.ChangeMaps
set_option linter.unusedSimpArgs false

/-- Block r is an iterator over the queue's map; the tasks lt are still to come. -/
def RngQ (w : World) (b m r : Nat) (S lt : List Tk) : Prop :=
  w.heap[b]? = some (.cells #[.map (some m)] 84) ∧ ∃ L ck since seen c0, w.heap[m]? = some (qObj L ck) ∧ (L.map (·.1.pc)).Nodup ∧ (L.map (·.2)).Nodup ∧ (∀ p ∈ L, p.2 < ck) ∧ (L.map (·.1)).Perm S ∧
    w.heap[r]? = some (.mapIter (some m) since seen c0) ∧ (∀ p ∈ L, p.2 < since) ∧ since ≤ c0 ∧ since ≤ ck ∧ lt = (L.filter fun p => !seen.contains p.2).map (·.1)
theorem RngQ.q {w : World} {b m r : Nat} {S lt : List Tk} (h : RngQ w b m r S lt) : QAt w b m S := by
  obtain ⟨h1, L, ck, _, _, _, h2, h3, h4, h5, h6, _⟩ := h
  exact ⟨h1, L, ck, h2, h3, h4, h5, h6⟩
theorem RngQ.below {w w' : World} {b m r : Nat} {S lt : List Tk} (h : RngQ w b m r S lt) (hb : Below w.heap.size w w') : RngQ w' b m r S lt := by
  obtain ⟨h1, L, ck, si, se, c0, h2, h3, h4, h5, h6, h7, h8⟩ := h
  exact ⟨bb hb h1, L, ck, si, se, c0, bb hb h2, h3, h4, h5, h6, bb hb h7, h8⟩
theorem RngQ.lt {w : World} {b m r : Nat} {S lt : List Tk} (h : RngQ w b m r S lt) : r < w.heap.size := by
  obtain ⟨_, _, _, _, _, _, _, _, _, _, _, h7, _⟩ := h
  exact (Array.getElem?_eq_some_iff.1 h7).1
/-- An object that is no iterator, no map, is laid elsewhere. -/
theorem RngQ.kept {w w' : World} {b m r k : Nat} {S lt : List Tk} (h : RngQ w b m r S lt) (hb : k ≠ b) (hm : k ≠ m) (hr : k ≠ r) (hk : ∀ j, j < w.heap.size → j ≠ k → w'.heap[j]? = w.heap[j]?) : RngQ w' b m r S lt := by
  have hl := h.lt
  obtain ⟨h1, L, ck, si, se, c0, h2, h3, h4, h5, h6, h7, h8⟩ := h
  have l1 := (Array.getElem?_eq_some_iff.1 h1).1
  have l2 := (Array.getElem?_eq_some_iff.1 h2).1
  exact ⟨(hk b l1 hb.symm).trans h1, L, ck, si, se, c0, (hk m l2 hm.symm).trans h2, h3, h4, h5, h6, (hk r hl hr.symm).trans h7, h8⟩
theorem qents_filter (L : List (Tk × Nat)) (seen : Array Nat) : leftOf (qents L).toArray seen = (qents (L.filter fun p => !seen.contains p.2)).toArray := by
  unfold leftOf qents
  rw [List.filter_toArray, List.filter_map]
  rfl
theorem RngQ.left {w : World} {b m r : Nat} {S lt : List Tk} (h : RngQ w b m r S lt) : w.rangeLeft m r = lt.length := by
  obtain ⟨h1, L, ck, si, se, c0, h2, h3, h4, h5, h6, h7, h8, h9, h10, h11⟩ := h
  unfold World.rangeLeft qObj at *
  rw [h2, h7]
  simp only
  rw [qents_filter, h11]
  simp [qents]
theorem QAt.range {w : World} {b m : Nat} {S : List Tk} (h : QAt w b m S) : ∃ w' lt, (Instr.range 82 (.map (some m))).run Try.prog w = .ok (.pointer (some ⟨w.heap.size, 0, none⟩)) w' ∧ RngQ w' b m w.heap.size S lt ∧ lt.Perm S ∧ Below w.heap.size w w' ∧ w'.heap.size = w.heap.size + 1 := by
  obtain ⟨h1, L, ck, h2, h3, h4, h5, h6⟩ := h
  have hb : Below w.heap.size w (w.alloc (.mapIter (some m) ck #[] ck)) := sb0 _
  refine ⟨_, L.map (·.1), run_range_map w 82 23 27 m _ ck Try.underlying82 h2, ⟨bb hb h1, L, ck, ck, #[], ck, bb hb h2, h3, h4, h5, h6, heap_alloc_new _ _, h5, Nat.le_refl _, Nat.le_refl _, ?_⟩, h6, hb, by simp⟩
  rw [List.filter_eq_self.2 (fun p _ => by simp)]
theorem split_seen : ∀ (L : List (Tk × Nat)) (_ : (L.map (·.2)).Nodup) (seen : Array Nat) (p : Tk × Nat) (_ : p ∈ L) (_ : seen.contains p.2 = false),
    (L.filter fun q => !seen.contains q.2).Perm (p :: L.filter fun q => !(seen.push p.2).contains q.2)
  | [], _, _, _, hp, _ => by simp at hp
  | x :: r, hn, seen, p, hp, hs => by
    obtain ⟨h1, h2⟩ := List.nodup_cons.1 (by simpa using hn : (x.2 :: r.map (·.2)).Nodup)
    rcases List.mem_cons.1 hp with rfl | hp
    · rw [List.filter_cons_of_pos (by rw [hs]; rfl), List.filter_cons_of_neg (by rw [contains_push]; simp)]
      refine List.Perm.cons _ ?_
      have e : (r.filter fun q => !seen.contains q.2) = r.filter fun q => !(seen.push p.2).contains q.2 := by
        refine List.filter_congr fun q hq => ?_
        rw [contains_push]
        have : q.2 ≠ p.2 := fun e => h1 (List.mem_map.2 ⟨q, hq, e⟩)
        simp [this]
      rw [e]
    · have ih := split_seen r h2 seen p hp hs
      have hx : x.2 ≠ p.2 := fun e => h1 (List.mem_map.2 ⟨p, hp, e.symm⟩)
      have e : (!(seen.push p.2).contains x.2) = !seen.contains x.2 := by rw [contains_push]; simp [hx]
      by_cases hc : (!seen.contains x.2) = true
      · rw [List.filter_cons_of_pos (p := fun q : Tk × Nat => !seen.contains q.2) hc, List.filter_cons_of_pos (p := fun q : Tk × Nat => !(seen.push p.2).contains q.2) (by rw [e]; exact hc)]
        exact (ih.cons x).trans (List.Perm.swap p x _)
      · rw [List.filter_cons_of_neg (p := fun q : Tk × Nat => !seen.contains q.2) hc, List.filter_cons_of_neg (p := fun q : Tk × Nat => !(seen.push p.2).contains q.2) (by rw [e]; exact hc)]
        exact ih
theorem RngQ.next {w : World} {b m r : Nat} {S lt : List Tk} (h : RngQ w b m r S lt) (ty : TypeId) :
    (lt = [] ∧ (Instr.next (.pointer (some ⟨r, 0, none⟩)) false ty).run Try.prog w = .ok (.tuple #[.bool false]) w) ∨
    ∃ t w' lt', (Instr.next (.pointer (some ⟨r, 0, none⟩)) false ty).run Try.prog w = .ok (.tuple #[.bool true, t.pc.v, t.v]) w' ∧ RngQ w' b m r S lt' ∧ lt.Perm (t :: lt') ∧ w.grownBy w' (some r) ∧ w'.heap.size = w.heap.size ∧
      (Instr.entry (.pointer (some ⟨r, 0, none⟩))).run Try.prog w' = .ok (.tuple #[t.pc.v, t.v]) w' := by
  have hl := h.lt
  obtain ⟨h1, L, ck, si, se, c0, h2, h3, h4, h5, h6, h7, h8, h9, h10, rfl⟩ := h
  have hrb : r ≠ b := fun e => by rw [e, h1] at h7; cases h7
  have hrm : r ≠ m := fun e => by unfold qObj at h2; rw [e, h2] at h7; cases h7
  rcases run_next_at (P := Try.prog) w ty r m si c0 se (qents L).toArray ck h7 h2 (fun x hx => by
      obtain ⟨p, hp, rfl⟩ := List.mem_map.1 (show x ∈ qents L from hx)
      exact h8 p hp) h9 with ⟨h0, hrun⟩ | ⟨e, he, w1, hal, hrun⟩
  · refine .inl ⟨?_, hrun⟩
    rw [qents_filter] at h0
    have : (L.filter fun p => !se.contains p.2) = [] := List.eq_nil_of_length_eq_zero (by simpa [qents] using h0)
    rw [this]; rfl
  · rw [qents_filter] at he
    obtain ⟨p, hp, rfl⟩ := List.mem_map.1 (show e ∈ qents _ from he)
    obtain ⟨hpL, hps⟩ := List.mem_filter.1 hp
    have hps2 : se.contains p.2 = false := by simpa using hps
    have hb1 : Below w.heap.size w w1 := hal.elim (fun e => by rw [e]; exact Below.refl _ _) (fun e => by rw [e]; exact (Below.refl _ _).drew)
    have hsz : w1.heap.size = w.heap.size := by rcases hal with rfl | rfl <;> rfl
    have hg : w.grownBy (setBlock w1 r (.mapIter (some m) si (se.push p.2) ck)) (some r) := gb_set (gb_of hb1 _) _
    have n1 : (setBlock w1 r (.mapIter (some m) si (se.push p.2) ck)).heap[m]? = some (qObj L ck) := by rw [setBlock_off _ _ hrm.symm]; exact bb hb1 h2
    have n2 : (setBlock w1 r (.mapIter (some m) si (se.push p.2) ck)).heap[r]? = some (.mapIter (some m) si (se.push p.2) ck) := setBlock_at (by rw [hsz]; exact hl) _
    refine .inr ⟨p.1, _, (L.filter fun q => !(se.push p.2).contains q.2).map (·.1), hrun, ⟨by rw [setBlock_off _ _ hrb.symm]; exact bb hb1 h1, L, ck, si, se.push p.2, ck, n1, h3, h4, h5, h6, n2, h8, h10, h10, rfl⟩, ?_, hg, by rw [setBlock_size]; exact hsz, ?_⟩
    · exact (split_seen L h4 se p hpL hps2).map (·.1)
    · exact run_entry_at (P := Try.prog) _ r m si se (qents L).toArray ck ⟨p.1.pc.v, p.1.v, p.2⟩ n2 n1 (List.mem_map.2 ⟨p, hpL, rfl⟩) (by
        have : ((qents L).toArray.toList.map (·.born)) = L.map (·.2) := by simp [qents]
        rw [this]; exact h4)

section
variable (w : World) {ops : Array Oper} {rest : List Oper} {o : Oper} {a : Act} {Q : Exit → Act → World → Prop}
theorem wpList_range_q (hg : o.guard = none) (mo : Operand) (hop : o.op = Op.range 82 mo) (b m : Nat) (S : List Tk) (hm : a.eval mo = .map (some m)) (h : QAt w b m S)
    (hK : ∀ w' lt, RngQ w' b m w.heap.size S lt → lt.Perm S → Below w.heap.size w w' → w'.heap.size = w.heap.size + 1 → wpList Try.prog ops Q rest (a.put o.dst (.pointer (some ⟨w.heap.size, 0, none⟩))) w') :
    wpList Try.prog ops Q (o :: rest) a w := by
  refine wpList_plain hg fun K' hK' => ?_
  obtain ⟨w', lt, hrun, r1, r2, r3, r4⟩ := h.range
  unfold Oper.wp
  simp [execOp, hop, hm, hrun, Result.andThen]
  exact hK' _ _ (hK w' lt r1 r2 r3 r4)
theorem wpList_next_q (hg : o.guard = none) (it : Operand) (hop : o.op = Op.next it false) (b m r : Nat) (S lt : List Tk) (hit : a.eval it = .pointer (some ⟨r, 0, none⟩)) (h : RngQ w b m r S lt)
    (hDone : lt = [] → wpList Try.prog ops Q rest (a.put o.dst (.tuple #[.bool false])) w)
    (hMore : ∀ (t : Tk) (w' : World) (lt' : List Tk), RngQ w' b m r S lt' → lt.Perm (t :: lt') → w.grownBy w' (some r) → w'.heap.size = w.heap.size → (Instr.entry (.pointer (some ⟨r, 0, none⟩))).run Try.prog w' = .ok (.tuple #[t.pc.v, t.v]) w' →
      wpList Try.prog ops Q rest (a.put o.dst (.tuple #[.bool true, t.pc.v, t.v])) w') :
    wpList Try.prog ops Q (o :: rest) a w := by
  refine wpList_plain hg fun K' hK' => ?_
  unfold Oper.wp
  rcases h.next o.type with ⟨h0, hrun⟩ | ⟨t, w', lt', hrun, r1, r2, r3, r4, r5⟩
  · simp [execOp, hop, hit, hrun, Result.andThen]
    exact hK' _ _ (hDone h0)
  · simp [execOp, hop, hit, hrun, Result.andThen]
    exact hK' _ _ (hMore t w' lt' r1 r2 r3 r4 r5)
end

end Go.Proofs.Ytcgilfnhbliadaa
