/- The law Queue: the plain part. -/
import Derived.Test.YtcgilfnhbliadaaL5
namespace Go.Proofs.Ytcgilfnhbliadaa
open Go.RowKit Go.Lib Go.ChangeMaps
set_option linter.unusedSimpArgs false

theorem delS_lt (a : Pc) : ∀ S : List Tk, (delS a S).length < S.length ↔ a ∈ S.map Tk.pc
  | [] => by simp [delS]
  | x :: r => by
    have ih := delS_lt a r
    have hl := delS_len a r
    unfold delS at ih hl ⊢
    by_cases h : x.pc = a
    · rw [List.filter_cons_of_neg (by simp [h])]
      simp only [List.length_cons, List.map_cons, List.mem_cons]
      constructor
      · intro _; exact .inl h.symm
      · intro _; omega
    · rw [List.filter_cons_of_pos (by simp [h])]
      simp only [List.length_cons, List.map_cons, List.mem_cons]
      constructor
      · intro h2; exact .inr (ih.1 (by omega))
      · rintro (h2 | h2)
        · exact absurd h2.symm h
        · have := ih.2 h2; omega
theorem delS_ok {S : List Tk} (h : AllOk S) (a : Pc) : AllOk (delS a S) := fun t ht => h t (List.mem_filter.1 ht).1
theorem delS_snoc (a : Pc) (S : List Tk) (t : Tk) : delS a (S ++ [t]) = delS a S ++ (if t.pc = a then [] else [t]) := by
  unfold delS
  rw [List.filter_append]
  congr 1
  by_cases h : t.pc = a <;> simp [h]
theorem delS_take {S : List Tk} {i : Nat} (h : i < S.length) (a : Pc) : delS a (S.take (i + 1)) = delS a (S.take i) ++ (if (S.getD i default).pc = a then [] else [S.getD i default]) := by
  rw [List.take_succ_eq_append_getElem h, getD_at _ _ _ h, delS_snoc]
theorem at_of_mem {l : List Tk} {f : Tk} (h : f ∈ l) : ∃ j, j < l.length ∧ l.getD j default = f := by
  obtain ⟨j, hj, e⟩ := List.mem_iff_getElem.1 h
  exact ⟨j, hj, by rw [getD_at _ _ _ hj, e]⟩
theorem mem_at {l : List Tk} {j : Nat} (h : j < l.length) : l.getD j default ∈ l := by rw [getD_at _ _ _ h]; exact List.getElem_mem h
theorem srt_at {l : List Tk} (hs : Srt l) {i j : Nat} (hij : i < j) (hj : j < l.length) : cmpT (l.getD i default) (l.getD j default) < 0 := by
  rw [getD_at _ _ _ (by omega), getD_at _ _ _ hj]
  exact List.pairwise_iff_getElem.1 hs i j (by omega) hj hij
theorem best_first {M l : List Tk} {room : Int} {f : Tk} {k : Nat} (hb : BestP M room (some f)) (hp : l.Perm M) (hs : Srt l) (hk : k < l.length) (h1 : ∀ j, j < k → ¬ (l.getD j default).size ≤ room) (h2 : (l.getD k default).size ≤ room) : f = l.getD k default := by
  obtain ⟨b1, b2, b3⟩ := hb
  obtain ⟨j, hj, rfl⟩ := at_of_mem (hp.mem_iff.2 b1)
  rcases Nat.lt_trichotomy j k with h | h | h
  · exact absurd b2 (h1 j h)
  · rw [h]
  · exact absurd (srt_at hs h hj) (b3 _ (hp.mem_iff.1 (mem_at hk)) h2)
theorem best_all {M l : List Tk} {room : Int} {f : Tk} (hb : BestP M room (some f)) (hp : l.Perm M) (h1 : ∀ j, j < l.length → ¬ (l.getD j default).size ≤ room) : False := by
  obtain ⟨j, hj, rfl⟩ := at_of_mem (hp.mem_iff.2 hb.1)
  exact h1 j hj hb.2.1
theorem best_no {M l : List Tk} {room : Int} (hb : BestP M room none) (hp : l.Perm M) {k : Nat} (hk : k < l.length) : ¬ (l.getD k default).size ≤ room := hb _ (hp.mem_iff.1 (mem_at hk))
theorem cut_del {l : List Tk} (hn : (l.map Tk.pc).Nodup) {k : Nat} (hk : k < l.length) : delS (l.getD k default).pc l = l.take k ++ l.drop (k + 1) := by
  have e : l = l.take k ++ l.getD k default :: l.drop (k + 1) := by rw [getD_at _ _ _ hk, ← List.drop_eq_getElem_cons hk, List.take_append_drop]
  generalize l.getD k default = x at *
  generalize l.take k = a at *
  generalize l.drop (k + 1) = c at *
  subst e
  rw [List.map_append, List.nodup_append] at hn
  obtain ⟨h1, h2, h3⟩ := hn
  rw [List.map_cons, List.nodup_cons] at h2
  unfold delS
  rw [List.filter_append, List.filter_cons_of_neg (by simp)]
  congr 1
  · refine List.filter_eq_self.2 fun t ht => ?_
    simp only [decide_eq_true_eq]
    exact fun e => h3 t.pc (List.mem_map.2 ⟨t, ht, rfl⟩) x.pc (by simp) e
  · refine List.filter_eq_self.2 fun t ht => ?_
    simp only [decide_eq_true_eq]
    exact fun e => h2.1 (List.mem_map.2 ⟨t, ht, e⟩)
theorem nodup_perm {l M : List Tk} (hp : l.Perm M) (hn : (M.map Tk.pc).Nodup) : (l.map Tk.pc).Nodup := (hp.map Tk.pc).nodup_iff.2 hn

end Go.Proofs.Ytcgilfnhbliadaa
