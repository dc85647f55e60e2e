/- A row that came in, appended to one of the call's own; more devices never lack more. -/
import Derived.Test.YtapjgjjmlbhanaaN2
namespace Go.Proofs.Ytapjgjjmlbhanaa
open Go.RowKit Go.Lib

theorem run_append_nilsrc {w : World} {base : Nat} {t ty e : TypeId} {i : TypeInfo} {size : Nat} (ht : Try.prog.underlying t = some (.slice e)) (hi : Try.prog.info? e = some i)
    {v : Value} {n : Nat} {xs : List Value} (hown : w.ownsRow base e size v n xs) (c : Nat) : (Builtin.append_ #[t, t] ty #[v, .slice none 0 c]).run Try.prog w = .ok v w := by
  rcases hown.2 with ⟨rfl, rfl⟩ | ⟨g, cap, cur, rfl, _, _, hnc, _⟩
  · simp [Builtin.append_, run_underlying ht, sizeOf, typeInfo, hi, Builtin.lenOf, Builtin.firstCells]
  · simp [Builtin.append_, run_underlying ht, sizeOf, typeInfo, hi, Builtin.lenOf, Builtin.firstCells, hnc, storeCells]

/-- A row that came in, appended. -/
theorem Own.appendR {t e : TypeId} {z : Value} {k bytes : Nat} (ht : Try.prog.underlying t = some (.slice e)) (hinfo : (Try.prog.info? e).map (fun i => (i.zero, i.size, i.bytes)) = some (some z, k, bytes)) (hz : z.cells.size = k) (hk : 0 < k) (hby : bytes ≤ 1000)
    {V : World} {base : Nat} {v u : Value} {n m : Nat} {f q : Nat → Nat → Value} (h : Own V base e v k n f) (ty : TypeId) (hsrc : RowAt V u k m q) (hf : ∀ i j, i < m → j < k → f (n + i) j = q i j) (h1 : ∀ i j, (q i j).oneCell' = true) (hn : n ≤ 1000000000) (hm : m ≤ 1000000000) (hbase : base ≤ V.heap.size) :
    ∃ v' w', (Builtin.append_ #[t, t] ty #[v, u]).run Try.prog V = .ok v' w' ∧ Own w' base e v' k (n + m) f ∧ Below base V w' ∧ (∀ b, b < V.heap.size → v.ownBlock ≠ some b → w'.heap[b]? = V.heap[b]?) := by
  obtain ⟨i0, hi, hz0, hz1, hz2⟩ := info_parts hinfo
  obtain ⟨xs, hown, hxs⟩ := h
  obtain ⟨ao, c, rfl, hmc, _, hcell⟩ := hsrc
  by_cases hm0 : m = 0
  · subst hm0
    rcases ao with _ | ad
    · exact ⟨v, V, run_append_nilsrc ht hi hown c, ⟨xs, hown, hxs⟩, Below.refl _ _, fun _ _ _ => rfl⟩
    · obtain ⟨v', w', r, o1, o2, _, _⟩ := run_append_own_at (P := Try.prog) V base t ty e i0 z k bytes ht hi hz0 hz1 hz2 hz hk v _ _ hown ad 0 c [] (by simp) (fun j x hj => by simp at hj) (by simp) (by unfold maxLen; omega) (by
        have := Nat.mul_le_mul (show n + 0 ≤ 1000000000 by omega) hby
        omega) hbase
      rw [List.append_nil] at o1
      exact ⟨v', w', r, ⟨xs, o1, hxs⟩, ⟨o2.os, o2.tape, o2.output, o2.size, fun i hi => o2.block i (by omega) (fun e => by have := (hown.lt i e.symm).1; omega)⟩, fun b hb hn' => o2.block b hb (fun e => hn' e.symm)⟩
  · obtain ⟨b, off, rfl, hc⟩ := hcell (by omega)
    have hnl : ((List.range (m * k)).map fun c => q (c / k) (c % k)).length = m * k := by simp
    have hbb : (n + m) * bytes ≤ 140737488355328 := by
      have := Nat.mul_le_mul (show n + m ≤ 2000000000 by omega) hby
      omega
    obtain ⟨v', w', r, o1, o2, _, _⟩ := run_append_own_at (P := Try.prog) V base t ty e i0 z k bytes ht hi hz0 hz1 hz2 hz hk v _ _ hown ⟨b, off, none⟩ m c ((List.range (m * k)).map fun c => q (c / k) (c % k)) hnl (by
      intro j x hj
      have hjl : j < m * k := by have := (List.getElem?_eq_some_iff.1 hj).1; rw [hnl] at this; exact this
      have hadd : (⟨b, off, none⟩ : Addr).add j = ⟨b, off + j, none⟩ := by unfold Addr.add; split <;> simp_all
      have h1' : j / k < m := Nat.div_lt_of_lt_mul (by rw [Nat.mul_comm]; exact hjl)
      have h2' : j % k < k := Nat.mod_lt _ hk
      have := hc (j / k) (j % k) h1' h2'
      have hjk : j / k * k + j % k = j := by have := Nat.div_add_mod j k; rw [Nat.mul_comm] at this; exact this
      rw [hadd, show off + j = off + j / k * k + j % k by omega, this]
      simp [hjl] at hj
      rw [hj]) (by
      intro x hx
      obtain ⟨j, _, rfl⟩ := List.mem_map.1 hx
      exact h1 _ _) (by unfold maxLen; omega) hbb hbase
    have hlen := hown.1
    refine ⟨v', w', r, ⟨xs ++ (List.range (m * k)).map fun c => q (c / k) (c % k), o1, fun i j hi' hj => ?_⟩, ⟨o2.os, o2.tape, o2.output, o2.size, fun i hi => o2.block i (by omega) (fun e => by have := (hown.lt i e.symm).1; omega)⟩, fun b hb hn' => o2.block b hb (fun e => hn' e.symm)⟩
    by_cases hin : i < n
    · have hlt : i * k + j < n * k := by
        have : (i + 1) * k ≤ n * k := Nat.mul_le_mul_right k hin
        rw [Nat.add_mul] at this
        omega
      rw [List.getElem?_append_left (by omega)]
      exact hxs i j hin hj
    · obtain ⟨i', rfl⟩ : ∃ i', i = n + i' := ⟨i - n, by omega⟩
      have hi2 : i' < m := by omega
      have hlt : i' * k + j < m * k := by
        have : (i' + 1) * k ≤ m * k := Nat.mul_le_mul_right k hi2
        rw [Nat.add_mul] at this
        omega
      rw [List.getElem?_append_right (by rw [hlen, Nat.add_mul]; omega), hlen, show (n + i') * k + j - n * k = i' * k + j by rw [Nat.add_mul]; omega, List.getElem?_map, List.getElem?_range hlt]
      have d1 : (i' * k + j) / k = i' := by rw [Nat.mul_comm, Nat.mul_add_div hk, Nat.div_eq_of_lt hj, Nat.add_zero]
      have d2 : (i' * k + j) % k = j := by rw [Nat.mul_comm, Nat.mul_add_mod, Nat.mod_eq_of_lt hj]
      simp only [Option.map_some, d1, d2]
      rw [hf i' j hi2 hj]

theorem OwnI.appendR {V : World} {base : Nat} {v u : Value} {ds es : List Int} (h : OwnI V base v ds) (hu : ReadsI V u es) (hn : ds.length ≤ 1000000000) (hm : es.length ≤ 1000000000) (hbase : base ≤ V.heap.size) :
    ∃ v' w', (Builtin.append_ #[24, 24] 24 #[v, u]).run Try.prog V = .ok v' w' ∧ OwnI w' base v' (ds ++ es) ∧ Below base V w' ∧ (∀ b, b < V.heap.size → v.ownBlock ≠ some b → w'.heap[b]? = V.heap[b]?) := by
  have h' : Own V base 3 v 1 ds.length fun i _ => .int .i64 ((ds ++ es).getD i 0) := Own.congr h fun i j hi hj => by rw [getD_at _ _ _ hi, getD_at _ _ _ (by rw [List.length_append]; omega), List.getElem_append_left hi]
  obtain ⟨v', w', r, o1, o2, o3⟩ := Own.appendR (t := 24) (e := 3) (z := .int .i64 0) (k := 1) (bytes := 8) Try.underlying24 (by kernel_rfl) rfl (by omega) (by omega) h' 24 hu (fun i j hi hj => by
    rw [getD_at _ _ _ (by rw [List.length_append]; omega), List.getElem_append_right (by omega), getD_at _ _ _ hi]
    simp) (fun _ _ => rfl) hn hm hbase
  refine ⟨v', w', r, ?_, o2, o3⟩
  unfold OwnI
  rw [List.length_append]
  exact o1

/-- More devices never lack more. -/
theorem countP_le {p q : Nat → Bool} (h : ∀ i, p i = true → q i = true) (n : Nat) : (List.range n).countP p ≤ (List.range n).countP q := List.countP_mono_left fun i _ hi => h i hi
theorem sum_le (f h : Nat → Int) : ∀ n, (∀ i, i < n → f i ≤ h i) → ((List.range n).map f).sum ≤ ((List.range n).map h).sum
  | 0, _ => by simp
  | n + 1, hle => by
    have := sum_le f h n (fun i hi => hle i (by omega))
    have := hle n (by omega)
    rw [List.range_succ, List.map_append, List.map_append, List.sum_append, List.sum_append]
    simp
    omega
theorem any_mono {hs : List Hd} {devs es : List Int} (h : ∀ x ∈ devs, x ∈ es) (q : Hd → Bool) (ha : (hs.any fun x => decide (x.dev ∈ devs) && q x) = true) : (hs.any fun x => decide (x.dev ∈ es) && q x) = true := by
  rw [List.any_eq_true] at ha ⊢
  obtain ⟨x, hx, hq⟩ := ha
  rw [Bool.and_eq_true, decide_eq_true_eq] at hq
  exact ⟨x, hx, by rw [Bool.and_eq_true, decide_eq_true_eq]; exact ⟨h _ hq.1, hq.2⟩⟩
theorem sumR_anti {g : Gl} {hs : List Hd} (hok : Ok g hs) {devs es : List Int} (h : ∀ x ∈ devs, x ∈ es) : sumR g hs es ≤ sumR g hs devs := by
  have hS : ∀ x : Int, thereS g hs devs x = true → thereS g hs es x = true := fun x hx => by
    unfold thereS at hx ⊢
    rw [Bool.or_eq_true] at hx ⊢
    exact hx.imp id (any_mono h _)
  have hP : ∀ i k : Nat, thereP g hs devs i k = true → thereP g hs es i k = true := fun i k hx => by
    unfold thereP at hx ⊢
    rw [Bool.or_eq_true] at hx ⊢
    exact hx.imp id (any_mono h _)
  have hI : thereI g hs devs = true → thereI g hs es = true := fun hx => by
    unfold thereI at hx ⊢
    rw [Bool.or_eq_true] at hx ⊢
    exact hx.imp id (any_mono h _)
  have h1 : shR g hs es ≤ shR g hs devs := by
    unfold shR
    rw [down_eq _ _ hok.1.2.1.1, down_eq _ _ hok.1.2.1.1]
    have := countP_le (p := fun x : Nat => thereS g hs devs (x : Int)) (q := fun x : Nat => thereS g hs es (x : Int)) (fun i hi => hS i hi) 256
    omega
  have h2 : (ndR g hs es).sum ≤ (ndR g hs devs).sum := by
    unfold ndR
    refine sum_le _ _ _ fun i hi => ?_
    have hnd := hok.2.1.2 (g.ns.getD i default) (by rw [getD_at _ _ _ hi]; exact List.getElem_mem _)
    rw [down_eq _ _ (by have := hnd.1; omega), down_eq _ _ (by have := hnd.1; omega)]
    have := countP_le (p := thereP g hs devs i) (q := thereP g hs es i) (hP i) 16
    omega
  have h3 : ixR g hs es ≤ ixR g hs devs := by
    unfold ixR
    by_cases a : thereI g hs devs = true
    · rw [if_pos a, if_pos (hI a)]; omega
    · rw [if_neg a]; split <;> omega
  unfold sumR
  omega
theorem sumR_same {g : Gl} {hs : List Hd} (hok : Ok g hs) {devs es : List Int} (h : ∀ x, x ∈ devs ↔ x ∈ es) : sumR g hs es = sumR g hs devs :=
  Int.le_antisymm (sumR_anti hok fun x hx => (h x).1 hx) (sumR_anti hok fun x hx => (h x).2 hx)

end Go.Proofs.Ytapjgjjmlbhanaa
