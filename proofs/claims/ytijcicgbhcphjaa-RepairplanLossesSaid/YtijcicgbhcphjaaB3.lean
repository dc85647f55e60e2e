/- Clones. -/
import Derived.Test.YtijcicgbhcphjaaB2
import Derived.Lib.SliceRun
namespace Go.Proofs.Ytijcicgbhcphjaa
open Go.RowKit Go.Lib Go.ChangeMaps

theorem run_append_nilsrc {w : World} {base : Nat} {t ty e : TypeId} {i : TypeInfo} {size : Nat} (ht : Try.prog.underlying t = some (.slice e)) (hi : Try.prog.info? e = some i)
    {v : Value} {n : Nat} {xs : List Value} (hown : w.ownsRow base e size v n xs) (c : Nat) : (Builtin.append_ #[t, t] ty #[v, .slice none 0 c]).run Try.prog w = .ok v w := by
  rcases hown.2 with ⟨rfl, rfl⟩ | ⟨g, cap, cur, rfl, _, _, hnc, _⟩
  · simp [Builtin.append_, run_underlying ht, sizeOf, typeInfo, hi, Builtin.lenOf, Builtin.firstCells]
  · simp [Builtin.append_, run_underlying ht, sizeOf, typeInfo, hi, Builtin.lenOf, Builtin.firstCells, hnc, storeCells]

/-- A row that came in, appended. -/
theorem Own.appendR {t e : TypeId} {z : Value} {k bytes : Nat} (ht : Try.prog.underlying t = some (.slice e)) (hinfo : (Try.prog.info? e).map (fun i => (i.zero, i.size, i.bytes)) = some (some z, k, bytes)) (hz : z.cells.size = k) (hk : 0 < k) (hby : bytes ≤ 1000)
    {V : World} {base : Nat} {v u : Value} {n m : Nat} {f q : Nat → Nat → Value} (h : Own V base e v k n f) (ty : TypeId) (hsrc : RowAt V u k m q) (hf : ∀ i j, i < m → j < k → f (n + i) j = q i j) (h1 : ∀ i j, i < m → j < k → (q i j).oneCell' = true) (hn : n ≤ 1000000000) (hm : m ≤ 1000000000) (hbase : base ≤ V.heap.size) :
    ∃ v' w', (Builtin.append_ #[t, t] ty #[v, u]).run Try.prog V = .ok v' w' ∧ Own w' base e v' k (n + m) f ∧ Below base V w' ∧ (∀ b, b < V.heap.size → v.ownBlock ≠ some b → w'.heap[b]? = V.heap[b]?) := by
  obtain ⟨i0, hi, hz0, hz1, hz2⟩ := info_parts hinfo
  obtain ⟨xs, hown, hxs⟩ := h
  obtain ⟨ao, c, rfl, hmc, _, hcell⟩ := hsrc
  by_cases hm0 : m = 0
  · subst hm0
    rcases ao with _ | ad
    · exact ⟨v, V, run_append_nilsrc ht hi hown c, ⟨xs, hown, hxs⟩, Below.refl _ _, fun _ _ _ => rfl⟩
    · obtain ⟨v', w', r, o1, o2, _, _⟩ := run_append_own_at (P := Try.prog) V base t ty e i0 z k bytes ht hi hz0 hz1 hz2 hz hk v _ _ hown ad 0 c [] (by simp) (fun j x hj => by simp at hj) (by simp) (by unfold maxLen; omega) (by
        have := Nat.mul_le_mul (show n + 0 ≤ 1000000000 by omega) hby
        omega) hbase
      rw [List.append_nil] at o1
      exact ⟨v', w', r, ⟨xs, o1, hxs⟩, ⟨o2.os, o2.tape, o2.output, o2.size, fun i hi => o2.block i (by omega) (fun e => by have := (hown.lt i e.symm).1; omega)⟩, fun b hb hn' => o2.block b hb (fun e => hn' e.symm)⟩
  · obtain ⟨b, off, rfl, hc⟩ := hcell (by omega)
    have hnl : ((List.range (m * k)).map fun c => q (c / k) (c % k)).length = m * k := by simp
    have hbb : (n + m) * bytes ≤ 140737488355328 := by
      have := Nat.mul_le_mul (show n + m ≤ 2000000000 by omega) hby
      omega
    obtain ⟨v', w', r, o1, o2, _, _⟩ := run_append_own_at (P := Try.prog) V base t ty e i0 z k bytes ht hi hz0 hz1 hz2 hz hk v _ _ hown ⟨b, off, none⟩ m c ((List.range (m * k)).map fun c => q (c / k) (c % k)) hnl (by
      intro j x hj
      have hjl : j < m * k := by have := (List.getElem?_eq_some_iff.1 hj).1; rw [hnl] at this; exact this
      have hadd : (⟨b, off, none⟩ : Addr).add j = ⟨b, off + j, none⟩ := by unfold Addr.add; split <;> simp_all
      have h1' : j / k < m := Nat.div_lt_of_lt_mul (by rw [Nat.mul_comm]; exact hjl)
      have h2' : j % k < k := Nat.mod_lt _ hk
      have := hc (j / k) (j % k) h1' h2'
      have hjk : j / k * k + j % k = j := by have := Nat.div_add_mod j k; rw [Nat.mul_comm] at this; exact this
      rw [hadd, show off + j = off + j / k * k + j % k by omega, this]
      simp [hjl] at hj
      rw [hj]) (by
      intro x hx
      obtain ⟨j, hj, rfl⟩ := List.mem_map.1 hx
      have hjl : j < m * k := List.mem_range.1 hj
      exact h1 _ _ (Nat.div_lt_of_lt_mul (by rw [Nat.mul_comm]; exact hjl)) (Nat.mod_lt _ hk)) (by unfold maxLen; omega) hbb hbase
    have hlen := hown.1
    refine ⟨v', w', r, ⟨xs ++ (List.range (m * k)).map fun c => q (c / k) (c % k), o1, fun i j hi' hj => ?_⟩, ⟨o2.os, o2.tape, o2.output, o2.size, fun i hi => o2.block i (by omega) (fun e => by have := (hown.lt i e.symm).1; omega)⟩, fun b hb hn' => o2.block b hb (fun e => hn' e.symm)⟩
    by_cases hin : i < n
    · have hlt : i * k + j < n * k := by
        have : (i + 1) * k ≤ n * k := Nat.mul_le_mul_right k hin
        rw [Nat.add_mul] at this
        omega
      rw [List.getElem?_append_left (by omega)]
      exact hxs i j hin hj
    · obtain ⟨i', rfl⟩ : ∃ i', i = n + i' := ⟨i - n, by omega⟩
      have hi2 : i' < m := by omega
      have hlt : i' * k + j < m * k := by
        have : (i' + 1) * k ≤ m * k := Nat.mul_le_mul_right k hi2
        rw [Nat.add_mul] at this
        omega
      rw [List.getElem?_append_right (by rw [hlen, Nat.add_mul]; omega), hlen, show (n + i') * k + j - n * k = i' * k + j by rw [Nat.add_mul]; omega, List.getElem?_map, List.getElem?_range hlt]
      have d1 : (i' * k + j) / k = i' := by rw [Nat.mul_comm, Nat.mul_add_div hk, Nat.div_eq_of_lt hj, Nat.add_zero]
      have d2 : (i' * k + j) % k = j := by rw [Nat.mul_comm, Nat.mul_add_mod, Nat.mod_eq_of_lt hj]
      simp only [Option.map_some, d1, d2]
      rw [hf i' j hi2 hj]

theorem OwnI.appendR {V : World} {base : Nat} {v u : Value} {ds es : List Int} (h : OwnI V base v ds) (hu : ReadsI V u es) (hn : ds.length ≤ 1000000000) (hm : es.length ≤ 1000000000) (hbase : base ≤ V.heap.size) :
    ∃ v' w', (Builtin.append_ #[24, 24] 24 #[v, u]).run Try.prog V = .ok v' w' ∧ OwnI w' base v' (ds ++ es) ∧ Below base V w' ∧ (∀ b, b < V.heap.size → v.ownBlock ≠ some b → w'.heap[b]? = V.heap[b]?) := by
  have h' : Own V base 3 v 1 ds.length fun i _ => .int .i64 ((ds ++ es).getD i 0) := Own.congr h fun i j hi hj => by rw [getD_at _ _ _ hi, getD_at _ _ _ (by rw [List.length_append]; omega), List.getElem_append_left hi]
  obtain ⟨v', w', r, o1, o2, o3⟩ := Own.appendR (t := 24) (e := 3) (z := .int .i64 0) (k := 1) (bytes := 8) Try.underlying24 (by kernel_rfl) rfl (by omega) (by omega) h' 24 hu (fun i j hi hj => by
    rw [getD_at _ _ _ (by rw [List.length_append]; omega), List.getElem_append_right (by omega), getD_at _ _ _ hi]
    simp) (fun _ _ _ _ => rfl) hn hm hbase
  refine ⟨v', w', r, ?_, o2, o3⟩
  unfold OwnI
  rw [List.length_append]
  exact o1


theorem infoE3 : (Try.prog.info? 3).map (fun i => (i.zero, i.size, i.bytes)) = some (some (.int .i64 0), 1, 8) := by kernel_rfl
set_option maxRecDepth 100000 in
set_option maxHeartbeats 1000000 in
theorem cloneI (v : Value) (n : Nat) (f : Nat → Nat → Value) (w : World) (hv : RowAt w v 1 n f) (h1 : ∀ i j, i < n → j < 1 → (f i j).oneCell' = true) (hn : n ≤ 1000000) :
    Calls Try.prog 47 #[v] w fun e w' => ∃ u, e = .returned u ∧ Own w' w.heap.size 3 u 1 n f ∧ Below w.heap.size w w' := by
  have HV := Lib.hid hv
  obtain ⟨ao, c, rfl, hl, hm, hc⟩ := hv
  have HC := Lib.hid hc
  clear hc
  have heq := fun a n' c' => Lib.run_eql_slice_nil (P := Try.prog) w 24 3 a n' c' 0 0 Try.underlying24
  go_enter Try.func47, Try.ntmps47
  rcases ao with _ | ad
  · have hn0 : n = 0 := by
      rcases Nat.eq_zero_or_pos n with h | h
      · exact h
      · obtain ⟨b, off, e, _⟩ := HC.out h
        cases e
    subst hn0
    go_wp2
    go_ret
    exact ⟨_, rfl, Own.nil _ _ _ _ _, Below.refl _ _⟩
  · have h0 := Own.lit0 w w.heap.size 3 1 f (Nat.le_refl _)
    have hb0 : Below w.heap.size w (w.alloc (.cells #[] 3)) := (Below.refl _ _).alloc (Nat.le_refl _) _
    have hr0 := RowAt.below HV.out hb0
    obtain ⟨v3, w3, r3, o1, o2, _⟩ := Own.appendR (t := 24) (e := 3) (z := .int .i64 0) (bytes := 8) Try.underlying24 infoE3 rfl (by omega) (by omega) h0 24 hr0 (fun i j _ _ => by rw [Nat.zero_add]) h1 (by omega) (by omega) hb0.size
    rw [Nat.zero_add] at o1
    have O1 := Lib.hid o1
    clear o1 h0 hr0
    go_wp2_with (at_builtin; refine wpList_append_run (by rfl) (.tmp 5) (.tmp 6) 24 (by rfl) _ (.slice (some ad) n c) v3 w3 (by rfl) (by rfl) r3 ?_)
    go_ret
    exact ⟨_, rfl, O1.out, hb0.trans o2⟩

theorem infoE81 : (Try.prog.info? 81).map (fun i => (i.zero, i.size, i.bytes)) = some (some (.agg #[.int .i64 0, .string ⟨#[]⟩, .string ⟨#[]⟩, .int .i64 0, .bool false]), 5, 56) := by kernel_rfl
set_option maxRecDepth 100000 in
set_option maxHeartbeats 1000000 in
theorem cloneM (v : Value) (n : Nat) (f : Nat → Nat → Value) (w : World) (hv : RowAt w v 5 n f) (h1 : ∀ i j, i < n → j < 5 → (f i j).oneCell' = true) (hn : n ≤ 1000000) :
    Calls Try.prog 71 #[v] w fun e w' => ∃ u, e = .returned u ∧ Own w' w.heap.size 81 u 5 n f ∧ Below w.heap.size w w' := by
  have HV := Lib.hid hv
  obtain ⟨ao, c, rfl, hl, hm, hc⟩ := hv
  have HC := Lib.hid hc
  clear hc
  have heq := fun a n' c' => Lib.run_eql_slice_nil (P := Try.prog) w 22 81 a n' c' 0 0 Try.underlying22
  go_enter Try.func71, Try.ntmps71
  rcases ao with _ | ad
  · have hn0 : n = 0 := by
      rcases Nat.eq_zero_or_pos n with h | h
      · exact h
      · obtain ⟨b, off, e, _⟩ := HC.out h
        cases e
    subst hn0
    go_wp2
    go_ret
    exact ⟨_, rfl, Own.nil _ _ _ _ _, Below.refl _ _⟩
  · have h0 := Own.lit0 w w.heap.size 81 5 f (Nat.le_refl _)
    have hb0 : Below w.heap.size w (w.alloc (.cells #[] 81)) := (Below.refl _ _).alloc (Nat.le_refl _) _
    have hr0 := RowAt.below HV.out hb0
    obtain ⟨v3, w3, r3, o1, o2, _⟩ := Own.appendR (t := 22) (e := 81) (z := .agg #[.int .i64 0, .string ⟨#[]⟩, .string ⟨#[]⟩, .int .i64 0, .bool false]) (bytes := 56) Try.underlying22 infoE81 rfl (by omega) (by omega) h0 22 hr0 (fun i j _ _ => by rw [Nat.zero_add]) h1 (by omega) (by omega) hb0.size
    rw [Nat.zero_add] at o1
    have O1 := Lib.hid o1
    clear o1 h0 hr0
    go_wp2_with (at_builtin; refine wpList_append_run (by rfl) (.tmp 5) (.tmp 6) 22 (by rfl) _ (.slice (some ad) n c) v3 w3 (by rfl) (by rfl) r3 ?_)
    go_ret
    exact ⟨_, rfl, O1.out, hb0.trans o2⟩

theorem infoE52 : (Try.prog.info? 52).map (fun i => (i.zero, i.size, i.bytes)) = some (some (.agg #[.string ⟨#[]⟩, .int .i64 0, .int .i64 0, .int .i64 0, .int .i64 0, .slice none 0 0, .slice none 0 0]), 7, 96) := by kernel_rfl
set_option maxRecDepth 100000 in
set_option maxHeartbeats 1000000 in
theorem cloneH (v : Value) (n : Nat) (f : Nat → Nat → Value) (w : World) (hv : RowAt w v 7 n f) (h1 : ∀ i j, i < n → j < 7 → (f i j).oneCell' = true) (hn : n ≤ 1000000) :
    Calls Try.prog 72 #[v] w fun e w' => ∃ u, e = .returned u ∧ Own w' w.heap.size 52 u 7 n f ∧ Below w.heap.size w w' := by
  have HV := Lib.hid hv
  obtain ⟨ao, c, rfl, hl, hm, hc⟩ := hv
  have HC := Lib.hid hc
  clear hc
  have heq := fun a n' c' => Lib.run_eql_slice_nil (P := Try.prog) w 23 52 a n' c' 0 0 Try.underlying23
  go_enter Try.func72, Try.ntmps72
  rcases ao with _ | ad
  · have hn0 : n = 0 := by
      rcases Nat.eq_zero_or_pos n with h | h
      · exact h
      · obtain ⟨b, off, e, _⟩ := HC.out h
        cases e
    subst hn0
    go_wp2
    go_ret
    exact ⟨_, rfl, Own.nil _ _ _ _ _, Below.refl _ _⟩
  · have h0 := Own.lit0 w w.heap.size 52 7 f (Nat.le_refl _)
    have hb0 : Below w.heap.size w (w.alloc (.cells #[] 52)) := (Below.refl _ _).alloc (Nat.le_refl _) _
    have hr0 := RowAt.below HV.out hb0
    obtain ⟨v3, w3, r3, o1, o2, _⟩ := Own.appendR (t := 23) (e := 52) (z := .agg #[.string ⟨#[]⟩, .int .i64 0, .int .i64 0, .int .i64 0, .int .i64 0, .slice none 0 0, .slice none 0 0]) (bytes := 96) Try.underlying23 infoE52 rfl (by omega) (by omega) h0 23 hr0 (fun i j _ _ => by rw [Nat.zero_add]) h1 (by omega) (by omega) hb0.size
    rw [Nat.zero_add] at o1
    have O1 := Lib.hid o1
    clear o1 h0 hr0
    go_wp2_with (at_builtin; refine wpList_append_run (by rfl) (.tmp 5) (.tmp 6) 23 (by rfl) _ (.slice (some ad) n c) v3 w3 (by rfl) (by rfl) r3 ?_)
    go_ret
    exact ⟨_, rfl, O1.out, hb0.trans o2⟩

theorem infoE120 : (Try.prog.info? 120).map (fun i => (i.zero, i.size, i.bytes)) = some (some (.agg #[.string ⟨#[]⟩, .int .i64 0, .int .i64 0]), 3, 32) := by kernel_rfl
set_option maxRecDepth 100000 in
set_option maxHeartbeats 1000000 in
theorem cloneR (v : Value) (n : Nat) (f : Nat → Nat → Value) (w : World) (hv : RowAt w v 3 n f) (h1 : ∀ i j, i < n → j < 3 → (f i j).oneCell' = true) (hn : n ≤ 1000000) :
    Calls Try.prog 73 #[v] w fun e w' => ∃ u, e = .returned u ∧ Own w' w.heap.size 120 u 3 n f ∧ Below w.heap.size w w' := by
  have HV := Lib.hid hv
  obtain ⟨ao, c, rfl, hl, hm, hc⟩ := hv
  have HC := Lib.hid hc
  clear hc
  have heq := fun a n' c' => Lib.run_eql_slice_nil (P := Try.prog) w 48 120 a n' c' 0 0 Try.underlying48
  go_enter Try.func73, Try.ntmps73
  rcases ao with _ | ad
  · have hn0 : n = 0 := by
      rcases Nat.eq_zero_or_pos n with h | h
      · exact h
      · obtain ⟨b, off, e, _⟩ := HC.out h
        cases e
    subst hn0
    go_wp2
    go_ret
    exact ⟨_, rfl, Own.nil _ _ _ _ _, Below.refl _ _⟩
  · have h0 := Own.lit0 w w.heap.size 120 3 f (Nat.le_refl _)
    have hb0 : Below w.heap.size w (w.alloc (.cells #[] 120)) := (Below.refl _ _).alloc (Nat.le_refl _) _
    have hr0 := RowAt.below HV.out hb0
    obtain ⟨v3, w3, r3, o1, o2, _⟩ := Own.appendR (t := 48) (e := 120) (z := .agg #[.string ⟨#[]⟩, .int .i64 0, .int .i64 0]) (bytes := 32) Try.underlying48 infoE120 rfl (by omega) (by omega) h0 48 hr0 (fun i j _ _ => by rw [Nat.zero_add]) h1 (by omega) (by omega) hb0.size
    rw [Nat.zero_add] at o1
    have O1 := Lib.hid o1
    clear o1 h0 hr0
    go_wp2_with (at_builtin; refine wpList_append_run (by rfl) (.tmp 5) (.tmp 6) 48 (by rfl) _ (.slice (some ad) n c) v3 w3 (by rfl) (by rfl) r3 ?_)
    go_ret
    exact ⟨_, rfl, O1.out, hb0.trans o2⟩
end Go.Proofs.Ytijcicgbhcphjaa
