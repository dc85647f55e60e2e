/- Rows of bytes and of pairs. -/
import Derived.Test.YtednejckcdiebaaN1
import Derived.Test.YtednejckcdiebaaS3
import Derived.Laws.OwnMore
import Derived.Handy
namespace Go.Proofs.Ytednejckcdiebaa
open Go.RowKit Go.Lib Go.ChangeMaps
set_option linter.unusedSimpArgs false

/-- A slice of n elements of k cells each, of which cell j of element i holds 'f i j'. -/
def RowAt (w : World) (v : Value) (k n : Nat) (f : Nat → Nat → Value) : Prop :=
  ∃ ao c, v = .slice ao n c ∧ n ≤ c ∧ n ≤ 4611686018427387904 ∧ (0 < n → ∃ b off, ao = some ⟨b, off, none⟩ ∧ ∀ i j, i < n → j < k → w.cell? ⟨b, off + i * k + j, none⟩ = some (f i j))

theorem RowAt.below {w w' : World} {v : Value} {k n : Nat} {f : Nat → Nat → Value} (h : RowAt w v k n f) (hb : Below w.heap.size w w') : RowAt w' v k n f := by
  obtain ⟨ao, c, rfl, hl, hm, hc⟩ := h
  refine ⟨ao, c, rfl, hl, hm, fun h0 => ?_⟩
  obtain ⟨b, off, e, hh⟩ := hc h0
  refine ⟨b, off, e, fun i j hi hj => ?_⟩
  have h1 := hh i j hi hj
  rw [hb.cell (p := ⟨b, _, none⟩) (cell_lt h1)]
  exact h1

theorem RowAt.at {w : World} {v : Value} {k n : Nat} {f : Nat → Nat → Value} (h : RowAt w v k n f) : ∃ ao c b off, v = .slice ao n c ∧ n ≤ c ∧ n ≤ 4611686018427387904 ∧ ∀ i, i < n → ao = some ⟨b, off, none⟩ ∧ ∀ j, j < k → w.cell? ⟨b, off + i * k + j, none⟩ = some (f i j) := by
  obtain ⟨ao, c, rfl, hl, hm, hc⟩ := h
  by_cases h0 : 0 < n
  · obtain ⟨b, off, e, hh⟩ := hc h0
    exact ⟨ao, c, b, off, rfl, hl, hm, fun i hi => ⟨e, fun j hj => hh i j hi hj⟩⟩
  · exact ⟨ao, c, 0, 0, rfl, hl, hm, fun i hi => absurd hi (by omega)⟩

theorem RowAt.take {w : World} {ao : Option Addr} {c k n : Nat} {f : Nat → Nat → Value} (h : RowAt w (.slice ao n c) k n f) (m : Nat) (hm : m ≤ n) : RowAt w (.slice ao m c) k m f := by
  obtain ⟨ao', c', e, hl, hx, hc⟩ := h
  cases e
  refine ⟨ao, c, rfl, by omega, by omega, fun h0 => ?_⟩
  obtain ⟨b, off, e, hh⟩ := hc (by omega)
  exact ⟨b, off, e, fun i j hi hj => hh i j (by omega) hj⟩

theorem RowAt.congr {w : World} {v : Value} {k n : Nat} {f g : Nat → Nat → Value} (h : RowAt w v k n f) (e : ∀ i j, i < n → j < k → f i j = g i j) : RowAt w v k n g := by
  obtain ⟨ao, c, rfl, hl, hm, hc⟩ := h
  refine ⟨ao, c, rfl, hl, hm, fun h0 => ?_⟩
  obtain ⟨b, off, ea, hh⟩ := hc h0
  exact ⟨b, off, ea, fun i j hi hj => by rw [← e i j hi hj]; exact hh i j hi hj⟩

theorem getD_take {α : Type} (zs : List α) (d : α) (m i : Nat) (h : i < m) : (zs.take m).getD i d = zs.getD i d := by
  simp [List.getD, h]

theorem getD_at {α : Type} (zs : List α) (j : Nat) (d : α) (h : j < zs.length) : zs.getD j d = zs[j] := by
  simp [List.getD, h]

/-- A row of the call's own: n elements of k cells, cell j of element i is 'f i j'. -/
def Own (w : World) (base : Nat) (e : TypeId) (v : Value) (k n : Nat) (f : Nat → Nat → Value) : Prop :=
  ∃ xs, w.ownsRow base e k v n xs ∧ ∀ i j, i < n → j < k → xs[i * k + j]? = some (f i j)

theorem Own.row {w : World} {base : Nat} {e : TypeId} {v : Value} {k n : Nat} {f : Nat → Nat → Value} (h : Own w base e v k n f) (hn : n ≤ 4611686018427387904) : RowAt w v k n f := by
  obtain ⟨xs, h1, h2⟩ := h
  have h0 := h1
  obtain ⟨hl, h3⟩ := h0
  rcases h3 with ⟨rfl, rfl⟩ | ⟨g, cap, cur, rfl, _, _, hcap, _⟩
  · exact ⟨none, 0, rfl, Nat.le_refl _, hn, fun h => by omega⟩
  · refine ⟨some ⟨g, 0, none⟩, cap, rfl, hcap, hn, fun _ => ⟨g, 0, rfl, fun i j hi hj => ?_⟩⟩
    have hlt : i * k + j < n * k := by
      have : (i + 1) * k ≤ n * k := Nat.mul_le_mul_right k hi
      rw [Nat.add_mul] at this
      omega
    rw [Nat.zero_add, h1.cellAt _ hlt]
    exact h2 i j hi hj

theorem Own.nil (w : World) (base : Nat) (e : TypeId) (k : Nat) (f : Nat → Nat → Value) : Own w base e (.slice none 0 0) k 0 f := ⟨[], World.ownsRow_nil w base e k, fun i j hi => by omega⟩
theorem Own.lit0 (w : World) (base : Nat) (e : TypeId) (k : Nat) (f : Nat → Nat → Value) (hb : base ≤ w.heap.size) : Own (w.alloc (.cells #[] e)) base e (.slice (some ⟨w.heap.size, 0, none⟩) 0 0) k 0 f :=
  ⟨[], World.ownsRow_lit w #[] 0 hb (by unfold maxLen; omega) (by simp), fun i j hi => by omega⟩
theorem Own.lt {w : World} {base : Nat} {e : TypeId} {v : Value} {k n : Nat} {f : Nat → Nat → Value} (h : Own w base e v k n f) : ∀ g, v.ownBlock = some g → base ≤ g ∧ g < w.heap.size := by
  obtain ⟨xs, h1, _⟩ := h
  exact h1.lt
theorem Own.same {w w' : World} {base : Nat} {e : TypeId} {v : Value} {k n : Nat} {f : Nat → Nat → Value} (h : Own w base e v k n f) (hs : ∀ g, v.ownBlock = some g → w'.heap[g]? = w.heap[g]?) : Own w' base e v k n f := by
  obtain ⟨xs, ⟨h1, h2⟩, h3⟩ := h
  refine ⟨xs, ⟨h1, ?_⟩, h3⟩
  rcases h2 with h2 | ⟨g, cap, cur, rfl, h3, h4, h5⟩
  · exact Or.inl h2
  · exact Or.inr ⟨g, cap, cur, rfl, h3, by rw [hs g rfl]; exact h4, h5⟩
theorem Own.below {w w' : World} {base : Nat} {e : TypeId} {v : Value} {k n : Nat} {f : Nat → Nat → Value} (h : Own w base e v k n f) (hb : Below w.heap.size w w') : Own w' base e v k n f :=
  h.same fun g hg => hb.block g (h.lt g hg).2
theorem Own.alloc {w : World} {base : Nat} {e : TypeId} {v : Value} {k n : Nat} {f : Nat → Nat → Value} (h : Own w base e v k n f) (o : Obj) : Own (w.alloc o) base e v k n f := h.below ((Below.refl _ _).alloc (Nat.le_refl _) _)
theorem Own.congr {w : World} {base : Nat} {e : TypeId} {v : Value} {k n : Nat} {f g : Nat → Nat → Value} (h : Own w base e v k n f) (hf : ∀ i j, i < n → j < k → f i j = g i j) : Own w base e v k n g := by
  obtain ⟨xs, h1, h2⟩ := h
  exact ⟨xs, h1, fun i j hi hj => by rw [← hf i j hi hj]; exact h2 i j hi hj⟩

theorem Own.slice {w : World} {base : Nat} {e : TypeId} {v : Value} {k n : Nat} {f : Nat → Nat → Value} (h : Own w base e v k n f) : ∃ a l c, v = .slice a l c := by
  obtain ⟨xs, ⟨_, h2⟩, _⟩ := h
  rcases h2 with ⟨rfl, _⟩ | ⟨g, cap, cur, rfl, _⟩
  · exact ⟨_, _, _, rfl⟩
  · exact ⟨_, _, _, rfl⟩

/-- One element more. -/
theorem Own.append {t e : TypeId} {z : Value} {k bytes : Nat} (ht : Try.prog.underlying t = some (.slice e)) (hinfo : (Try.prog.info? e).map (fun i => (i.zero, i.size, i.bytes)) = some (some z, k, bytes)) (hz : z.cells.size = k) (hk : 0 < k) (hby : bytes ≤ 1000)
    {V : World} {base : Nat} {v : Value} {n : Nat} {f : Nat → Nat → Value} (h : Own V base e v k n f) (ty : TypeId) (news : List Value) (hl : news.length = k) (hnew : ∀ j, j < k → news[j]? = some (f n j)) (h1 : ∀ u ∈ news, u.oneCell' = true) (hn : n ≤ 1000000000) (hbase : base ≤ V.heap.size) :
    ∃ v' w', (Builtin.append_ #[t, t] ty #[v, .slice (some ⟨V.heap.size, 0, none⟩) 1 1]).run Try.prog (V.alloc (.cells news.toArray e)) = .ok v' w' ∧ Own w' base e v' k (n + 1) f ∧ Below base V w' ∧
      (∀ b, b < V.heap.size → v.ownBlock ≠ some b → w'.heap[b]? = V.heap[b]?) ∧ (v'.ownBlock = v.ownBlock ∨ v'.ownBlock = some (V.heap.size + 1)) ∧ V.heap.size + 1 ≤ w'.heap.size := by
  obtain ⟨i0, hi, hz0, hz1, hz2⟩ := info_parts hinfo
  obtain ⟨xs, hown, hxs⟩ := h
  have hv : (V.alloc (.cells news.toArray e)).heap[V.heap.size]? = some (.cells news.toArray e (0, 0)) := by
    show (V.heap.push _)[_]? = _
    rw [Array.getElem?_push, if_pos rfl]
  have hbb : (n + 1) * bytes ≤ 140737488355328 := by
    have := Nat.mul_le_mul (show n + 1 ≤ 1000000001 by omega) hby
    omega
  obtain ⟨v', w', r, o1, o2, _, o4⟩ := run_append_own_at (P := Try.prog) (V.alloc (.cells news.toArray e)) base t ty e i0 z k bytes ht hi hz0 hz1 hz2 hz hk v _ _ (hown.alloc _)
    ⟨V.heap.size, 0, none⟩ 1 1 news (by omega) (by
      intro j u hj
      have hadd : (⟨V.heap.size, 0, none⟩ : Addr).add j = ⟨V.heap.size, j, none⟩ := by unfold Addr.add; split <;> simp_all
      rw [hadd, cell_of_row _ _ _ _ _ _ hv]
      simpa using hj) h1 (by unfold maxLen; omega) hbb (by simp; omega)
  have hlen := hown.1
  refine ⟨v', w', r, ⟨xs ++ news, o1, fun i j hi' hj => ?_⟩, ((Below.refl base V).alloc hbase _).trans ⟨o2.os, o2.tape, o2.output, o2.size, fun i hi => o2.block i (by simp; omega) (fun e => by have := (hown.lt i e.symm).1; omega)⟩, fun b hb hne => ?_, ?_, ?_⟩
  · by_cases hin : i < n
    · have hlt : i * k + j < n * k := by
        have : (i + 1) * k ≤ n * k := Nat.mul_le_mul_right k hin
        rw [Nat.add_mul] at this
        omega
      rw [List.getElem?_append_left (by omega)]
      exact hxs i j hin hj
    · have : i = n := by omega
      subst this
      rw [List.getElem?_append_right (by omega), hlen, Nat.add_sub_cancel_left]
      exact hnew j hj
  · rw [o2.block b (by simp; omega) (fun e => hne e.symm)]
    exact Below.heap_alloc V _ b hb
  · rcases o4 with h | h
    · exact .inl h
    · exact .inr (by rw [h]; simp)
  · have := o2.size; simp at this; omega

theorem own_ne {w : World} {base : Nat} {e : TypeId} {v : Value} {k n : Nat} {f : Nat → Nat → Value} (h : Own w base e v k n f) {b : Nat} {cs : Array Value} {t : TypeId} {fr : Nat × Nat} (hb : w.heap[b]? = some (.cells cs t fr)) (ht : t ≠ e) : v.ownBlock ≠ some b := by
  obtain ⟨xs, ⟨_, h2⟩, _⟩ := h
  rcases h2 with ⟨rfl, _⟩ | ⟨g, cap, cur, rfl, _, h3, _⟩
  · simp [Value.ownBlock]
  · intro e
    simp [Value.ownBlock] at e
    subst e
    rw [h3] at hb
    cases hb
    exact ht rfl

theorem own_ne_map {w : World} {base : Nat} {e : TypeId} {v : Value} {k n : Nat} {f : Nat → Nat → Value} (h : Own w base e v k n f) {b : Nat} {es : Array MapEntry} {q : Nat} (hb : w.heap[b]? = some (.map es q)) : v.ownBlock ≠ some b := by
  obtain ⟨xs, ⟨_, h2⟩, _⟩ := h
  rcases h2 with ⟨rfl, _⟩ | ⟨g, cap, cur, rfl, _, h3, _⟩
  · simp [Value.ownBlock]
  · intro e
    simp [Value.ownBlock] at e
    subst e
    rw [h3] at hb
    cases hb
theorem Own.base {w : World} {b b' : Nat} {e : TypeId} {v : Value} {k n : Nat} {f : Nat → Nat → Value} (h : Own w b e v k n f) (hb : b' ≤ b) : Own w b' e v k n f := by
  obtain ⟨xs, ⟨h0, h2⟩, h3⟩ := h
  refine ⟨xs, ⟨h0, ?_⟩, h3⟩
  rcases h2 with h2 | ⟨g, cap, cur, e1, e2, e3⟩
  · exact .inl h2
  · exact .inr ⟨g, cap, cur, e1, Nat.le_trans hb e2, e3⟩

theorem run_append_nilsrc {w : World} {base : Nat} {t ty e : TypeId} {i : TypeInfo} {size : Nat} (ht : Try.prog.underlying t = some (.slice e)) (hi : Try.prog.info? e = some i)
    {v : Value} {n : Nat} {xs : List Value} (hown : w.ownsRow base e size v n xs) (c : Nat) : (Builtin.append_ #[t, t] ty #[v, .slice none 0 c]).run Try.prog w = .ok v w := by
  rcases hown.2 with ⟨rfl, rfl⟩ | ⟨g, cap, cur, rfl, _, _, hnc, _⟩
  · simp [Builtin.append_, run_underlying ht, sizeOf, typeInfo, hi, Builtin.lenOf, Builtin.firstCells]
  · simp [Builtin.append_, run_underlying ht, sizeOf, typeInfo, hi, Builtin.lenOf, Builtin.firstCells, hnc, storeCells]

/-- A row that came in, appended. -/
theorem Own.appendR {t e : TypeId} {z : Value} {k bytes : Nat} (ht : Try.prog.underlying t = some (.slice e)) (hinfo : (Try.prog.info? e).map (fun i => (i.zero, i.size, i.bytes)) = some (some z, k, bytes)) (hz : z.cells.size = k) (hk : 0 < k) (hby : bytes ≤ 1000)
    {V : World} {base : Nat} {v u : Value} {n m : Nat} {f q : Nat → Nat → Value} (h : Own V base e v k n f) (ty : TypeId) (hsrc : RowAt V u k m q) (hf : ∀ i j, i < m → j < k → f (n + i) j = q i j) (h1 : ∀ i j, i < m → j < k → (q i j).oneCell' = true) (hn : n ≤ 1000000000) (hm : m ≤ 1000000000) (hbase : base ≤ V.heap.size) :
    ∃ v' w', (Builtin.append_ #[t, t] ty #[v, u]).run Try.prog V = .ok v' w' ∧ Own w' base e v' k (n + m) f ∧ Below base V w' ∧ (∀ b, b < V.heap.size → v.ownBlock ≠ some b → w'.heap[b]? = V.heap[b]?) ∧ (v'.ownBlock = v.ownBlock ∨ v'.ownBlock = some V.heap.size) := by
  obtain ⟨i0, hi, hz0, hz1, hz2⟩ := info_parts hinfo
  obtain ⟨xs, hown, hxs⟩ := h
  obtain ⟨ao, c, rfl, hmc, _, hcell⟩ := hsrc
  by_cases hm0 : m = 0
  · subst hm0
    rcases ao with _ | ad
    · exact ⟨v, V, run_append_nilsrc ht hi hown c, ⟨xs, hown, hxs⟩, Below.refl _ _, fun _ _ _ => rfl, .inl rfl⟩
    · obtain ⟨v', w', r, o1, o2, _, o4⟩ := run_append_own_at (P := Try.prog) V base t ty e i0 z k bytes ht hi hz0 hz1 hz2 hz hk v _ _ hown ad 0 c [] (by simp) (fun j x hj => by simp at hj) (by simp) (by unfold maxLen; omega) (by
        have := Nat.mul_le_mul (show n + 0 ≤ 1000000000 by omega) hby
        omega) hbase
      rw [List.append_nil] at o1
      exact ⟨v', w', r, ⟨xs, o1, hxs⟩, ⟨o2.os, o2.tape, o2.output, o2.size, fun i hi => o2.block i (by omega) (fun e => by have := (hown.lt i e.symm).1; omega)⟩, fun b hb hn' => o2.block b hb (fun e => hn' e.symm), o4⟩
  · obtain ⟨b, off, rfl, hc⟩ := hcell (by omega)
    have hnl : ((List.range (m * k)).map fun c => q (c / k) (c % k)).length = m * k := by simp
    have hbb : (n + m) * bytes ≤ 140737488355328 := by
      have := Nat.mul_le_mul (show n + m ≤ 2000000000 by omega) hby
      omega
    obtain ⟨v', w', r, o1, o2, _, o4⟩ := run_append_own_at (P := Try.prog) V base t ty e i0 z k bytes ht hi hz0 hz1 hz2 hz hk v _ _ hown ⟨b, off, none⟩ m c ((List.range (m * k)).map fun c => q (c / k) (c % k)) hnl (by
      intro j x hj
      have hjl : j < m * k := by have := (List.getElem?_eq_some_iff.1 hj).1; rw [hnl] at this; exact this
      have hadd : (⟨b, off, none⟩ : Addr).add j = ⟨b, off + j, none⟩ := by unfold Addr.add; split <;> simp_all
      have h1' : j / k < m := Nat.div_lt_of_lt_mul (by rw [Nat.mul_comm]; exact hjl)
      have h2' : j % k < k := Nat.mod_lt _ hk
      have := hc (j / k) (j % k) h1' h2'
      have hjk : j / k * k + j % k = j := by have := Nat.div_add_mod j k; rw [Nat.mul_comm] at this; exact this
      rw [hadd, show off + j = off + j / k * k + j % k by omega, this]
      simp [hjl] at hj
      rw [hj]) (by
      intro x hx
      obtain ⟨j, hj, rfl⟩ := List.mem_map.1 hx
      have hjl : j < m * k := List.mem_range.1 hj
      exact h1 _ _ (Nat.div_lt_of_lt_mul (by rw [Nat.mul_comm]; exact hjl)) (Nat.mod_lt _ hk)) (by unfold maxLen; omega) hbb hbase
    have hlen := hown.1
    refine ⟨v', w', r, ⟨xs ++ (List.range (m * k)).map fun c => q (c / k) (c % k), o1, fun i j hi' hj => ?_⟩, ⟨o2.os, o2.tape, o2.output, o2.size, fun i hi => o2.block i (by omega) (fun e => by have := (hown.lt i e.symm).1; omega)⟩, fun b hb hn' => o2.block b hb (fun e => hn' e.symm), o4⟩
    by_cases hin : i < n
    · have hlt : i * k + j < n * k := by
        have : (i + 1) * k ≤ n * k := Nat.mul_le_mul_right k hin
        rw [Nat.add_mul] at this
        omega
      rw [List.getElem?_append_left (by omega)]
      exact hxs i j hin hj
    · obtain ⟨i', rfl⟩ : ∃ i', i = n + i' := ⟨i - n, by omega⟩
      have hi2 : i' < m := by omega
      have hlt : i' * k + j < m * k := by
        have : (i' + 1) * k ≤ m * k := Nat.mul_le_mul_right k hi2
        rw [Nat.add_mul] at this
        omega
      rw [List.getElem?_append_right (by rw [hlen, Nat.add_mul]; omega), hlen, show (n + i') * k + j - n * k = i' * k + j by rw [Nat.add_mul]; omega, List.getElem?_map, List.getElem?_range hlt]
      have d1 : (i' * k + j) / k = i' := by rw [Nat.mul_comm, Nat.mul_add_div hk, Nat.div_eq_of_lt hj, Nat.add_zero]
      have d2 : (i' * k + j) % k = j := by rw [Nat.mul_comm, Nat.mul_add_mod, Nat.mod_eq_of_lt hj]
      simp only [Option.map_some, d1, d2]
      rw [hf i' j hi2 hj]


/-- A slice of bytes. -/
def ReadsB (w : World) (v : Value) (bs : List Int) : Prop := RowAt w v 1 bs.length fun i _ => .int .u8 (bs.getD i 0)
theorem ReadsB.below {w w' : World} {v : Value} {bs : List Int} (h : ReadsB w v bs) (hb : Below w.heap.size w w') : ReadsB w' v bs := RowAt.below h hb
theorem ReadsB.at {w : World} {v : Value} {bs : List Int} (h : ReadsB w v bs) : ∃ ao c b off, v = .slice ao bs.length c ∧ bs.length ≤ c ∧ bs.length ≤ 4611686018427387904 ∧ ∀ i, i < bs.length → ao = some ⟨b, off, none⟩ ∧ w.cell? ⟨b, off + i, none⟩ = some (.int .u8 (bs.getD i 0)) := by
  obtain ⟨ao, c, b, off, e, h1, h2, h3⟩ := RowAt.at h
  refine ⟨ao, c, b, off, e, h1, h2, fun i hi => ?_⟩
  obtain ⟨h4, h5⟩ := h3 i hi
  have := h5 0 (by omega)
  simp only [Nat.mul_one, Nat.add_zero] at this
  exact ⟨h4, this⟩
def OwnB (w : World) (base : Nat) (v : Value) (bs : List Int) : Prop := Own w base 5 v 1 bs.length fun i _ => .int .u8 (bs.getD i 0)
theorem OwnB.nil (w : World) (base : Nat) : OwnB w base (.slice none 0 0) [] := Own.nil _ _ _ _ _
theorem OwnB.reads {w : World} {base : Nat} {v : Value} {bs : List Int} (h : OwnB w base v bs) (hn : bs.length ≤ 4611686018427387904) : ReadsB w v bs := Own.row h hn
theorem OwnB.below {w w' : World} {base : Nat} {v : Value} {bs : List Int} (h : OwnB w base v bs) (hb : Below w.heap.size w w') : OwnB w' base v bs := Own.below h hb
theorem OwnB.slice {w : World} {base : Nat} {v : Value} {bs : List Int} (h : OwnB w base v bs) : ∃ a c, v = .slice a bs.length c := by
  obtain ⟨xs, ⟨h0, h2⟩, _⟩ := h
  rcases h2 with ⟨rfl, h⟩ | ⟨g, cap, cur, rfl, _⟩
  · rw [h]; exact ⟨_, _, rfl⟩
  · exact ⟨_, _, rfl⟩
theorem OwnB.append {V : World} {base : Nat} {v : Value} {bs : List Int} (h : OwnB V base v bs) (y : Int) (hn : bs.length ≤ 1000000000) (hbase : base ≤ V.heap.size) :
    ∃ v' w', (Builtin.append_ #[56, 56] 56 #[v, .slice (some ⟨V.heap.size, 0, none⟩) 1 1]).run Try.prog (V.alloc (.cells #[.int .u8 y] 5)) = .ok v' w' ∧ OwnB w' base v' (bs ++ [y]) ∧ Below base V w' := by
  have h' : Own V base 5 v 1 bs.length fun i _ => .int .u8 ((bs ++ [y]).getD i 0) := Own.congr h fun i j hi hj => by rw [getD_at _ _ _ hi, getD_at _ _ _ (by rw [List.length_append]; omega), List.getElem_append_left hi]
  obtain ⟨v3, w3, r3, o1, o2, o3, o4, o5⟩ := Own.append (V := V) (t := 56) (e := 5) (z := .int .u8 0) (k := 1) (bytes := 1) Try.underlying56 (by kernel_rfl) rfl (by omega) (by omega) h' 56 [.int .u8 y] rfl (fun q hq => by
    obtain rfl : q = 0 := by omega
    simp [List.getD]) (by intro u hu; simp at hu; subst hu; rfl) hn hbase
  refine ⟨v3, w3, r3, ?_, o2⟩
  unfold OwnB
  rw [List.length_append]
  exact o1
/-- A step that writes to the row of v alone, and makes new blocks; v' is that row, or a new one. -/
structure Ext (w w' : World) (v v' : Value) : Prop where
  grown : w.grownBy w' v.ownBlock
  row : v'.ownBlock = v.ownBlock ∨ ∃ g, v'.ownBlock = some g ∧ w.heap.size ≤ g
theorem gb_of {w W : World} (h : Below w.heap.size w W) (r : Option Nat) : w.grownBy W r := ⟨h.os, h.tape, h.output, h.size, fun k hk _ => h.block k hk⟩
/-- What has been kept of a: all but the row ob. -/
structure Kept (a w : World) (ob : Option Nat) (v : Value) : Prop where
  grown : a.grownBy w ob
  row : ∀ g, v.ownBlock = some g → ob = some g ∨ a.heap.size ≤ g
theorem Kept.below {a w w' : World} {ob : Option Nat} {v : Value} (h : Kept a w ob v) (hb : Below w.heap.size w w') : Kept a w' ob v :=
  ⟨⟨hb.os.trans h.grown.os, hb.tape.trans h.grown.tape, hb.output.trans h.grown.output, Nat.le_trans h.grown.size hb.size, fun k hk hne => (hb.block k (Nat.lt_of_lt_of_le hk h.grown.size)).trans (h.grown.block k hk hne)⟩, h.row⟩
theorem Kept.ext {a w w' : World} {ob : Option Nat} {v v' : Value} (h : Kept a w ob v) (he : Ext w w' v v') : Kept a w' ob v' :=
  ⟨⟨he.grown.os.trans h.grown.os, he.grown.tape.trans h.grown.tape, he.grown.output.trans h.grown.output, Nat.le_trans h.grown.size he.grown.size, fun k hk hne => (he.grown.block k (Nat.lt_of_lt_of_le hk h.grown.size) (fun e => by
      rcases h.row k e.symm with h1 | h1
      · exact hne h1.symm
      · omega)).trans (h.grown.block k hk hne)⟩, fun g hg => by
    rcases he.row with h1 | ⟨g', h1, h2⟩
    · exact h.row g (h1.symm.trans hg)
    · rw [h1] at hg
      cases hg
      exact .inr (Nat.le_trans h.grown.size h2)⟩
theorem Kept.refl (a : World) (v : Value) : Kept a a v.ownBlock v := ⟨⟨rfl, rfl, rfl, Nat.le_refl _, fun _ _ _ => rfl⟩, fun _ h => .inl h⟩
theorem Kept.to_below {a w : World} {ob : Option Nat} {v : Value} (h : Kept a w ob v) {B : Nat} (hB : B ≤ a.heap.size) (ho : ∀ g, ob = some g → B ≤ g) : Below B a w :=
  ⟨h.grown.os, h.grown.tape, h.grown.output, h.grown.size, fun k hk => h.grown.block k (by omega) (fun e => by have := ho k e.symm; omega)⟩
theorem Ext.of_below {w w' : World} {v v' : Value} (h : Below w.heap.size w w') (hv : v'.ownBlock = v.ownBlock ∨ ∃ g, v'.ownBlock = some g ∧ w.heap.size ≤ g) : Ext w w' v v' := ⟨gb_of h _, hv⟩
theorem Ext.after {w w1 w2 : World} {v v' : Value} (hb : Below w.heap.size w w1) (he : Ext w1 w2 v v') (hv : ∀ g, v.ownBlock = some g → g < w.heap.size) : Ext w w2 v v' :=
  ⟨⟨he.grown.os.trans hb.os, he.grown.tape.trans hb.tape, he.grown.output.trans hb.output, Nat.le_trans hb.size he.grown.size, fun k hk hne => (he.grown.block k (Nat.lt_of_lt_of_le hk hb.size) hne).trans (hb.block k hk)⟩, by
    rcases he.row with h | ⟨g, h, h2⟩
    · exact .inl h
    · exact .inr ⟨g, h, Nat.le_trans hb.size h2⟩⟩
theorem OwnB.appendR {V : World} {base : Nat} {v u : Value} {bs es : List Int} (h : OwnB V base v bs) (hu : ReadsB V u es) (hn : bs.length ≤ 1000000000) (hm : es.length ≤ 1000000000) (hbase : base ≤ V.heap.size) :
    ∃ v' w', (Builtin.append_ #[56, 56] 56 #[v, u]).run Try.prog V = .ok v' w' ∧ OwnB w' base v' (bs ++ es) ∧ Below base V w' ∧ Ext V w' v v' := by
  have h' : Own V base 5 v 1 bs.length fun i _ => .int .u8 ((bs ++ es).getD i 0) := Own.congr h fun i j hi hj => by rw [getD_at _ _ _ hi, getD_at _ _ _ (by rw [List.length_append]; omega), List.getElem_append_left hi]
  obtain ⟨v', w', r, o1, o2, o3, o4⟩ := Own.appendR (t := 56) (e := 5) (z := .int .u8 0) (k := 1) (bytes := 1) Try.underlying56 (by kernel_rfl) rfl (by omega) (by omega) h' 56 hu (fun i j hi hj => by
    rw [getD_at _ _ _ (by rw [List.length_append]; omega), List.getElem_append_right (by omega), getD_at _ _ _ hi]
    simp) (fun _ _ _ _ => rfl) hn hm hbase
  refine ⟨v', w', r, ?_, o2, ⟨⟨o2.os, o2.tape, o2.output, o2.size, fun k hk hne => o3 k hk (fun e => hne e.symm)⟩, ?_⟩⟩
  · unfold OwnB
    rw [List.length_append]
    exact o1
  · rcases o4 with h | h
    · exact .inl h
    · exact .inr ⟨_, h, Nat.le_refl _⟩

/-- A slice of pairs. -/
def prCell (ps : List (Int × Int)) (i j : Nat) : Value := match j with
  | 0 => .int .i64 (ps.getD i (0, 0)).1
  | _ => .int .i64 (ps.getD i (0, 0)).2
def ReadsP (w : World) (v : Value) (ps : List (Int × Int)) : Prop := RowAt w v 2 ps.length (prCell ps)
theorem ReadsP.below {w w' : World} {v : Value} {ps : List (Int × Int)} (h : ReadsP w v ps) (hb : Below w.heap.size w w') : ReadsP w' v ps := RowAt.below h hb
theorem ReadsP.at {w : World} {v : Value} {ps : List (Int × Int)} (h : ReadsP w v ps) : ∃ ao c b off, v = .slice ao ps.length c ∧ ps.length ≤ c ∧ ps.length ≤ 4611686018427387904 ∧ ∀ i, i < ps.length → ao = some ⟨b, off, none⟩ ∧ w.cell? ⟨b, off + i * 2, none⟩ = some (.int .i64 (ps.getD i (0, 0)).1) ∧ w.cell? ⟨b, off + i * 2 + 1, none⟩ = some (.int .i64 (ps.getD i (0, 0)).2) := by
  obtain ⟨ao, c, b, off, e, h1, h2, h3⟩ := RowAt.at h
  refine ⟨ao, c, b, off, e, h1, h2, fun i hi => ?_⟩
  obtain ⟨h4, h5⟩ := h3 i hi
  exact ⟨h4, h5 0 (by omega), h5 1 (by omega)⟩
def OwnP (w : World) (base : Nat) (v : Value) (ps : List (Int × Int)) : Prop := Own w base 72 v 2 ps.length (prCell ps)
theorem OwnP.nil (w : World) (base : Nat) : OwnP w base (.slice none 0 0) [] := Own.nil _ _ _ _ _
theorem OwnP.reads {w : World} {base : Nat} {v : Value} {ps : List (Int × Int)} (h : OwnP w base v ps) (hn : ps.length ≤ 4611686018427387904) : ReadsP w v ps := Own.row h hn
theorem OwnP.below {w w' : World} {base : Nat} {v : Value} {ps : List (Int × Int)} (h : OwnP w base v ps) (hb : Below w.heap.size w w') : OwnP w' base v ps := Own.below h hb
theorem OwnP.slice {w : World} {base : Nat} {v : Value} {ps : List (Int × Int)} (h : OwnP w base v ps) : ∃ a c, v = .slice a ps.length c := by
  obtain ⟨xs, ⟨h0, h2⟩, _⟩ := h
  rcases h2 with ⟨rfl, h⟩ | ⟨g, cap, cur, rfl, _⟩
  · rw [h]; exact ⟨_, _, rfl⟩
  · exact ⟨_, _, rfl⟩
theorem OwnP.append {V : World} {base : Nat} {v : Value} {ps : List (Int × Int)} (h : OwnP V base v ps) (x y : Int) (hn : ps.length ≤ 1000000) (hbase : base ≤ V.heap.size) :
    ∃ v' w', (Builtin.append_ #[87, 87] 87 #[v, .slice (some ⟨V.heap.size, 0, none⟩) 1 1]).run Try.prog (V.alloc (.cells #[.int .i64 x, .int .i64 y] 72)) = .ok v' w' ∧ OwnP w' base v' (ps ++ [(x, y)]) ∧ Below base V w' := by
  have h' : Own V base 72 v 2 ps.length (prCell (ps ++ [(x, y)])) := Own.congr h fun i j hi hj => by
    unfold prCell
    rw [getD_at _ _ _ hi, getD_at _ _ _ (by rw [List.length_append]; omega), List.getElem_append_left hi]
  have hg : (ps ++ [(x, y)]).getD ps.length (0, 0) = (x, y) := by simp [List.getD]
  obtain ⟨v3, w3, r3, o1, o2, o3, o4, o5⟩ := Own.append (V := V) (t := 87) (e := 72) (z := .agg #[.int .i64 0, .int .i64 0]) (k := 2) (bytes := 16) Try.underlying87 (by kernel_rfl) rfl (by omega) (by omega) h' 87 [.int .i64 x, .int .i64 y] rfl (fun q hq => by
    unfold prCell
    rw [hg]
    match q, hq with
    | 0, _ => rfl
    | 1, _ => rfl) (by intro u hu; simp at hu; rcases hu with rfl | rfl <;> rfl) (by omega) hbase
  refine ⟨v3, w3, r3, ?_, o2⟩
  unfold OwnP
  rw [List.length_append]
  exact o1

end Go.Proofs.Ytednejckcdiebaa
