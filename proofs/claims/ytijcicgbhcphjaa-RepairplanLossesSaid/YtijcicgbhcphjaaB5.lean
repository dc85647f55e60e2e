/- Rows of one's own, written; views of one's own. -/
import Derived.Test.YtijcicgbhcphjaaB4
namespace Go.Proofs.Ytijcicgbhcphjaa
open Go.RowKit Go.Lib Go.ChangeMaps

theorem Own.set {w : World} {base : Nat} {e : TypeId} {v : Value} {k n : Nat} {f : Nat → Nat → Value} (h : Own w base e v k n f) {i j : Nat} (hi : i < n) (hj : j < k) (u : Value) (f' : Nat → Nat → Value)
    (hf : ∀ i' j', i' < n → j' < k → f' i' j' = if i' = i ∧ j' = j then u else f i' j') :
    ∃ g c, v = .slice (some ⟨g, 0, none⟩) n c ∧ base ≤ g ∧ g < w.heap.size ∧ n ≤ c ∧ w.frozen? ⟨g, i * k + j, none⟩ = false ∧ w.cell? ⟨g, i * k + j, none⟩ = some (f i j) ∧ Own (w.setCell ⟨g, i * k + j, none⟩ u) base e v k n f' := by
  obtain ⟨xs, h1, h2⟩ := h
  have h0 := h1
  obtain ⟨hl, h3⟩ := h0
  have hlt : ∀ a b, a < n → b < k → a * k + b < n * k := fun a b ha hb => by
    have : (a + 1) * k ≤ n * k := Nat.mul_le_mul_right k ha
    rw [Nat.add_mul] at this
    omega
  rcases h3 with ⟨rfl, hn⟩ | ⟨g, cap, cur, rfl, hg, _, hcap, _⟩
  · simp only [hn] at hi; omega
  · refine ⟨g, cap, rfl, hg, (h1.lt g rfl).2, hcap, h1.frozenAt _, ?_, xs.set (i * k + j) u, (h1.stored _ _).1, fun a b ha hb => ?_⟩
    · rw [h1.cellAt _ (hlt i j hi hj)]
      exact h2 i j hi hj
    · rw [List.getElem?_set, hf a b ha hb]
      by_cases e : a = i ∧ b = j
      · rw [if_pos e, e.1, e.2, if_pos rfl, if_pos (by rw [hl]; exact hlt i j hi hj)]
      · rw [if_neg e, if_neg ?_]
        · exact h2 a b ha hb
        · intro he
          apply e
          have hk : 0 < k := by omega
          have d1 : (i * k + j) / k = i := by rw [Nat.mul_comm, Nat.mul_add_div hk, Nat.div_eq_of_lt hj, Nat.add_zero]
          have d2 : (i * k + j) % k = j := by rw [Nat.mul_comm, Nat.mul_add_mod, Nat.mod_eq_of_lt hj]
          have d3 : (a * k + b) / k = a := by rw [Nat.mul_comm, Nat.mul_add_div hk, Nat.div_eq_of_lt hb, Nat.add_zero]
          have d4 : (a * k + b) % k = b := by rw [Nat.mul_comm, Nat.mul_add_mod, Nat.mod_eq_of_lt hb]
          rw [he] at d1 d2
          exact ⟨d3.symm.trans d1, d4.symm.trans d2⟩

/-- The value at place k. -/
abbrev xsR (xs : List (Value × Value)) (k : Nat) : Value := (xs.getD k (undef, undef)).1
abbrev xsA (xs : List (Value × Value)) (k : Nat) : Value := (xs.getD k (undef, undef)).2
theorem getD_set_self {α : Type} (xs : List α) (d y : α) (i : Nat) (h : i < xs.length) : (xs.set i y).getD i d = y := by simp [List.getD, h]
theorem getD_set_ne {α : Type} (xs : List α) (d y : α) {i k : Nat} (h : k ≠ i) : (xs.set i y).getD k d = xs.getD k d := by
  simp only [List.getD, List.getElem?_set]
  rw [if_neg (Ne.symm h)]

/-- A view of one's own: all its rows lie behind lo, those of ints in blocks of their own; of the stripes the first j have rows of their own. -/
structure VwOwn (w : World) (lo j : Nat) (mv hv rv wv : Value) (xs : List (Value × Value)) (V : Vp) : Prop where
  m : Own w lo 81 mv 5 V.mem.length (memCell V.mem)
  h : Own w lo 52 hv 7 V.held.length (hpCell V.held xs)
  r : OwnI w lo rv V.room
  wt : OwnI w lo wv V.weight
  len : xs.length = V.held.length
  jn : j ≤ V.held.length
  rf : ∀ k, k < j → Own w lo 120 (xsR xs k) 3 (V.held.getD k default).refs.length (rfCell (V.held.getD k default).refs)
  at_ : ∀ k, k < j → OwnI w lo (xsA xs k) (V.held.getD k default).at_
  apRW : ∀ g, rv.ownBlock = some g → wv.ownBlock ≠ some g
  apRA : ∀ k, k < j → ∀ g, rv.ownBlock = some g → (xsA xs k).ownBlock ≠ some g
  apWA : ∀ k, k < j → ∀ g, wv.ownBlock = some g → (xsA xs k).ownBlock ≠ some g
  apAA : ∀ k k', k < j → k' < j → k ≠ k' → ∀ g, (xsA xs k).ownBlock = some g → (xsA xs k').ownBlock ≠ some g

theorem VwOwn.below {w w' : World} {lo j : Nat} {mv hv rv wv : Value} {xs : List (Value × Value)} {V : Vp} (h : VwOwn w lo j mv hv rv wv xs V) (hb : Below w.heap.size w w') : VwOwn w' lo j mv hv rv wv xs V :=
  ⟨h.m.below hb, h.h.below hb, h.r.below hb, h.wt.below hb, h.len, h.jn, fun k hk => (h.rf k hk).below hb, fun k hk => (h.at_ k hk).below hb, h.apRW, h.apRA, h.apWA, h.apAA⟩

theorem hpCell_set {hs : List Hp} {xs : List (Value × Value)} {j : Nat} (hj : j < xs.length) (y : Value × Value) (c : Nat) (u : Value)
    (hc : (c = 5 ∧ u = y.1 ∧ y.2 = xsA xs j) ∨ (c = 6 ∧ u = y.2 ∧ y.1 = xsR xs j)) (i' j' : Nat) (hj' : j' < 7) : hpCell hs (xs.set j y) i' j' = if i' = j ∧ j' = c then u else hpCell hs xs i' j' := by
  by_cases e : i' = j
  · subst e
    rcases hc with ⟨rfl, rfl, h3⟩ | ⟨rfl, rfl, h3⟩
    · match j', hj' with
      | 0, _ => simp [hpCell]
      | 1, _ => simp [hpCell]
      | 2, _ => simp [hpCell]
      | 3, _ => simp [hpCell]
      | 4, _ => simp [hpCell]
      | 5, _ => simp only [hpCell, getD_set_self _ _ _ _ hj, and_self, if_true]
      | 6, _ => simp only [hpCell, getD_set_self _ _ _ _ hj]; rw [if_neg (by omega)]; exact h3
    · match j', hj' with
      | 0, _ => simp [hpCell]
      | 1, _ => simp [hpCell]
      | 2, _ => simp [hpCell]
      | 3, _ => simp [hpCell]
      | 4, _ => simp [hpCell]
      | 5, _ => simp only [hpCell, getD_set_self _ _ _ _ hj]; rw [if_neg (by omega)]; exact h3
      | 6, _ => simp only [hpCell, getD_set_self _ _ _ _ hj, and_self, if_true]
  · rw [if_neg (fun h => e h.1)]
    unfold hpCell
    simp only [getD_set_ne _ _ _ e]

theorem VwOwn.setR {w : World} {lo j : Nat} {mv hv rv wv : Value} {xs : List (Value × Value)} {V : Vp} (h : VwOwn w lo j mv hv rv wv xs V) (hj : j < V.held.length) (u : Value) :
    ∃ g c, hv = .slice (some ⟨g, 0, none⟩) V.held.length c ∧ lo ≤ g ∧ g < w.heap.size ∧ w.frozen? ⟨g, j * 7 + 5, none⟩ = false ∧ w.cell? ⟨g, j * 7 + 5, none⟩ = some (xsR xs j) ∧
      VwOwn (w.setCell ⟨g, j * 7 + 5, none⟩ u) lo j mv hv rv wv (xs.set j (u, xsA xs j)) V := by
  have hjx : j < xs.length := by rw [h.len]; exact hj
  obtain ⟨g, c, rfl, h1, h2, _, h3, h4, h5⟩ := h.h.set (i := j) (j := 5) hj (by omega) u (hpCell V.held (xs.set j (u, xsA xs j))) (fun i' j' _ hj' => hpCell_set hjx (u, xsA xs j) 5 u (.inl ⟨rfl, rfl, rfl⟩) i' j' hj')
  have ho : ∀ {e : TypeId} {v : Value} {k n : Nat} {f : Nat → Nat → Value}, Own w lo e v k n f → 52 ≠ e → Own (w.setCell ⟨g, j * 7 + 5, none⟩ u) lo e v k n f := fun o he => o.same fun q hq => setCell_other w u (fun eq => by
    subst eq
    exact own_apart' h.h o he q rfl hq)
  have hn : ∀ k, k < j → (xs.set j (u, xsA xs j)).getD k (undef, undef) = xs.getD k (undef, undef) := fun k hk => getD_set_ne _ _ _ (by omega)
  refine ⟨g, c, rfl, h1, h2, h3, h4, ho h.m (by decide), h5, ho h.r (by decide), ho h.wt (by decide), by rw [List.length_set]; exact h.len, h.jn, fun k hk => ?_, fun k hk => ?_, h.apRW, fun k hk => ?_, fun k hk => ?_, fun k k' hk hk' => ?_⟩
  · unfold xsR; rw [hn k hk]; exact ho (h.rf k hk) (by decide)
  · unfold xsA; rw [hn k hk]; exact ho (h.at_ k hk) (by decide)
  · rw [show xsA (xs.set j (u, xsA xs j)) k = xsA xs k by unfold xsA; rw [hn k hk]]; exact h.apRA k hk
  · rw [show xsA (xs.set j (u, xsA xs j)) k = xsA xs k by unfold xsA; rw [hn k hk]]; exact h.apWA k hk
  · rw [show xsA (xs.set j (u, xsA xs j)) k = xsA xs k by unfold xsA; rw [hn k hk], show xsA (xs.set j (u, xsA xs j)) k' = xsA xs k' by unfold xsA; rw [hn k' hk']]; exact h.apAA k k' hk hk'

theorem VwOwn.setA {w : World} {lo j : Nat} {mv hv rv wv : Value} {xs : List (Value × Value)} {V : Vp} (h : VwOwn w lo j mv hv rv wv xs V) (hj : j < V.held.length) (a : Value)
    (hr : Own w lo 120 (xsR xs j) 3 (V.held.getD j default).refs.length (rfCell (V.held.getD j default).refs)) (ha : OwnI w lo a (V.held.getD j default).at_)
    (aR : ∀ g, rv.ownBlock = some g → a.ownBlock ≠ some g) (aW : ∀ g, wv.ownBlock = some g → a.ownBlock ≠ some g) (aA : ∀ k, k < j → ∀ g, (xsA xs k).ownBlock = some g → a.ownBlock ≠ some g) :
    ∃ g c, hv = .slice (some ⟨g, 0, none⟩) V.held.length c ∧ lo ≤ g ∧ g < w.heap.size ∧ w.frozen? ⟨g, j * 7 + 6, none⟩ = false ∧ w.cell? ⟨g, j * 7 + 6, none⟩ = some (xsA xs j) ∧
      VwOwn (w.setCell ⟨g, j * 7 + 6, none⟩ a) lo (j + 1) mv hv rv wv (xs.set j (xsR xs j, a)) V := by
  have hjx : j < xs.length := by rw [h.len]; exact hj
  obtain ⟨g, c, rfl, h1, h2, _, h3, h4, h5⟩ := h.h.set (i := j) (j := 6) hj (by omega) a (hpCell V.held (xs.set j (xsR xs j, a))) (fun i' j' _ hj' => hpCell_set hjx (xsR xs j, a) 6 a (.inr ⟨rfl, rfl, rfl⟩) i' j' hj')
  have ho : ∀ {e : TypeId} {v : Value} {k n : Nat} {f : Nat → Nat → Value}, Own w lo e v k n f → 52 ≠ e → Own (w.setCell ⟨g, j * 7 + 6, none⟩ a) lo e v k n f := fun o he => o.same fun q hq => setCell_other w a (fun eq => by
    subst eq
    exact own_apart' h.h o he q rfl hq)
  have hn : ∀ k, k < j → (xs.set j (xsR xs j, a)).getD k (undef, undef) = xs.getD k (undef, undef) := fun k hk => getD_set_ne _ _ _ (by omega)
  have hnA : ∀ k, k < j → xsA (xs.set j (xsR xs j, a)) k = xsA xs k := fun k hk => by unfold xsA; rw [hn k hk]
  have hnR : ∀ k, k < j → xsR (xs.set j (xsR xs j, a)) k = xsR xs k := fun k hk => by unfold xsR; rw [hn k hk]
  have hsA : xsA (xs.set j (xsR xs j, a)) j = a := by unfold xsA; rw [getD_set_self _ _ _ _ hjx]
  have hsR : xsR (xs.set j (xsR xs j, a)) j = xsR xs j := by show ((xs.set j (xsR xs j, a)).getD j (undef, undef)).1 = _; rw [getD_set_self _ _ _ _ hjx]
  have hcase : ∀ k, k < j + 1 → k = j ∨ k < j := fun k hk => by omega
  refine ⟨g, c, rfl, h1, h2, h3, h4, ho h.m (by decide), h5, ho h.r (by decide), ho h.wt (by decide), by rw [List.length_set]; exact h.len, hj, fun k hk => ?_, fun k hk => ?_, h.apRW, fun k hk => ?_, fun k hk => ?_, fun k k' hk hk' hkk => ?_⟩
  · rcases hcase k hk with rfl | hk
    · rw [hsR]; exact ho hr (by decide)
    · rw [hnR k hk]; exact ho (h.rf k hk) (by decide)
  · rcases hcase k hk with rfl | hk
    · rw [hsA]; exact ho ha (by decide)
    · rw [hnA k hk]; exact ho (h.at_ k hk) (by decide)
  · rcases hcase k hk with rfl | hk
    · rw [hsA]; exact aR
    · rw [hnA k hk]; exact h.apRA k hk
  · rcases hcase k hk with rfl | hk
    · rw [hsA]; exact aW
    · rw [hnA k hk]; exact h.apWA k hk
  · rcases hcase k hk with rfl | hk
    · rcases hcase k' hk' with rfl | hk'
      · exact absurd rfl hkk
      · rw [hsA, hnA k' hk']; exact fun g h1 h2 => aA k' hk' g h2 h1
    · rcases hcase k' hk' with rfl | hk'
      · rw [hsA, hnA k hk]; exact aA k hk
      · rw [hnA k hk, hnA k' hk']; exact h.apAA k k' hk hk' hkk

end Go.Proofs.Ytijcicgbhcphjaa
