/- A region in whatever order, by facts on what has been done. -/
import Derived.Test.YtijcicgbhcphjaaB1
import Derived.Deep.RegionHeld3
import Derived.Deep.DeepCutAuto
import Derived.Deep.RegionLaw
namespace Go.Proofs.Ytijcicgbhcphjaa
open Go.RowKit Go.Lib Go.ChangeMaps

section
variable {P : Program} {ops : Array Oper} {Q : Exit → Act → World → Prop}
def lackC (l : Array Bool) (n : Nat) : Nat := ((List.range n).filter fun i => !l.getD i true).length

theorem lackC_set {l : Array Bool} {n i : Nat} (hl : l.size = n) (hi : i < n) (hf : l.getD i true = false) : lackC (l.setIfInBounds i true) n < lackC l n := by
  unfold lackC
  rw [← List.countP_eq_length_filter, ← List.countP_eq_length_filter]
  have hsub : ∀ j, (!(l.setIfInBounds i true).getD j true) = (decide (j ≠ i) && !l.getD j true) := fun j => by
    by_cases e : j = i
    · subst e; simp [Array.getD, hl, hi]
    · have : (l.setIfInBounds i true).getD j true = l.getD j true := by
        simp only [Array.getD_eq_getD_getElem?, Array.getElem?_setIfInBounds]
        rw [if_neg (fun x => e x.symm)]
      rw [this]; simp [e]
  have h1 : (List.range n).countP (fun j => !(l.setIfInBounds i true).getD j true) + 1 ≤ (List.range n).countP fun j => !l.getD j true := by
    have hmem : i ∈ List.range n := List.mem_range.2 hi
    obtain ⟨s, t, e⟩ := List.append_of_mem hmem
    rw [e, List.countP_append, List.countP_append, List.countP_cons, List.countP_cons]
    have m1 : ∀ r : List Nat, r.countP (fun j => !(l.setIfInBounds i true).getD j true) ≤ r.countP fun j => !l.getD j true := fun r => List.countP_mono_left fun j _ h => by
      rw [hsub] at h
      simp at h
      simp [h.2]
    have := m1 s
    have := m1 t
    rw [hsub i, hf, if_neg (by simp), if_pos (by simp)]
    omega
  omega

theorem wpAny_inv (Inv : Array Bool → Act → World → Prop)
    (hstep : ∀ (l : Array Bool) a w, l.size = ops.size → Inv l a w → ∀ i ∈ Region.ready .any ops l, wpOp P ops Q i (fun a' w' => Inv (l.setIfInBounds i true) a' w') a w)
    (hend : ∀ (l : Array Bool) a w, l.size = ops.size → Inv l a w → Region.ready .any ops l = [] → Q .normal a w) :
    ∀ (fuel : Nat) (l : Array Bool) a w, l.size = ops.size → Inv l a w → lackC l ops.size ≤ fuel → wpAny P .any ops Q fuel l a w
  | 0, l, a, w, hl, hi, hc => by
    have hr : Region.ready .any ops l = [] := by
      unfold Region.ready
      rw [List.filter_eq_nil_iff]
      intro i hi hx
      have h0 : (List.range ops.size).filter (fun i => !l.getD i true) = [] := List.length_eq_zero_iff.1 (by unfold lackC at hc; omega)
      rw [List.filter_eq_nil_iff] at h0
      rw [Bool.and_eq_true] at hx
      exact h0 i hi hx.1
    exact ⟨hr, hend l a w hl hi hr⟩
  | fuel + 1, l, a, w, hl, hi, hc => by
    refine ⟨fun hr => hend l a w hl hi hr, fun i hr => ?_⟩
    have hx := List.mem_filter.1 hr
    have hlt := List.mem_range.1 hx.1
    have hf : l.getD i true = false := by
      have := hx.2
      rw [Bool.and_eq_true] at this
      simpa using this.1
    refine wpOp_mono (fun a' w' h' => wpAny_inv Inv hstep hend fuel _ a' w' (by rw [Array.size_setIfInBounds]; exact hl) h' ?_) (hstep l a w hl hi i hr)
    have := lackC_set hl hlt hf
    omega

theorem wpOp_go {i : Nat} {o : Oper} {a : Act} {w : World} {K : Act → World → Prop} (ho : ops[i]? = some o)
    (h : ∀ K' : Act → World → Prop, Shut (∀ a w, K a w → K' a w) → if Region.wanted o (yielded ops a.tmps) = true then Oper.wp P o a w K' Q else K' (a.put o.dst undef) w) : wpOp P ops Q i K a w :=
  wpOp_step ho fun K' hK => h K' fun a w hk => hK a w hk

theorem wp_region_inv {id : Nat} {a : Act} {w : World} (hm : P.follows .mixedOrders = true) (Inv : Array Bool → Act → World → Prop)
    (h0 : Inv (Array.replicate ops.size false) a w.drew)
    (hstep : ∀ (l : Array Bool) a w, l.size = ops.size → Inv l a w → ∀ i ∈ Region.ready .any ops l, wpOp P ops Q i (fun a' w' => Inv (l.setIfInBounds i true) a' w') a w)
    (hend : ∀ (l : Array Bool) a w, l.size = ops.size → Inv l a w → Region.ready .any ops l = [] → Q .normal a w) : (Code.region id ops true).wp P Q a w :=
  wp_region_any hm (wpAny_inv Inv hstep hend _ _ _ _ (by simp) h0 (by
    unfold lackC
    have := List.length_filter_le (fun i => !(Array.replicate ops.size false).getD i true) (List.range ops.size)
    rw [List.length_range] at this
    exact this))
end

theorem ready_dep {ops : Array Oper} {l : Array Bool} {i : Nat} (h : i ∈ Region.ready .any ops l) : i < ops.size ∧ ∀ o, ops[i]? = some o → ∀ e ∈ o.after, Region.binds .any e = true → l.getD e.on false = true := by
  have hx := List.mem_filter.1 h
  refine ⟨List.mem_range.1 hx.1, fun o ho e he hb => ?_⟩
  have h2 := hx.2
  rw [Bool.and_eq_true, ho] at h2
  have h3 := h2.2
  simp only [Option.map_some, Option.getD_some] at h3
  have := Array.all_eq_true_iff_forall_mem.1 h3 e he
  rw [hb] at this
  simpa using this

theorem getD_set {l : Array Bool} {i k : Nat} (h : (l.setIfInBounds i true).getD k false = true) : k = i ∨ l.getD k false = true := by
  by_cases e : k = i
  · exact .inl e
  · right
    simp only [Array.getD_eq_getD_getElem?, Array.getElem?_setIfInBounds] at h ⊢
    rwa [if_neg (fun x => e x.symm)] at h

theorem all_done {ops : Array Oper} {l : Array Bool} (h : Region.ready .any ops l = []) : ∀ i (hi : i < ops.size), (∀ e ∈ (ops[i]'hi).after, Region.binds .any e = true → l.getD e.on false = true) → l.getD i true = true := by
  intro i hi hd
  unfold Region.ready at h
  rw [List.filter_eq_nil_iff] at h
  have := h i (List.mem_range.2 hi)
  cases hb : l.getD i true with
  | true => rfl
  | false =>
    exfalso
    apply this
    rw [hb, Array.getElem?_eq_getElem hi]
    simp only [Bool.not_false, Option.map_some, Option.getD_some, Bool.true_and]
    rw [Array.all_eq_true_iff_forall_mem]
    intro e he
    by_cases g : Region.binds .any e = true
    · rw [hd e he g]; simp
    · simp [g]
theorem all_listed {ops : Array Oper} {l : Array Bool} (hl : l.size = ops.size) (hc : ∀ i (hi : i < ops.size), ((ops[i]'hi).after.all fun e => !Region.binds .any e || decide (e.on < i)) = true) (h : Region.ready .any ops l = []) : ∀ i, i < ops.size → l.getD i false = true := by
  intro i
  induction i using Nat.strongRecOn with
  | ind i ih =>
    intro hi
    have := all_done h i hi (fun e he hb => by
      have := Array.all_eq_true_iff_forall_mem.1 (hc i hi) e he
      rw [hb] at this
      have hlt : e.on < i := by simpa using this
      exact ih e.on hlt (by omega))
    simp only [Array.getD_eq_getD_getElem?, Array.getElem?_eq_getElem (show i < l.size by omega), Option.getD_some] at this ⊢
    exact this

def updV (x : Nat → Value) (s : Nat) (v : Value) : Nat → Value := fun i => if i = s then v else x i

section
variable (fct : Nat → World → Value → Prop) (mem : Nat → Bool) (slot : Nat → Nat) (w0 : World) (n : Nat)
structure InvG (l : Array Bool) (x : Nat → Value) (w : World) : Prop where
  below : Below w0.heap.size w0 w
  done : ∀ k, l.getD k false = true → k < n → fct k w (x (slot k))
  own : ∀ k, l.getD k false = true → k < n → mem k = true → ∀ g, (x (slot k)).ownBlock = some g → w0.heap.size ≤ g ∧ g < w.heap.size
  apart : ∀ k k', l.getD k false = true → l.getD k' false = true → k < n → k' < n → mem k = true → mem k' = true → k ≠ k' → ∀ g, (x (slot k)).ownBlock = some g → (x (slot k')).ownBlock ≠ some g
variable {fct mem slot w0 n}
theorem InvG.put (hst : ∀ k w w' v, fct k w v → Below w.heap.size w w' → fct k w' v) (hinj : ∀ i j, i < n → j < n → slot i = slot j → i = j)
    {l : Array Bool} {x : Nat → Value} {w : World} (h : InvG fct mem slot w0 n l x w) (i : Nat) (hi : i < n) {v : Value} {w' : World} (hb : Below w.heap.size w w') (hf : fct i w' v)
    (hm : mem i = true → ∀ g, v.ownBlock = some g → w.heap.size ≤ g ∧ g < w'.heap.size) : InvG fct mem slot w0 n (l.setIfInBounds i true) (updV x (slot i) v) w' := by
  have hne : ∀ k, k < n → k ≠ i → updV x (slot i) v (slot k) = x (slot k) := fun k hk hki => by
    unfold updV
    rw [if_neg (fun e => hki (hinj k i hk hi e))]
  have he : updV x (slot i) v (slot i) = v := by simp [updV]
  have hsz := h.below.size
  have hsz2 := hb.size
  refine ⟨h.below.trans (hb.mono hsz), fun k hk hkn => ?_, fun k hk hkn hmk g hg => ?_, fun k k' hk hk' hkn hkn' hmk hmk' hkk g hg hg' => ?_⟩
  · by_cases e : k = i
    · subst e; rw [he]; exact hf
    · rw [hne k hkn e]; exact hst _ _ _ _ (h.done k ((getD_set hk).resolve_left e) hkn) hb
  · by_cases e : k = i
    · subst e; rw [he] at hg; have := hm hmk g hg; omega
    · rw [hne k hkn e] at hg; have := h.own k ((getD_set hk).resolve_left e) hkn hmk g hg; omega
  · by_cases e : k = i
    · subst e
      rw [he] at hg
      rw [hne k' hkn' (Ne.symm hkk)] at hg'
      have := h.own k' ((getD_set hk').resolve_left (Ne.symm hkk)) hkn' hmk' g hg'
      have := hm hmk g hg
      omega
    · by_cases e' : k' = i
      · subst e'
        rw [he] at hg'
        rw [hne k hkn e] at hg
        have := h.own k ((getD_set hk).resolve_left e) hkn hmk g hg
        have := hm hmk' g hg'
        omega
      · rw [hne k hkn e] at hg
        rw [hne k' hkn' e'] at hg'
        exact h.apart k k' ((getD_set hk).resolve_left e) ((getD_set hk').resolve_left e') hkn hkn' hmk hmk' hkk g hg hg'
end

end Go.Proofs.Ytijcicgbhcphjaa

/- Rows of one's own, written; views of one's own. -/
namespace Go.Proofs.Ytijcicgbhcphjaa
open Go.RowKit Go.Lib Go.ChangeMaps

theorem Own.set {w : World} {base : Nat} {e : TypeId} {v : Value} {k n : Nat} {f : Nat → Nat → Value} (h : Own w base e v k n f) {i j : Nat} (hi : i < n) (hj : j < k) (u : Value) (f' : Nat → Nat → Value)
    (hf : ∀ i' j', i' < n → j' < k → f' i' j' = if i' = i ∧ j' = j then u else f i' j') :
    ∃ g c, v = .slice (some ⟨g, 0, none⟩) n c ∧ base ≤ g ∧ g < w.heap.size ∧ n ≤ c ∧ w.frozen? ⟨g, i * k + j, none⟩ = false ∧ w.cell? ⟨g, i * k + j, none⟩ = some (f i j) ∧ Own (w.setCell ⟨g, i * k + j, none⟩ u) base e v k n f' := by
  obtain ⟨xs, h1, h2⟩ := h
  have h0 := h1
  obtain ⟨hl, h3⟩ := h0
  have hlt : ∀ a b, a < n → b < k → a * k + b < n * k := fun a b ha hb => by
    have : (a + 1) * k ≤ n * k := Nat.mul_le_mul_right k ha
    rw [Nat.add_mul] at this
    omega
  rcases h3 with ⟨rfl, hn⟩ | ⟨g, cap, cur, rfl, hg, _, hcap, _⟩
  · simp only [hn] at hi; omega
  · refine ⟨g, cap, rfl, hg, (h1.lt g rfl).2, hcap, h1.frozenAt _, ?_, xs.set (i * k + j) u, (h1.stored _ _).1, fun a b ha hb => ?_⟩
    · rw [h1.cellAt _ (hlt i j hi hj)]
      exact h2 i j hi hj
    · rw [List.getElem?_set, hf a b ha hb]
      by_cases e : a = i ∧ b = j
      · rw [if_pos e, e.1, e.2, if_pos rfl, if_pos (by rw [hl]; exact hlt i j hi hj)]
      · rw [if_neg e, if_neg ?_]
        · exact h2 a b ha hb
        · intro he
          apply e
          have hk : 0 < k := by omega
          have d1 : (i * k + j) / k = i := by rw [Nat.mul_comm, Nat.mul_add_div hk, Nat.div_eq_of_lt hj, Nat.add_zero]
          have d2 : (i * k + j) % k = j := by rw [Nat.mul_comm, Nat.mul_add_mod, Nat.mod_eq_of_lt hj]
          have d3 : (a * k + b) / k = a := by rw [Nat.mul_comm, Nat.mul_add_div hk, Nat.div_eq_of_lt hb, Nat.add_zero]
          have d4 : (a * k + b) % k = b := by rw [Nat.mul_comm, Nat.mul_add_mod, Nat.mod_eq_of_lt hb]
          rw [he] at d1 d2
          exact ⟨d3.symm.trans d1, d4.symm.trans d2⟩

/-- The value at place k. -/
abbrev xsR (xs : List (Value × Value)) (k : Nat) : Value := (xs.getD k (undef, undef)).1
abbrev xsA (xs : List (Value × Value)) (k : Nat) : Value := (xs.getD k (undef, undef)).2
theorem getD_set_self {α : Type} (xs : List α) (d y : α) (i : Nat) (h : i < xs.length) : (xs.set i y).getD i d = y := by simp [List.getD, h]
theorem getD_set_ne {α : Type} (xs : List α) (d y : α) {i k : Nat} (h : k ≠ i) : (xs.set i y).getD k d = xs.getD k d := by
  simp only [List.getD, List.getElem?_set]
  rw [if_neg (Ne.symm h)]

/-- A view of one's own: all its rows lie behind lo, those of ints in blocks of their own; of the stripes the first j have rows of their own. -/
structure VwOwn (w : World) (lo j : Nat) (mv hv rv wv : Value) (xs : List (Value × Value)) (V : Vp) : Prop where
  m : Own w lo 81 mv 5 V.mem.length (memCell V.mem)
  h : Own w lo 52 hv 7 V.held.length (hpCell V.held xs)
  r : OwnI w lo rv V.room
  wt : OwnI w lo wv V.weight
  len : xs.length = V.held.length
  jn : j ≤ V.held.length
  rf : ∀ k, k < j → Own w lo 120 (xsR xs k) 3 (V.held.getD k default).refs.length (rfCell (V.held.getD k default).refs)
  at_ : ∀ k, k < j → OwnI w lo (xsA xs k) (V.held.getD k default).at_
  apRW : ∀ g, rv.ownBlock = some g → wv.ownBlock ≠ some g
  apRA : ∀ k, k < j → ∀ g, rv.ownBlock = some g → (xsA xs k).ownBlock ≠ some g
  apWA : ∀ k, k < j → ∀ g, wv.ownBlock = some g → (xsA xs k).ownBlock ≠ some g
  apAA : ∀ k k', k < j → k' < j → k ≠ k' → ∀ g, (xsA xs k).ownBlock = some g → (xsA xs k').ownBlock ≠ some g

theorem VwOwn.below {w w' : World} {lo j : Nat} {mv hv rv wv : Value} {xs : List (Value × Value)} {V : Vp} (h : VwOwn w lo j mv hv rv wv xs V) (hb : Below w.heap.size w w') : VwOwn w' lo j mv hv rv wv xs V :=
  ⟨h.m.below hb, h.h.below hb, h.r.below hb, h.wt.below hb, h.len, h.jn, fun k hk => (h.rf k hk).below hb, fun k hk => (h.at_ k hk).below hb, h.apRW, h.apRA, h.apWA, h.apAA⟩

theorem hpCell_set {hs : List Hp} {xs : List (Value × Value)} {j : Nat} (hj : j < xs.length) (y : Value × Value) (c : Nat) (u : Value)
    (hc : (c = 5 ∧ u = y.1 ∧ y.2 = xsA xs j) ∨ (c = 6 ∧ u = y.2 ∧ y.1 = xsR xs j)) (i' j' : Nat) (hj' : j' < 7) : hpCell hs (xs.set j y) i' j' = if i' = j ∧ j' = c then u else hpCell hs xs i' j' := by
  by_cases e : i' = j
  · subst e
    rcases hc with ⟨rfl, rfl, h3⟩ | ⟨rfl, rfl, h3⟩
    · match j', hj' with
      | 0, _ => simp [hpCell]
      | 1, _ => simp [hpCell]
      | 2, _ => simp [hpCell]
      | 3, _ => simp [hpCell]
      | 4, _ => simp [hpCell]
      | 5, _ => simp only [hpCell, getD_set_self _ _ _ _ hj, and_self, if_true]
      | 6, _ => simp only [hpCell, getD_set_self _ _ _ _ hj]; rw [if_neg (by omega)]; exact h3
    · match j', hj' with
      | 0, _ => simp [hpCell]
      | 1, _ => simp [hpCell]
      | 2, _ => simp [hpCell]
      | 3, _ => simp [hpCell]
      | 4, _ => simp [hpCell]
      | 5, _ => simp only [hpCell, getD_set_self _ _ _ _ hj]; rw [if_neg (by omega)]; exact h3
      | 6, _ => simp only [hpCell, getD_set_self _ _ _ _ hj, and_self, if_true]
  · rw [if_neg (fun h => e h.1)]
    unfold hpCell
    simp only [getD_set_ne _ _ _ e]

theorem VwOwn.setR {w : World} {lo j : Nat} {mv hv rv wv : Value} {xs : List (Value × Value)} {V : Vp} (h : VwOwn w lo j mv hv rv wv xs V) (hj : j < V.held.length) (u : Value) :
    ∃ g c, hv = .slice (some ⟨g, 0, none⟩) V.held.length c ∧ lo ≤ g ∧ g < w.heap.size ∧ w.frozen? ⟨g, j * 7 + 5, none⟩ = false ∧ w.cell? ⟨g, j * 7 + 5, none⟩ = some (xsR xs j) ∧
      VwOwn (w.setCell ⟨g, j * 7 + 5, none⟩ u) lo j mv hv rv wv (xs.set j (u, xsA xs j)) V := by
  have hjx : j < xs.length := by rw [h.len]; exact hj
  obtain ⟨g, c, rfl, h1, h2, _, h3, h4, h5⟩ := h.h.set (i := j) (j := 5) hj (by omega) u (hpCell V.held (xs.set j (u, xsA xs j))) (fun i' j' _ hj' => hpCell_set hjx (u, xsA xs j) 5 u (.inl ⟨rfl, rfl, rfl⟩) i' j' hj')
  have ho : ∀ {e : TypeId} {v : Value} {k n : Nat} {f : Nat → Nat → Value}, Own w lo e v k n f → 52 ≠ e → Own (w.setCell ⟨g, j * 7 + 5, none⟩ u) lo e v k n f := fun o he => o.same fun q hq => setCell_other w u (fun eq => by
    subst eq
    exact own_apart' h.h o he q rfl hq)
  have hn : ∀ k, k < j → (xs.set j (u, xsA xs j)).getD k (undef, undef) = xs.getD k (undef, undef) := fun k hk => getD_set_ne _ _ _ (by omega)
  refine ⟨g, c, rfl, h1, h2, h3, h4, ho h.m (by decide), h5, ho h.r (by decide), ho h.wt (by decide), by rw [List.length_set]; exact h.len, h.jn, fun k hk => ?_, fun k hk => ?_, h.apRW, fun k hk => ?_, fun k hk => ?_, fun k k' hk hk' => ?_⟩
  · unfold xsR; rw [hn k hk]; exact ho (h.rf k hk) (by decide)
  · unfold xsA; rw [hn k hk]; exact ho (h.at_ k hk) (by decide)
  · rw [show xsA (xs.set j (u, xsA xs j)) k = xsA xs k by unfold xsA; rw [hn k hk]]; exact h.apRA k hk
  · rw [show xsA (xs.set j (u, xsA xs j)) k = xsA xs k by unfold xsA; rw [hn k hk]]; exact h.apWA k hk
  · rw [show xsA (xs.set j (u, xsA xs j)) k = xsA xs k by unfold xsA; rw [hn k hk], show xsA (xs.set j (u, xsA xs j)) k' = xsA xs k' by unfold xsA; rw [hn k' hk']]; exact h.apAA k k' hk hk'

theorem VwOwn.setA {w : World} {lo j : Nat} {mv hv rv wv : Value} {xs : List (Value × Value)} {V : Vp} (h : VwOwn w lo j mv hv rv wv xs V) (hj : j < V.held.length) (a : Value)
    (hr : Own w lo 120 (xsR xs j) 3 (V.held.getD j default).refs.length (rfCell (V.held.getD j default).refs)) (ha : OwnI w lo a (V.held.getD j default).at_)
    (aR : ∀ g, rv.ownBlock = some g → a.ownBlock ≠ some g) (aW : ∀ g, wv.ownBlock = some g → a.ownBlock ≠ some g) (aA : ∀ k, k < j → ∀ g, (xsA xs k).ownBlock = some g → a.ownBlock ≠ some g) :
    ∃ g c, hv = .slice (some ⟨g, 0, none⟩) V.held.length c ∧ lo ≤ g ∧ g < w.heap.size ∧ w.frozen? ⟨g, j * 7 + 6, none⟩ = false ∧ w.cell? ⟨g, j * 7 + 6, none⟩ = some (xsA xs j) ∧
      VwOwn (w.setCell ⟨g, j * 7 + 6, none⟩ a) lo (j + 1) mv hv rv wv (xs.set j (xsR xs j, a)) V := by
  have hjx : j < xs.length := by rw [h.len]; exact hj
  obtain ⟨g, c, rfl, h1, h2, _, h3, h4, h5⟩ := h.h.set (i := j) (j := 6) hj (by omega) a (hpCell V.held (xs.set j (xsR xs j, a))) (fun i' j' _ hj' => hpCell_set hjx (xsR xs j, a) 6 a (.inr ⟨rfl, rfl, rfl⟩) i' j' hj')
  have ho : ∀ {e : TypeId} {v : Value} {k n : Nat} {f : Nat → Nat → Value}, Own w lo e v k n f → 52 ≠ e → Own (w.setCell ⟨g, j * 7 + 6, none⟩ a) lo e v k n f := fun o he => o.same fun q hq => setCell_other w a (fun eq => by
    subst eq
    exact own_apart' h.h o he q rfl hq)
  have hn : ∀ k, k < j → (xs.set j (xsR xs j, a)).getD k (undef, undef) = xs.getD k (undef, undef) := fun k hk => getD_set_ne _ _ _ (by omega)
  have hnA : ∀ k, k < j → xsA (xs.set j (xsR xs j, a)) k = xsA xs k := fun k hk => by unfold xsA; rw [hn k hk]
  have hnR : ∀ k, k < j → xsR (xs.set j (xsR xs j, a)) k = xsR xs k := fun k hk => by unfold xsR; rw [hn k hk]
  have hsA : xsA (xs.set j (xsR xs j, a)) j = a := by unfold xsA; rw [getD_set_self _ _ _ _ hjx]
  have hsR : xsR (xs.set j (xsR xs j, a)) j = xsR xs j := by show ((xs.set j (xsR xs j, a)).getD j (undef, undef)).1 = _; rw [getD_set_self _ _ _ _ hjx]
  have hcase : ∀ k, k < j + 1 → k = j ∨ k < j := fun k hk => by omega
  refine ⟨g, c, rfl, h1, h2, h3, h4, ho h.m (by decide), h5, ho h.r (by decide), ho h.wt (by decide), by rw [List.length_set]; exact h.len, hj, fun k hk => ?_, fun k hk => ?_, h.apRW, fun k hk => ?_, fun k hk => ?_, fun k k' hk hk' hkk => ?_⟩
  · rcases hcase k hk with rfl | hk
    · rw [hsR]; exact ho hr (by decide)
    · rw [hnR k hk]; exact ho (h.rf k hk) (by decide)
  · rcases hcase k hk with rfl | hk
    · rw [hsA]; exact ho ha (by decide)
    · rw [hnA k hk]; exact ho (h.at_ k hk) (by decide)
  · rcases hcase k hk with rfl | hk
    · rw [hsA]; exact aR
    · rw [hnA k hk]; exact h.apRA k hk
  · rcases hcase k hk with rfl | hk
    · rw [hsA]; exact aW
    · rw [hnA k hk]; exact h.apWA k hk
  · rcases hcase k hk with rfl | hk
    · rcases hcase k' hk' with rfl | hk'
      · exact absurd rfl hkk
      · rw [hsA, hnA k' hk']; exact fun g h1 h2 => aA k' hk' g h2 h1
    · rcases hcase k' hk' with rfl | hk'
      · rw [hsA, hnA k hk]; exact aA k hk
      · rw [hnA k hk, hnA k' hk']; exact h.apAA k k' hk hk' hkk

end Go.Proofs.Ytijcicgbhcphjaa

/- clone. -/
namespace Go.Proofs.Ytijcicgbhcphjaa
open Go.RowKit Go.Lib Go.ChangeMaps
set_option linter.unusedSimpArgs false


theorem memCell_one (ms : List Mem) (i j : Nat) : (memCell ms i j).oneCell' = true := by
  unfold memCell; split <;> rfl
theorem rfCell_one (rs : List Rf) (i j : Nat) : (rfCell rs i j).oneCell' = true := by
  unfold rfCell; split <;> rfl
theorem hpCell_one {hs : List Hp} {xs : List (Value × Value)} (h : ∀ i, i < hs.length → (xsR xs i).oneCell' = true ∧ (xsA xs i).oneCell' = true) {i j : Nat} (hi : i < hs.length) : (hpCell hs xs i j).oneCell' = true := by
  unfold hpCell
  split
  · rfl
  · rfl
  · rfl
  · rfl
  · rfl
  · exact (h i hi).1
  · exact (h i hi).2
theorem Own.lt2 {w w' : World} {e : TypeId} {v : Value} {k n : Nat} {f : Nat → Nat → Value} (h : Own w' w.heap.size e v k n f) : ∀ g, v.ownBlock = some g → w.heap.size ≤ g ∧ g < w'.heap.size := h.lt

theorem infoE26 : (Try.prog.info? 26).map (fun i => (i.zero, i.size, i.bytes)) = some (some (.agg #[.slice none 0 0, .slice none 0 0, .slice none 0 0, .slice none 0 0]), 4, 96) := by kernel_rfl
theorem four_set {w : World} {g : Nat} {z0 z1 z2 z3 : Value} {t : TypeId} (h : w.heap[g]? = some (.cells #[z0, z1, z2, z3] t (0, 0))) (a b c d : Value) :
    ((((w.setCell ⟨g, 0, none⟩ a).setCell ⟨g, 1, none⟩ b).setCell ⟨g, 2, none⟩ c).setCell ⟨g, 3, none⟩ d).heap[g]? = some (.cells #[a, b, c, d] t (0, 0)) ∧
    (∀ q, q ≠ g → ((((w.setCell ⟨g, 0, none⟩ a).setCell ⟨g, 1, none⟩ b).setCell ⟨g, 2, none⟩ c).setCell ⟨g, 3, none⟩ d).heap[q]? = w.heap[q]?) ∧
    ∀ B w0, B ≤ g → Below B w0 w → Below B w0 ((((w.setCell ⟨g, 0, none⟩ a).setCell ⟨g, 1, none⟩ b).setCell ⟨g, 2, none⟩ c).setCell ⟨g, 3, none⟩ d) := by
  refine ⟨setCell_block (setCell_block (setCell_block (setCell_block h a) b) c) d, fun q hq => ?_, fun B w0 hB hb => ?_⟩
  · rw [setCell_other _ _ hq, setCell_other _ _ hq, setCell_other _ _ hq, setCell_other _ _ hq]
  · exact (((hb.setCell hB _).setCell hB _).setCell hB _).setCell hB _

def frC (v0 p1 p2 : Value) (x : Nat → Value) : Act := ⟨#[v0, p1, p2, x 3, undef, x 5, x 6, x 7, x 8, x 9, x 10, x 11, x 12, x 13, x 14, x 15, x 16, x 17, undef, undef, undef, undef, undef, undef, undef, undef, undef, undef, undef, undef, undef, undef, undef, undef, undef, undef, undef, undef, undef, undef, undef, undef, undef, undef, undef, undef, undef, undef, undef, undef, undef, undef], []⟩
def OwnMC (w : World) (lo : Nat) (v : Value) (ms : List Mem) : Prop := Own w lo 81 v 5 ms.length (memCell ms)
def OwnHC (w : World) (lo : Nat) (v : Value) (hs : List Hp) (xs : List (Value × Value)) : Prop := Own w lo 52 v 7 hs.length (hpCell hs xs)
def fcC (lo B N : Nat) (m0 h0 r0 w0 : Value) (xs : List (Value × Value)) (V : Vp) (k : Nat) (w : World) (v : Value) : Prop := match k with
  | 0 => v = .pointer (some ⟨N, 0, none⟩)
  | 1 => v = m0
  | 2 => OwnMC w lo v V.mem
  | 3 => v = .pointer (some ⟨N, 1, none⟩)
  | 4 => v = h0
  | 5 => OwnHC w lo v V.held xs
  | 6 => v = .pointer (some ⟨N, 2, none⟩)
  | 7 => v = r0
  | 8 => OwnI w lo v V.room
  | 9 => v = .pointer (some ⟨N, 3, none⟩)
  | 10 => v = w0
  | 11 => OwnI w lo v V.weight
  | 12 => ∃ a b c d, v = .agg #[a, b, c, d] ∧ OwnMC w lo a V.mem ∧ OwnHC w lo b V.held xs ∧ OwnI w lo c V.room ∧ OwnI w lo d V.weight ∧ ∀ g, c.ownBlock = some g → d.ownBlock ≠ some g
  | 13 => ∃ g, v = .pointer (some ⟨g, 0, none⟩) ∧ B ≤ g ∧ w.heap[g]? = some (.cells #[.slice none 0 0, .slice none 0 0, .slice none 0 0, .slice none 0 0] 26 (0, 0))
  | _ => True
def memC (k : Nat) : Bool := decide (k = 8 ∨ k = 11)
def slotC (k : Nat) : Nat := if k = 13 then 3 else 5 + k
theorem slotC_inj : ∀ i j, i < 14 → j < 14 → slotC i = slotC j → i = j := by
  intro i j hi hj h
  unfold slotC at h
  split at h <;> split at h <;> omega
theorem fcC_below {lo B N : Nat} {m0 h0 r0 w0 : Value} {xs : List (Value × Value)} {V : Vp} : ∀ k w w' v, fcC lo B N m0 h0 r0 w0 xs V k w v → Below w.heap.size w w' → fcC lo B N m0 h0 r0 w0 xs V k w' v := by
  intro k w w' v h hb
  match k, h with
  | 0, h => exact h
  | 1, h => exact h
  | 2, h => exact Own.below (show OwnMC w lo v V.mem from h) hb
  | 3, h => exact h
  | 4, h => exact h
  | 5, h => exact Own.below (show OwnHC w lo v V.held xs from h) hb
  | 6, h => exact h
  | 7, h => exact h
  | 8, h => exact OwnI.below (show OwnI w lo v V.room from h) hb
  | 9, h => exact h
  | 10, h => exact h
  | 11, h => exact OwnI.below (show OwnI w lo v V.weight from h) hb
  | 12, h =>
    obtain ⟨a, b, c, d, e, h1, h2, h3, h4, h5⟩ := h
    exact ⟨a, b, c, d, e, Own.below h1 hb, Own.below h2 hb, h3.below hb, h4.below hb, h5⟩
  | 13, h =>
    obtain ⟨g, e, h1, h2⟩ := h
    exact ⟨g, e, h1, (hb.block g (Array.getElem?_eq_some_iff.1 h2).1).trans h2⟩
  | _ + 14, _ => exact trivial
/-- What lies there once the struct is laid. -/
def FinC (w0 : World) (lo : Nat) (xs : List (Value × Value)) (V : Vp) (a : Act) (v0 p1 p2 : Value) (w : World) : Prop :=
  ∃ x g m h r t, a = frC v0 p1 p2 x ∧ x 3 = .pointer (some ⟨g, 0, none⟩) ∧ w0.heap.size ≤ g ∧ w.heap[g]? = some (.cells #[m, h, r, t] 26 (0, 0)) ∧ OwnMC w lo m V.mem ∧ OwnHC w lo h V.held xs ∧ OwnI w lo r V.room ∧ OwnI w lo t V.weight ∧
    (∀ g, r.ownBlock = some g → t.ownBlock ≠ some g) ∧ Below w0.heap.size w0 w
def InvC (w0 : World) (lo N : Nat) (m0 h0 r0 t0 : Value) (xs : List (Value × Value)) (V : Vp) (v0 p1 p2 : Value) (l : Array Bool) (a : Act) (w : World) : Prop :=
  (l.getD 14 false = false ∧ ∃ x, a = frC v0 p1 p2 x ∧ InvG (fcC lo w0.heap.size N m0 h0 r0 t0 xs V) memC slotC w0 14 l x w) ∨ ((∀ k, k < 15 → l.getD k false = true) ∧ FinC w0 lo xs V a v0 p1 p2 w)
theorem getD_set_off {l : Array Bool} {i k : Nat} (h : k ≠ i) (b : Bool) : (l.setIfInBounds i true).getD k b = l.getD k b := by
  simp only [Array.getD_eq_getD_getElem?, Array.getElem?_setIfInBounds]
  rw [if_neg (fun e => h e.symm)]
theorem getD_set_on {l : Array Bool} {i : Nat} (h : i < l.size) (b : Bool) : (l.setIfInBounds i true).getD i b = true := by
  simp [Array.getD, h]

theorem VwOwn.same26 {w w' : World} {lo j g : Nat} {cs : Array Value} {mv hv rv wv : Value} {xs : List (Value × Value)} {V : Vp} (h : VwOwn w lo j mv hv rv wv xs V) (hg : w.heap[g]? = some (.cells cs 26 (0, 0))) (hs : ∀ q, q ≠ g → w'.heap[q]? = w.heap[q]?) : VwOwn w' lo j mv hv rv wv xs V := by
  have ho : ∀ {e : TypeId} {v : Value} {k n : Nat} {f : Nat → Nat → Value}, Own w lo e v k n f → 26 ≠ e → Own w' lo e v k n f := fun o he => o.same fun q hq => hs q (fun e => by
    subst e
    exact own_ne o hg he hq)
  exact ⟨ho h.m (by decide), ho h.h (by decide), ho h.r (by decide), ho h.wt (by decide), h.len, h.jn, fun k hk => ho (h.rf k hk) (by decide), fun k hk => ho (h.at_ k hk) (by decide), h.apRW, h.apRA, h.apWA, h.apAA⟩

theorem VwOwn.cellA {w : World} {lo j i g c n : Nat} {mv rv wv : Value} {xs : List (Value × Value)} {V : Vp} (h : VwOwn w lo j mv (.slice (some ⟨g, 0, none⟩) n c) rv wv xs V) (hi : i < V.held.length) : w.cell? ⟨g, i * 7 + 6, none⟩ = some (xsA xs i) := by
  obtain ⟨g', c', e, _, _, _, _, h4, _⟩ := h.h.set (i := i) (j := 6) hi (by omega) undef (fun i' j' => if i' = i ∧ j' = 6 then undef else hpCell V.held xs i' j') (fun _ _ _ _ => rfl)
  cases e
  exact h4

set_option maxRecDepth 100000 in
set_option maxHeartbeats 4000000 in
theorem clone_any (v : Value) (V : Vp) (w : World) (hv : VwAt w v V) (hm12 : V.mem.length ≤ 1000) (hh256 : V.held.length ≤ 1000) (hr12 : V.room.length ≤ 1000) (hw12 : V.weight.length ≤ 1000) (hrf : ∀ h ∈ V.held, h.refs.length ≤ 1000 ∧ h.at_.length ≤ 1000) :
    Calls Try.prog 62 #[v] w fun e w' => ∃ mv hv rv wv xs, e = .returned (.agg #[mv, hv, rv, wv]) ∧ VwOwn w' w.heap.size V.held.length mv hv rv wv xs V ∧ Below w.heap.size w w' := by
  obtain ⟨mv, hv, rv, wv, rfl, hM, hH, hR, hW⟩ := hv
  obtain ⟨ma, mc, mb, mo, rfl, ml, mm, mcell⟩ := hM.at
  obtain ⟨ha, hc, hb, ho, rfl, hl, hm, hcell⟩ := hH.at
  obtain ⟨ra, rc, _, _, rfl, -⟩ := hR.at
  obtain ⟨wa, wc, _, _, rfl, -⟩ := hW.at
  have HM := Lib.hid hM
  obtain ⟨xs, hxl, hxr, hxs⟩ := hH
  have HH := Lib.hid hxr
  have HRR := Lib.hid hR
  have HW := Lib.hid hW
  have MC := Lib.hid mcell
  have HC := Lib.hid hcell
  have HXS := Lib.hid hxs
  have hxs1 : ∀ i, i < V.held.length → (xsR xs i).oneCell' = true ∧ (xsA xs i).oneCell' = true := fun i hi => by
    obtain ⟨_, _, _, _, e1, _⟩ := (hxs i hi).1.at
    obtain ⟨_, _, _, _, e2, _⟩ := (hxs i hi).2.at
    unfold xsR xsA
    rw [e1, e2]
    exact ⟨rfl, rfl⟩
  clear mcell hcell hM hR hW hxr hxs
  go_enter Try.func62, Try.ntmps62
  go_upto_region 1 with fail
  obtain ⟨N, hNe⟩ : ∃ N, N = w.heap.size := ⟨_, rfl⟩
  generalize hWW : (w.alloc _).alloc _ = W
  have hb0 : Below w.heap.size w W.drew := by subst hWW; (repeat' (first | (with_reducible exact Below.refl _ _) | (with_reducible assumption) | (with_reducible refine Below.alloc ?_ ?_ _) | (with_reducible refine Below.drew ?_) | (with_reducible refine below_drewN ?_ _) | (with_reducible refine Below.setCell ?_ ?_ _) | (with_reducible refine below_step ?_ (by with_reducible assumption) ?_) | go_size))
  have q0 : W.drew.cell? ⟨w.heap.size, 0, none⟩ = some (.slice ma V.mem.length mc) := by subst hWW; exact cell_of_row _ _ 0 _ _ _ ((Below.heap_alloc _ _ _ (by rw [World.size_alloc]; omega)).trans (heap_alloc_new _ _))
  have q1 : W.drew.cell? ⟨w.heap.size, 1, none⟩ = some (.slice ha V.held.length hc) := by subst hWW; exact cell_of_row _ _ 1 _ _ _ ((Below.heap_alloc _ _ _ (by rw [World.size_alloc]; omega)).trans (heap_alloc_new _ _))
  have q2 : W.drew.cell? ⟨w.heap.size, 2, none⟩ = some (.slice ra V.room.length rc) := by subst hWW; exact cell_of_row _ _ 2 _ _ _ ((Below.heap_alloc _ _ _ (by rw [World.size_alloc]; omega)).trans (heap_alloc_new _ _))
  have q3 : W.drew.cell? ⟨w.heap.size, 3, none⟩ = some (.slice wa V.weight.length wc) := by subst hWW; exact cell_of_row _ _ 3 _ _ _ ((Below.heap_alloc _ _ _ (by rw [World.size_alloc]; omega)).trans (heap_alloc_new _ _))
  have hret : W.drew.heap[w.heap.size + 1]? = some (.cells #[.slice none 0 0, .slice none 0 0, .slice none 0 0, .slice none 0 0] 26 (0, 0)) := by subst hWW; show (Array.push _ _)[_]? = _; rw [Array.getElem?_push, if_pos (by simp)]
  have hN : w.heap.size < W.drew.heap.size := cell_lt q0
  clear hWW
  rw [← hNe] at q0 q1 q2 q3 hret hN ⊢
  have HNE := Lib.hid hNe
  clear hNe
  refine wp_region_inv (by kernel_rfl) (InvC W.drew w.heap.size N (.slice ma V.mem.length mc) (.slice ha V.held.length hc) (.slice ra V.room.length rc) (.slice wa V.weight.length wc) xs V
    (.agg #[.slice ma V.mem.length mc, .slice ha V.held.length hc, .slice ra V.room.length rc, .slice wa V.weight.length wc]) (.pointer (some ⟨N, 0, none⟩)) (.pointer (some ⟨N + 1, 0, none⟩)))
    (.inl ⟨by simp [Array.getD], fun _ => undef, rfl, ⟨Below.refl _ _, fun k hk => by simp [Array.getD] at hk, fun k hk => by simp [Array.getD] at hk, fun k k' hk => by simp [Array.getD] at hk⟩⟩) ?_ ?_
  · rintro l a w' hl0 hInv i hi
    obtain ⟨hlt0, hdep⟩ := ready_dep hi
    have hlt : i < 15 := hlt0
    have hnl : l.getD i true = false := by
      have hx := (List.mem_filter.1 hi).2
      rw [Bool.and_eq_true] at hx
      simpa using hx.1
    rcases hInv with ⟨h14, x, rfl, h⟩ | ⟨hall, _⟩
    rotate_left
    · have := hall i hlt
      simp only [Array.getD_eq_getD_getElem?] at this hnl
      cases hq : l[i]? with
      | none => rw [hq] at this; simp at this
      | some b => rw [hq] at this hnl; simp at this hnl; rw [this] at hnl; cases hnl
    have hl : l.size = 15 := hl0
    have hz := h.below.size
    clear hi hl0 hlt0 hnl
    rcases (show i = 0 ∨ i = 1 ∨ i = 2 ∨ i = 3 ∨ i = 4 ∨ i = 5 ∨ i = 6 ∨ i = 7 ∨ i = 8 ∨ i = 9 ∨ i = 10 ∨ i = 11 ∨ i = 12 ∨ i = 13 ∨ i = 14 by omega) with rfl | rfl | rfl | rfl | rfl | rfl | rfl | rfl | rfl | rfl | rfl | rfl | rfl | rfl | rfl
    · clear hdep
      refine wpOp_go rfl (fun K' hK => ?_)
      unfold frC
      go_simp
      refine hK.out _ _ ?_
      refine .inl ⟨by rw [getD_set_off (by decide)]; exact h14, _, ?_, h.put fcC_below slotC_inj 0 (by omega) (Below.refl _ _) rfl (fun h => by simp [memC] at h)⟩
      simp [frC, updV, slotC]
    · have d0 : x 5 = .pointer (some ⟨N, 0, none⟩) := h.done 0 (hdep _ rfl ⟨0, .data⟩ (by simp) rfl) (by omega)
      have c0 := (h.below.cell (p := ⟨N, 0, none⟩) hN).trans q0
      clear hdep
      refine wpOp_go rfl (fun K' hK => ?_)
      unfold frC
      simp only [d0]
      go_simp
      refine hK.out _ _ ?_
      refine .inl ⟨by rw [getD_set_off (by decide)]; exact h14, _, ?_, h.put fcC_below slotC_inj 1 (by omega) (Below.refl _ _) rfl (fun h => by simp [memC] at h)⟩
      simp [frC, updV, slotC, d0]
    · have d0 : x 6 = (.slice ma V.mem.length mc) := h.done 1 (hdep _ rfl ⟨1, .data⟩ (by simp) rfl) (by omega)
      have hcl := cloneM (.slice ma V.mem.length mc) _ _ w' (HM.out.below (hb0.trans (h.below.mono hb0.size))) (fun i j hi hj => memCell_one _ _ _) (by omega)
      have HCL := Lib.hid hcl
      clear hcl hdep
      refine wpOp_go rfl (fun K' hK => ?_)
      unfold frC
      simp only [d0]
      go_simp
      refine HCL.out.mono ?_
      rintro e w3 ⟨u, rfl, ou, hb3⟩
      go_wp2_with fail
      refine hK.out _ _ ?_
      refine .inl ⟨by rw [getD_set_off (by decide)]; exact h14, _, ?_, h.put fcC_below slotC_inj 2 (by omega) hb3 (Own.base ou (Nat.le_trans hb0.size hz)) (fun h => by simp [memC] at h)⟩
      simp [frC, updV, slotC, d0]
    · clear hdep
      refine wpOp_go rfl (fun K' hK => ?_)
      unfold frC
      go_simp
      refine hK.out _ _ ?_
      refine .inl ⟨by rw [getD_set_off (by decide)]; exact h14, _, ?_, h.put fcC_below slotC_inj 3 (by omega) (Below.refl _ _) rfl (fun h => by simp [memC] at h)⟩
      simp [frC, updV, slotC]
    · have d0 : x 8 = .pointer (some ⟨N, 1, none⟩) := h.done 3 (hdep _ rfl ⟨3, .data⟩ (by simp) rfl) (by omega)
      have c0 := (h.below.cell (p := ⟨N, 1, none⟩) hN).trans q1
      clear hdep
      refine wpOp_go rfl (fun K' hK => ?_)
      unfold frC
      simp only [d0]
      go_simp
      refine hK.out _ _ ?_
      refine .inl ⟨by rw [getD_set_off (by decide)]; exact h14, _, ?_, h.put fcC_below slotC_inj 4 (by omega) (Below.refl _ _) rfl (fun h => by simp [memC] at h)⟩
      simp [frC, updV, slotC, d0]
    · have d0 : x 9 = (.slice ha V.held.length hc) := h.done 4 (hdep _ rfl ⟨4, .data⟩ (by simp) rfl) (by omega)
      have hcl := cloneH (.slice ha V.held.length hc) _ _ w' (HH.out.below (hb0.trans (h.below.mono hb0.size))) (fun i j hi hj => hpCell_one hxs1 hi) (by omega)
      have HCL := Lib.hid hcl
      clear hcl hdep
      refine wpOp_go rfl (fun K' hK => ?_)
      unfold frC
      simp only [d0]
      go_simp
      refine HCL.out.mono ?_
      rintro e w3 ⟨u, rfl, ou, hb3⟩
      go_wp2_with fail
      refine hK.out _ _ ?_
      refine .inl ⟨by rw [getD_set_off (by decide)]; exact h14, _, ?_, h.put fcC_below slotC_inj 5 (by omega) hb3 (Own.base ou (Nat.le_trans hb0.size hz)) (fun h => by simp [memC] at h)⟩
      simp [frC, updV, slotC, d0]
    · clear hdep
      refine wpOp_go rfl (fun K' hK => ?_)
      unfold frC
      go_simp
      refine hK.out _ _ ?_
      refine .inl ⟨by rw [getD_set_off (by decide)]; exact h14, _, ?_, h.put fcC_below slotC_inj 6 (by omega) (Below.refl _ _) rfl (fun h => by simp [memC] at h)⟩
      simp [frC, updV, slotC]
    · have d0 : x 11 = .pointer (some ⟨N, 2, none⟩) := h.done 6 (hdep _ rfl ⟨6, .data⟩ (by simp) rfl) (by omega)
      have c0 := (h.below.cell (p := ⟨N, 2, none⟩) hN).trans q2
      clear hdep
      refine wpOp_go rfl (fun K' hK => ?_)
      unfold frC
      simp only [d0]
      go_simp
      refine hK.out _ _ ?_
      refine .inl ⟨by rw [getD_set_off (by decide)]; exact h14, _, ?_, h.put fcC_below slotC_inj 7 (by omega) (Below.refl _ _) rfl (fun h => by simp [memC] at h)⟩
      simp [frC, updV, slotC, d0]
    · have d0 : x 12 = (.slice ra V.room.length rc) := h.done 7 (hdep _ rfl ⟨7, .data⟩ (by simp) rfl) (by omega)
      have hcl := cloneI (.slice ra V.room.length rc) _ _ w' (HRR.out.below (hb0.trans (h.below.mono hb0.size))) (fun i j hi hj => rfl) (by omega)
      have HCL := Lib.hid hcl
      clear hcl hdep
      refine wpOp_go rfl (fun K' hK => ?_)
      unfold frC
      simp only [d0]
      go_simp
      refine HCL.out.mono ?_
      rintro e w3 ⟨u, rfl, ou, hb3⟩
      go_wp2_with fail
      refine hK.out _ _ ?_
      refine .inl ⟨by rw [getD_set_off (by decide)]; exact h14, _, ?_, h.put fcC_below slotC_inj 8 (by omega) hb3 (Own.base ou (Nat.le_trans hb0.size hz)) (fun _ => ou.lt2)⟩
      simp [frC, updV, slotC, d0]
    · clear hdep
      refine wpOp_go rfl (fun K' hK => ?_)
      unfold frC
      go_simp
      refine hK.out _ _ ?_
      refine .inl ⟨by rw [getD_set_off (by decide)]; exact h14, _, ?_, h.put fcC_below slotC_inj 9 (by omega) (Below.refl _ _) rfl (fun h => by simp [memC] at h)⟩
      simp [frC, updV, slotC]
    · have d0 : x 14 = .pointer (some ⟨N, 3, none⟩) := h.done 9 (hdep _ rfl ⟨9, .data⟩ (by simp) rfl) (by omega)
      have c0 := (h.below.cell (p := ⟨N, 3, none⟩) hN).trans q3
      clear hdep
      refine wpOp_go rfl (fun K' hK => ?_)
      unfold frC
      simp only [d0]
      go_simp
      refine hK.out _ _ ?_
      refine .inl ⟨by rw [getD_set_off (by decide)]; exact h14, _, ?_, h.put fcC_below slotC_inj 10 (by omega) (Below.refl _ _) rfl (fun h => by simp [memC] at h)⟩
      simp [frC, updV, slotC, d0]
    · have d0 : x 15 = (.slice wa V.weight.length wc) := h.done 10 (hdep _ rfl ⟨10, .data⟩ (by simp) rfl) (by omega)
      have hcl := cloneI (.slice wa V.weight.length wc) _ _ w' (HW.out.below (hb0.trans (h.below.mono hb0.size))) (fun i j hi hj => rfl) (by omega)
      have HCL := Lib.hid hcl
      clear hcl hdep
      refine wpOp_go rfl (fun K' hK => ?_)
      unfold frC
      simp only [d0]
      go_simp
      refine HCL.out.mono ?_
      rintro e w3 ⟨u, rfl, ou, hb3⟩
      go_wp2_with fail
      refine hK.out _ _ ?_
      refine .inl ⟨by rw [getD_set_off (by decide)]; exact h14, _, ?_, h.put fcC_below slotC_inj 11 (by omega) hb3 (Own.base ou (Nat.le_trans hb0.size hz)) (fun _ => ou.lt2)⟩
      simp [frC, updV, slotC, d0]
    · have d2 : OwnMC w' w.heap.size (x 7) V.mem := h.done 2 (hdep _ rfl ⟨2, .data⟩ (by simp) rfl) (by omega)
      have d5 : OwnHC w' w.heap.size (x 10) V.held xs := h.done 5 (hdep _ rfl ⟨5, .data⟩ (by simp) rfl) (by omega)
      have d8 : OwnI w' w.heap.size (x 13) V.room := h.done 8 (hdep _ rfl ⟨8, .data⟩ (by simp) rfl) (by omega)
      have d11 : OwnI w' w.heap.size (x 16) V.weight := h.done 11 (hdep _ rfl ⟨11, .data⟩ (by simp) rfl) (by omega)
      have dd := h.apart 8 11 (hdep _ rfl ⟨8, .data⟩ (by simp) rfl) (hdep _ rfl ⟨11, .data⟩ (by simp) rfl) (by omega) (by omega) rfl rfl (by omega)
      obtain ⟨_, _, _, z2⟩ := Own.slice d2
      obtain ⟨_, _, _, z5⟩ := Own.slice d5
      obtain ⟨_, _, _, z8⟩ := Own.slice d8
      obtain ⟨_, _, _, z11⟩ := Own.slice d11
      clear hdep
      refine wpOp_go rfl (fun K' hK => ?_)
      unfold frC
      simp only [z2, z5, z8, z11]
      go_simp
      rw [← z2, ← z5, ← z8, ← z11]
      refine hK.out _ _ ?_
      refine .inl ⟨by rw [getD_set_off (by decide)]; exact h14, _, ?_, h.put fcC_below slotC_inj 12 (by omega) (Below.refl _ _) ⟨_, _, _, _, rfl, d2, d5, d8, d11, dd⟩ (fun h => by simp [memC] at h)⟩
      simp [frC, updV, slotC]
    · clear hdep
      refine wpOp_go rfl (fun K' hK => ?_)
      unfold frC
      go_simp
      refine hK.out _ _ ?_
      refine .inl ⟨by rw [getD_set_off (by decide)]; exact h14, _, ?_, h.put fcC_below slotC_inj 13 (by omega) ((Below.refl _ _).alloc (Nat.le_refl _) _) ⟨_, rfl, hz, heap_alloc_new _ _⟩ (fun h => by simp [memC] at h)⟩
      simp [frC, updV, slotC]
    · obtain ⟨a, b, c, d, z12, e1, e2, e3, e4, e5⟩ : fcC w.heap.size W.drew.heap.size N _ _ _ _ xs V 12 w' (x 17) := h.done 12 (hdep _ rfl ⟨12, .data⟩ (by simp) rfl) (by omega)
      obtain ⟨g, z13, hg, hblk⟩ : fcC w.heap.size W.drew.heap.size N _ _ _ _ xs V 13 w' (x 3) := h.done 13 (hdep _ rfl ⟨13, .data⟩ (by simp) rfl) (by omega)
      have hall : ∀ k, k < 14 → l.getD k false = true := fun k hk => by
        rcases (show k = 0 ∨ k = 1 ∨ k = 2 ∨ k = 3 ∨ k = 4 ∨ k = 5 ∨ k = 6 ∨ k = 7 ∨ k = 8 ∨ k = 9 ∨ k = 10 ∨ k = 11 ∨ k = 12 ∨ k = 13 by omega) with rfl | rfl | rfl | rfl | rfl | rfl | rfl | rfl | rfl | rfl | rfl | rfl | rfl | rfl
        · exact hdep _ rfl ⟨0, .phase⟩ (by simp) rfl
        · exact hdep _ rfl ⟨1, .phase⟩ (by simp) rfl
        · exact hdep _ rfl ⟨2, .phase⟩ (by simp) rfl
        · exact hdep _ rfl ⟨3, .phase⟩ (by simp) rfl
        · exact hdep _ rfl ⟨4, .phase⟩ (by simp) rfl
        · exact hdep _ rfl ⟨5, .phase⟩ (by simp) rfl
        · exact hdep _ rfl ⟨6, .phase⟩ (by simp) rfl
        · exact hdep _ rfl ⟨7, .phase⟩ (by simp) rfl
        · exact hdep _ rfl ⟨8, .phase⟩ (by simp) rfl
        · exact hdep _ rfl ⟨9, .phase⟩ (by simp) rfl
        · exact hdep _ rfl ⟨10, .phase⟩ (by simp) rfl
        · exact hdep _ rfl ⟨11, .chain⟩ (by simp) rfl
        · exact hdep _ rfl ⟨12, .data⟩ (by simp) rfl
        · exact hdep _ rfl ⟨13, .data⟩ (by simp) rfl
      rcases Own.slice e1 with ⟨aa, al, ac, rfl⟩
      rcases Own.slice e2 with ⟨ba, bl, bc, rfl⟩
      rcases Own.slice e3 with ⟨ca, cl, cc, rfl⟩
      rcases Own.slice e4 with ⟨da, dl, dc, rfl⟩
      have b0 := cell_of_row w' g 0 _ _ _ hblk
      have b1 := cell_of_row w' g 1 _ _ _ hblk
      have b2 := cell_of_row w' g 2 _ _ _ hblk
      have b3 := cell_of_row w' g 3 _ _ _ hblk
      have f0 := frozen_of_row w' g 0 _ _ hblk
      have f1 := frozen_of_row w' g 1 _ _ hblk
      have f2 := frozen_of_row w' g 2 _ _ hblk
      have f3 := frozen_of_row w' g 3 _ _ hblk
      clear hdep
      refine wpOp_go rfl (fun K' hK => ?_)
      unfold frC
      simp only [z12, z13]
      go_simp
      refine hK.out _ _ ?_
      obtain ⟨y1, y2, y3⟩ := four_set hblk (.slice aa al ac) (.slice ba bl bc) (.slice ca cl cc) (.slice da dl dc)
      have hs : ∀ {e : TypeId} {v : Value} {k n : Nat} {f : Nat → Nat → Value}, Own w' w.heap.size e v k n f → 26 ≠ e → ∀ q, v.ownBlock = some q → q ≠ g := fun o he q hq eq => by
        subst eq
        exact own_ne o hblk he hq
      refine .inr ⟨fun k hk => ?_, x, g, _, _, _, _, ?_, z13, hg, y1, Own.same e1 fun q hq => y2 q (hs e1 (by decide) q hq), Own.same e2 fun q hq => y2 q (hs e2 (by decide) q hq), Own.same e3 fun q hq => y2 q (hs e3 (by decide) q hq), Own.same e4 fun q hq => y2 q (hs e4 (by decide) q hq), e5, y3 _ _ hg h.below⟩
      · by_cases e : k = 14
        · subst e; exact getD_set_on (by omega) _
        · rw [getD_set_off e]; exact hall k (by omega)
      · simp [frC, z12, z13]
  · rintro l a w' hl0 hInv hready
    have hl : l.size = 15 := hl0
    have hall := all_listed hl0 (by decide +kernel) hready
    rcases hInv with ⟨h14, _⟩ | ⟨-, x, g, m1, h1, r1, t1, rfl, hx3, hg, hblk, o1, o2, o3, o4, hap, hbel⟩
    · have := hall 14 (by show 14 < 15; omega)
      rw [h14] at this
      cases this
    clear hall hready hl hl0 l q0 q1 q2 q3
    unfold frC
    simp only [hx3]
    clear hx3
    generalize x 5 = x5
    generalize x 6 = x6
    generalize x 7 = x7
    generalize x 8 = x8
    generalize x 9 = x9
    generalize x 10 = x10
    generalize x 11 = x11
    generalize x 12 = x12
    generalize x 13 = x13
    generalize x 14 = x14
    generalize x 15 = x15
    generalize x 16 = x16
    generalize x 17 = x17
    clear x
    rcases Own.slice o1 with ⟨aa, al, ac, rfl⟩
    rcases Own.slice o2 with ⟨ba, bl, bc, rfl⟩
    rcases Own.slice o3 with ⟨ca, cl, cc, rfl⟩
    rcases Own.slice o4 with ⟨da, dl, dc, rfl⟩
    have d1 := cell_of_row _ _ 1 _ _ _ hblk
    have hv0 : VwOwn w' w.heap.size 0 (.slice aa al ac) (.slice ba bl bc) (.slice ca cl cc) (.slice da dl dc) xs V :=
      ⟨o1, o2, o3, o4, hxl, Nat.zero_le _, fun k hk => by omega, fun k hk => by omega, hap, fun k hk => by omega, fun k hk => by omega, fun k k' hk => by omega⟩
    have hbl : bl = V.held.length := by
      obtain ⟨_, _, e, _⟩ := Own.row o2 (by omega)
      cases e; rfl
    subst hbl
    have hret' : w'.heap[N + 1]? = some (.cells #[.slice none 0 0, .slice none 0 0, .slice none 0 0, .slice none 0 0] 26 (0, 0)) := by rw [hbel.block (N + 1) (Array.getElem?_eq_some_iff.1 hret).1]; exact hret
    have hbw := hb0.trans (hbel.mono hb0.size)
    have hgN : w.heap.size ≤ g := Nat.le_trans hb0.size hg
    clear o1 o2 o3 o4 hap hret hbel hb0 hN
    go_wp2
    clear d1
    go_loopw [21, 4] (fun v21 v4 wr => ∃ (j : Nat) (ys : List (Value × Value)), j ≤ V.held.length ∧ v21 = .int .i64 j ∧ VwOwn wr w.heap.size j (.slice aa al ac) (.slice ba V.held.length bc) (.slice ca cl cc) (.slice da dl dc) ys V ∧
      (∀ k, j ≤ k → ys.getD k (undef, undef) = xs.getD k (undef, undef)) ∧ Below w.heap.size w wr ∧ wr.heap[g]? = some (.cells #[.slice aa al ac, .slice ba V.held.length bc, .slice ca cl cc, .slice da dl dc] 26 (0, 0)) ∧
      wr.heap[N + 1]? = some (.cells #[.slice none 0 0, .slice none 0 0, .slice none 0 0, .slice none 0 0] 26 (0, 0))) (fun v21 _ _ => V.held.length - (intOf v21).toNat)
    case atStart => exact ⟨0, xs, Nat.zero_le _, rfl, hv0, fun _ _ => rfl, hbw, hblk, hret'⟩
    case round =>
      obtain ⟨j, ys, hj, rfl, hvo, hys, hbel, hblk', hretr⟩ := hrel
      clear hv0 hbw hblk hret'
      have d1 := cell_of_row _ _ 1 _ _ _ hblk'
      by_cases hlt : j < V.held.length
      · obtain ⟨gH, hcap, eqH, hgl, hgs, fz5, hc5, -⟩ := hvo.setR hlt undef
        cases eqH
        have hxk := hys j (Nat.le_refl _)
        obtain ⟨hRd, hAd⟩ := HXS.out j hlt
        rw [← hxk] at hRd hAd
        have hlh : (V.held.getD j default).refs.length ≤ 1000 ∧ (V.held.getD j default).at_.length ≤ 1000 := hrf _ (by rw [getD_at _ _ _ hlt]; exact List.getElem_mem hlt)
        have hRd' := hRd.below hbel
        have hAd' := hAd.below hbel
        obtain ⟨ra1, rc1, _, _, er, -⟩ := hRd'.at
        obtain ⟨aa1, ac1, _, _, ea, -⟩ := hAd'.at
        have hc5' : wr.cell? ⟨gH, j * 7 + 5, none⟩ = some (.slice ra1 (V.held.getD j default).refs.length rc1) := by rw [hc5]; exact congrArg some er
        rw [er] at hRd'
        rw [ea] at hAd'
        have hgg : gH ≠ g := fun e => own_ne hvo.h hblk' (by decide) (by simp [Value.ownBlock, e])
        have hgN1 : gH ≠ N + 1 := fun e => own_ne hvo.h hretr (by decide) (by simp [Value.ownBlock, e])
        have hds : wr.drew.cell? ⟨g, 1, none⟩ = some (.slice (some ⟨gH, 0, none⟩) V.held.length bc) := d1
        have hc5d : wr.drew.cell? ⟨gH, j * 7 + 5, none⟩ = some (.slice ra1 (V.held.getD j default).refs.length rc1) := hc5'
        have HVO := Lib.hid hvo
        have CL1 := Lib.hid (cloneR _ _ _ wr.drew (RowAt.below hRd' (Below.refl _ _).drew) (fun i j _ _ => rfCell_one _ _ _) (by omega))
        have HAD := Lib.hid hAd'
        have HEA := Lib.hid ea
        generalize hrl : (V.held.getD j default).refs.length = rl1 at *
        generalize hal : (V.held.getD j default).at_.length = al1 at *
        clear hvo hRd hAd hRd' hAd' er ea hc5 hc5'
        go_upto_region 5 with fail
        refine wp_region_held_drew (S := fun w' => w'.cell? ⟨g, 1, none⟩ = some (.slice (some ⟨gH, 0, none⟩) V.held.length bc)) (by kernel_rfl) hds (fun hHeld => ?_)
        refine wpAnyH_take (i := 0) (v := ?_) rfl (by kernel_rfl) (by kernel_rfl) (by kernel_rfl) (fun _ _ _ h => h) (Or.inl ⟨by rfl, ?_⟩) (by assumption) ?_
        rotate_left; · (intro w hSw; (try dsimp only at hSw); go_simp; try with_reducible rfl)
        try simp only [Act.put, List.getElem_toArray, List.getElem_cons_zero, List.getElem_cons_succ, List.setIfInBounds_toArray, List.set_cons_zero, List.set_cons_succ]
        refine wpAnyH_take (i := 1) (v := ?_) rfl (by kernel_rfl) (by kernel_rfl) (by kernel_rfl) (fun _ _ _ h => h) (Or.inl ⟨by rfl, ?_⟩) (by assumption) ?_
        rotate_left; · (intro w hSw; (try dsimp only at hSw); go_simp; try with_reducible rfl)
        try simp only [Act.put, List.getElem_toArray, List.getElem_cons_zero, List.getElem_cons_succ, List.setIfInBounds_toArray, List.set_cons_zero, List.set_cons_succ]
        refine wpAnyH_take (i := 2) (v := ?_) rfl (by kernel_rfl) (by kernel_rfl) (by kernel_rfl) (fun _ _ _ h => h) (Or.inl ⟨by rfl, ?_⟩) (by assumption) ?_
        rotate_left; · (intro w hSw; (try dsimp only at hSw); go_simp; try with_reducible rfl)
        try simp only [Act.put, List.getElem_toArray, List.getElem_cons_zero, List.getElem_cons_succ, List.setIfInBounds_toArray, List.set_cons_zero, List.set_cons_succ]
        refine wpAnyH_take (i := 3) (v := ?_) rfl (by kernel_rfl) (by kernel_rfl) (by kernel_rfl) (fun _ _ _ h => h) (Or.inl ⟨by rfl, ?_⟩) (by assumption) ?_
        rotate_left; · (intro w hSw; (try dsimp only at hSw); go_simp; try with_reducible rfl)
        try simp only [Act.put, List.getElem_toArray, List.getElem_cons_zero, List.getElem_cons_succ, List.setIfInBounds_toArray, List.set_cons_zero, List.set_cons_succ]
        refine wpAnyH_take (i := 4) (v := ?_) rfl (by kernel_rfl) (by kernel_rfl) (by kernel_rfl) (fun _ _ _ h => h) (Or.inl ⟨by rfl, ?_⟩) (by assumption) ?_
        rotate_left; · (intro w hSw; (try dsimp only at hSw); go_simp; try with_reducible rfl)
        try simp only [Act.put, List.getElem_toArray, List.getElem_cons_zero, List.getElem_cons_succ, List.setIfInBounds_toArray, List.set_cons_zero, List.set_cons_succ]
        refine wpAnyH_take (i := 5) (v := ?_) rfl (by kernel_rfl) (by kernel_rfl) (by kernel_rfl) (fun _ _ _ h => h) (Or.inl ⟨by rfl, ?_⟩) (by assumption) ?_
        rotate_left; · (intro w hSw; (try dsimp only at hSw); go_simp; try with_reducible rfl)
        try simp only [Act.put, List.getElem_toArray, List.getElem_cons_zero, List.getElem_cons_succ, List.setIfInBounds_toArray, List.set_cons_zero, List.set_cons_succ]
        refine wpAnyH_take (i := 6) (v := ?_) rfl (by kernel_rfl) (by kernel_rfl) (by kernel_rfl) (fun _ _ _ h => h) (Or.inl ⟨by rfl, ?_⟩) (by assumption) ?_
        rotate_left; · (intro w hSw; (try dsimp only at hSw); go_simp; try with_reducible rfl)
        try simp only [Act.put, List.getElem_toArray, List.getElem_cons_zero, List.getElem_cons_succ, List.setIfInBounds_toArray, List.set_cons_zero, List.set_cons_succ]
        refine wpAnyH_take (i := 7) (v := ?_) rfl (by kernel_rfl) (by kernel_rfl) (by kernel_rfl) (fun _ _ _ h => h) (Or.inl ⟨by rfl, ?_⟩) (by assumption) ?_
        rotate_left; · (intro w hSw; (try dsimp only at hSw); go_simp; try with_reducible rfl)
        try simp only [Act.put, List.getElem_toArray, List.getElem_cons_zero, List.getElem_cons_succ, List.setIfInBounds_toArray, List.set_cons_zero, List.set_cons_succ]
        refine wpAnyH_take (i := 8) (v := ?_) rfl (by kernel_rfl) (by kernel_rfl) (by kernel_rfl) (fun _ _ _ h => h) (Or.inl ⟨by rfl, ?_⟩) (by assumption) ?_
        rotate_left; · (intro w hSw; (try dsimp only at hSw); go_simp; try with_reducible rfl)
        try simp only [Act.put, List.getElem_toArray, List.getElem_cons_zero, List.getElem_cons_succ, List.setIfInBounds_toArray, List.set_cons_zero, List.set_cons_succ]
        refine wpAnyH_ready (rs := [9]) (by kernel_rfl) (by simp) ?_
        refine AllReadyH.cons rfl (fun K hK => ?_) AllReadyH.nil
        go_simp
        refine hK.out _ _ hHeld (fun hNew => ?_)
        clear hK K hNew
        try simp only [Act.put, List.getElem_toArray, List.getElem_cons_zero, List.setIfInBounds_toArray, List.set_cons_zero, List.set_cons_succ]
        refine wpAnyH_ready (rs := [10]) (by kernel_rfl) (by simp) ?_
        refine AllReadyH.cons rfl (fun K hK => ?_) AllReadyH.nil
        go_simp
        refine CL1.out.mono ?_
        rintro e w3 ⟨u, rfl, ou, hb3⟩
        go_wp2_with fail
        have hd3 : w3.cell? ⟨g, 1, none⟩ = some (.slice (some ⟨gH, 0, none⟩) V.held.length bc) := (hb3.cell (p := ⟨g, 1, none⟩) (cell_lt hds)).trans hds
        refine hK.out _ _ hd3 (fun hNew => ?_)
        clear hK K hHeld hNew
        have hHeld := hd3
        try simp only [Act.put, List.getElem_toArray, List.getElem_cons_zero, List.setIfInBounds_toArray, List.set_cons_zero, List.set_cons_succ]
        refine wpAnyH_take (i := 11) (v := ?_) rfl (by kernel_rfl) (by kernel_rfl) (by kernel_rfl) (fun _ _ _ h => h) (Or.inl ⟨by rfl, ?_⟩) (by assumption) ?_
        rotate_left; · (intro w hSw; (try dsimp only at hSw); go_simp; try with_reducible rfl)
        try simp only [Act.put, List.getElem_toArray, List.getElem_cons_zero, List.getElem_cons_succ, List.setIfInBounds_toArray, List.set_cons_zero, List.set_cons_succ]
        refine wpAnyH_take (i := 12) (v := ?_) rfl (by kernel_rfl) (by kernel_rfl) (by kernel_rfl) (fun _ _ _ h => h) (Or.inl ⟨by rfl, ?_⟩) (by assumption) ?_
        rotate_left; · (intro w hSw; (try dsimp only at hSw); go_simp; try with_reducible rfl)
        try simp only [Act.put, List.getElem_toArray, List.getElem_cons_zero, List.getElem_cons_succ, List.setIfInBounds_toArray, List.set_cons_zero, List.set_cons_succ]
        refine wpAnyH_take (i := 13) (v := ?_) rfl (by kernel_rfl) (by kernel_rfl) (by kernel_rfl) (fun _ _ _ h => h) (Or.inl ⟨by rfl, ?_⟩) (by assumption) ?_
        rotate_left; · (intro w hSw; (try dsimp only at hSw); go_simp; try with_reducible rfl)
        try simp only [Act.put, List.getElem_toArray, List.getElem_cons_zero, List.getElem_cons_succ, List.setIfInBounds_toArray, List.set_cons_zero, List.set_cons_succ]
        have hbd : Below wr.heap.size wr w3 := (Below.refl _ _).drew.trans (hb3.mono (Nat.le_refl _))
        have hwl : w.heap.size ≤ wr.heap.size := hbel.size
        have hv3 := HVO.out.below hbd
        have ou' := Own.base ou (show w.heap.size ≤ wr.drew.heap.size from hwl)
        rcases Own.slice ou with ⟨ua, ul, uc, rfl⟩
        obtain ⟨gH2, hcap2, eqH2, hgl2, hgs2, fz5, hc53, hv4⟩ := hv3.setR hlt (.slice ua ul uc)
        cases eqH2
        have hblk3 := (hbd.block g (Array.getElem?_eq_some_iff.1 hblk').1).trans hblk'
        have hret3 := (hbd.block (N + 1) (Array.getElem?_eq_some_iff.1 hretr).1).trans hretr
        have hb4 : Below w.heap.size w (w3.setCell ⟨gH, j * 7 + 5, none⟩ (.slice ua ul uc)) := Below.setCell (hbel.trans (hbd.mono hwl)) hgl2 _
        have ou4 : Own (w3.setCell ⟨gH, j * 7 + 5, none⟩ (.slice ua ul uc)) w.heap.size 120 (.slice ua ul uc) 3 rl1 (rfCell (V.held.getD j default).refs) := ou'.same fun q hq => setCell_other w3 _ (fun e => own_apart' hv3.h ou' (by decide) q (by simp [Value.ownBlock, e]) hq)
        have hAd4 : ReadsI w (xsA ys j) (V.held.getD j default).at_ := by unfold xsA; rw [hxk]; exact (HXS.out j hlt).2
        refine wpAnyH_ready (rs := [14]) (by kernel_rfl) (by simp) ?_
        refine AllReadyH.cons rfl (fun K hK => ?_) AllReadyH.nil
        go_simp
        have hd4 : (w3.setCell ⟨gH, j * 7 + 5, none⟩ (.slice ua ul uc)).cell? ⟨g, 1, none⟩ = some (.slice (some ⟨gH, 0, none⟩) V.held.length bc) := by
          unfold World.cell? at hd3 ⊢
          rw [setCell_other _ _ (Ne.symm hgg)]
          exact hd3
        have hblk4 := (setCell_other w3 (i := j * 7 + 5) (.slice ua ul uc) (Ne.symm hgg)).trans hblk3
        have hret4 := (setCell_other w3 (i := j * 7 + 5) (.slice ua ul uc) (Ne.symm hgN1)).trans hret3
        have HV4 := Lib.hid hv4
        refine hK.out _ _ hd4 (fun hNew => ?_)
        clear hK K hHeld hNew hv3 hv4 ou ou' hc53 fz5 hc5d hds hd3
        generalize w3.setCell ⟨gH, j * 7 + 5, none⟩ (.slice ua ul uc) = w4 at *
        try simp only [Act.put, List.getElem_toArray, List.getElem_cons_zero, List.setIfInBounds_toArray, List.set_cons_zero, List.set_cons_succ]
        refine wpAnyH_done (by kernel_rfl) ?_ _
        have hyl : ys.length = V.held.length := by
          have h := HV4.out.len
          rw [List.length_set] at h
          exact h
        have hxk4 : xsA (ys.set j (.slice ua ul uc, xsA ys j)) j = xsA ys j := by
          show ((ys.set j (.slice ua ul uc, xsA ys j)).getD j (undef, undef)).2 = _
          rw [getD_set_self _ _ _ _ (by rw [hyl]; exact hlt)]
        have hxr4 : xsR (ys.set j (.slice ua ul uc, xsA ys j)) j = .slice ua ul uc := by
          show ((ys.set j (.slice ua ul uc, xsA ys j)).getD j (undef, undef)).1 = _
          rw [getD_set_self _ _ _ _ (by rw [hyl]; exact hlt)]
        have hc6 : w4.cell? ⟨gH, j * 7 + 6, none⟩ = some (.slice aa1 al1 ac1) := by
          rw [HV4.out.cellA hlt, hxk4]; exact congrArg some HEA.out
        have hds4 : w4.drew.cell? ⟨g, 1, none⟩ = some (.slice (some ⟨gH, 0, none⟩) V.held.length bc) := hd4
        have hc6d : w4.drew.cell? ⟨gH, j * 7 + 6, none⟩ = some (.slice aa1 al1 ac1) := hc6
        have hAx : ReadsI w4.drew (.slice aa1 al1 ac1) (V.held.getD j default).at_ := by
          have h := HXS.out j hlt
          rw [← hxk] at h
          have h2 := h.2.below (hb4.trans (Below.refl _ _).drew)
          have h3 := HEA.out
          rw [h3] at h2
          exact h2
        have CL2 := Lib.hid (cloneI _ _ _ w4.drew hAx (fun i j _ _ => rfl) (by omega))
        have HXR4 := Lib.hid hxr4
        have HXA4 := Lib.hid hxk4
        have OU4 := Lib.hid ou4
        rw [hal] at CL2
        clear hxr4 hxk4 hAx ou4 HVO HAD CL1 hAd4
        go_upto_region 6 with fail
        refine wp_region_held_drew (S := fun w' => w'.cell? ⟨g, 1, none⟩ = some (.slice (some ⟨gH, 0, none⟩) V.held.length bc)) (by kernel_rfl) hds4 (fun hHeld => ?_)
        refine wpAnyH_take (i := 0) (v := ?_) rfl (by kernel_rfl) (by kernel_rfl) (by kernel_rfl) (fun _ _ _ h => h) (Or.inl ⟨by rfl, ?_⟩) (by assumption) ?_
        rotate_left; · (intro w hSw; (try dsimp only at hSw); go_simp; try with_reducible rfl)
        try simp only [Act.put, List.getElem_toArray, List.getElem_cons_zero, List.getElem_cons_succ, List.setIfInBounds_toArray, List.set_cons_zero, List.set_cons_succ]
        refine wpAnyH_take (i := 1) (v := ?_) rfl (by kernel_rfl) (by kernel_rfl) (by kernel_rfl) (fun _ _ _ h => h) (Or.inl ⟨by rfl, ?_⟩) (by assumption) ?_
        rotate_left; · (intro w hSw; (try dsimp only at hSw); go_simp; try with_reducible rfl)
        try simp only [Act.put, List.getElem_toArray, List.getElem_cons_zero, List.getElem_cons_succ, List.setIfInBounds_toArray, List.set_cons_zero, List.set_cons_succ]
        refine wpAnyH_take (i := 2) (v := ?_) rfl (by kernel_rfl) (by kernel_rfl) (by kernel_rfl) (fun _ _ _ h => h) (Or.inl ⟨by rfl, ?_⟩) (by assumption) ?_
        rotate_left; · (intro w hSw; (try dsimp only at hSw); go_simp; try with_reducible rfl)
        try simp only [Act.put, List.getElem_toArray, List.getElem_cons_zero, List.getElem_cons_succ, List.setIfInBounds_toArray, List.set_cons_zero, List.set_cons_succ]
        refine wpAnyH_take (i := 3) (v := ?_) rfl (by kernel_rfl) (by kernel_rfl) (by kernel_rfl) (fun _ _ _ h => h) (Or.inl ⟨by rfl, ?_⟩) (by assumption) ?_
        rotate_left; · (intro w hSw; (try dsimp only at hSw); go_simp; try with_reducible rfl)
        try simp only [Act.put, List.getElem_toArray, List.getElem_cons_zero, List.getElem_cons_succ, List.setIfInBounds_toArray, List.set_cons_zero, List.set_cons_succ]
        refine wpAnyH_take (i := 4) (v := ?_) rfl (by kernel_rfl) (by kernel_rfl) (by kernel_rfl) (fun _ _ _ h => h) (Or.inl ⟨by rfl, ?_⟩) (by assumption) ?_
        rotate_left; · (intro w hSw; (try dsimp only at hSw); go_simp; try with_reducible rfl)
        try simp only [Act.put, List.getElem_toArray, List.getElem_cons_zero, List.getElem_cons_succ, List.setIfInBounds_toArray, List.set_cons_zero, List.set_cons_succ]
        refine wpAnyH_take (i := 5) (v := ?_) rfl (by kernel_rfl) (by kernel_rfl) (by kernel_rfl) (fun _ _ _ h => h) (Or.inl ⟨by rfl, ?_⟩) (by assumption) ?_
        rotate_left; · (intro w hSw; (try dsimp only at hSw); go_simp; try with_reducible rfl)
        try simp only [Act.put, List.getElem_toArray, List.getElem_cons_zero, List.getElem_cons_succ, List.setIfInBounds_toArray, List.set_cons_zero, List.set_cons_succ]
        refine wpAnyH_take (i := 6) (v := ?_) rfl (by kernel_rfl) (by kernel_rfl) (by kernel_rfl) (fun _ _ _ h => h) (Or.inl ⟨by rfl, ?_⟩) (by assumption) ?_
        rotate_left; · (intro w hSw; (try dsimp only at hSw); go_simp; try with_reducible rfl)
        try simp only [Act.put, List.getElem_toArray, List.getElem_cons_zero, List.getElem_cons_succ, List.setIfInBounds_toArray, List.set_cons_zero, List.set_cons_succ]
        refine wpAnyH_take (i := 7) (v := ?_) rfl (by kernel_rfl) (by kernel_rfl) (by kernel_rfl) (fun _ _ _ h => h) (Or.inl ⟨by rfl, ?_⟩) (by assumption) ?_
        rotate_left; · (intro w hSw; (try dsimp only at hSw); go_simp; try with_reducible rfl)
        try simp only [Act.put, List.getElem_toArray, List.getElem_cons_zero, List.getElem_cons_succ, List.setIfInBounds_toArray, List.set_cons_zero, List.set_cons_succ]
        refine wpAnyH_ready (rs := [8]) (by kernel_rfl) (by simp) ?_
        refine AllReadyH.cons rfl (fun K hK => ?_) AllReadyH.nil
        go_simp
        refine hK.out _ _ hHeld (fun hNew => ?_)
        clear hK K hNew
        try simp only [Act.put, List.getElem_toArray, List.getElem_cons_zero, List.setIfInBounds_toArray, List.set_cons_zero, List.set_cons_succ]
        refine wpAnyH_ready (rs := [9]) (by kernel_rfl) (by simp) ?_
        refine AllReadyH.cons rfl (fun K hK => ?_) AllReadyH.nil
        go_simp
        refine CL2.out.mono ?_
        rintro e w5 ⟨u, rfl, ou, hb5⟩
        go_wp2_with fail
        have hd5 : w5.cell? ⟨g, 1, none⟩ = some (.slice (some ⟨gH, 0, none⟩) V.held.length bc) := (hb5.cell (p := ⟨g, 1, none⟩) (cell_lt hds4)).trans hds4
        refine hK.out _ _ hd5 (fun hNew => ?_)
        clear hK K hHeld hNew
        have hHeld := hd5
        try simp only [Act.put, List.getElem_toArray, List.getElem_cons_zero, List.setIfInBounds_toArray, List.set_cons_zero, List.set_cons_succ]
        refine wpAnyH_take (i := 10) (v := ?_) rfl (by kernel_rfl) (by kernel_rfl) (by kernel_rfl) (fun _ _ _ h => h) (Or.inl ⟨by rfl, ?_⟩) (by assumption) ?_
        rotate_left; · (intro w hSw; (try dsimp only at hSw); go_simp; try with_reducible rfl)
        try simp only [Act.put, List.getElem_toArray, List.getElem_cons_zero, List.getElem_cons_succ, List.setIfInBounds_toArray, List.set_cons_zero, List.set_cons_succ]
        refine wpAnyH_take (i := 11) (v := ?_) rfl (by kernel_rfl) (by kernel_rfl) (by kernel_rfl) (fun _ _ _ h => h) (Or.inl ⟨by rfl, ?_⟩) (by assumption) ?_
        rotate_left; · (intro w hSw; (try dsimp only at hSw); go_simp; try with_reducible rfl)
        try simp only [Act.put, List.getElem_toArray, List.getElem_cons_zero, List.getElem_cons_succ, List.setIfInBounds_toArray, List.set_cons_zero, List.set_cons_succ]
        have hbd5 : Below w4.heap.size w4 w5 := (Below.refl _ _).drew.trans (hb5.mono (Nat.le_refl _))
        have hwl4 : w.heap.size ≤ w4.heap.size := hb4.size
        have hv5 := HV4.out.below hbd5
        have ou' : OwnI w5 w.heap.size u (V.held.getD j default).at_ := by
          have h := Own.base ou (show w.heap.size ≤ w4.drew.heap.size from hwl4)
          unfold OwnI
          rw [hal]
          exact h
        have hnew : ∀ v : Value, (∀ q, v.ownBlock = some q → q < w4.heap.size) → ∀ q, v.ownBlock = some q → u.ownBlock ≠ some q := fun v hv q hq e => by
          have h1 := hv q hq
          have h2 := (ou.lt q e).1
          change w4.heap.size ≤ q at h2
          omega
        rcases Own.slice ou with ⟨xa, xl, xc, rfl⟩
        obtain ⟨gH4, hcap4, eqH4, hgl4, hgs4, fz6, hc65, hv6⟩ := hv5.setA hlt (.slice xa xl xc) (by rw [HXR4.out, hrl]; exact OU4.out.below hbd5) ou'
          (hnew _ fun q hq => (HV4.out.r.lt q hq).2) (hnew _ fun q hq => (HV4.out.wt.lt q hq).2) (fun k hk => hnew _ fun q hq => ((HV4.out.at_ k hk).lt q hq).2)
        cases eqH4
        rw [HXR4.out] at hv6
        have hblk5 := (hbd5.block g (Array.getElem?_eq_some_iff.1 hblk4).1).trans hblk4
        have hret5 := (hbd5.block (N + 1) (Array.getElem?_eq_some_iff.1 hret4).1).trans hret4
        have hb6 : Below w.heap.size w (w5.setCell ⟨gH, j * 7 + 6, none⟩ (.slice xa xl xc)) := Below.setCell (hb4.trans (hbd5.mono hwl4)) hgl4 _
        refine wpAnyH_ready (rs := [12]) (by kernel_rfl) (by simp) ?_
        refine AllReadyH.cons rfl (fun K hK => ?_) AllReadyH.nil
        go_simp
        have hd6 : (w5.setCell ⟨gH, j * 7 + 6, none⟩ (.slice xa xl xc)).cell? ⟨g, 1, none⟩ = some (.slice (some ⟨gH, 0, none⟩) V.held.length bc) := by
          unfold World.cell? at hd5 ⊢
          rw [setCell_other _ _ (Ne.symm hgg)]
          exact hd5
        have hblk6 := (setCell_other w5 (i := j * 7 + 6) (.slice xa xl xc) (Ne.symm hgg)).trans hblk5
        have hret6 := (setCell_other w5 (i := j * 7 + 6) (.slice xa xl xc) (Ne.symm hgN1)).trans hret5
        have HV6 := Lib.hid hv6
        refine hK.out _ _ hd6 (fun hNew => ?_)
        clear hK K hHeld hNew hv5 hv6 ou ou' hc65 fz6 hc6d hds4 hd5
        generalize w5.setCell ⟨gH, j * 7 + 6, none⟩ (.slice xa xl xc) = w6 at *
        try simp only [Act.put, List.getElem_toArray, List.getElem_cons_zero, List.setIfInBounds_toArray, List.set_cons_zero, List.set_cons_succ]
        refine wpAnyH_done (by kernel_rfl) ?_ _
        go_wp2
        go_roundw
        case rel =>
          refine ⟨j + 1, _, hlt, by go_num, HV6.out, fun k hk => ?_, hb6, hblk6, hret6⟩
          rw [getD_set_ne _ _ _ (by omega), getD_set_ne _ _ _ (by omega)]
          exact hys k (by omega)
        case measure => simp [intOf]; omega
      · have hjl : j = V.held.length := by omega
        subst hjl
        have c0 := cell_of_row _ _ 0 _ _ _ hblk'
        have c2 := cell_of_row _ _ 2 _ _ _ hblk'
        have c3 := cell_of_row _ _ 3 _ _ _ hblk'
        have r0 := cell_of_row _ _ 0 _ _ _ hretr
        have r1 := cell_of_row _ _ 1 _ _ _ hretr
        have r2 := cell_of_row _ _ 2 _ _ _ hretr
        have r3 := cell_of_row _ _ 3 _ _ _ hretr
        have f0 := frozen_of_row wr (N + 1) 0 _ _ hretr
        have f1 := frozen_of_row wr (N + 1) 1 _ _ hretr
        have f2 := frozen_of_row wr (N + 1) 2 _ _ hretr
        have f3 := frozen_of_row wr (N + 1) 3 _ _ hretr
        go_wp2
        obtain ⟨y1, y2, y3⟩ := four_set hretr (.slice aa al ac) (.slice ba V.held.length bc) (.slice ca cl cc) (.slice da dl dc)
        have hs : ∀ {e : TypeId} {v : Value} {k n : Nat} {f : Nat → Nat → Value}, Own wr w.heap.size e v k n f → 26 ≠ e → ∀ q, v.ownBlock = some q → q ≠ N + 1 := fun o he q hq eq => by
          subst eq
          exact own_ne o hretr he hq
        refine bodyPost_ret (results_cell_row (P := Try.prog) Try.results62 _ _ (N + 1) 26 _ (0, 0) _ (by rfl) y1 Try.underlying26 rfl (by kernel_rfl)) rfl ?_
        exact ⟨_, _, _, _, ys, rfl, hvo.same26 hretr y2, y3 _ _ (by have := HNE.out; omega) hbel⟩
end Go.Proofs.Ytijcicgbhcphjaa
