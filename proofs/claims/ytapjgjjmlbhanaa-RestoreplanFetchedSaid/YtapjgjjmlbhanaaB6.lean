/- Rows of the call's own, element by element; goalOf and holdingsOf. -/
import Derived.Test.YtapjgjjmlbhanaaB4
import Derived.Maps.AppendAt
import Derived.Laws.OwnMore
import Derived.Outline
namespace Go.Proofs.Ytapjgjjmlbhanaa
open Go.RowKit Go.Lib

/-- A row of the call's own: n elements of k cells, cell j of element i is 'f i j'. -/
def Own (w : World) (base : Nat) (e : TypeId) (v : Value) (k n : Nat) (f : Nat → Nat → Value) : Prop :=
  ∃ xs, w.ownsRow base e k v n xs ∧ ∀ i j, i < n → j < k → xs[i * k + j]? = some (f i j)

theorem Own.row {w : World} {base : Nat} {e : TypeId} {v : Value} {k n : Nat} {f : Nat → Nat → Value} (h : Own w base e v k n f) (hn : n ≤ 4611686018427387904) : RowAt w v k n f := by
  obtain ⟨xs, h1, h2⟩ := h
  have h0 := h1
  obtain ⟨hl, h3⟩ := h0
  rcases h3 with ⟨rfl, rfl⟩ | ⟨g, cap, cur, rfl, _, _, hcap, _⟩
  · exact ⟨none, 0, rfl, Nat.le_refl _, hn, fun h => by omega⟩
  · refine ⟨some ⟨g, 0, none⟩, cap, rfl, hcap, hn, fun _ => ⟨g, 0, rfl, fun i j hi hj => ?_⟩⟩
    have hlt : i * k + j < n * k := by
      have : (i + 1) * k ≤ n * k := Nat.mul_le_mul_right k hi
      rw [Nat.add_mul] at this
      omega
    rw [Nat.zero_add, h1.cellAt _ hlt]
    exact h2 i j hi hj

theorem Own.nil (w : World) (base : Nat) (e : TypeId) (k : Nat) (f : Nat → Nat → Value) : Own w base e (.slice none 0 0) k 0 f := ⟨[], World.ownsRow_nil w base e k, fun i j hi => by omega⟩
theorem Own.lit0 (w : World) (base : Nat) (e : TypeId) (k : Nat) (f : Nat → Nat → Value) (hb : base ≤ w.heap.size) : Own (w.alloc (.cells #[] e)) base e (.slice (some ⟨w.heap.size, 0, none⟩) 0 0) k 0 f :=
  ⟨[], World.ownsRow_lit w #[] 0 hb (by unfold maxLen; omega) (by simp), fun i j hi => by omega⟩
theorem Own.lt {w : World} {base : Nat} {e : TypeId} {v : Value} {k n : Nat} {f : Nat → Nat → Value} (h : Own w base e v k n f) : ∀ g, v.ownBlock = some g → base ≤ g ∧ g < w.heap.size := by
  obtain ⟨xs, h1, _⟩ := h
  exact h1.lt
theorem Own.same {w w' : World} {base : Nat} {e : TypeId} {v : Value} {k n : Nat} {f : Nat → Nat → Value} (h : Own w base e v k n f) (hs : ∀ g, v.ownBlock = some g → w'.heap[g]? = w.heap[g]?) : Own w' base e v k n f := by
  obtain ⟨xs, ⟨h1, h2⟩, h3⟩ := h
  refine ⟨xs, ⟨h1, ?_⟩, h3⟩
  rcases h2 with h2 | ⟨g, cap, cur, rfl, h3, h4, h5⟩
  · exact Or.inl h2
  · exact Or.inr ⟨g, cap, cur, rfl, h3, by rw [hs g rfl]; exact h4, h5⟩
theorem Own.below {w w' : World} {base : Nat} {e : TypeId} {v : Value} {k n : Nat} {f : Nat → Nat → Value} (h : Own w base e v k n f) (hb : Below w.heap.size w w') : Own w' base e v k n f :=
  h.same fun g hg => hb.block g (h.lt g hg).2
theorem Own.alloc {w : World} {base : Nat} {e : TypeId} {v : Value} {k n : Nat} {f : Nat → Nat → Value} (h : Own w base e v k n f) (o : Obj) : Own (w.alloc o) base e v k n f := h.below ((Below.refl _ _).alloc (Nat.le_refl _) _)
theorem Own.congr {w : World} {base : Nat} {e : TypeId} {v : Value} {k n : Nat} {f g : Nat → Nat → Value} (h : Own w base e v k n f) (hf : ∀ i j, i < n → j < k → f i j = g i j) : Own w base e v k n g := by
  obtain ⟨xs, h1, h2⟩ := h
  exact ⟨xs, h1, fun i j hi hj => by rw [← hf i j hi hj]; exact h2 i j hi hj⟩

theorem Own.slice {w : World} {base : Nat} {e : TypeId} {v : Value} {k n : Nat} {f : Nat → Nat → Value} (h : Own w base e v k n f) : ∃ a l c, v = .slice a l c := by
  obtain ⟨xs, ⟨_, h2⟩, _⟩ := h
  rcases h2 with ⟨rfl, _⟩ | ⟨g, cap, cur, rfl, _⟩
  · exact ⟨_, _, _, rfl⟩
  · exact ⟨_, _, _, rfl⟩

theorem info_parts {P : Program} {t : TypeId} {z : Value} {s b : Nat} (h : (P.info? t).map (fun i => (i.zero, i.size, i.bytes)) = some (some z, s, b)) : ∃ i, P.info? t = some i ∧ i.zero = some z ∧ i.size = s ∧ i.bytes = b := by
  cases hi : P.info? t with
  | none => simp [hi] at h
  | some i => simp [hi] at h; exact ⟨i, rfl, h.1, h.2.1, h.2.2⟩

/-- One element more. -/
theorem Own.append {t e : TypeId} {z : Value} {k bytes : Nat} (ht : Try.prog.underlying t = some (.slice e)) (hinfo : (Try.prog.info? e).map (fun i => (i.zero, i.size, i.bytes)) = some (some z, k, bytes)) (hz : z.cells.size = k) (hk : 0 < k) (hby : bytes ≤ 1000)
    {V : World} {base : Nat} {v : Value} {n : Nat} {f : Nat → Nat → Value} (h : Own V base e v k n f) (ty : TypeId) (news : List Value) (hl : news.length = k) (hnew : ∀ j, j < k → news[j]? = some (f n j)) (h1 : ∀ u ∈ news, u.oneCell' = true) (hn : n ≤ 1000000000) (hbase : base ≤ V.heap.size) :
    ∃ v' w', (Builtin.append_ #[t, t] ty #[v, .slice (some ⟨V.heap.size, 0, none⟩) 1 1]).run Try.prog (V.alloc (.cells news.toArray e)) = .ok v' w' ∧ Own w' base e v' k (n + 1) f ∧ Below base V w' ∧
      (∀ b, b < V.heap.size → v.ownBlock ≠ some b → w'.heap[b]? = V.heap[b]?) ∧ (v'.ownBlock = v.ownBlock ∨ v'.ownBlock = some (V.heap.size + 1)) ∧ V.heap.size + 1 ≤ w'.heap.size := by
  obtain ⟨i0, hi, hz0, hz1, hz2⟩ := info_parts hinfo
  obtain ⟨xs, hown, hxs⟩ := h
  have hv : (V.alloc (.cells news.toArray e)).heap[V.heap.size]? = some (.cells news.toArray e (0, 0)) := by
    show (V.heap.push _)[_]? = _
    rw [Array.getElem?_push, if_pos rfl]
  have hbb : (n + 1) * bytes ≤ 140737488355328 := by
    have := Nat.mul_le_mul (show n + 1 ≤ 1000000001 by omega) hby
    omega
  obtain ⟨v', w', r, o1, o2, _, o4⟩ := run_append_own_at (P := Try.prog) (V.alloc (.cells news.toArray e)) base t ty e i0 z k bytes ht hi hz0 hz1 hz2 hz hk v _ _ (hown.alloc _)
    ⟨V.heap.size, 0, none⟩ 1 1 news (by omega) (by
      intro j u hj
      have hadd : (⟨V.heap.size, 0, none⟩ : Addr).add j = ⟨V.heap.size, j, none⟩ := by unfold Addr.add; split <;> simp_all
      rw [hadd, cell_of_row _ _ _ _ _ _ hv]
      simpa using hj) h1 (by unfold maxLen; omega) hbb (by simp; omega)
  have hlen := hown.1
  refine ⟨v', w', r, ⟨xs ++ news, o1, fun i j hi' hj => ?_⟩, ((Below.refl base V).alloc hbase _).trans ⟨o2.os, o2.tape, o2.output, o2.size, fun i hi => o2.block i (by simp; omega) (fun e => by have := (hown.lt i e.symm).1; omega)⟩, fun b hb hne => ?_, ?_, ?_⟩
  · by_cases hin : i < n
    · have hlt : i * k + j < n * k := by
        have : (i + 1) * k ≤ n * k := Nat.mul_le_mul_right k hin
        rw [Nat.add_mul] at this
        omega
      rw [List.getElem?_append_left (by omega)]
      exact hxs i j hin hj
    · have : i = n := by omega
      subst this
      rw [List.getElem?_append_right (by omega), hlen, Nat.add_sub_cancel_left]
      exact hnew j hj
  · rw [o2.block b (by simp; omega) (fun e => hne e.symm)]
    exact Below.heap_alloc V _ b hb
  · rcases o4 with h | h
    · exact .inl h
    · exact .inr (by rw [h]; simp)
  · have := o2.size; simp at this; omega

/-- An append whose run is known, in a region that does not draw. -/
theorem wpList_append_run {P : Program} {w : World} {ops : Array Oper} {rest : List Oper} {o : Oper} {a : Act} {Q : Exit → Act → World → Prop} (hgd : o.guard = none) (s x : Operand) (t : TypeId)
    (ho : o.op = .call { callee := .builtin .append, args := #[s, x], argTypes := #[t, t] }) (v sl v' : Value) (w' : World) (hs : a.eval s = v) (hx : a.eval x = sl)
    (hrun : (Builtin.append_ #[t, t] o.type #[v, sl]).run P w = .ok v' w') (h : wpList P ops Q rest (a.put o.dst v') w') : wpList P ops Q (o :: rest) a w := by
  refine wpList_plain hgd fun K hK => ?_
  unfold Oper.wp execOp
  simp only [ho, resolve, invoke, builtin, Sem.run_bind, Sem.run_pure, Result.andThen_ok, List.map_toArray, List.map_cons, List.map_nil, hs, hx, hrun]
  exact hK _ _ h

theorem info110 : (Try.prog.info? 110).map (fun i => (i.zero, i.size, i.bytes)) = some (some (.agg #[.int .i64 0, .slice none 0 0, .slice none 0 0, .bool false]), 4, 64) := by kernel_rfl
theorem info109 : (Try.prog.info? 109).map (fun i => (i.zero, i.size, i.bytes)) = some (some (.agg #[.string ⟨#[]⟩, .int .i64 0]), 2, 24) := by kernel_rfl

theorem setCell_block {w : World} {b i : Nat} {cs : Array Value} {t : TypeId} {fr : Nat × Nat} (h : w.heap[b]? = some (.cells cs t fr)) (v : Value) : (w.setCell ⟨b, i, none⟩ v).heap[b]? = some (.cells (cs.setIfInBounds i v) t fr) := by
  unfold World.setCell
  simp [Array.getElem?_modify, h]
theorem setCell_other (w : World) {b i g : Nat} (v : Value) (h : g ≠ b) : (w.setCell ⟨b, i, none⟩ v).heap[g]? = w.heap[g]? := Below.heap_setCell w ⟨b, i, none⟩ v g h

/-- An append whose run is known, as one step of a region that draws. -/
theorem step_append_run {P : Program} {ops : Array Oper} {o : Oper} {a : Act} {w : World} {K : Act → World → Prop} {Q : Exit → Act → World → Prop} {E : Prop}
    (hg : o.guard = none) (s x : Operand) (t : TypeId) (hop : o.op = Op.call { callee := Callee.builtin Builtin.append, args := #[s, x], argTypes := #[t, t] })
    (v sl v' : Value) (w' : World) (hs : a.eval s = v) (hx : a.eval x = sl) (hrun : (Builtin.append_ #[t, t] o.type #[v, sl]).run P w = .ok v' w')
    (hK : K (a.put o.dst v') w') : if Region.wanted o (yielded ops a.tmps) = true then Oper.wp P o a w K Q else E := by
  have hw : Region.wanted o (yielded ops a.tmps) = true := by simp [Region.wanted, hg]
  rw [if_pos hw]
  unfold Oper.wp
  simp [execOp, hop, resolve, invoke, builtin, hs, hx, hrun, Result.andThen]
  exact hK

theorem own_ne {w : World} {base : Nat} {e : TypeId} {v : Value} {k n : Nat} {f : Nat → Nat → Value} (h : Own w base e v k n f) {b : Nat} {cs : Array Value} {t : TypeId} {fr : Nat × Nat} (hb : w.heap[b]? = some (.cells cs t fr)) (ht : t ≠ e) : v.ownBlock ≠ some b := by
  obtain ⟨xs, ⟨_, h2⟩, _⟩ := h
  rcases h2 with ⟨rfl, _⟩ | ⟨g, cap, cur, rfl, _, h3, _⟩
  · simp [Value.ownBlock]
  · intro e
    simp [Value.ownBlock] at e
    subst e
    rw [h3] at hb
    cases hb
    exact ht rfl

theorem setCell_size (w : World) (a : Addr) (v : Value) : (w.setCell a v).heap.size = w.heap.size := by
  show (w.heap.modify _ _).size = _
  rw [Array.size_modify]

theorem HdAt.one {w : World} {x : Hd} (h : HdAt w x) : x.pv.oneCell' = true ∧ x.sv.oneCell' = true := by
  obtain ⟨h1, h2⟩ := h
  obtain ⟨ao, c, _, _, e1, _⟩ := h1.at
  obtain ⟨ao', c', _, _, e2, _⟩ := h2.at
  rw [e1, e2]
  exact ⟨rfl, rfl⟩

set_option maxRecDepth 100000 in
set_option maxHeartbeats 2000000 in
theorem holdingsOf_any (v : Value) (hs : List Hd) (w : World) (hv : ReadsH w v hs) (hlen : hs.length ≤ 1000000) :
    Calls Try.prog 16 #[v] w fun e w' => ∃ u, e = .returned u ∧ ReadsH w' u hs ∧ Below w.heap.size w w' := by
  have HV := Lib.hid hv
  obtain ⟨ao, c, b, off, rfl, hl, hm, hcell⟩ := hv.at
  have HC := Lib.hid hcell
  clear hcell hv
  go_enter Try.func16, Try.ntmps16
  go_wp2
  go_loopw [3, 4] (fun v3 v4 wr => ∃ j : Nat, j ≤ hs.length ∧ v4 = .int .i64 j ∧ Below w.heap.size w wr ∧ Own wr w.heap.size 110 v3 4 j (hdCell hs)) (fun _ v4 _ => hs.length - (intOf v4).toNat)
  case atStart => exact ⟨0, Nat.zero_le _, rfl, (Below.refl _ _).alloc (Nat.le_refl _) _, Own.lit0 _ _ _ _ _ (Nat.le_refl _)⟩
  case round =>
    obtain ⟨j, hj, rfl, hbel, hown⟩ := hrel
    have HO := Lib.hid hown
    have zr := hbel.size
    clear hown
    by_cases hlt : j < hs.length
    · obtain ⟨e1, e2, e3, e4, e5, hat⟩ := HC.out j hlt
      subst e1
      have hone := hat.one
      rw [← hbel.cell (p := ⟨b, _, none⟩) (cell_lt e2)] at e2
      rw [← hbel.cell (p := ⟨b, _, none⟩) (cell_lt e3)] at e3
      rw [← hbel.cell (p := ⟨b, _, none⟩) (cell_lt e4)] at e4
      rw [← hbel.cell (p := ⟨b, _, none⟩) (cell_lt e5)] at e5
      have hY : ∀ q, q < 4 → ([.int .i64 (hs.getD j default).dev, (hs.getD j default).pv, (hs.getD j default).sv, .bool (hs.getD j default).idx] : List Value)[q]? = some (hdCell hs j q) := fun q hq => by
        match q, hq with
        | 0, _ => rfl
        | 1, _ => rfl
        | 2, _ => rfl
        | 3, _ => rfl
      obtain ⟨v3, w3, r3, o1, o2, _⟩ := Own.append (V := wr) (t := 39) (e := 110) Try.underlying39 info110 rfl (by omega) (by omega) HO.out 39 _ rfl hY (by
        intro u hu
        simp at hu
        rcases hu with rfl | rfl | rfl | rfl
        · rfl
        · exact hone.1
        · exact hone.2
        · rfl) (by omega) zr
      have O1 := Lib.hid o1
      clear hat hone hY o1
      generalize (hs.getD j default).dev = dev at *
      generalize (hs.getD j default).pv = pv at *
      generalize (hs.getD j default).sv = sv at *
      generalize (hs.getD j default).idx = idx at *
      go_wp2_with (at_builtin; refine wpList_append_run (by rfl) (.tmp 12) (.tmp 17) 39 (by rfl) _ (.slice (some ⟨wr.heap.size, 0, none⟩) 1 1) v3 w3 (by rfl) (by rfl) r3 ?_)
      go_roundw
      case rel => exact ⟨j + 1, by omega, by go_num, hbel.trans o2, O1.out⟩
      case measure => simp [intOf]; omega
    · have hjl : j = hs.length := by omega
      subst hjl
      go_wp2
      go_ret
      exact ⟨_, rfl, ⟨HO.out.row hm, fun x hx => (HV.out.2 x hx).below hbel⟩, hbel⟩

end Go.Proofs.Ytapjgjjmlbhanaa
