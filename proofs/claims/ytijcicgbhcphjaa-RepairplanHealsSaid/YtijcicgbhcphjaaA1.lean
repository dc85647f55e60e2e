/- Rows that are read, and the reference's small functions. -/
import Derived.Test.YtijcicgbhcphjaaProg
import Derived.ChangeMaps5
import Derived.Maps.AppendAt
import Derived.Laws.OwnMore
import Derived.Outline
import Derived.WalkKit
import Derived.Handy
import Derived.Lib.Hide
import Derived.Deep.QuietTactic
import Derived.BigQuiet
import Derived.Maps.Own
import Derived.WideShapes
import Derived.StillTailTactics
namespace Go.Proofs.Ytijcicgbhcphjaa
open Go.RowKit Go.Lib

theorem cell_lt {w : World} {b o : Nat} {v : Value} (h : w.cell? ⟨b, o, none⟩ = some v) : b < w.heap.size := by
  unfold World.cell? at h
  by_cases hlt : b < w.heap.size
  · exact hlt
  · have : w.heap[b]? = none := Array.getElem?_eq_none (by omega)
    simp [this] at h

/-- A slice of n elements of k cells each, of which cell j of element i holds 'f i j'. -/
def RowAt (w : World) (v : Value) (k n : Nat) (f : Nat → Nat → Value) : Prop :=
  ∃ ao c, v = .slice ao n c ∧ n ≤ c ∧ n ≤ 4611686018427387904 ∧ (0 < n → ∃ b off, ao = some ⟨b, off, none⟩ ∧ ∀ i j, i < n → j < k → w.cell? ⟨b, off + i * k + j, none⟩ = some (f i j))

theorem RowAt.below {w w' : World} {v : Value} {k n : Nat} {f : Nat → Nat → Value} (h : RowAt w v k n f) (hb : Below w.heap.size w w') : RowAt w' v k n f := by
  obtain ⟨ao, c, rfl, hl, hm, hc⟩ := h
  refine ⟨ao, c, rfl, hl, hm, fun h0 => ?_⟩
  obtain ⟨b, off, e, hh⟩ := hc h0
  refine ⟨b, off, e, fun i j hi hj => ?_⟩
  have h1 := hh i j hi hj
  rw [hb.cell (p := ⟨b, _, none⟩) (cell_lt h1)]
  exact h1

theorem RowAt.at {w : World} {v : Value} {k n : Nat} {f : Nat → Nat → Value} (h : RowAt w v k n f) : ∃ ao c b off, v = .slice ao n c ∧ n ≤ c ∧ n ≤ 4611686018427387904 ∧ ∀ i, i < n → ao = some ⟨b, off, none⟩ ∧ ∀ j, j < k → w.cell? ⟨b, off + i * k + j, none⟩ = some (f i j) := by
  obtain ⟨ao, c, rfl, hl, hm, hc⟩ := h
  by_cases h0 : 0 < n
  · obtain ⟨b, off, e, hh⟩ := hc h0
    exact ⟨ao, c, b, off, rfl, hl, hm, fun i hi => ⟨e, fun j hj => hh i j hi hj⟩⟩
  · exact ⟨ao, c, 0, 0, rfl, hl, hm, fun i hi => absurd hi (by omega)⟩

theorem RowAt.take {w : World} {ao : Option Addr} {c k n : Nat} {f : Nat → Nat → Value} (h : RowAt w (.slice ao n c) k n f) (m : Nat) (hm : m ≤ n) : RowAt w (.slice ao m c) k m f := by
  obtain ⟨ao', c', e, hl, hx, hc⟩ := h
  cases e
  refine ⟨ao, c, rfl, by omega, by omega, fun h0 => ?_⟩
  obtain ⟨b, off, e, hh⟩ := hc (by omega)
  exact ⟨b, off, e, fun i j hi hj => hh i j (by omega) hj⟩

theorem RowAt.congr {w : World} {v : Value} {k n : Nat} {f g : Nat → Nat → Value} (h : RowAt w v k n f) (e : ∀ i j, i < n → j < k → f i j = g i j) : RowAt w v k n g := by
  obtain ⟨ao, c, rfl, hl, hm, hc⟩ := h
  refine ⟨ao, c, rfl, hl, hm, fun h0 => ?_⟩
  obtain ⟨b, off, ea, hh⟩ := hc h0
  exact ⟨b, off, ea, fun i j hi hj => by rw [← e i j hi hj]; exact hh i j hi hj⟩

theorem getD_take {α : Type} (zs : List α) (d : α) (m i : Nat) (h : i < m) : (zs.take m).getD i d = zs.getD i d := by
  simp [List.getD, h]

/-- A slice of ints. -/
def ReadsI (w : World) (v : Value) (zs : List Int) : Prop := RowAt w v 1 zs.length fun i _ => .int .i64 (zs.getD i 0)
theorem ReadsI.below {w w' : World} {v : Value} {zs : List Int} (h : ReadsI w v zs) (hb : Below w.heap.size w w') : ReadsI w' v zs := RowAt.below h hb
theorem ReadsI.at {w : World} {v : Value} {zs : List Int} (h : ReadsI w v zs) : ∃ ao c b off, v = .slice ao zs.length c ∧ zs.length ≤ c ∧ zs.length ≤ 4611686018427387904 ∧ ∀ i, i < zs.length → ao = some ⟨b, off, none⟩ ∧ w.cell? ⟨b, off + i, none⟩ = some (.int .i64 (zs.getD i 0)) := by
  obtain ⟨ao, c, b, off, e, h1, h2, h3⟩ := RowAt.at h
  refine ⟨ao, c, b, off, e, h1, h2, fun i hi => ?_⟩
  obtain ⟨h4, h5⟩ := h3 i hi
  have := h5 0 (by omega)
  simp only [Nat.mul_one, Nat.add_zero] at this
  exact ⟨h4, this⟩

theorem mem_take_succ {α : Type} (zs : List α) (x : α) (j : Nat) (h : j < zs.length) : x ∈ zs.take (j + 1) ↔ x ∈ zs.take j ∨ x = zs[j] := by
  rw [List.take_succ_eq_append_getElem h, List.mem_append, List.mem_singleton]

theorem getD_at {α : Type} (zs : List α) (j : Nat) (d : α) (h : j < zs.length) : zs.getD j d = zs[j] := by
  simp [List.getD, h]

theorem below_drewN {B : Nat} {a w : World} (h : Below B a w) (n : Nat) : Below B a (w.drewN n) := ⟨h.os, h.tape, h.output, h.size, h.block⟩

/-- A piece's ID. -/
structure Pc where
  st : ByteArray
  ix : Int
deriving DecidableEq
instance : Inhabited Pc := ⟨⟨ByteArray.empty, 0⟩⟩
def Pc.v (p : Pc) : Value := .agg #[.string p.st, .int .i64 p.ix]


theorem str_eq (a b : ByteArray) : (a.toList == b.toList) = decide (a = b) := by
  rw [Bool.eq_iff_iff]
  simp only [beq_iff_eq, decide_eq_true_eq]
  constructor
  · intro h
    refine WideShapes.bytes_inj ?_
    rw [ByteArray.toList_eq, ByteArray.toList_eq] at h
    exact h
  · rintro rfl; rfl


end Go.Proofs.Ytijcicgbhcphjaa

namespace Go.Proofs.Ytijcicgbhcphjaa
open Go.RowKit Go.Lib Go.ChangeMaps
section
variable {α : Type} [DecidableEq α] (enc : α → Value)

/-- The entries, the eldest first. -/
def ents : List (α × Value) → Nat → List MapEntry
  | [], _ => []
  | x :: r, c => ⟨enc x.1, x.2, c⟩ :: ents r (c + 1)
def seekL (a : α) : List (α × Value) → Nat → Option (Nat × Value)
  | [], _ => none
  | x :: r, i => if a = x.1 then some (i, x.2) else seekL a r (i + 1)
def mapObj (L : List (α × Value)) : Obj := .map (ents enc L 0).toArray L.length

omit [DecidableEq α] in
theorem ents_snoc (x : α × Value) : ∀ (L : List (α × Value)) (c : Nat), ents enc (L ++ [x]) c = ents enc L c ++ [⟨enc x.1, x.2, c + L.length⟩]
  | [], c => by simp [ents]
  | y :: r, c => by simp [ents, ents_snoc x r (c + 1)]; omega

theorem seekL_none {a : α} : ∀ {L : List (α × Value)} {i : Nat}, seekL a L i = none ↔ a ∉ L.map (·.1)
  | [], i => by simp [seekL]
  | x :: r, i => by
    unfold seekL
    split
    · rename_i h; simp [h]
    · rename_i h; simp [seekL_none (L := r), h]

theorem seekL_some {a : α} : ∀ {L : List (α × Value)} {i : Nat} {p : Nat × Value}, seekL a L i = some p → i ≤ p.1 ∧ L[p.1 - i]? = some (a, p.2)
  | [], _, _, h => by simp [seekL] at h
  | x :: r, i, p, h => by
    unfold seekL at h
    split at h
    · rename_i hc
      cases h
      simp [hc]
    · obtain ⟨h1, h2⟩ := seekL_some h
      refine ⟨by omega, ?_⟩
      rw [show p.1 - i = (p.1 - (i + 1)) + 1 by omega]
      simpa using h2

/-- What a key's type must do. -/
structure KeyOk (tk : TypeId) (kind : TypeDesc) : Prop where
  und : Try.prog.underlying tk = some kind
  chk : ∀ (em : Bool) (a : α) (w : World), (Instr.checkKey em 10000 tk (enc a)).run Try.prog w = .ok () w
  same : (∀ a b : α, Instr.sameNow kind (enc a) (enc b) = some (decide (a = b))) ∨ ((∀ a b : α, Instr.sameNow kind (enc a) (enc b) = none) ∧ ∀ (a b : α) (w : World), (Op.equal tk (enc a) (enc b)).run Try.prog w = .ok (decide (a = b)) w)
variable {enc} {tk : TypeId} {kind : TypeDesc}

theorem findNow_some (h : ∀ a b : α, Instr.sameNow kind (enc a) (enc b) = some (decide (a = b))) (a : α) : ∀ (L : List (α × Value)) (c i : Nat), Instr.findNow kind (enc a) (ents enc L c) i = some (seekL a L i)
  | [], c, i => rfl
  | x :: r, c, i => by
    simp only [ents, Instr.findNow, h, seekL]
    by_cases e : a = x.1
    · simp [e]
    · simp [e, findNow_some h a r]

theorem findAsking_ok (h : ∀ (a b : α) (w : World), (Op.equal tk (enc a) (enc b)).run Try.prog w = .ok (decide (a = b)) w) (a : α) (w : World) : ∀ (L : List (α × Value)) (c i : Nat), (Instr.findAsking tk (enc a) (ents enc L c) i).run Try.prog w = .ok (seekL a L i) w
  | [], c, i => rfl
  | x :: r, c, i => by
    simp only [ents, Instr.findAsking, seekL]
    have h1 := h a x.1 w
    have h2 := findAsking_ok h a w r (c + 1) (i + 1)
    by_cases e : a = x.1
    · simp only [e, decide_true] at h1; simp [h1, e, Result.andThen]
    · simp only [e, decide_false] at h1; simp [h1, e, h2, Result.andThen]

theorem KeyOk.find (K : KeyOk enc tk kind) (a : α) (L : List (α × Value)) (w : World) : (Instr.findKey tk (enc a) (ents enc L 0)).run Try.prog w = .ok (seekL a L 0) w := by
  unfold Instr.findKey
  rcases K.same with h | ⟨h1, h2⟩
  · simp [run_underlying K.und, Result.andThen, findNow_some h]
  · cases L with
    | nil => simp [run_underlying K.und, ents, Instr.findNow, seekL, Result.andThen]
    | cons x r =>
      have hn : Instr.findNow kind (enc a) (ents enc (x :: r) 0) 0 = none := by simp [ents, Instr.findNow, h1]
      have h := findAsking_ok h2 a w (x :: r) 0 0
      simp [run_underlying K.und, Result.andThen] at h hn ⊢
      rw [hn]
      exact h

theorem KeyOk.lookup (K : KeyOk enc tk kind) {tm te : TypeId} (hm : Try.prog.underlying tm = some (.map tk te)) {z : Value} (hz : ∀ w, (zeroValue te).run Try.prog w = .ok z w) {w : World} {r : Nat} {L : List (α × Value)} (hb : w.heap[r]? = some (mapObj enc L)) (a : α) :
    (Instr.lookup tm (.map (some r)) (enc a) true).run Try.prog w = .ok (match seekL a L 0 with | some p => .tuple #[p.2, .bool true] | none => .tuple #[z, .bool false]) w := by
  unfold mapObj at hb
  simp [Instr.lookup, run_underlying hm, MapKept.run_getObj_map hb, K.chk, K.find, Result.andThen]
  cases seekL a L 0 <;> simp [hz]

theorem KeyOk.update (K : KeyOk enc tk kind) {tm te : TypeId} (hm : Try.prog.underlying tm = some (.map tk te)) {w : World} {r : Nat} {L : List (α × Value)} (hb : w.heap[r]? = some (mapObj enc L)) (a : α) (v : Value) (hn : a ∉ L.map (·.1)) :
    (Instr.mapUpdate tm (.map (some r)) (enc a) v).run Try.prog w = .ok () (setBlock w r (mapObj enc (L ++ [(a, v)]))) := by
  unfold mapObj at hb ⊢
  have hs : seekL a L 0 = none := seekL_none.2 hn
  simp [Instr.mapUpdate, run_underlying hm, MapKept.run_getObj_map hb, K.chk, K.find, Result.andThen, hs, MapKept.run_setObj_map _ hb, setBlock, ents_snoc]
end

theorem setBlock_at {w : World} {b : Nat} (h : b < w.heap.size) (o : Obj) : (setBlock w b o).heap[b]? = some o := by
  simp [setBlock, h]
theorem setBlock_off (w : World) {b i : Nat} (o : Obj) (h : i ≠ b) : (setBlock w b o).heap[i]? = w.heap[i]? := by
  simp [setBlock, Ne.symm h]
theorem setBlock_size (w : World) (b : Nat) (o : Obj) : (setBlock w b o).heap.size = w.heap.size := by simp [setBlock]
theorem below_setBlock {B : Nat} {a w : World} (h : Below B a w) {b : Nat} (hb : B ≤ b) (o : Obj) : Below B a (setBlock w b o) :=
  ⟨h.os, h.tape, h.output, by rw [setBlock_size]; exact h.size, fun i hi => by rw [setBlock_off _ _ (by omega)]; exact h.block i hi⟩


/-- A row of the call's own: n elements of k cells, cell j of element i is 'f i j'. -/
def Own (w : World) (base : Nat) (e : TypeId) (v : Value) (k n : Nat) (f : Nat → Nat → Value) : Prop :=
  ∃ xs, w.ownsRow base e k v n xs ∧ ∀ i j, i < n → j < k → xs[i * k + j]? = some (f i j)

theorem Own.row {w : World} {base : Nat} {e : TypeId} {v : Value} {k n : Nat} {f : Nat → Nat → Value} (h : Own w base e v k n f) (hn : n ≤ 4611686018427387904) : RowAt w v k n f := by
  obtain ⟨xs, h1, h2⟩ := h
  have h0 := h1
  obtain ⟨hl, h3⟩ := h0
  rcases h3 with ⟨rfl, rfl⟩ | ⟨g, cap, cur, rfl, _, _, hcap, _⟩
  · exact ⟨none, 0, rfl, Nat.le_refl _, hn, fun h => by omega⟩
  · refine ⟨some ⟨g, 0, none⟩, cap, rfl, hcap, hn, fun _ => ⟨g, 0, rfl, fun i j hi hj => ?_⟩⟩
    have hlt : i * k + j < n * k := by
      have : (i + 1) * k ≤ n * k := Nat.mul_le_mul_right k hi
      rw [Nat.add_mul] at this
      omega
    rw [Nat.zero_add, h1.cellAt _ hlt]
    exact h2 i j hi hj

theorem Own.nil (w : World) (base : Nat) (e : TypeId) (k : Nat) (f : Nat → Nat → Value) : Own w base e (.slice none 0 0) k 0 f := ⟨[], World.ownsRow_nil w base e k, fun i j hi => by omega⟩
theorem Own.lit0 (w : World) (base : Nat) (e : TypeId) (k : Nat) (f : Nat → Nat → Value) (hb : base ≤ w.heap.size) : Own (w.alloc (.cells #[] e)) base e (.slice (some ⟨w.heap.size, 0, none⟩) 0 0) k 0 f :=
  ⟨[], World.ownsRow_lit w #[] 0 hb (by unfold maxLen; omega) (by simp), fun i j hi => by omega⟩
theorem Own.lt {w : World} {base : Nat} {e : TypeId} {v : Value} {k n : Nat} {f : Nat → Nat → Value} (h : Own w base e v k n f) : ∀ g, v.ownBlock = some g → base ≤ g ∧ g < w.heap.size := by
  obtain ⟨xs, h1, _⟩ := h
  exact h1.lt
theorem Own.same {w w' : World} {base : Nat} {e : TypeId} {v : Value} {k n : Nat} {f : Nat → Nat → Value} (h : Own w base e v k n f) (hs : ∀ g, v.ownBlock = some g → w'.heap[g]? = w.heap[g]?) : Own w' base e v k n f := by
  obtain ⟨xs, ⟨h1, h2⟩, h3⟩ := h
  refine ⟨xs, ⟨h1, ?_⟩, h3⟩
  rcases h2 with h2 | ⟨g, cap, cur, rfl, h3, h4, h5⟩
  · exact Or.inl h2
  · exact Or.inr ⟨g, cap, cur, rfl, h3, by rw [hs g rfl]; exact h4, h5⟩
theorem Own.below {w w' : World} {base : Nat} {e : TypeId} {v : Value} {k n : Nat} {f : Nat → Nat → Value} (h : Own w base e v k n f) (hb : Below w.heap.size w w') : Own w' base e v k n f :=
  h.same fun g hg => hb.block g (h.lt g hg).2
theorem Own.alloc {w : World} {base : Nat} {e : TypeId} {v : Value} {k n : Nat} {f : Nat → Nat → Value} (h : Own w base e v k n f) (o : Obj) : Own (w.alloc o) base e v k n f := h.below ((Below.refl _ _).alloc (Nat.le_refl _) _)
theorem Own.congr {w : World} {base : Nat} {e : TypeId} {v : Value} {k n : Nat} {f g : Nat → Nat → Value} (h : Own w base e v k n f) (hf : ∀ i j, i < n → j < k → f i j = g i j) : Own w base e v k n g := by
  obtain ⟨xs, h1, h2⟩ := h
  exact ⟨xs, h1, fun i j hi hj => by rw [← hf i j hi hj]; exact h2 i j hi hj⟩

theorem Own.slice {w : World} {base : Nat} {e : TypeId} {v : Value} {k n : Nat} {f : Nat → Nat → Value} (h : Own w base e v k n f) : ∃ a l c, v = .slice a l c := by
  obtain ⟨xs, ⟨_, h2⟩, _⟩ := h
  rcases h2 with ⟨rfl, _⟩ | ⟨g, cap, cur, rfl, _⟩
  · exact ⟨_, _, _, rfl⟩
  · exact ⟨_, _, _, rfl⟩

theorem info_parts {P : Program} {t : TypeId} {z : Value} {s b : Nat} (h : (P.info? t).map (fun i => (i.zero, i.size, i.bytes)) = some (some z, s, b)) : ∃ i, P.info? t = some i ∧ i.zero = some z ∧ i.size = s ∧ i.bytes = b := by
  cases hi : P.info? t with
  | none => simp [hi] at h
  | some i => simp [hi] at h; exact ⟨i, rfl, h.1, h.2.1, h.2.2⟩

/-- One element more. -/
theorem Own.append {t e : TypeId} {z : Value} {k bytes : Nat} (ht : Try.prog.underlying t = some (.slice e)) (hinfo : (Try.prog.info? e).map (fun i => (i.zero, i.size, i.bytes)) = some (some z, k, bytes)) (hz : z.cells.size = k) (hk : 0 < k) (hby : bytes ≤ 1000)
    {V : World} {base : Nat} {v : Value} {n : Nat} {f : Nat → Nat → Value} (h : Own V base e v k n f) (ty : TypeId) (news : List Value) (hl : news.length = k) (hnew : ∀ j, j < k → news[j]? = some (f n j)) (h1 : ∀ u ∈ news, u.oneCell' = true) (hn : n ≤ 1000000000) (hbase : base ≤ V.heap.size) :
    ∃ v' w', (Builtin.append_ #[t, t] ty #[v, .slice (some ⟨V.heap.size, 0, none⟩) 1 1]).run Try.prog (V.alloc (.cells news.toArray e)) = .ok v' w' ∧ Own w' base e v' k (n + 1) f ∧ Below base V w' ∧
      (∀ b, b < V.heap.size → v.ownBlock ≠ some b → w'.heap[b]? = V.heap[b]?) ∧ (v'.ownBlock = v.ownBlock ∨ v'.ownBlock = some (V.heap.size + 1)) ∧ V.heap.size + 1 ≤ w'.heap.size := by
  obtain ⟨i0, hi, hz0, hz1, hz2⟩ := info_parts hinfo
  obtain ⟨xs, hown, hxs⟩ := h
  have hv : (V.alloc (.cells news.toArray e)).heap[V.heap.size]? = some (.cells news.toArray e (0, 0)) := by
    show (V.heap.push _)[_]? = _
    rw [Array.getElem?_push, if_pos rfl]
  have hbb : (n + 1) * bytes ≤ 140737488355328 := by
    have := Nat.mul_le_mul (show n + 1 ≤ 1000000001 by omega) hby
    omega
  obtain ⟨v', w', r, o1, o2, _, o4⟩ := run_append_own_at (P := Try.prog) (V.alloc (.cells news.toArray e)) base t ty e i0 z k bytes ht hi hz0 hz1 hz2 hz hk v _ _ (hown.alloc _)
    ⟨V.heap.size, 0, none⟩ 1 1 news (by omega) (by
      intro j u hj
      have hadd : (⟨V.heap.size, 0, none⟩ : Addr).add j = ⟨V.heap.size, j, none⟩ := by unfold Addr.add; split <;> simp_all
      rw [hadd, cell_of_row _ _ _ _ _ _ hv]
      simpa using hj) h1 (by unfold maxLen; omega) hbb (by simp; omega)
  have hlen := hown.1
  refine ⟨v', w', r, ⟨xs ++ news, o1, fun i j hi' hj => ?_⟩, ((Below.refl base V).alloc hbase _).trans ⟨o2.os, o2.tape, o2.output, o2.size, fun i hi => o2.block i (by simp; omega) (fun e => by have := (hown.lt i e.symm).1; omega)⟩, fun b hb hne => ?_, ?_, ?_⟩
  · by_cases hin : i < n
    · have hlt : i * k + j < n * k := by
        have : (i + 1) * k ≤ n * k := Nat.mul_le_mul_right k hin
        rw [Nat.add_mul] at this
        omega
      rw [List.getElem?_append_left (by omega)]
      exact hxs i j hin hj
    · have : i = n := by omega
      subst this
      rw [List.getElem?_append_right (by omega), hlen, Nat.add_sub_cancel_left]
      exact hnew j hj
  · rw [o2.block b (by simp; omega) (fun e => hne e.symm)]
    exact Below.heap_alloc V _ b hb
  · rcases o4 with h | h
    · exact .inl h
    · exact .inr (by rw [h]; simp)
  · have := o2.size; simp at this; omega

/-- An append whose run is known, in a region that does not draw. -/
theorem wpList_append_run {P : Program} {w : World} {ops : Array Oper} {rest : List Oper} {o : Oper} {a : Act} {Q : Exit → Act → World → Prop} (hgd : o.guard = none) (s x : Operand) (t : TypeId)
    (ho : o.op = .call { callee := .builtin .append, args := #[s, x], argTypes := #[t, t] }) (v sl v' : Value) (w' : World) (hs : a.eval s = v) (hx : a.eval x = sl)
    (hrun : (Builtin.append_ #[t, t] o.type #[v, sl]).run P w = .ok v' w') (h : wpList P ops Q rest (a.put o.dst v') w') : wpList P ops Q (o :: rest) a w := by
  refine wpList_plain hgd fun K hK => ?_
  unfold Oper.wp execOp
  simp only [ho, resolve, invoke, builtin, Sem.run_bind, Sem.run_pure, Result.andThen_ok, List.map_toArray, List.map_cons, List.map_nil, hs, hx, hrun]
  exact hK _ _ h

theorem setCell_block {w : World} {b i : Nat} {cs : Array Value} {t : TypeId} {fr : Nat × Nat} (h : w.heap[b]? = some (.cells cs t fr)) (v : Value) : (w.setCell ⟨b, i, none⟩ v).heap[b]? = some (.cells (cs.setIfInBounds i v) t fr) := by
  unfold World.setCell
  simp [Array.getElem?_modify, h]
theorem setCell_other (w : World) {b i g : Nat} (v : Value) (h : g ≠ b) : (w.setCell ⟨b, i, none⟩ v).heap[g]? = w.heap[g]? := Below.heap_setCell w ⟨b, i, none⟩ v g h

/-- An append whose run is known, as one step of a region that draws. -/
theorem step_append_run {P : Program} {ops : Array Oper} {o : Oper} {a : Act} {w : World} {K : Act → World → Prop} {Q : Exit → Act → World → Prop} {E : Prop}
    (hg : o.guard = none) (s x : Operand) (t : TypeId) (hop : o.op = Op.call { callee := Callee.builtin Builtin.append, args := #[s, x], argTypes := #[t, t] })
    (v sl v' : Value) (w' : World) (hs : a.eval s = v) (hx : a.eval x = sl) (hrun : (Builtin.append_ #[t, t] o.type #[v, sl]).run P w = .ok v' w')
    (hK : K (a.put o.dst v') w') : if Region.wanted o (yielded ops a.tmps) = true then Oper.wp P o a w K Q else E := by
  have hw : Region.wanted o (yielded ops a.tmps) = true := by simp [Region.wanted, hg]
  rw [if_pos hw]
  unfold Oper.wp
  simp [execOp, hop, resolve, invoke, builtin, hs, hx, hrun, Result.andThen]
  exact hK

theorem own_ne {w : World} {base : Nat} {e : TypeId} {v : Value} {k n : Nat} {f : Nat → Nat → Value} (h : Own w base e v k n f) {b : Nat} {cs : Array Value} {t : TypeId} {fr : Nat × Nat} (hb : w.heap[b]? = some (.cells cs t fr)) (ht : t ≠ e) : v.ownBlock ≠ some b := by
  obtain ⟨xs, ⟨_, h2⟩, _⟩ := h
  rcases h2 with ⟨rfl, _⟩ | ⟨g, cap, cur, rfl, _, h3, _⟩
  · simp [Value.ownBlock]
  · intro e
    simp [Value.ownBlock] at e
    subst e
    rw [h3] at hb
    cases hb
    exact ht rfl

theorem setCell_size (w : World) (a : Addr) (v : Value) : (w.setCell a v).heap.size = w.heap.size := by
  show (w.heap.modify _ _).size = _
  rw [Array.size_modify]


/-- A row of numbers of the call's own. -/
def OwnI (w : World) (base : Nat) (v : Value) (ds : List Int) : Prop := Own w base 3 v 1 ds.length fun i _ => .int .i64 (ds.getD i 0)
theorem OwnI.nil (w : World) (base : Nat) : OwnI w base (.slice none 0 0) [] := Own.nil _ _ _ _ _
theorem OwnI.reads {w : World} {base : Nat} {v : Value} {ds : List Int} (h : OwnI w base v ds) (hn : ds.length ≤ 4611686018427387904) : ReadsI w v ds := Own.row h hn
theorem OwnI.below {w w' : World} {base : Nat} {v : Value} {ds : List Int} (h : OwnI w base v ds) (hb : Below w.heap.size w w') : OwnI w' base v ds := Own.below h hb
theorem OwnI.append {V : World} {base : Nat} {v : Value} {ds : List Int} (h : OwnI V base v ds) (y : Int) (hn : ds.length ≤ 1000000000) (hbase : base ≤ V.heap.size) :
    ∃ v' w', (Builtin.append_ #[24, 24] 24 #[v, .slice (some ⟨V.heap.size, 0, none⟩) 1 1]).run Try.prog (V.alloc (.cells #[.int .i64 y] 3)) = .ok v' w' ∧ OwnI w' base v' (ds ++ [y]) ∧ Below base V w' ∧
      (∀ b, b < V.heap.size → v.ownBlock ≠ some b → w'.heap[b]? = V.heap[b]?) ∧ V.heap.size + 1 ≤ w'.heap.size := by
  have h' : Own V base 3 v 1 ds.length fun i _ => .int .i64 ((ds ++ [y]).getD i 0) := Own.congr h fun i j hi hj => by rw [getD_at _ _ _ hi, getD_at _ _ _ (by rw [List.length_append]; omega), List.getElem_append_left hi]
  obtain ⟨v3, w3, r3, o1, o2, o3, o4, o5⟩ := Own.append (V := V) (t := 24) (e := 3) (z := .int .i64 0) (k := 1) (bytes := 8) Try.underlying24 (by kernel_rfl) rfl (by omega) (by omega) h' 24 [.int .i64 y] rfl (fun q hq => by
    obtain rfl : q = 0 := by omega
    simp [List.getD]) (by intro u hu; simp at hu; subst hu; rfl) hn hbase
  refine ⟨v3, w3, r3, ?_, o2, o3, o5⟩
  unfold OwnI
  rw [List.length_append]
  exact o1
theorem grown_below3 {B : Nat} {row : Option Nat} {a w w' : World} (h : Below B a w) (g : w.grownBy w' row) (hrow : ∀ k, row = some k → B ≤ k) (hB : B ≤ w.heap.size) : Below B a w' :=
  ⟨g.os.trans h.os, g.tape.trans h.tape, g.output.trans h.output, Nat.le_trans h.size g.size, fun i hi => by
    rw [g.block i (by omega) (by intro e; have := hrow i e.symm; omega)]; exact h.block i hi⟩

theorem ReadsI.val {w : World} {v : Value} {xs : List Int} (h : ReadsI w v xs) : ∃ ao n c, v = .slice ao n c := by
  obtain ⟨ao, c, _, _, e, _⟩ := h.at
  exact ⟨ao, _, c, e⟩

theorem own_ne_map {w : World} {base : Nat} {e : TypeId} {v : Value} {k n : Nat} {f : Nat → Nat → Value} (h : Own w base e v k n f) {b : Nat} {es : Array MapEntry} {q : Nat} (hb : w.heap[b]? = some (.map es q)) : v.ownBlock ≠ some b := by
  obtain ⟨xs, ⟨_, h2⟩, _⟩ := h
  rcases h2 with ⟨rfl, _⟩ | ⟨g, cap, cur, rfl, _, h3, _⟩
  · simp [Value.ownBlock]
  · intro e
    simp [Value.ownBlock] at e
    subst e
    rw [h3] at hb
    cases hb
theorem own_apart' {w : World} {b1 b2 : Nat} {e1 e2 : TypeId} {v1 v2 : Value} {k1 k2 n1 n2 : Nat} {f1 f2 : Nat → Nat → Value} (h1 : Own w b1 e1 v1 k1 n1 f1) (h2 : Own w b2 e2 v2 k2 n2 f2) (he : e1 ≠ e2) : ∀ g, v1.ownBlock = some g → v2.ownBlock ≠ some g := by
  intro g hg
  obtain ⟨xs, ⟨_, h3⟩, _⟩ := h1
  rcases h3 with ⟨rfl, _⟩ | ⟨g', cap, cur, rfl, _, h4, _⟩
  · cases hg
  · cases hg
    exact own_ne h2 h4 he

theorem OwnI.slice {w : World} {base : Nat} {v : Value} {ds : List Int} (h : OwnI w base v ds) : ∃ a c, v = .slice a ds.length c := by
  obtain ⟨xs, ⟨h0, h2⟩, _⟩ := h
  rcases h2 with ⟨rfl, h⟩ | ⟨g, cap, cur, rfl, _⟩
  · rw [h]; exact ⟨_, _, rfl⟩
  · exact ⟨_, _, rfl⟩
theorem Own.base {w : World} {b b' : Nat} {e : TypeId} {v : Value} {k n : Nat} {f : Nat → Nat → Value} (h : Own w b e v k n f) (hb : b' ≤ b) : Own w b' e v k n f := by
  obtain ⟨xs, ⟨h0, h2⟩, h3⟩ := h
  refine ⟨xs, ⟨h0, ?_⟩, h3⟩
  rcases h2 with h2 | ⟨g, cap, cur, e1, e2, e3⟩
  · exact .inl h2
  · exact .inr ⟨g, cap, cur, e1, Nat.le_trans hb e2, e3⟩


end Go.Proofs.Ytijcicgbhcphjaa

/- Views: what they read as, and when they are valid. -/
namespace Go.Proofs.Ytijcicgbhcphjaa
open Go.RowKit Go.Lib Go.ChangeMaps

/-- A member. -/
structure Mem where
  dev : Int
  name : ByteArray
  pub : ByteArray
  quota : Int
  exp : Bool
deriving DecidableEq
instance : Inhabited Mem := ⟨⟨0, ByteArray.empty, ByteArray.empty, 0, false⟩⟩
/-- A reference to a chunk. -/
structure Rf where
  name : ByteArray
  gen : Int
  size : Int
deriving DecidableEq
instance : Inhabited Rf := ⟨⟨ByteArray.empty, 0, 0⟩⟩
/-- A stripe and where its pieces are. -/
structure Hp where
  id : ByteArray
  vault : Int
  block : Int
  data : Int
  total : Int
  refs : List Rf
  at_ : List Int
deriving DecidableEq
instance : Inhabited Hp := ⟨⟨ByteArray.empty, 0, 0, 0, 0, [], []⟩⟩
/-- A view. -/
structure Vp where
  mem : List Mem
  held : List Hp
  room : List Int
  weight : List Int
deriving DecidableEq
/-- A job. -/
structure Jp where
  pc : Pc
  from_ : List Int
  to : Int
  size : Int
deriving DecidableEq
instance : Inhabited Jp := ⟨⟨default, [], 0, 0⟩⟩

def memCell (ms : List Mem) (i j : Nat) : Value := match j with
  | 0 => .int .i64 (ms.getD i default).dev | 1 => .string (ms.getD i default).name | 2 => .string (ms.getD i default).pub | 3 => .int .i64 (ms.getD i default).quota | _ => .bool (ms.getD i default).exp
def rfCell (rs : List Rf) (i j : Nat) : Value := match j with
  | 0 => .string (rs.getD i default).name | 1 => .int .i64 (rs.getD i default).gen | _ => .int .i64 (rs.getD i default).size
def hpCell (hs : List Hp) (xs : List (Value × Value)) (i j : Nat) : Value := match j with
  | 0 => .string (hs.getD i default).id | 1 => .int .i64 (hs.getD i default).vault | 2 => .int .i64 (hs.getD i default).block | 3 => .int .i64 (hs.getD i default).data
  | 4 => .int .i64 (hs.getD i default).total | 5 => (xs.getD i (undef, undef)).1 | _ => (xs.getD i (undef, undef)).2
def jpCell (js : List Jp) (xs : List Value) (i j : Nat) : Value := match j with
  | 0 => .string (js.getD i default).pc.st | 1 => .int .i64 (js.getD i default).pc.ix | 2 => xs.getD i undef | 3 => .int .i64 (js.getD i default).to | _ => .int .i64 (js.getD i default).size

def ReadsM (w : World) (v : Value) (ms : List Mem) : Prop := RowAt w v 5 ms.length (memCell ms)
theorem ReadsM.below {w w' : World} {v : Value} {ms : List Mem} (h : ReadsM w v ms) (hb : Below w.heap.size w w') : ReadsM w' v ms := RowAt.below h hb
theorem ReadsM.at {w : World} {v : Value} {ms : List Mem} (h : ReadsM w v ms) : ∃ ao c b off, v = .slice ao ms.length c ∧ ms.length ≤ c ∧ ms.length ≤ 4611686018427387904 ∧
    ∀ i, i < ms.length → ao = some ⟨b, off, none⟩ ∧ w.cell? ⟨b, off + i * 5, none⟩ = some (.int .i64 (ms.getD i default).dev) ∧ w.cell? ⟨b, off + i * 5 + 1, none⟩ = some (.string (ms.getD i default).name) ∧
      w.cell? ⟨b, off + i * 5 + 2, none⟩ = some (.string (ms.getD i default).pub) ∧ w.cell? ⟨b, off + i * 5 + 3, none⟩ = some (.int .i64 (ms.getD i default).quota) ∧ w.cell? ⟨b, off + i * 5 + 4, none⟩ = some (.bool (ms.getD i default).exp) := by
  obtain ⟨ao, c, b, off, e, h1, h2, h3⟩ := RowAt.at h
  refine ⟨ao, c, b, off, e, h1, h2, fun i hi => ?_⟩
  obtain ⟨h4, h5⟩ := h3 i hi
  exact ⟨h4, h5 0 (by omega), h5 1 (by omega), h5 2 (by omega), h5 3 (by omega), h5 4 (by omega)⟩

def ReadsR (w : World) (v : Value) (rs : List Rf) : Prop := RowAt w v 3 rs.length (rfCell rs)
theorem ReadsR.below {w w' : World} {v : Value} {rs : List Rf} (h : ReadsR w v rs) (hb : Below w.heap.size w w') : ReadsR w' v rs := RowAt.below h hb
theorem ReadsR.at {w : World} {v : Value} {rs : List Rf} (h : ReadsR w v rs) : ∃ ao c b off, v = .slice ao rs.length c ∧ rs.length ≤ c ∧ rs.length ≤ 4611686018427387904 ∧
    ∀ i, i < rs.length → ao = some ⟨b, off, none⟩ ∧ w.cell? ⟨b, off + i * 3, none⟩ = some (.string (rs.getD i default).name) ∧ w.cell? ⟨b, off + i * 3 + 1, none⟩ = some (.int .i64 (rs.getD i default).gen) ∧
      w.cell? ⟨b, off + i * 3 + 2, none⟩ = some (.int .i64 (rs.getD i default).size) := by
  obtain ⟨ao, c, b, off, e, h1, h2, h3⟩ := RowAt.at h
  refine ⟨ao, c, b, off, e, h1, h2, fun i hi => ?_⟩
  obtain ⟨h4, h5⟩ := h3 i hi
  exact ⟨h4, h5 0 (by omega), h5 1 (by omega), h5 2 (by omega)⟩

def ReadsH (w : World) (v : Value) (hs : List Hp) : Prop := ∃ xs : List (Value × Value), xs.length = hs.length ∧ RowAt w v 7 hs.length (hpCell hs xs) ∧
  ∀ i, i < hs.length → ReadsR w (xs.getD i (undef, undef)).1 (hs.getD i default).refs ∧ ReadsI w (xs.getD i (undef, undef)).2 (hs.getD i default).at_
theorem ReadsH.below {w w' : World} {v : Value} {hs : List Hp} (h : ReadsH w v hs) (hb : Below w.heap.size w w') : ReadsH w' v hs := by
  obtain ⟨xs, h1, h2, h3⟩ := h
  exact ⟨xs, h1, RowAt.below h2 hb, fun i hi => ⟨(h3 i hi).1.below hb, (h3 i hi).2.below hb⟩⟩
theorem ReadsH.at {w : World} {v : Value} {hs : List Hp} (h : ReadsH w v hs) : ∃ ao c b off, v = .slice ao hs.length c ∧ hs.length ≤ c ∧ hs.length ≤ 4611686018427387904 ∧
    ∀ i, i < hs.length → ao = some ⟨b, off, none⟩ ∧ w.cell? ⟨b, off + i * 7, none⟩ = some (.string (hs.getD i default).id) ∧ w.cell? ⟨b, off + i * 7 + 1, none⟩ = some (.int .i64 (hs.getD i default).vault) ∧
      w.cell? ⟨b, off + i * 7 + 2, none⟩ = some (.int .i64 (hs.getD i default).block) ∧ w.cell? ⟨b, off + i * 7 + 3, none⟩ = some (.int .i64 (hs.getD i default).data) ∧
      w.cell? ⟨b, off + i * 7 + 4, none⟩ = some (.int .i64 (hs.getD i default).total) ∧ ∃ rv av, w.cell? ⟨b, off + i * 7 + 5, none⟩ = some rv ∧ w.cell? ⟨b, off + i * 7 + 6, none⟩ = some av ∧
      ReadsR w rv (hs.getD i default).refs ∧ ReadsI w av (hs.getD i default).at_ := by
  obtain ⟨xs, hx, hr, hh⟩ := h
  obtain ⟨ao, c, b, off, e, h1, h2, h3⟩ := RowAt.at hr
  refine ⟨ao, c, b, off, e, h1, h2, fun i hi => ?_⟩
  obtain ⟨h4, h5⟩ := h3 i hi
  exact ⟨h4, h5 0 (by omega), h5 1 (by omega), h5 2 (by omega), h5 3 (by omega), h5 4 (by omega), _, _, h5 5 (by omega), h5 6 (by omega), (hh i hi).1, (hh i hi).2⟩

def ReadsJ (w : World) (v : Value) (js : List Jp) : Prop := ∃ xs : List Value, xs.length = js.length ∧ RowAt w v 5 js.length (jpCell js xs) ∧ ∀ i, i < js.length → ReadsI w (xs.getD i undef) (js.getD i default).from_
theorem ReadsJ.below {w w' : World} {v : Value} {js : List Jp} (h : ReadsJ w v js) (hb : Below w.heap.size w w') : ReadsJ w' v js := by
  obtain ⟨xs, h1, h2, h3⟩ := h
  exact ⟨xs, h1, RowAt.below h2 hb, fun i hi => (h3 i hi).below hb⟩
theorem ReadsJ.at {w : World} {v : Value} {js : List Jp} (h : ReadsJ w v js) : ∃ ao c b off, v = .slice ao js.length c ∧ js.length ≤ c ∧ js.length ≤ 4611686018427387904 ∧
    ∀ i, i < js.length → ao = some ⟨b, off, none⟩ ∧ w.cell? ⟨b, off + i * 5, none⟩ = some (.string (js.getD i default).pc.st) ∧ w.cell? ⟨b, off + i * 5 + 1, none⟩ = some (.int .i64 (js.getD i default).pc.ix) ∧
      ∃ fv, w.cell? ⟨b, off + i * 5 + 2, none⟩ = some fv ∧ w.cell? ⟨b, off + i * 5 + 3, none⟩ = some (.int .i64 (js.getD i default).to) ∧
      w.cell? ⟨b, off + i * 5 + 4, none⟩ = some (.int .i64 (js.getD i default).size) ∧ ReadsI w fv (js.getD i default).from_ := by
  obtain ⟨xs, hx, hr, hh⟩ := h
  obtain ⟨ao, c, b, off, e, h1, h2, h3⟩ := RowAt.at hr
  refine ⟨ao, c, b, off, e, h1, h2, fun i hi => ?_⟩
  obtain ⟨h4, h5⟩ := h3 i hi
  exact ⟨h4, h5 0 (by omega), h5 1 (by omega), _, h5 2 (by omega), h5 3 (by omega), h5 4 (by omega), hh i hi⟩

/-- A view as a value. -/
def VwAt (w : World) (v : Value) (V : Vp) : Prop := ∃ mv hv rv wv, v = .agg #[mv, hv, rv, wv] ∧ ReadsM w mv V.mem ∧ ReadsH w hv V.held ∧ ReadsI w rv V.room ∧ ReadsI w wv V.weight
theorem VwAt.below {w w' : World} {v : Value} {V : Vp} (h : VwAt w v V) (hb : Below w.heap.size w w') : VwAt w' v V := by
  obtain ⟨mv, hv, rv, wv, e, h1, h2, h3, h4⟩ := h
  exact ⟨mv, hv, rv, wv, e, h1.below hb, h2.below hb, h3.below hb, h4.below hb⟩

/-! Valid views. -/
def CntOk (zs : List Int) : Prop := ∀ x ∈ zs, 0 ≤ x ∧ x ≤ 1099511627776
instance (zs : List Int) : Decidable (CntOk zs) := inferInstanceAs (Decidable (∀ x ∈ zs, _))
/-- Devices that are different, apart from -1. -/
def AtOk (n : Int) (zs : List Int) : Prop := (zs.filter (· != -1)).Nodup ∧ ∀ x ∈ zs, x = -1 ∨ (0 ≤ x ∧ x < n)
instance (n : Int) (zs : List Int) : Decidable (AtOk n zs) := inferInstanceAs (Decidable (_ ∧ _))
def HpOk (n : Int) (h : Hp) : Prop := h.id.size = 32 ∧ (1 ≤ h.data ∧ h.data ≤ 8) ∧ (h.data ≤ h.total ∧ h.total ≤ 16) ∧ (1 ≤ h.block ∧ h.block ≤ 65536) ∧ (h.at_.length : Int) = h.total ∧ AtOk n h.at_
instance (n : Int) (h : Hp) : Decidable (HpOk n h) := inferInstanceAs (Decidable (_ ∧ _))
def HpsOk (n : Int) (hs : List Hp) : Prop := (hs.map Hp.id).Nodup ∧ ∀ h ∈ hs, HpOk n h
instance (n : Int) (hs : List Hp) : Decidable (HpsOk n hs) := inferInstanceAs (Decidable (_ ∧ _))
def MsOk (ms : List Mem) : Prop := ∀ i, i < ms.length → (ms.getD i default).dev = i
instance (ms : List Mem) : Decidable (MsOk ms) := inferInstanceAs (Decidable (∀ i, i < ms.length → _))
def FitV (V : Vp) : Prop := V.mem.length ≤ 12 ∧ V.held.length ≤ 256
instance (V : Vp) : Decidable (FitV V) := inferInstanceAs (Decidable (_ ∧ _))
def VOk (V : Vp) : Prop := FitV V ∧ MsOk V.mem ∧ (V.room.length = V.mem.length ∧ CntOk V.room) ∧ (V.weight.length = V.mem.length ∧ CntOk V.weight) ∧ HpsOk V.mem.length V.held
instance (V : Vp) : Decidable (VOk V) := inferInstanceAs (Decidable (_ ∧ _))

theorem atOk_snoc (n : Int) (zs : List Int) (j : Nat) (h : j < zs.length) : AtOk n (zs.take (j + 1)) ↔ AtOk n (zs.take j) ∧ (zs[j] = -1 ∨ ((0 ≤ zs[j] ∧ zs[j] < n) ∧ zs[j] ∉ zs.take j)) := by
  rw [List.take_succ_eq_append_getElem h]
  unfold AtOk
  rw [List.filter_append, List.nodup_append]
  generalize zs[j] = y
  by_cases hy : y = -1
  · subst hy
    simp
    intro _
    constructor
    · exact fun h x hx => h x (.inl hx)
    · rintro h x (hx | hx)
      · exact h x hx
      · exact .inl hx
  · have e0 : [y].filter (· != -1) = [y] := by simp [hy]
    rw [e0]
    simp only [hy, false_or]
    constructor
    · rintro ⟨⟨h1, _, h3⟩, h4⟩
      refine ⟨⟨h1, fun p hp => h4 p (List.mem_append_left _ hp)⟩, ?_, fun hm => ?_⟩
      · rcases h4 y (by simp) with h | h
        · exact absurd h hy
        · exact h
      · exact h3 y (List.mem_filter.2 ⟨hm, by simp [hy]⟩) y (by simp) rfl
    · rintro ⟨⟨h1, h2⟩, h3, h4⟩
      refine ⟨⟨h1, by simp, fun a ha b hb e => ?_⟩, fun p hp => ?_⟩
      · simp at hb; subst hb; subst e; exact h4 (List.mem_filter.1 ha).1
      · rcases List.mem_append.1 hp with hp | hp
        · exact h2 p hp
        · simp at hp; subst hp; exact .inr h3
theorem atOk_take {n : Int} {zs : List Int} (h : AtOk n zs) (j : Nat) : AtOk n (zs.take j) :=
  ⟨h.1.sublist ((List.take_sublist _ _).filter _), fun p hp => h.2 p (List.mem_of_mem_take hp)⟩

theorem hpsOk_snoc (n : Int) (hs : List Hp) (j : Nat) (h : j < hs.length) : HpsOk n (hs.take (j + 1)) ↔ HpsOk n (hs.take j) ∧ HpOk n hs[j] ∧ hs[j].id ∉ (hs.take j).map Hp.id := by
  unfold HpsOk
  rw [List.take_succ_eq_append_getElem h, List.map_append, List.nodup_append]
  constructor
  · rintro ⟨⟨h1, _, h3⟩, h4⟩
    exact ⟨⟨h1, fun p hp => h4 p (List.mem_append_left _ hp)⟩, h4 _ (List.mem_append_right _ (List.mem_singleton.2 rfl)), fun hm => h3 _ hm _ (by simp) rfl⟩
  · rintro ⟨⟨h1, h2⟩, h3, h4⟩
    refine ⟨⟨h1, by simp, fun a ha b hb e => ?_⟩, fun p hp => ?_⟩
    · simp at hb; subst hb; subst e; exact h4 ha
    · rcases List.mem_append.1 hp with hp | hp
      · exact h2 p hp
      · simp at hp; subst hp; exact h3
theorem hpsOk_take {n : Int} {hs : List Hp} (h : HpsOk n hs) (j : Nat) : HpsOk n (hs.take j) :=
  ⟨h.1.sublist ((List.take_sublist _ _).map _), fun p hp => h.2 p (List.mem_of_mem_take hp)⟩

end Go.Proofs.Ytijcicgbhcphjaa
