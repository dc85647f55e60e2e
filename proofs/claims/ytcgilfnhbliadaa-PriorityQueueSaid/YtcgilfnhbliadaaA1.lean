/- Rows that are read, rows of the call's own, maps, tasks. -/
import Derived.Test.YtcgilfnhbliadaaProg
import Derived.ChangeMaps5
import Derived.Maps.AppendAt
import Derived.Laws.OwnMore
import Derived.Outline
import Derived.WalkKit
import Derived.Handy
import Derived.Lib.Hide
import Derived.Deep.QuietTactic
import Derived.BigQuiet
import Derived.Maps.Own
import Derived.WideShapes
import Derived.StillTailTactics
namespace Go.Proofs.Ytcgilfnhbliadaa
open Go.RowKit Go.Lib

theorem cell_lt {w : World} {b o : Nat} {v : Value} (h : w.cell? ⟨b, o, none⟩ = some v) : b < w.heap.size := by
  unfold World.cell? at h
  by_cases hlt : b < w.heap.size
  · exact hlt
  · have : w.heap[b]? = none := Array.getElem?_eq_none (by omega)
    simp [this] at h

/-- A slice of n elements of k cells each, of which cell j of element i holds 'f i j'. -/
def RowAt (w : World) (v : Value) (k n : Nat) (f : Nat → Nat → Value) : Prop :=
  ∃ ao c, v = .slice ao n c ∧ n ≤ c ∧ n ≤ 4611686018427387904 ∧ (0 < n → ∃ b off, ao = some ⟨b, off, none⟩ ∧ ∀ i j, i < n → j < k → w.cell? ⟨b, off + i * k + j, none⟩ = some (f i j))

theorem RowAt.below {w w' : World} {v : Value} {k n : Nat} {f : Nat → Nat → Value} (h : RowAt w v k n f) (hb : Below w.heap.size w w') : RowAt w' v k n f := by
  obtain ⟨ao, c, rfl, hl, hm, hc⟩ := h
  refine ⟨ao, c, rfl, hl, hm, fun h0 => ?_⟩
  obtain ⟨b, off, e, hh⟩ := hc h0
  refine ⟨b, off, e, fun i j hi hj => ?_⟩
  have h1 := hh i j hi hj
  rw [hb.cell (p := ⟨b, _, none⟩) (cell_lt h1)]
  exact h1

theorem RowAt.at {w : World} {v : Value} {k n : Nat} {f : Nat → Nat → Value} (h : RowAt w v k n f) : ∃ ao c b off, v = .slice ao n c ∧ n ≤ c ∧ n ≤ 4611686018427387904 ∧ ∀ i, i < n → ao = some ⟨b, off, none⟩ ∧ ∀ j, j < k → w.cell? ⟨b, off + i * k + j, none⟩ = some (f i j) := by
  obtain ⟨ao, c, rfl, hl, hm, hc⟩ := h
  by_cases h0 : 0 < n
  · obtain ⟨b, off, e, hh⟩ := hc h0
    exact ⟨ao, c, b, off, rfl, hl, hm, fun i hi => ⟨e, fun j hj => hh i j hi hj⟩⟩
  · exact ⟨ao, c, 0, 0, rfl, hl, hm, fun i hi => absurd hi (by omega)⟩

theorem RowAt.take {w : World} {ao : Option Addr} {c k n : Nat} {f : Nat → Nat → Value} (h : RowAt w (.slice ao n c) k n f) (m : Nat) (hm : m ≤ n) : RowAt w (.slice ao m c) k m f := by
  obtain ⟨ao', c', e, hl, hx, hc⟩ := h
  cases e
  refine ⟨ao, c, rfl, by omega, by omega, fun h0 => ?_⟩
  obtain ⟨b, off, e, hh⟩ := hc (by omega)
  exact ⟨b, off, e, fun i j hi hj => hh i j (by omega) hj⟩

theorem RowAt.congr {w : World} {v : Value} {k n : Nat} {f g : Nat → Nat → Value} (h : RowAt w v k n f) (e : ∀ i j, i < n → j < k → f i j = g i j) : RowAt w v k n g := by
  obtain ⟨ao, c, rfl, hl, hm, hc⟩ := h
  refine ⟨ao, c, rfl, hl, hm, fun h0 => ?_⟩
  obtain ⟨b, off, ea, hh⟩ := hc h0
  exact ⟨b, off, ea, fun i j hi hj => by rw [← e i j hi hj]; exact hh i j hi hj⟩

theorem getD_take {α : Type} (zs : List α) (d : α) (m i : Nat) (h : i < m) : (zs.take m).getD i d = zs.getD i d := by
  simp [List.getD, h]

/-- A slice of ints. -/
def ReadsI (w : World) (v : Value) (zs : List Int) : Prop := RowAt w v 1 zs.length fun i _ => .int .i64 (zs.getD i 0)
theorem ReadsI.below {w w' : World} {v : Value} {zs : List Int} (h : ReadsI w v zs) (hb : Below w.heap.size w w') : ReadsI w' v zs := RowAt.below h hb
theorem ReadsI.at {w : World} {v : Value} {zs : List Int} (h : ReadsI w v zs) : ∃ ao c b off, v = .slice ao zs.length c ∧ zs.length ≤ c ∧ zs.length ≤ 4611686018427387904 ∧ ∀ i, i < zs.length → ao = some ⟨b, off, none⟩ ∧ w.cell? ⟨b, off + i, none⟩ = some (.int .i64 (zs.getD i 0)) := by
  obtain ⟨ao, c, b, off, e, h1, h2, h3⟩ := RowAt.at h
  refine ⟨ao, c, b, off, e, h1, h2, fun i hi => ?_⟩
  obtain ⟨h4, h5⟩ := h3 i hi
  have := h5 0 (by omega)
  simp only [Nat.mul_one, Nat.add_zero] at this
  exact ⟨h4, this⟩

theorem mem_take_succ {α : Type} (zs : List α) (x : α) (j : Nat) (h : j < zs.length) : x ∈ zs.take (j + 1) ↔ x ∈ zs.take j ∨ x = zs[j] := by
  rw [List.take_succ_eq_append_getElem h, List.mem_append, List.mem_singleton]

theorem getD_at {α : Type} (zs : List α) (j : Nat) (d : α) (h : j < zs.length) : zs.getD j d = zs[j] := by
  simp [List.getD, h]

theorem below_drewN {B : Nat} {a w : World} (h : Below B a w) (n : Nat) : Below B a (w.drewN n) := ⟨h.os, h.tape, h.output, h.size, h.block⟩

/-- A piece's ID. -/
structure Pc where
  st : ByteArray
  ix : Int
deriving DecidableEq
instance : Inhabited Pc := ⟨⟨ByteArray.empty, 0⟩⟩
def Pc.v (p : Pc) : Value := .agg #[.string p.st, .int .i64 p.ix]


theorem str_eq (a b : ByteArray) : (a.toList == b.toList) = decide (a = b) := by
  rw [Bool.eq_iff_iff]
  simp only [beq_iff_eq, decide_eq_true_eq]
  constructor
  · intro h
    refine WideShapes.bytes_inj ?_
    rw [ByteArray.toList_eq, ByteArray.toList_eq] at h
    exact h
  · rintro rfl; rfl


end Go.Proofs.Ytcgilfnhbliadaa

namespace Go.Proofs.Ytcgilfnhbliadaa
open Go.RowKit Go.Lib Go.ChangeMaps
section
variable {α : Type} [DecidableEq α] (enc : α → Value)

/-- The entries, the eldest first. -/
def ents : List (α × Value) → Nat → List MapEntry
  | [], _ => []
  | x :: r, c => ⟨enc x.1, x.2, c⟩ :: ents r (c + 1)
def seekL (a : α) : List (α × Value) → Nat → Option (Nat × Value)
  | [], _ => none
  | x :: r, i => if a = x.1 then some (i, x.2) else seekL a r (i + 1)
def mapObj (L : List (α × Value)) : Obj := .map (ents enc L 0).toArray L.length

omit [DecidableEq α] in
theorem ents_snoc (x : α × Value) : ∀ (L : List (α × Value)) (c : Nat), ents enc (L ++ [x]) c = ents enc L c ++ [⟨enc x.1, x.2, c + L.length⟩]
  | [], c => by simp [ents]
  | y :: r, c => by simp [ents, ents_snoc x r (c + 1)]; omega

theorem seekL_none {a : α} : ∀ {L : List (α × Value)} {i : Nat}, seekL a L i = none ↔ a ∉ L.map (·.1)
  | [], i => by simp [seekL]
  | x :: r, i => by
    unfold seekL
    split
    · rename_i h; simp [h]
    · rename_i h; simp [seekL_none (L := r), h]

theorem seekL_some {a : α} : ∀ {L : List (α × Value)} {i : Nat} {p : Nat × Value}, seekL a L i = some p → i ≤ p.1 ∧ L[p.1 - i]? = some (a, p.2)
  | [], _, _, h => by simp [seekL] at h
  | x :: r, i, p, h => by
    unfold seekL at h
    split at h
    · rename_i hc
      cases h
      simp [hc]
    · obtain ⟨h1, h2⟩ := seekL_some h
      refine ⟨by omega, ?_⟩
      rw [show p.1 - i = (p.1 - (i + 1)) + 1 by omega]
      simpa using h2

/-- What a key's type must do. -/
structure KeyOk (tk : TypeId) (kind : TypeDesc) : Prop where
  und : Try.prog.underlying tk = some kind
  chk : ∀ (em : Bool) (a : α) (w : World), (Instr.checkKey em 10000 tk (enc a)).run Try.prog w = .ok () w
  same : (∀ a b : α, Instr.sameNow kind (enc a) (enc b) = some (decide (a = b))) ∨ ((∀ a b : α, Instr.sameNow kind (enc a) (enc b) = none) ∧ ∀ (a b : α) (w : World), (Op.equal tk (enc a) (enc b)).run Try.prog w = .ok (decide (a = b)) w)
variable {enc} {tk : TypeId} {kind : TypeDesc}

theorem findNow_some (h : ∀ a b : α, Instr.sameNow kind (enc a) (enc b) = some (decide (a = b))) (a : α) : ∀ (L : List (α × Value)) (c i : Nat), Instr.findNow kind (enc a) (ents enc L c) i = some (seekL a L i)
  | [], c, i => rfl
  | x :: r, c, i => by
    simp only [ents, Instr.findNow, h, seekL]
    by_cases e : a = x.1
    · simp [e]
    · simp [e, findNow_some h a r]

theorem findAsking_ok (h : ∀ (a b : α) (w : World), (Op.equal tk (enc a) (enc b)).run Try.prog w = .ok (decide (a = b)) w) (a : α) (w : World) : ∀ (L : List (α × Value)) (c i : Nat), (Instr.findAsking tk (enc a) (ents enc L c) i).run Try.prog w = .ok (seekL a L i) w
  | [], c, i => rfl
  | x :: r, c, i => by
    simp only [ents, Instr.findAsking, seekL]
    have h1 := h a x.1 w
    have h2 := findAsking_ok h a w r (c + 1) (i + 1)
    by_cases e : a = x.1
    · simp only [e, decide_true] at h1; simp [h1, e, Result.andThen]
    · simp only [e, decide_false] at h1; simp [h1, e, h2, Result.andThen]

theorem KeyOk.find (K : KeyOk enc tk kind) (a : α) (L : List (α × Value)) (w : World) : (Instr.findKey tk (enc a) (ents enc L 0)).run Try.prog w = .ok (seekL a L 0) w := by
  unfold Instr.findKey
  rcases K.same with h | ⟨h1, h2⟩
  · simp [run_underlying K.und, Result.andThen, findNow_some h]
  · cases L with
    | nil => simp [run_underlying K.und, ents, Instr.findNow, seekL, Result.andThen]
    | cons x r =>
      have hn : Instr.findNow kind (enc a) (ents enc (x :: r) 0) 0 = none := by simp [ents, Instr.findNow, h1]
      have h := findAsking_ok h2 a w (x :: r) 0 0
      simp [run_underlying K.und, Result.andThen] at h hn ⊢
      rw [hn]
      exact h

theorem KeyOk.lookup (K : KeyOk enc tk kind) {tm te : TypeId} (hm : Try.prog.underlying tm = some (.map tk te)) {z : Value} (hz : ∀ w, (zeroValue te).run Try.prog w = .ok z w) {w : World} {r : Nat} {L : List (α × Value)} (hb : w.heap[r]? = some (mapObj enc L)) (a : α) :
    (Instr.lookup tm (.map (some r)) (enc a) true).run Try.prog w = .ok (match seekL a L 0 with | some p => .tuple #[p.2, .bool true] | none => .tuple #[z, .bool false]) w := by
  unfold mapObj at hb
  simp [Instr.lookup, run_underlying hm, MapKept.run_getObj_map hb, K.chk, K.find, Result.andThen]
  cases seekL a L 0 <;> simp [hz]

theorem KeyOk.update (K : KeyOk enc tk kind) {tm te : TypeId} (hm : Try.prog.underlying tm = some (.map tk te)) {w : World} {r : Nat} {L : List (α × Value)} (hb : w.heap[r]? = some (mapObj enc L)) (a : α) (v : Value) (hn : a ∉ L.map (·.1)) :
    (Instr.mapUpdate tm (.map (some r)) (enc a) v).run Try.prog w = .ok () (setBlock w r (mapObj enc (L ++ [(a, v)]))) := by
  unfold mapObj at hb ⊢
  have hs : seekL a L 0 = none := seekL_none.2 hn
  simp [Instr.mapUpdate, run_underlying hm, MapKept.run_getObj_map hb, K.chk, K.find, Result.andThen, hs, MapKept.run_setObj_map _ hb, setBlock, ents_snoc]
end

theorem setBlock_at {w : World} {b : Nat} (h : b < w.heap.size) (o : Obj) : (setBlock w b o).heap[b]? = some o := by
  simp [setBlock, h]
theorem setBlock_off (w : World) {b i : Nat} (o : Obj) (h : i ≠ b) : (setBlock w b o).heap[i]? = w.heap[i]? := by
  simp [setBlock, Ne.symm h]
theorem setBlock_size (w : World) (b : Nat) (o : Obj) : (setBlock w b o).heap.size = w.heap.size := by simp [setBlock]
theorem below_setBlock {B : Nat} {a w : World} (h : Below B a w) {b : Nat} (hb : B ≤ b) (o : Obj) : Below B a (setBlock w b o) :=
  ⟨h.os, h.tape, h.output, by rw [setBlock_size]; exact h.size, fun i hi => by rw [setBlock_off _ _ (by omega)]; exact h.block i hi⟩


/-- A row of the call's own: n elements of k cells, cell j of element i is 'f i j'. -/
def Own (w : World) (base : Nat) (e : TypeId) (v : Value) (k n : Nat) (f : Nat → Nat → Value) : Prop :=
  ∃ xs, w.ownsRow base e k v n xs ∧ ∀ i j, i < n → j < k → xs[i * k + j]? = some (f i j)

theorem Own.row {w : World} {base : Nat} {e : TypeId} {v : Value} {k n : Nat} {f : Nat → Nat → Value} (h : Own w base e v k n f) (hn : n ≤ 4611686018427387904) : RowAt w v k n f := by
  obtain ⟨xs, h1, h2⟩ := h
  have h0 := h1
  obtain ⟨hl, h3⟩ := h0
  rcases h3 with ⟨rfl, rfl⟩ | ⟨g, cap, cur, rfl, _, _, hcap, _⟩
  · exact ⟨none, 0, rfl, Nat.le_refl _, hn, fun h => by omega⟩
  · refine ⟨some ⟨g, 0, none⟩, cap, rfl, hcap, hn, fun _ => ⟨g, 0, rfl, fun i j hi hj => ?_⟩⟩
    have hlt : i * k + j < n * k := by
      have : (i + 1) * k ≤ n * k := Nat.mul_le_mul_right k hi
      rw [Nat.add_mul] at this
      omega
    rw [Nat.zero_add, h1.cellAt _ hlt]
    exact h2 i j hi hj

theorem Own.nil (w : World) (base : Nat) (e : TypeId) (k : Nat) (f : Nat → Nat → Value) : Own w base e (.slice none 0 0) k 0 f := ⟨[], World.ownsRow_nil w base e k, fun i j hi => by omega⟩
theorem Own.lit0 (w : World) (base : Nat) (e : TypeId) (k : Nat) (f : Nat → Nat → Value) (hb : base ≤ w.heap.size) : Own (w.alloc (.cells #[] e)) base e (.slice (some ⟨w.heap.size, 0, none⟩) 0 0) k 0 f :=
  ⟨[], World.ownsRow_lit w #[] 0 hb (by unfold maxLen; omega) (by simp), fun i j hi => by omega⟩
theorem Own.lt {w : World} {base : Nat} {e : TypeId} {v : Value} {k n : Nat} {f : Nat → Nat → Value} (h : Own w base e v k n f) : ∀ g, v.ownBlock = some g → base ≤ g ∧ g < w.heap.size := by
  obtain ⟨xs, h1, _⟩ := h
  exact h1.lt
theorem Own.same {w w' : World} {base : Nat} {e : TypeId} {v : Value} {k n : Nat} {f : Nat → Nat → Value} (h : Own w base e v k n f) (hs : ∀ g, v.ownBlock = some g → w'.heap[g]? = w.heap[g]?) : Own w' base e v k n f := by
  obtain ⟨xs, ⟨h1, h2⟩, h3⟩ := h
  refine ⟨xs, ⟨h1, ?_⟩, h3⟩
  rcases h2 with h2 | ⟨g, cap, cur, rfl, h3, h4, h5⟩
  · exact Or.inl h2
  · exact Or.inr ⟨g, cap, cur, rfl, h3, by rw [hs g rfl]; exact h4, h5⟩
theorem Own.below {w w' : World} {base : Nat} {e : TypeId} {v : Value} {k n : Nat} {f : Nat → Nat → Value} (h : Own w base e v k n f) (hb : Below w.heap.size w w') : Own w' base e v k n f :=
  h.same fun g hg => hb.block g (h.lt g hg).2
theorem Own.alloc {w : World} {base : Nat} {e : TypeId} {v : Value} {k n : Nat} {f : Nat → Nat → Value} (h : Own w base e v k n f) (o : Obj) : Own (w.alloc o) base e v k n f := h.below ((Below.refl _ _).alloc (Nat.le_refl _) _)
theorem Own.congr {w : World} {base : Nat} {e : TypeId} {v : Value} {k n : Nat} {f g : Nat → Nat → Value} (h : Own w base e v k n f) (hf : ∀ i j, i < n → j < k → f i j = g i j) : Own w base e v k n g := by
  obtain ⟨xs, h1, h2⟩ := h
  exact ⟨xs, h1, fun i j hi hj => by rw [← hf i j hi hj]; exact h2 i j hi hj⟩

theorem Own.slice {w : World} {base : Nat} {e : TypeId} {v : Value} {k n : Nat} {f : Nat → Nat → Value} (h : Own w base e v k n f) : ∃ a l c, v = .slice a l c := by
  obtain ⟨xs, ⟨_, h2⟩, _⟩ := h
  rcases h2 with ⟨rfl, _⟩ | ⟨g, cap, cur, rfl, _⟩
  · exact ⟨_, _, _, rfl⟩
  · exact ⟨_, _, _, rfl⟩

theorem info_parts {P : Program} {t : TypeId} {z : Value} {s b : Nat} (h : (P.info? t).map (fun i => (i.zero, i.size, i.bytes)) = some (some z, s, b)) : ∃ i, P.info? t = some i ∧ i.zero = some z ∧ i.size = s ∧ i.bytes = b := by
  cases hi : P.info? t with
  | none => simp [hi] at h
  | some i => simp [hi] at h; exact ⟨i, rfl, h.1, h.2.1, h.2.2⟩

/-- One element more. -/
theorem Own.append {t e : TypeId} {z : Value} {k bytes : Nat} (ht : Try.prog.underlying t = some (.slice e)) (hinfo : (Try.prog.info? e).map (fun i => (i.zero, i.size, i.bytes)) = some (some z, k, bytes)) (hz : z.cells.size = k) (hk : 0 < k) (hby : bytes ≤ 1000)
    {V : World} {base : Nat} {v : Value} {n : Nat} {f : Nat → Nat → Value} (h : Own V base e v k n f) (ty : TypeId) (news : List Value) (hl : news.length = k) (hnew : ∀ j, j < k → news[j]? = some (f n j)) (h1 : ∀ u ∈ news, u.oneCell' = true) (hn : n ≤ 1000000000) (hbase : base ≤ V.heap.size) :
    ∃ v' w', (Builtin.append_ #[t, t] ty #[v, .slice (some ⟨V.heap.size, 0, none⟩) 1 1]).run Try.prog (V.alloc (.cells news.toArray e)) = .ok v' w' ∧ Own w' base e v' k (n + 1) f ∧ Below base V w' ∧
      (∀ b, b < V.heap.size → v.ownBlock ≠ some b → w'.heap[b]? = V.heap[b]?) ∧ (v'.ownBlock = v.ownBlock ∨ v'.ownBlock = some (V.heap.size + 1)) ∧ V.heap.size + 1 ≤ w'.heap.size := by
  obtain ⟨i0, hi, hz0, hz1, hz2⟩ := info_parts hinfo
  obtain ⟨xs, hown, hxs⟩ := h
  have hv : (V.alloc (.cells news.toArray e)).heap[V.heap.size]? = some (.cells news.toArray e (0, 0)) := by
    show (V.heap.push _)[_]? = _
    rw [Array.getElem?_push, if_pos rfl]
  have hbb : (n + 1) * bytes ≤ 140737488355328 := by
    have := Nat.mul_le_mul (show n + 1 ≤ 1000000001 by omega) hby
    omega
  obtain ⟨v', w', r, o1, o2, _, o4⟩ := run_append_own_at (P := Try.prog) (V.alloc (.cells news.toArray e)) base t ty e i0 z k bytes ht hi hz0 hz1 hz2 hz hk v _ _ (hown.alloc _)
    ⟨V.heap.size, 0, none⟩ 1 1 news (by omega) (by
      intro j u hj
      have hadd : (⟨V.heap.size, 0, none⟩ : Addr).add j = ⟨V.heap.size, j, none⟩ := by unfold Addr.add; split <;> simp_all
      rw [hadd, cell_of_row _ _ _ _ _ _ hv]
      simpa using hj) h1 (by unfold maxLen; omega) hbb (by simp; omega)
  have hlen := hown.1
  refine ⟨v', w', r, ⟨xs ++ news, o1, fun i j hi' hj => ?_⟩, ((Below.refl base V).alloc hbase _).trans ⟨o2.os, o2.tape, o2.output, o2.size, fun i hi => o2.block i (by simp; omega) (fun e => by have := (hown.lt i e.symm).1; omega)⟩, fun b hb hne => ?_, ?_, ?_⟩
  · by_cases hin : i < n
    · have hlt : i * k + j < n * k := by
        have : (i + 1) * k ≤ n * k := Nat.mul_le_mul_right k hin
        rw [Nat.add_mul] at this
        omega
      rw [List.getElem?_append_left (by omega)]
      exact hxs i j hin hj
    · have : i = n := by omega
      subst this
      rw [List.getElem?_append_right (by omega), hlen, Nat.add_sub_cancel_left]
      exact hnew j hj
  · rw [o2.block b (by simp; omega) (fun e => hne e.symm)]
    exact Below.heap_alloc V _ b hb
  · rcases o4 with h | h
    · exact .inl h
    · exact .inr (by rw [h]; simp)
  · have := o2.size; simp at this; omega

/-- An append whose run is known, in a region that does not draw. -/
theorem wpList_append_run {P : Program} {w : World} {ops : Array Oper} {rest : List Oper} {o : Oper} {a : Act} {Q : Exit → Act → World → Prop} (hgd : o.guard = none) (s x : Operand) (t : TypeId)
    (ho : o.op = .call { callee := .builtin .append, args := #[s, x], argTypes := #[t, t] }) (v sl v' : Value) (w' : World) (hs : a.eval s = v) (hx : a.eval x = sl)
    (hrun : (Builtin.append_ #[t, t] o.type #[v, sl]).run P w = .ok v' w') (h : wpList P ops Q rest (a.put o.dst v') w') : wpList P ops Q (o :: rest) a w := by
  refine wpList_plain hgd fun K hK => ?_
  unfold Oper.wp execOp
  simp only [ho, resolve, invoke, builtin, Sem.run_bind, Sem.run_pure, Result.andThen_ok, List.map_toArray, List.map_cons, List.map_nil, hs, hx, hrun]
  exact hK _ _ h

theorem setCell_block {w : World} {b i : Nat} {cs : Array Value} {t : TypeId} {fr : Nat × Nat} (h : w.heap[b]? = some (.cells cs t fr)) (v : Value) : (w.setCell ⟨b, i, none⟩ v).heap[b]? = some (.cells (cs.setIfInBounds i v) t fr) := by
  unfold World.setCell
  simp [Array.getElem?_modify, h]
theorem setCell_other (w : World) {b i g : Nat} (v : Value) (h : g ≠ b) : (w.setCell ⟨b, i, none⟩ v).heap[g]? = w.heap[g]? := Below.heap_setCell w ⟨b, i, none⟩ v g h

/-- An append whose run is known, as one step of a region that draws. -/
theorem step_append_run {P : Program} {ops : Array Oper} {o : Oper} {a : Act} {w : World} {K : Act → World → Prop} {Q : Exit → Act → World → Prop} {E : Prop}
    (hg : o.guard = none) (s x : Operand) (t : TypeId) (hop : o.op = Op.call { callee := Callee.builtin Builtin.append, args := #[s, x], argTypes := #[t, t] })
    (v sl v' : Value) (w' : World) (hs : a.eval s = v) (hx : a.eval x = sl) (hrun : (Builtin.append_ #[t, t] o.type #[v, sl]).run P w = .ok v' w')
    (hK : K (a.put o.dst v') w') : if Region.wanted o (yielded ops a.tmps) = true then Oper.wp P o a w K Q else E := by
  have hw : Region.wanted o (yielded ops a.tmps) = true := by simp [Region.wanted, hg]
  rw [if_pos hw]
  unfold Oper.wp
  simp [execOp, hop, resolve, invoke, builtin, hs, hx, hrun, Result.andThen]
  exact hK

theorem own_ne {w : World} {base : Nat} {e : TypeId} {v : Value} {k n : Nat} {f : Nat → Nat → Value} (h : Own w base e v k n f) {b : Nat} {cs : Array Value} {t : TypeId} {fr : Nat × Nat} (hb : w.heap[b]? = some (.cells cs t fr)) (ht : t ≠ e) : v.ownBlock ≠ some b := by
  obtain ⟨xs, ⟨_, h2⟩, _⟩ := h
  rcases h2 with ⟨rfl, _⟩ | ⟨g, cap, cur, rfl, _, h3, _⟩
  · simp [Value.ownBlock]
  · intro e
    simp [Value.ownBlock] at e
    subst e
    rw [h3] at hb
    cases hb
    exact ht rfl

theorem setCell_size (w : World) (a : Addr) (v : Value) : (w.setCell a v).heap.size = w.heap.size := by
  show (w.heap.modify _ _).size = _
  rw [Array.size_modify]


/-- A row of numbers of the call's own. -/
def OwnI (w : World) (base : Nat) (v : Value) (ds : List Int) : Prop := Own w base 3 v 1 ds.length fun i _ => .int .i64 (ds.getD i 0)
theorem OwnI.nil (w : World) (base : Nat) : OwnI w base (.slice none 0 0) [] := Own.nil _ _ _ _ _
theorem OwnI.reads {w : World} {base : Nat} {v : Value} {ds : List Int} (h : OwnI w base v ds) (hn : ds.length ≤ 4611686018427387904) : ReadsI w v ds := Own.row h hn
theorem OwnI.below {w w' : World} {base : Nat} {v : Value} {ds : List Int} (h : OwnI w base v ds) (hb : Below w.heap.size w w') : OwnI w' base v ds := Own.below h hb
theorem OwnI.append {V : World} {base : Nat} {v : Value} {ds : List Int} (h : OwnI V base v ds) (y : Int) (hn : ds.length ≤ 1000000000) (hbase : base ≤ V.heap.size) :
    ∃ v' w', (Builtin.append_ #[53, 53] 53 #[v, .slice (some ⟨V.heap.size, 0, none⟩) 1 1]).run Try.prog (V.alloc (.cells #[.int .i64 y] 3)) = .ok v' w' ∧ OwnI w' base v' (ds ++ [y]) ∧ Below base V w' ∧
      (∀ b, b < V.heap.size → v.ownBlock ≠ some b → w'.heap[b]? = V.heap[b]?) ∧ V.heap.size + 1 ≤ w'.heap.size := by
  have h' : Own V base 3 v 1 ds.length fun i _ => .int .i64 ((ds ++ [y]).getD i 0) := Own.congr h fun i j hi hj => by rw [getD_at _ _ _ hi, getD_at _ _ _ (by rw [List.length_append]; omega), List.getElem_append_left hi]
  obtain ⟨v3, w3, r3, o1, o2, o3, o4, o5⟩ := Own.append (V := V) (t := 53) (e := 3) (z := .int .i64 0) (k := 1) (bytes := 8) Try.underlying53 (by kernel_rfl) rfl (by omega) (by omega) h' 53 [.int .i64 y] rfl (fun q hq => by
    obtain rfl : q = 0 := by omega
    simp [List.getD]) (by intro u hu; simp at hu; subst hu; rfl) hn hbase
  refine ⟨v3, w3, r3, ?_, o2, o3, o5⟩
  unfold OwnI
  rw [List.length_append]
  exact o1
theorem grown_below3 {B : Nat} {row : Option Nat} {a w w' : World} (h : Below B a w) (g : w.grownBy w' row) (hrow : ∀ k, row = some k → B ≤ k) (hB : B ≤ w.heap.size) : Below B a w' :=
  ⟨g.os.trans h.os, g.tape.trans h.tape, g.output.trans h.output, Nat.le_trans h.size g.size, fun i hi => by
    rw [g.block i (by omega) (by intro e; have := hrow i e.symm; omega)]; exact h.block i hi⟩

theorem ReadsI.val {w : World} {v : Value} {xs : List Int} (h : ReadsI w v xs) : ∃ ao n c, v = .slice ao n c := by
  obtain ⟨ao, c, _, _, e, _⟩ := h.at
  exact ⟨ao, _, c, e⟩

theorem own_ne_map {w : World} {base : Nat} {e : TypeId} {v : Value} {k n : Nat} {f : Nat → Nat → Value} (h : Own w base e v k n f) {b : Nat} {es : Array MapEntry} {q : Nat} (hb : w.heap[b]? = some (.map es q)) : v.ownBlock ≠ some b := by
  obtain ⟨xs, ⟨_, h2⟩, _⟩ := h
  rcases h2 with ⟨rfl, _⟩ | ⟨g, cap, cur, rfl, _, h3, _⟩
  · simp [Value.ownBlock]
  · intro e
    simp [Value.ownBlock] at e
    subst e
    rw [h3] at hb
    cases hb
theorem own_apart' {w : World} {b1 b2 : Nat} {e1 e2 : TypeId} {v1 v2 : Value} {k1 k2 n1 n2 : Nat} {f1 f2 : Nat → Nat → Value} (h1 : Own w b1 e1 v1 k1 n1 f1) (h2 : Own w b2 e2 v2 k2 n2 f2) (he : e1 ≠ e2) : ∀ g, v1.ownBlock = some g → v2.ownBlock ≠ some g := by
  intro g hg
  obtain ⟨xs, ⟨_, h3⟩, _⟩ := h1
  rcases h3 with ⟨rfl, _⟩ | ⟨g', cap, cur, rfl, _, h4, _⟩
  · cases hg
  · cases hg
    exact own_ne h2 h4 he

theorem OwnI.slice {w : World} {base : Nat} {v : Value} {ds : List Int} (h : OwnI w base v ds) : ∃ a c, v = .slice a ds.length c := by
  obtain ⟨xs, ⟨h0, h2⟩, _⟩ := h
  rcases h2 with ⟨rfl, h⟩ | ⟨g, cap, cur, rfl, _⟩
  · rw [h]; exact ⟨_, _, rfl⟩
  · exact ⟨_, _, rfl⟩
theorem Own.base {w : World} {b b' : Nat} {e : TypeId} {v : Value} {k n : Nat} {f : Nat → Nat → Value} (h : Own w b e v k n f) (hb : b' ≤ b) : Own w b' e v k n f := by
  obtain ⟨xs, ⟨h0, h2⟩, h3⟩ := h
  refine ⟨xs, ⟨h0, ?_⟩, h3⟩
  rcases h2 with h2 | ⟨g, cap, cur, e1, e2, e3⟩
  · exact .inl h2
  · exact .inr ⟨g, cap, cur, e1, Nat.le_trans hb e2, e3⟩


end Go.Proofs.Ytcgilfnhbliadaa

/- Tasks: what they read as. -/
namespace Go.Proofs.Ytcgilfnhbliadaa
open Go.RowKit Go.Lib Go.ChangeMaps

theorem run_append_nilsrc {w : World} {base : Nat} {t ty e : TypeId} {i : TypeInfo} {size : Nat} (ht : Try.prog.underlying t = some (.slice e)) (hi : Try.prog.info? e = some i)
    {v : Value} {n : Nat} {xs : List Value} (hown : w.ownsRow base e size v n xs) (c : Nat) : (Builtin.append_ #[t, t] ty #[v, .slice none 0 c]).run Try.prog w = .ok v w := by
  rcases hown.2 with ⟨rfl, rfl⟩ | ⟨g, cap, cur, rfl, _, _, hnc, _⟩
  · simp [Builtin.append_, run_underlying ht, sizeOf, typeInfo, hi, Builtin.lenOf, Builtin.firstCells]
  · simp [Builtin.append_, run_underlying ht, sizeOf, typeInfo, hi, Builtin.lenOf, Builtin.firstCells, hnc, storeCells]

/-- A row that came in, appended. -/
theorem Own.appendR {t e : TypeId} {z : Value} {k bytes : Nat} (ht : Try.prog.underlying t = some (.slice e)) (hinfo : (Try.prog.info? e).map (fun i => (i.zero, i.size, i.bytes)) = some (some z, k, bytes)) (hz : z.cells.size = k) (hk : 0 < k) (hby : bytes ≤ 1000)
    {V : World} {base : Nat} {v u : Value} {n m : Nat} {f q : Nat → Nat → Value} (h : Own V base e v k n f) (ty : TypeId) (hsrc : RowAt V u k m q) (hf : ∀ i j, i < m → j < k → f (n + i) j = q i j) (h1 : ∀ i j, i < m → j < k → (q i j).oneCell' = true) (hn : n ≤ 1000000000) (hm : m ≤ 1000000000) (hbase : base ≤ V.heap.size) :
    ∃ v' w', (Builtin.append_ #[t, t] ty #[v, u]).run Try.prog V = .ok v' w' ∧ Own w' base e v' k (n + m) f ∧ Below base V w' ∧ (∀ b, b < V.heap.size → v.ownBlock ≠ some b → w'.heap[b]? = V.heap[b]?) := by
  obtain ⟨i0, hi, hz0, hz1, hz2⟩ := info_parts hinfo
  obtain ⟨xs, hown, hxs⟩ := h
  obtain ⟨ao, c, rfl, hmc, _, hcell⟩ := hsrc
  by_cases hm0 : m = 0
  · subst hm0
    rcases ao with _ | ad
    · exact ⟨v, V, run_append_nilsrc ht hi hown c, ⟨xs, hown, hxs⟩, Below.refl _ _, fun _ _ _ => rfl⟩
    · obtain ⟨v', w', r, o1, o2, _, _⟩ := run_append_own_at (P := Try.prog) V base t ty e i0 z k bytes ht hi hz0 hz1 hz2 hz hk v _ _ hown ad 0 c [] (by simp) (fun j x hj => by simp at hj) (by simp) (by unfold maxLen; omega) (by
        have := Nat.mul_le_mul (show n + 0 ≤ 1000000000 by omega) hby
        omega) hbase
      rw [List.append_nil] at o1
      exact ⟨v', w', r, ⟨xs, o1, hxs⟩, ⟨o2.os, o2.tape, o2.output, o2.size, fun i hi => o2.block i (by omega) (fun e => by have := (hown.lt i e.symm).1; omega)⟩, fun b hb hn' => o2.block b hb (fun e => hn' e.symm)⟩
  · obtain ⟨b, off, rfl, hc⟩ := hcell (by omega)
    have hnl : ((List.range (m * k)).map fun c => q (c / k) (c % k)).length = m * k := by simp
    have hbb : (n + m) * bytes ≤ 140737488355328 := by
      have := Nat.mul_le_mul (show n + m ≤ 2000000000 by omega) hby
      omega
    obtain ⟨v', w', r, o1, o2, _, _⟩ := run_append_own_at (P := Try.prog) V base t ty e i0 z k bytes ht hi hz0 hz1 hz2 hz hk v _ _ hown ⟨b, off, none⟩ m c ((List.range (m * k)).map fun c => q (c / k) (c % k)) hnl (by
      intro j x hj
      have hjl : j < m * k := by have := (List.getElem?_eq_some_iff.1 hj).1; rw [hnl] at this; exact this
      have hadd : (⟨b, off, none⟩ : Addr).add j = ⟨b, off + j, none⟩ := by unfold Addr.add; split <;> simp_all
      have h1' : j / k < m := Nat.div_lt_of_lt_mul (by rw [Nat.mul_comm]; exact hjl)
      have h2' : j % k < k := Nat.mod_lt _ hk
      have := hc (j / k) (j % k) h1' h2'
      have hjk : j / k * k + j % k = j := by have := Nat.div_add_mod j k; rw [Nat.mul_comm] at this; exact this
      rw [hadd, show off + j = off + j / k * k + j % k by omega, this]
      simp [hjl] at hj
      rw [hj]) (by
      intro x hx
      obtain ⟨j, hj, rfl⟩ := List.mem_map.1 hx
      have hjl : j < m * k := List.mem_range.1 hj
      exact h1 _ _ (Nat.div_lt_of_lt_mul (by rw [Nat.mul_comm]; exact hjl)) (Nat.mod_lt _ hk)) (by unfold maxLen; omega) hbb hbase
    have hlen := hown.1
    refine ⟨v', w', r, ⟨xs ++ (List.range (m * k)).map fun c => q (c / k) (c % k), o1, fun i j hi' hj => ?_⟩, ⟨o2.os, o2.tape, o2.output, o2.size, fun i hi => o2.block i (by omega) (fun e => by have := (hown.lt i e.symm).1; omega)⟩, fun b hb hn' => o2.block b hb (fun e => hn' e.symm)⟩
    by_cases hin : i < n
    · have hlt : i * k + j < n * k := by
        have : (i + 1) * k ≤ n * k := Nat.mul_le_mul_right k hin
        rw [Nat.add_mul] at this
        omega
      rw [List.getElem?_append_left (by omega)]
      exact hxs i j hin hj
    · obtain ⟨i', rfl⟩ : ∃ i', i = n + i' := ⟨i - n, by omega⟩
      have hi2 : i' < m := by omega
      have hlt : i' * k + j < m * k := by
        have : (i' + 1) * k ≤ m * k := Nat.mul_le_mul_right k hi2
        rw [Nat.add_mul] at this
        omega
      rw [List.getElem?_append_right (by rw [hlen, Nat.add_mul]; omega), hlen, show (n + i') * k + j - n * k = i' * k + j by rw [Nat.add_mul]; omega, List.getElem?_map, List.getElem?_range hlt]
      have d1 : (i' * k + j) / k = i' := by rw [Nat.mul_comm, Nat.mul_add_div hk, Nat.div_eq_of_lt hj, Nat.add_zero]
      have d2 : (i' * k + j) % k = j := by rw [Nat.mul_comm, Nat.mul_add_mod, Nat.mod_eq_of_lt hj]
      simp only [Option.map_some, d1, d2]
      rw [hf i' j hi2 hj]

theorem OwnI.appendR {V : World} {base : Nat} {v u : Value} {ds es : List Int} (h : OwnI V base v ds) (hu : ReadsI V u es) (hn : ds.length ≤ 1000000000) (hm : es.length ≤ 1000000000) (hbase : base ≤ V.heap.size) :
    ∃ v' w', (Builtin.append_ #[53, 53] 53 #[v, u]).run Try.prog V = .ok v' w' ∧ OwnI w' base v' (ds ++ es) ∧ Below base V w' ∧ (∀ b, b < V.heap.size → v.ownBlock ≠ some b → w'.heap[b]? = V.heap[b]?) := by
  have h' : Own V base 3 v 1 ds.length fun i _ => .int .i64 ((ds ++ es).getD i 0) := Own.congr h fun i j hi hj => by rw [getD_at _ _ _ hi, getD_at _ _ _ (by rw [List.length_append]; omega), List.getElem_append_left hi]
  obtain ⟨v', w', r, o1, o2, o3⟩ := Own.appendR (t := 53) (e := 3) (z := .int .i64 0) (k := 1) (bytes := 8) Try.underlying53 (by kernel_rfl) rfl (by omega) (by omega) h' 53 hu (fun i j hi hj => by
    rw [getD_at _ _ _ (by rw [List.length_append]; omega), List.getElem_append_right (by omega), getD_at _ _ _ hi]
    simp) (fun _ _ _ _ => rfl) hn hm hbase
  refine ⟨v', w', r, ?_, o2, o3⟩
  unfold OwnI
  rw [List.length_append]
  exact o1

theorem KeyOk.lookup0 {α : Type} [DecidableEq α] {enc : α → Value} {tk : TypeId} {kind : TypeDesc} (K : KeyOk enc tk kind) {tm te : TypeId} (hm : Try.prog.underlying tm = some (.map tk te)) {z : Value} (hz : ∀ w, (zeroValue te).run Try.prog w = .ok z w) {w : World} {r : Nat} {L : List (α × Value)} (hb : w.heap[r]? = some (mapObj enc L)) (a : α) :
    (Instr.lookup tm (.map (some r)) (enc a) false).run Try.prog w = .ok (match seekL a L 0 with | some p => p.2 | none => z) w := by
  unfold mapObj at hb
  simp [Instr.lookup, run_underlying hm, MapKept.run_getObj_map hb, K.chk, K.find, Result.andThen]
  cases seekL a L 0 <;> simp [hz]

theorem bc {w w' : World} (hb : Below w.heap.size w w') {b o : Nat} {v : Value} (h : w.cell? ⟨b, o, none⟩ = some v) : w'.cell? ⟨b, o, none⟩ = some v := (hb.cell (p := ⟨b, o, none⟩) (cell_lt h)).trans h
theorem bb {w w' : World} (hb : Below w.heap.size w w') {b : Nat} {x : Obj} (h : w.heap[b]? = some x) : w'.heap[b]? = some x := (hb.block b (Array.getElem?_eq_some_iff.1 h).1).trans h

/-- A task. -/
structure Tk where
  st : ByteArray
  ix : Int
  size : Int
  spare : Int
  num : Int
  den : Int
  day : Int
deriving DecidableEq
instance : Inhabited Tk := ⟨⟨ByteArray.empty, 0, 0, 0, 0, 0, 0⟩⟩
def Tk.v (t : Tk) : Value := .agg #[.string t.st, .int .i64 t.ix, .int .i64 t.size, .int .i64 t.spare, .int .i64 t.num, .int .i64 t.den, .int .i64 t.day]
def tkCell (ts : List Tk) (i j : Nat) : Value := match j with
  | 0 => .string (ts.getD i default).st | 1 => .int .i64 (ts.getD i default).ix | 2 => .int .i64 (ts.getD i default).size | 3 => .int .i64 (ts.getD i default).spare
  | 4 => .int .i64 (ts.getD i default).num | 5 => .int .i64 (ts.getD i default).den | _ => .int .i64 (ts.getD i default).day
theorem tkCell_one (ts : List Tk) (i j : Nat) : (tkCell ts i j).oneCell' = true := by
  unfold tkCell
  split <;> rfl
theorem tkCell_congr {ts us : List Tk} {i j : Nat} (h : ts.getD i default = us.getD j default) (k : Nat) : tkCell ts i k = tkCell us j k := by
  unfold tkCell
  rw [h]
/-- A slice of tasks. -/
def ReadsT (w : World) (v : Value) (ts : List Tk) : Prop := RowAt w v 7 ts.length (tkCell ts)
theorem ReadsT.below {w w' : World} {v : Value} {ts : List Tk} (h : ReadsT w v ts) (hb : Below w.heap.size w w') : ReadsT w' v ts := RowAt.below h hb
theorem ReadsT.at {w : World} {v : Value} {ts : List Tk} (h : ReadsT w v ts) : ∃ ao c b off, v = .slice ao ts.length c ∧ ts.length ≤ c ∧ ts.length ≤ 4611686018427387904 ∧
    ∀ i, i < ts.length → ao = some ⟨b, off, none⟩ ∧ w.cell? ⟨b, off + i * 7, none⟩ = some (.string (ts.getD i default).st) ∧ w.cell? ⟨b, off + i * 7 + 1, none⟩ = some (.int .i64 (ts.getD i default).ix) ∧ w.cell? ⟨b, off + i * 7 + 2, none⟩ = some (.int .i64 (ts.getD i default).size) ∧
      w.cell? ⟨b, off + i * 7 + 3, none⟩ = some (.int .i64 (ts.getD i default).spare) ∧ w.cell? ⟨b, off + i * 7 + 4, none⟩ = some (.int .i64 (ts.getD i default).num) ∧ w.cell? ⟨b, off + i * 7 + 5, none⟩ = some (.int .i64 (ts.getD i default).den) ∧ w.cell? ⟨b, off + i * 7 + 6, none⟩ = some (.int .i64 (ts.getD i default).day) := by
  obtain ⟨ao, c, b, off, e, h1, h2, h3⟩ := RowAt.at h
  refine ⟨ao, c, b, off, e, h1, h2, fun i hi => ?_⟩
  obtain ⟨h4, h5⟩ := h3 i hi
  exact ⟨h4, h5 0 (by omega), h5 1 (by omega), h5 2 (by omega), h5 3 (by omega), h5 4 (by omega), h5 5 (by omega), h5 6 (by omega)⟩
theorem ReadsT.nil (w : World) : ReadsT w (.slice none 0 0) [] := ⟨none, 0, rfl, Nat.le_refl _, by simp, fun h => by simp at h⟩
/-- A row of tasks of the call's own (e: its elements' type). -/
def OwnT (e : TypeId) (w : World) (base : Nat) (v : Value) (ts : List Tk) : Prop := Own w base e v 7 ts.length (tkCell ts)
theorem OwnT.nil (e : TypeId) (w : World) (base : Nat) : OwnT e w base (.slice none 0 0) [] := Own.nil _ _ _ _ _
theorem OwnT.reads {e : TypeId} {w : World} {base : Nat} {v : Value} {ts : List Tk} (h : OwnT e w base v ts) (hn : ts.length ≤ 1000000000) : ReadsT w v ts := Own.row h (by omega)
theorem OwnT.below {e : TypeId} {w w' : World} {base : Nat} {v : Value} {ts : List Tk} (h : OwnT e w base v ts) (hb : Below w.heap.size w w') : OwnT e w' base v ts := Own.below h hb
theorem OwnT.slice {e : TypeId} {w : World} {base : Nat} {v : Value} {ts : List Tk} (h : OwnT e w base v ts) : ∃ a c, v = .slice a ts.length c := by
  obtain ⟨xs, ⟨h0, h2⟩, _⟩ := h
  rcases h2 with ⟨rfl, h⟩ | ⟨g, cap, cur, rfl, _⟩
  · rw [h]; exact ⟨_, _, rfl⟩
  · exact ⟨_, _, rfl⟩
theorem infoE27 : (Try.prog.info? 27).map (fun i => (i.zero, i.size, i.bytes)) = some (some (.agg #[.string ⟨#[]⟩, .int .i64 0, .int .i64 0, .int .i64 0, .int .i64 0, .int .i64 0, .int .i64 0]), 7, 64) := by kernel_rfl
theorem infoE32 : (Try.prog.info? 32).map (fun i => (i.zero, i.size, i.bytes)) = some (some (.agg #[.string ⟨#[]⟩, .int .i64 0, .int .i64 0, .int .i64 0, .int .i64 0, .int .i64 0, .int .i64 0]), 7, 64) := by kernel_rfl
theorem tk_old (ts us : List Tk) {i : Nat} (hi : i < ts.length) (j : Nat) : tkCell ts i j = tkCell (ts ++ us) i j := tkCell_congr (by rw [getD_at _ _ _ hi, getD_at _ _ _ (by rw [List.length_append]; omega), List.getElem_append_left hi]) j
theorem tk_new (ts us : List Tk) {i : Nat} (hi : i < us.length) (j : Nat) : tkCell (ts ++ us) (ts.length + i) j = tkCell us i j := tkCell_congr (by rw [getD_at _ _ _ (by rw [List.length_append]; omega), List.getElem_append_right (by omega), getD_at _ _ _ hi]; simp) j
theorem OwnT.app27 {V : World} {base : Nat} {v : Value} {ts : List Tk} (h : OwnT 27 V base v ts) (y : Tk) (hn : ts.length ≤ 1000000) (hbase : base ≤ V.heap.size) :
    ∃ v' w', (Builtin.append_ #[36, 36] 36 #[v, .slice (some ⟨V.heap.size, 0, none⟩) 1 1]).run Try.prog (V.alloc (.cells #[.string y.st, .int .i64 y.ix, .int .i64 y.size, .int .i64 y.spare, .int .i64 y.num, .int .i64 y.den, .int .i64 y.day] 27)) = .ok v' w' ∧ OwnT 27 w' base v' (ts ++ [y]) ∧ Below base V w' ∧
      (∀ b, b < V.heap.size → v.ownBlock ≠ some b → w'.heap[b]? = V.heap[b]?) := by
  have h' : Own V base 27 v 7 ts.length (tkCell (ts ++ [y])) := Own.congr h fun i j hi _ => tk_old ts [y] hi j
  have hgy : (ts ++ [y]).getD ts.length default = y := by simp [List.getD]
  obtain ⟨v3, w3, r3, o1, o2, o3, _⟩ := Own.append (V := V) (t := 36) (e := 27) (k := 7) (bytes := 64) Try.underlying36 infoE27 rfl (by omega) (by omega) h' 36
    [.string y.st, .int .i64 y.ix, .int .i64 y.size, .int .i64 y.spare, .int .i64 y.num, .int .i64 y.den, .int .i64 y.day] rfl (fun q hq => by
      match q, hq with
      | 0, _ => simp only [tkCell, hgy]; rfl
      | 1, _ => simp only [tkCell, hgy]; rfl
      | 2, _ => simp only [tkCell, hgy]; rfl
      | 3, _ => simp only [tkCell, hgy]; rfl
      | 4, _ => simp only [tkCell, hgy]; rfl
      | 5, _ => simp only [tkCell, hgy]; rfl
      | 6, _ => simp only [tkCell, hgy]; rfl) (by
      intro u hu
      simp at hu
      rcases hu with rfl | rfl | rfl | rfl | rfl | rfl | rfl <;> rfl) (by omega) hbase
  exact ⟨v3, w3, r3, by unfold OwnT; rw [List.length_append]; exact o1, o2, o3⟩
theorem OwnT.appR27 {V : World} {base : Nat} {v u : Value} {ts us : List Tk} (h : OwnT 27 V base v ts) (hu : ReadsT V u us) (hn : ts.length ≤ 1000000) (hm : us.length ≤ 1000000) (hbase : base ≤ V.heap.size) :
    ∃ v' w', (Builtin.append_ #[36, 36] 36 #[v, u]).run Try.prog V = .ok v' w' ∧ OwnT 27 w' base v' (ts ++ us) ∧ Below base V w' ∧ (∀ b, b < V.heap.size → v.ownBlock ≠ some b → w'.heap[b]? = V.heap[b]?) := by
  have h' : Own V base 27 v 7 ts.length (tkCell (ts ++ us)) := Own.congr h fun i j hi _ => tk_old ts us hi j
  obtain ⟨v3, w3, r3, o1, o2, o3⟩ := Own.appendR (t := 36) (e := 27) (k := 7) (bytes := 64) Try.underlying36 infoE27 rfl (by omega) (by omega) h' 36 hu (fun i j hi _ => tk_new ts us hi j) (fun i j _ _ => tkCell_one _ _ _) (by omega) (by omega) hbase
  exact ⟨v3, w3, r3, by unfold OwnT; rw [List.length_append]; exact o1, o2, o3⟩
theorem OwnT.app32 {V : World} {base : Nat} {v : Value} {ts : List Tk} (h : OwnT 32 V base v ts) (y : Tk) (hn : ts.length ≤ 1000000) (hbase : base ≤ V.heap.size) :
    ∃ v' w', (Builtin.append_ #[41, 41] 41 #[v, .slice (some ⟨V.heap.size, 0, none⟩) 1 1]).run Try.prog (V.alloc (.cells #[.string y.st, .int .i64 y.ix, .int .i64 y.size, .int .i64 y.spare, .int .i64 y.num, .int .i64 y.den, .int .i64 y.day] 32)) = .ok v' w' ∧ OwnT 32 w' base v' (ts ++ [y]) ∧ Below base V w' ∧
      (∀ b, b < V.heap.size → v.ownBlock ≠ some b → w'.heap[b]? = V.heap[b]?) := by
  have h' : Own V base 32 v 7 ts.length (tkCell (ts ++ [y])) := Own.congr h fun i j hi _ => tk_old ts [y] hi j
  have hgy : (ts ++ [y]).getD ts.length default = y := by simp [List.getD]
  obtain ⟨v3, w3, r3, o1, o2, o3, _⟩ := Own.append (V := V) (t := 41) (e := 32) (k := 7) (bytes := 64) Try.underlying41 infoE32 rfl (by omega) (by omega) h' 41
    [.string y.st, .int .i64 y.ix, .int .i64 y.size, .int .i64 y.spare, .int .i64 y.num, .int .i64 y.den, .int .i64 y.day] rfl (fun q hq => by
      match q, hq with
      | 0, _ => simp only [tkCell, hgy]; rfl
      | 1, _ => simp only [tkCell, hgy]; rfl
      | 2, _ => simp only [tkCell, hgy]; rfl
      | 3, _ => simp only [tkCell, hgy]; rfl
      | 4, _ => simp only [tkCell, hgy]; rfl
      | 5, _ => simp only [tkCell, hgy]; rfl
      | 6, _ => simp only [tkCell, hgy]; rfl) (by
      intro u hu
      simp at hu
      rcases hu with rfl | rfl | rfl | rfl | rfl | rfl | rfl <;> rfl) (by omega) hbase
  exact ⟨v3, w3, r3, by unfold OwnT; rw [List.length_append]; exact o1, o2, o3⟩
theorem OwnT.appR32 {V : World} {base : Nat} {v u : Value} {ts us : List Tk} (h : OwnT 32 V base v ts) (hu : ReadsT V u us) (hn : ts.length ≤ 1000000) (hm : us.length ≤ 1000000) (hbase : base ≤ V.heap.size) :
    ∃ v' w', (Builtin.append_ #[41, 41] 41 #[v, u]).run Try.prog V = .ok v' w' ∧ OwnT 32 w' base v' (ts ++ us) ∧ Below base V w' ∧ (∀ b, b < V.heap.size → v.ownBlock ≠ some b → w'.heap[b]? = V.heap[b]?) := by
  have h' : Own V base 32 v 7 ts.length (tkCell (ts ++ us)) := Own.congr h fun i j hi _ => tk_old ts us hi j
  obtain ⟨v3, w3, r3, o1, o2, o3⟩ := Own.appendR (t := 41) (e := 32) (k := 7) (bytes := 64) Try.underlying41 infoE32 rfl (by omega) (by omega) h' 41 hu (fun i j hi _ => tk_new ts us hi j) (fun i j _ _ => tkCell_one _ _ _) (by omega) (by omega) hbase
  exact ⟨v3, w3, r3, by unfold OwnT; rw [List.length_append]; exact o1, o2, o3⟩

end Go.Proofs.Ytcgilfnhbliadaa
