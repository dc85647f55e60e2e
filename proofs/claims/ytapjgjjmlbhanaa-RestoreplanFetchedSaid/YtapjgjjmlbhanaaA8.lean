/- Maps that only gain keys that are not there: looked up, extended. -/
import Derived.Test.YtapjgjjmlbhanaaA1
import Derived.ChangeMaps5
namespace Go.Proofs.Ytapjgjjmlbhanaa
open Go.RowKit Go.Lib Go.ChangeMaps

section
variable {α : Type} [DecidableEq α] (enc : α → Value)

/-- The entries, the eldest first. -/
def ents : List (α × Value) → Nat → List MapEntry
  | [], _ => []
  | x :: r, c => ⟨enc x.1, x.2, c⟩ :: ents r (c + 1)
def seekL (a : α) : List (α × Value) → Nat → Option (Nat × Value)
  | [], _ => none
  | x :: r, i => if a = x.1 then some (i, x.2) else seekL a r (i + 1)
def mapObj (L : List (α × Value)) : Obj := .map (ents enc L 0).toArray L.length

omit [DecidableEq α] in
theorem ents_snoc (x : α × Value) : ∀ (L : List (α × Value)) (c : Nat), ents enc (L ++ [x]) c = ents enc L c ++ [⟨enc x.1, x.2, c + L.length⟩]
  | [], c => by simp [ents]
  | y :: r, c => by simp [ents, ents_snoc x r (c + 1)]; omega

theorem seekL_none {a : α} : ∀ {L : List (α × Value)} {i : Nat}, seekL a L i = none ↔ a ∉ L.map (·.1)
  | [], i => by simp [seekL]
  | x :: r, i => by
    unfold seekL
    split
    · rename_i h; simp [h]
    · rename_i h; simp [seekL_none (L := r), h]

theorem seekL_some {a : α} : ∀ {L : List (α × Value)} {i : Nat} {p : Nat × Value}, seekL a L i = some p → i ≤ p.1 ∧ L[p.1 - i]? = some (a, p.2)
  | [], _, _, h => by simp [seekL] at h
  | x :: r, i, p, h => by
    unfold seekL at h
    split at h
    · rename_i hc
      cases h
      simp [hc]
    · obtain ⟨h1, h2⟩ := seekL_some h
      refine ⟨by omega, ?_⟩
      rw [show p.1 - i = (p.1 - (i + 1)) + 1 by omega]
      simpa using h2

/-- What a key's type must do. -/
structure KeyOk (tk : TypeId) (kind : TypeDesc) : Prop where
  und : Try.prog.underlying tk = some kind
  chk : ∀ (em : Bool) (a : α) (w : World), (Instr.checkKey em 10000 tk (enc a)).run Try.prog w = .ok () w
  same : (∀ a b : α, Instr.sameNow kind (enc a) (enc b) = some (decide (a = b))) ∨ ((∀ a b : α, Instr.sameNow kind (enc a) (enc b) = none) ∧ ∀ (a b : α) (w : World), (Op.equal tk (enc a) (enc b)).run Try.prog w = .ok (decide (a = b)) w)
variable {enc} {tk : TypeId} {kind : TypeDesc}

theorem findNow_some (h : ∀ a b : α, Instr.sameNow kind (enc a) (enc b) = some (decide (a = b))) (a : α) : ∀ (L : List (α × Value)) (c i : Nat), Instr.findNow kind (enc a) (ents enc L c) i = some (seekL a L i)
  | [], c, i => rfl
  | x :: r, c, i => by
    simp only [ents, Instr.findNow, h, seekL]
    by_cases e : a = x.1
    · simp [e]
    · simp [e, findNow_some h a r]

theorem findAsking_ok (h : ∀ (a b : α) (w : World), (Op.equal tk (enc a) (enc b)).run Try.prog w = .ok (decide (a = b)) w) (a : α) (w : World) : ∀ (L : List (α × Value)) (c i : Nat), (Instr.findAsking tk (enc a) (ents enc L c) i).run Try.prog w = .ok (seekL a L i) w
  | [], c, i => rfl
  | x :: r, c, i => by
    simp only [ents, Instr.findAsking, seekL]
    have h1 := h a x.1 w
    have h2 := findAsking_ok h a w r (c + 1) (i + 1)
    by_cases e : a = x.1
    · simp only [e, decide_true] at h1; simp [h1, e, Result.andThen]
    · simp only [e, decide_false] at h1; simp [h1, e, h2, Result.andThen]

theorem KeyOk.find (K : KeyOk enc tk kind) (a : α) (L : List (α × Value)) (w : World) : (Instr.findKey tk (enc a) (ents enc L 0)).run Try.prog w = .ok (seekL a L 0) w := by
  unfold Instr.findKey
  rcases K.same with h | ⟨h1, h2⟩
  · simp [run_underlying K.und, Result.andThen, findNow_some h]
  · cases L with
    | nil => simp [run_underlying K.und, ents, Instr.findNow, seekL, Result.andThen]
    | cons x r =>
      have hn : Instr.findNow kind (enc a) (ents enc (x :: r) 0) 0 = none := by simp [ents, Instr.findNow, h1]
      have h := findAsking_ok h2 a w (x :: r) 0 0
      simp [run_underlying K.und, Result.andThen] at h hn ⊢
      rw [hn]
      exact h

theorem KeyOk.lookup (K : KeyOk enc tk kind) {tm te : TypeId} (hm : Try.prog.underlying tm = some (.map tk te)) {z : Value} (hz : ∀ w, (zeroValue te).run Try.prog w = .ok z w) {w : World} {r : Nat} {L : List (α × Value)} (hb : w.heap[r]? = some (mapObj enc L)) (a : α) :
    (Instr.lookup tm (.map (some r)) (enc a) true).run Try.prog w = .ok (match seekL a L 0 with | some p => .tuple #[p.2, .bool true] | none => .tuple #[z, .bool false]) w := by
  unfold mapObj at hb
  simp [Instr.lookup, run_underlying hm, MapKept.run_getObj_map hb, K.chk, K.find, Result.andThen]
  cases seekL a L 0 <;> simp [hz]

theorem KeyOk.update (K : KeyOk enc tk kind) {tm te : TypeId} (hm : Try.prog.underlying tm = some (.map tk te)) {w : World} {r : Nat} {L : List (α × Value)} (hb : w.heap[r]? = some (mapObj enc L)) (a : α) (v : Value) (hn : a ∉ L.map (·.1)) :
    (Instr.mapUpdate tm (.map (some r)) (enc a) v).run Try.prog w = .ok () (setBlock w r (mapObj enc (L ++ [(a, v)]))) := by
  unfold mapObj at hb ⊢
  have hs : seekL a L 0 = none := seekL_none.2 hn
  simp [Instr.mapUpdate, run_underlying hm, MapKept.run_getObj_map hb, K.chk, K.find, Result.andThen, hs, MapKept.run_setObj_map _ hb, setBlock, ents_snoc]
end

theorem setBlock_at {w : World} {b : Nat} (h : b < w.heap.size) (o : Obj) : (setBlock w b o).heap[b]? = some o := by
  simp [setBlock, h]
theorem setBlock_off (w : World) {b i : Nat} (o : Obj) (h : i ≠ b) : (setBlock w b o).heap[i]? = w.heap[i]? := by
  simp [setBlock, Ne.symm h]
theorem setBlock_size (w : World) (b : Nat) (o : Obj) : (setBlock w b o).heap.size = w.heap.size := by simp [setBlock]
theorem below_setBlock {B : Nat} {a w : World} (h : Below B a w) {b : Nat} (hb : B ≤ b) (o : Obj) : Below B a (setBlock w b o) :=
  ⟨h.os, h.tape, h.output, by rw [setBlock_size]; exact h.size, fun i hi => by rw [setBlock_off _ _ (by omega)]; exact h.block i hi⟩

/-! The four kinds of maps. -/
theorem key_pc : KeyOk Pc.v 68 (.struct (Try.prog.fieldsOf 68)) := by
  refine ⟨by kernel_rfl, fun em a w => by obtain ⟨s, i⟩ := a; kernel_rfl, .inr ⟨fun a b => rfl, fun a b w => ?_⟩⟩
  have h := run_eq_pc a b w
  unfold Pc.v at h ⊢
  rw [run_eql_struct] at h
  show (Op.equalIn 10000 68 _ _).run Try.prog w = _
  generalize (Op.equalIn 10000 68 (Value.agg #[Value.string a.st, Value.int IntKind.i64 a.ix]) (Value.agg #[Value.string b.st, Value.int IntKind.i64 b.ix])).run Try.prog w = r at h ⊢
  cases r with
  | ok x y => simp [Result.andThen] at h; obtain ⟨rfl, rfl⟩ := h; rfl
  | _ => simp [Result.andThen] at h
theorem key_int : KeyOk (fun i : Int => Value.int .i64 i) 3 (.int .i64) := by
  refine ⟨Try.underlying3, fun em a w => by kernel_rfl, .inl fun a b => ?_⟩
  simp only [Instr.sameNow, if_pos]
  rfl
theorem key_str : KeyOk (fun s : ByteArray => Value.string s) 9 .string := by
  refine ⟨Try.underlying9, fun em a w => by kernel_rfl, .inl fun a b => ?_⟩
  simp only [Instr.sameNow]
  exact congrArg some (by rw [Bool.eq_iff_iff, MapKept.bytes_beq]; simp)

end Go.Proofs.Ytapjgjjmlbhanaa
