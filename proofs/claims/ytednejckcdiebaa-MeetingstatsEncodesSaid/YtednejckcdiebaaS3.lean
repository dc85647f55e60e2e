/- A map of ints; the closure by which devices are ranked; Rank. -/
import Derived.Test.YtednejckcdiebaaS2
import Derived.Test.YtednejckcdiebaaD
import Derived.Sort.OwnSortedInts
import Derived.ChangeMaps5
import Derived.Deep.RegionHeld3
namespace Go.Proofs.Ytednejckcdiebaa
open Go.RowKit Go.Lib Go.ChangeMaps Go.Sort
set_option linter.unusedSimpArgs false

section
variable {α : Type} [DecidableEq α] (enc : α → Value)

/-- The entries, the eldest first. -/
def ents : List (α × Value) → Nat → List MapEntry
  | [], _ => []
  | x :: r, c => ⟨enc x.1, x.2, c⟩ :: ents r (c + 1)
def seekL (a : α) : List (α × Value) → Nat → Option (Nat × Value)
  | [], _ => none
  | x :: r, i => if a = x.1 then some (i, x.2) else seekL a r (i + 1)
def mapObj (L : List (α × Value)) : Obj := .map (ents enc L 0).toArray L.length

omit [DecidableEq α] in
theorem ents_snoc (x : α × Value) : ∀ (L : List (α × Value)) (c : Nat), ents enc (L ++ [x]) c = ents enc L c ++ [⟨enc x.1, x.2, c + L.length⟩]
  | [], c => by simp [ents]
  | y :: r, c => by simp [ents, ents_snoc x r (c + 1)]; omega

theorem seekL_none {a : α} : ∀ {L : List (α × Value)} {i : Nat}, seekL a L i = none ↔ a ∉ L.map (·.1)
  | [], i => by simp [seekL]
  | x :: r, i => by
    unfold seekL
    split
    · rename_i h; simp [h]
    · rename_i h; simp [seekL_none (L := r), h]

theorem seekL_some {a : α} : ∀ {L : List (α × Value)} {i : Nat} {p : Nat × Value}, seekL a L i = some p → i ≤ p.1 ∧ L[p.1 - i]? = some (a, p.2)
  | [], _, _, h => by simp [seekL] at h
  | x :: r, i, p, h => by
    unfold seekL at h
    split at h
    · rename_i hc
      cases h
      simp [hc]
    · obtain ⟨h1, h2⟩ := seekL_some h
      refine ⟨by omega, ?_⟩
      rw [show p.1 - i = (p.1 - (i + 1)) + 1 by omega]
      simpa using h2

/-- What a key's type must do. -/
structure KeyOk (tk : TypeId) (kind : TypeDesc) : Prop where
  und : Try.prog.underlying tk = some kind
  chk : ∀ (em : Bool) (a : α) (w : World), (Instr.checkKey em 10000 tk (enc a)).run Try.prog w = .ok () w
  same : (∀ a b : α, Instr.sameNow kind (enc a) (enc b) = some (decide (a = b))) ∨ ((∀ a b : α, Instr.sameNow kind (enc a) (enc b) = none) ∧ ∀ (a b : α) (w : World), (Op.equal tk (enc a) (enc b)).run Try.prog w = .ok (decide (a = b)) w)
variable {enc} {tk : TypeId} {kind : TypeDesc}

theorem findNow_some (h : ∀ a b : α, Instr.sameNow kind (enc a) (enc b) = some (decide (a = b))) (a : α) : ∀ (L : List (α × Value)) (c i : Nat), Instr.findNow kind (enc a) (ents enc L c) i = some (seekL a L i)
  | [], c, i => rfl
  | x :: r, c, i => by
    simp only [ents, Instr.findNow, h, seekL]
    by_cases e : a = x.1
    · simp [e]
    · simp [e, findNow_some h a r]

theorem findAsking_ok (h : ∀ (a b : α) (w : World), (Op.equal tk (enc a) (enc b)).run Try.prog w = .ok (decide (a = b)) w) (a : α) (w : World) : ∀ (L : List (α × Value)) (c i : Nat), (Instr.findAsking tk (enc a) (ents enc L c) i).run Try.prog w = .ok (seekL a L i) w
  | [], c, i => rfl
  | x :: r, c, i => by
    simp only [ents, Instr.findAsking, seekL]
    have h1 := h a x.1 w
    have h2 := findAsking_ok h a w r (c + 1) (i + 1)
    by_cases e : a = x.1
    · simp only [e, decide_true] at h1; simp [h1, e, Result.andThen]
    · simp only [e, decide_false] at h1; simp [h1, e, h2, Result.andThen]

theorem KeyOk.find (K : KeyOk enc tk kind) (a : α) (L : List (α × Value)) (w : World) : (Instr.findKey tk (enc a) (ents enc L 0)).run Try.prog w = .ok (seekL a L 0) w := by
  unfold Instr.findKey
  rcases K.same with h | ⟨h1, h2⟩
  · simp [run_underlying K.und, Result.andThen, findNow_some h]
  · cases L with
    | nil => simp [run_underlying K.und, ents, Instr.findNow, seekL, Result.andThen]
    | cons x r =>
      have hn : Instr.findNow kind (enc a) (ents enc (x :: r) 0) 0 = none := by simp [ents, Instr.findNow, h1]
      have h := findAsking_ok h2 a w (x :: r) 0 0
      simp [run_underlying K.und, Result.andThen] at h hn ⊢
      rw [hn]
      exact h

theorem KeyOk.lookup (K : KeyOk enc tk kind) {tm te : TypeId} (hm : Try.prog.underlying tm = some (.map tk te)) {z : Value} (hz : ∀ w, (zeroValue te).run Try.prog w = .ok z w) {w : World} {r : Nat} {L : List (α × Value)} (hb : w.heap[r]? = some (mapObj enc L)) (a : α) :
    (Instr.lookup tm (.map (some r)) (enc a) true).run Try.prog w = .ok (match seekL a L 0 with | some p => .tuple #[p.2, .bool true] | none => .tuple #[z, .bool false]) w := by
  unfold mapObj at hb
  simp [Instr.lookup, run_underlying hm, MapKept.run_getObj_map hb, K.chk, K.find, Result.andThen]
  cases seekL a L 0 <;> simp [hz]

theorem KeyOk.update (K : KeyOk enc tk kind) {tm te : TypeId} (hm : Try.prog.underlying tm = some (.map tk te)) {w : World} {r : Nat} {L : List (α × Value)} (hb : w.heap[r]? = some (mapObj enc L)) (a : α) (v : Value) (hn : a ∉ L.map (·.1)) :
    (Instr.mapUpdate tm (.map (some r)) (enc a) v).run Try.prog w = .ok () (setBlock w r (mapObj enc (L ++ [(a, v)]))) := by
  unfold mapObj at hb ⊢
  have hs : seekL a L 0 = none := seekL_none.2 hn
  simp [Instr.mapUpdate, run_underlying hm, MapKept.run_getObj_map hb, K.chk, K.find, Result.andThen, hs, MapKept.run_setObj_map _ hb, setBlock, ents_snoc]
end

theorem KeyOk.lookup0 {α : Type} [DecidableEq α] {enc : α → Value} {tk : TypeId} {kind : TypeDesc} (K : KeyOk enc tk kind) {tm te : TypeId} (hm : Try.prog.underlying tm = some (.map tk te)) {z : Value} (hz : ∀ w, (zeroValue te).run Try.prog w = .ok z w) {w : World} {r : Nat} {L : List (α × Value)} (hb : w.heap[r]? = some (mapObj enc L)) (a : α) :
    (Instr.lookup tm (.map (some r)) (enc a) false).run Try.prog w = .ok (match seekL a L 0 with | some p => p.2 | none => z) w := by
  unfold mapObj at hb
  simp [Instr.lookup, run_underlying hm, MapKept.run_getObj_map hb, K.chk, K.find, Result.andThen]
  cases seekL a L 0 <;> simp [hz]

theorem key_int : KeyOk (fun i : Int => Value.int .i64 i) 3 (.int .i64) := by
  refine ⟨Try.underlying3, fun em a w => by kernel_rfl, .inl fun a b => ?_⟩
  simp only [Instr.sameNow, if_pos]
  rfl

theorem cell_of_row' (w : World) (b o : Nat) (cs : Array Value) (t : TypeId) (fr : Nat × Nat) (h : w.heap[b]? = some (.cells cs t fr)) : w.cell? ⟨b, o, none⟩ = cs[o]? := cell_of_block h o
theorem bc {w w' : World} (hb : Below w.heap.size w w') {b o : Nat} {v : Value} (h : w.cell? ⟨b, o, none⟩ = some v) : w'.cell? ⟨b, o, none⟩ = some v := (hb.cell (p := ⟨b, o, none⟩) (cell_lt h)).trans h
theorem bb {w w' : World} (hb : Below w.heap.size w w') {b : Nat} {x : Obj} (h : w.heap[b]? = some x) : w'.heap[b]? = some x := (hb.block b (Array.getElem?_eq_some_iff.1 h).1).trans h
theorem sb0 {w : World} (o : Obj) : Below w.heap.size w (w.alloc o) := (Below.refl _ _).alloc (Nat.le_refl _) _
theorem cell_setBlock {w : World} {m b o : Nat} (h : b ≠ m) (x : Obj) : (setBlock w m x).cell? ⟨b, o, none⟩ = w.cell? ⟨b, o, none⟩ := by
  unfold World.cell?
  rw [setBlock_off _ _ h]
theorem grow_of {w w' : World} (h : Below w.heap.size w w') (hd : w.drawn ≤ w'.drawn) : ∃ q os, w' = grow (w.drewN q) os := by
  refine ⟨w'.drawn - w.drawn, (w'.heap.toList.drop w.heap.size).toArray, ?_⟩
  have hheap : w'.heap = w.heap ++ (w'.heap.toList.drop w.heap.size).toArray := by
    apply Array.ext_getElem?
    intro i
    rw [Array.getElem?_append]
    by_cases hi : i < w.heap.size
    · rw [if_pos hi]; exact h.block i hi
    · rw [if_neg hi]
      simp only [List.getElem?_toArray, List.getElem?_drop]
      rw [show w.heap.size + (i - w.heap.size) = i by omega, Array.getElem?_toList]
  have hdr : w'.drawn = w.drawn + (w'.drawn - w.drawn) := by omega
  obtain ⟨hp, tp, dr, os, out⟩ := w'
  obtain ⟨hp0, tp0, dr0, os0, out0⟩ := w
  obtain ⟨h1, h2, h3, _, _⟩ := h
  simp only at h1 h2 h3 hheap hdr
  subst h1 h2 h3
  unfold grow World.drewN
  simp only
  rw [← hheap, ← hdr]
theorem grown_refl (w : World) (r : Option Nat) : w.grownBy w r := ⟨rfl, rfl, rfl, Nat.le_refl _, fun _ _ _ => rfl⟩
theorem heap_sortedG {α : Type} [Inhabited α] (enc : α → Value) {w : World} {g n : Nat} {os : Array Obj} {cur : Array Value} {e : TypeId} {fr : Nat × Nat} (d : Array α) (hb : w.heap[g]? = some (.cells cur e fr)) :
    (grow (putRow enc (Sort.ahead w n) g 0 d) os).heap[g]? = some (.cells (putCells enc 0 d cur) e fr) := by
  have hg : g < w.heap.size := (Array.getElem?_eq_some_iff.1 hb).1
  rw [heap_grow_old _ _ (by simpa using hg)]
  simp [putRow, mapBlock, Sort.ahead, Array.getElem?_modify, hb, onCells]
theorem grownBy_sortedG {α : Type} [Inhabited α] (enc : α → Value) {w : World} {g n : Nat} {os : Array Obj} (d : Array α) : w.grownBy (grow (putRow enc (Sort.ahead w n) g 0 d) os) (some g) := by
  refine ⟨rfl, rfl, rfl, by simp, fun k hk hne => ?_⟩
  rw [heap_grow_old _ _ (by simpa using hk)]
  have : g ≠ k := fun e => hne (by rw [e])
  simp [putRow, mapBlock, Sort.ahead, Array.getElem?_modify, this]
theorem take_putCellsG (cur : Array Value) (ts : List Value) (h : ts.length ≤ cur.size) : (putCells id 0 ts.toArray cur).toList.take ts.length = ts := by
  apply List.ext_getElem?
  intro j
  by_cases hj : j < ts.length
  · rw [List.getElem?_take_of_lt hj, Array.getElem?_toList]
    simp [putCells, hj, show j < cur.size by omega]
  · rw [List.getElem?_take_eq_none (by omega), List.getElem?_eq_none (by omega)]

/-- The weights of devices, as a map. -/
def wmap (ps : List (Int × Int)) : List (Int × Value) := ps.map fun p => (p.1, .int .i64 p.2)
def wat (ps : List (Int × Int)) (x : Int) : Int := ((ps.find? fun p => decide (x = p.1)).map (·.2)).getD 0
theorem seek_wmap (x : Int) : ∀ (ps : List (Int × Int)) (i : Nat), (match seekL x (wmap ps) i with | some p => p.2 | none => Value.int .i64 0) = .int .i64 (wat ps x)
  | [], i => rfl
  | p :: r, i => by
    have ih := seek_wmap x r (i + 1)
    unfold wat at ih ⊢
    simp only [wmap, List.map_cons, seekL, List.find?_cons]
    by_cases h : x = p.1
    · simp [h]
    · simp only [h, if_false, decide_false]
      exact ih
def cfW (ps : List (Int × Int)) (x y : Int) : Int := if ord (wat ps y) (wat ps x) = 0 then ord x y else ord (wat ps y) (wat ps x)
theorem ltW (ps : List (Int × Int)) (x y : Int) : ltOf (cfW ps) x y = decide (wat ps y < wat ps x ∨ wat ps x = wat ps y ∧ x < y) := by
  unfold ltOf cfW ord
  generalize wat ps x = a
  generalize wat ps y = b
  rcases Int.lt_trichotomy a b with h | h | h
  · have h1 : ¬ b < a := by omega
    have h2 : ¬ a = b := by omega
    have h3 : b > a := h
    simp [h1, h2, h]
  · subst h
    rcases Int.lt_trichotomy x y with g | g | g
    · simp [g]
    · subst g; simp
    · have g1 : ¬ x < y := by omega
      simp [g1, g]
  · have h1 : ¬ a < b := by omega
    simp [h]
theorem swoW (ps : List (Int × Int)) : SWO (ltOf (cfW ps)) where
  irrefl x := by rw [ltW]; simp
  trans x y z h1 h2 := by rw [ltW] at *; simp only [decide_eq_true_eq] at *; omega
  ntrans x y z h1 h2 := by rw [ltW] at *; simp only [decide_eq_false_iff_not] at *; omega
theorem totW (ps : List (Int × Int)) (x y : Int) (h1 : ltOf (cfW ps) x y = false) (h2 : ltOf (cfW ps) y x = false) : x = y := by rw [ltW] at *; simp only [decide_eq_false_iff_not] at *; omega

set_option maxRecDepth 100000 in
set_option maxHeartbeats 2000000 in
theorem closure_any (wb m : Nat) (ps : List (Int × Int)) (x y : Int) (W : World) (h0 : W.cell? ⟨wb, 0, none⟩ = some (.map (some m))) (h1 : W.heap[m]? = some (mapObj (fun i : Int => Value.int .i64 i) (wmap ps))) :
    Calls Try.prog 59 #[.int .i64 x, .int .i64 y, .pointer (some ⟨wb, 0, none⟩)] W fun e w' => e = .returned (.int .i64 (cfW ps x y)) ∧ ∃ q os, w' = grow (W.drewN q) os := by
  have hl : ∀ a : Int, (Instr.lookup 97 (.map (some m)) (.int .i64 a) false).run Try.prog W = .ok (.int .i64 (wat ps a)) W := fun a => by
    have := KeyOk.lookup0 key_int Try.underlying97 Try.zeroValue3 h1 a
    rw [seek_wmap] at this
    exact this
  have e1 := hl x
  have e2 := hl y
  clear hl h1
  unfold cfW
  generalize wat ps x = a at *
  generalize wat ps y = b at *
  have HO := Lib.hid (fun u v => or_any W.heap.size u v (W.alloc (.cells #[.int .i64 u, .int .i64 v] 3)) (cell_of_row' _ _ 0 _ _ _ (heap_alloc_new W _)) (cell_of_row' _ _ 1 _ _ _ (heap_alloc_new W _)))
  have C1 := Lib.hid (cmpI_any b a W)
  have C2 := Lib.hid (cmpI_any x y W)
  generalize ord b a = r at *
  generalize ord x y = s at *
  have HO := Lib.hid (HO.out r s)
  obtain ⟨z, hz⟩ : ∃ z : Int, z = if r = 0 then s else r := ⟨_, rfl⟩
  rw [← hz] at HO ⊢
  clear hz
  go_enter Try.func59, Try.ntmps59
  go_wp2_with fail
  refine C1.out.mono ?_
  rintro e w' ⟨rfl, rfl⟩
  go_wp2_with fail
  refine C2.out.mono ?_
  rintro e w' ⟨rfl, rfl⟩
  go_wp2_with fail
  refine HO.out.mono ?_
  rintro e w' ⟨rfl, rfl⟩
  go_wp2
  go_ret
  exact ⟨rfl, grow_of (sb0 _) (Nat.le_refl _)⟩

end Go.Proofs.Ytednejckcdiebaa
