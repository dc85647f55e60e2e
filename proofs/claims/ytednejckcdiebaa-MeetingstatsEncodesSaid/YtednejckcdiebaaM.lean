/- Maps keyed by a pair of ints, as the model runs them: a key is checked, found, stored. -/
import Derived.Test.YtednejckcdiebaaProg
import Derived.WalkKit
import Derived.Maps.Own
namespace Go.Proofs.Ytednejckcdiebaa
open Go.RowKit

def pairV (a b : Int) : Value := .agg #[.int .i64 a, .int .i64 b]

theorem run_checkKey_pair (em : Bool) (a b : Int) (w : World) : (Instr.checkKey em 10000 72 (pairV a b)).run Try.prog w = .ok () w := by
  kernel_rfl

theorem eq_int (d : Nat) (a c : Int) (w : World) : (Op.equalIn (d + 1) 3 (.int .i64 a) (.int .i64 c)).run Try.prog w = .ok (a == c) w :=
  run_equalIn_int w d 3 .i64 .i64 a c Try.underlying3
theorem part0 (a b : Int) (w : World) : (part 3 #[.int .i64 a, .int .i64 b] 0).run Try.prog w = .ok (.int .i64 a) w := by kernel_rfl
theorem part1 (a b : Int) (w : World) : (part 3 #[.int .i64 a, .int .i64 b] 1).run Try.prog w = .ok (.int .i64 b) w := by kernel_rfl

theorem run_equal_pair (a b c d : Int) (w : World) : (Op.equal 72 (pairV a b) (pairV c d)).run Try.prog w = .ok (a == c && b == d) w := by
  unfold Op.equal Op.maxDepth pairV
  show (Op.equalIn (9998 + 1 + 1) 72 _ _).run Try.prog w = _
  rw [Op.equalIn]
  have e2 : List.range' 0 2 = [0, 1] := rfl
  by_cases h1 : a = c <;> by_cases h2 : b = d <;>
    simp [run_underlying Try.underlying72, part0, part1, eq_int 9998, Result.andThen, e2, h1, h2]

/-- An entry of such a map. -/
structure Ent where
  a : Int
  b : Int
  val : Value
  born : Nat
def Ent.entry (x : Ent) : MapEntry := ⟨pairV x.a x.b, x.val, x.born⟩

/-- Where the entry of a key lies. -/
def seek (a b : Int) : List Ent → Nat → Option (Nat × Ent)
  | [], _ => none
  | x :: r, i => if a == x.a && b == x.b then some (i, x) else seek a b r (i + 1)

theorem run_findAsking (a b : Int) (w : World) : ∀ (L : List Ent) (i : Nat), (Instr.findAsking 72 (pairV a b) (L.map Ent.entry) i).run Try.prog w = .ok ((seek a b L i).map fun p => (p.1, p.2.val)) w
  | [], i => rfl
  | x :: r, i => by
    simp only [List.map_cons, Instr.findAsking, Ent.entry, seek]
    have h := run_equal_pair a b x.a x.b w
    have h2 := run_findAsking a b w r (i + 1)
    cases hx : (a == x.a && b == x.b) <;> rw [hx] at h <;> simp [h, h2, Result.andThen]

theorem run_findKey (a b : Int) (w : World) (L : List Ent) : (Instr.findKey 72 (pairV a b) (L.map Ent.entry)).run Try.prog w = .ok ((seek a b L 0).map fun p => (p.1, p.2.val)) w := by
  unfold Instr.findKey
  cases L with
  | nil => simp [run_underlying Try.underlying72, Instr.findNow, seek, Result.andThen]
  | cons x r =>
    have h := run_findAsking a b w (x :: r) 0
    have hn : Instr.findNow (TypeDesc.array 2 3) (pairV a b) ((x :: r).map Ent.entry) 0 = none := rfl
    simp [run_underlying Try.underlying72, Result.andThen] at h hn ⊢
    rw [hn]
    exact h

open Go.ChangeMaps Go.MapKept

theorem seek_some (a b : Int) : ∀ (L : List Ent) (i : Nat) (p : Nat × Ent), seek a b L i = some p → i ≤ p.1 ∧ L[p.1 - i]? = some p.2 ∧ p.2.a = a ∧ p.2.b = b
  | [], _, _, h => by simp [seek] at h
  | x :: r, i, p, h => by
    unfold seek at h
    split at h
    · rename_i hc
      cases h
      simp at hc
      exact ⟨Nat.le_refl _, by simp, hc.1.symm, hc.2.symm⟩
    · obtain ⟨h1, h2, h3⟩ := seek_some a b r (i + 1) p h
      refine ⟨by omega, ?_, h3⟩
      rw [show p.1 - i = (p.1 - (i + 1)) + 1 by omega]
      simpa using h2

theorem seek_none (a b : Int) : ∀ (L : List Ent) (i : Nat), seek a b L i = none → ∀ x ∈ L, ¬ (x.a = a ∧ x.b = b)
  | [], _, _, _, h => by simp at h
  | y :: r, i, h, x, hx => by
    unfold seek at h
    split at h
    · cases h
    · rename_i hc
      rcases List.mem_cons.1 hx with rfl | hx
      · simp at hc
        rintro ⟨rfl, rfl⟩
        exact hc rfl rfl
      · exact seek_none a b r (i + 1) h x hx

/-- What the map holds at a key (nil: nothing). -/
def look (L : List Ent) (a b : Int) : Value := match seek a b L 0 with | some p => p.2.val | none => .slice none 0 0
/-- The entries behind 'the entry of this key, made if there is none'. -/
def enter (L : List Ent) (a b : Int) (c : Nat) : List Ent := match seek a b L 0 with | some _ => L | none => L ++ [⟨a, b, .slice none 0 0, c⟩]
def mark (L : List Ent) (a b : Int) (c : Nat) : Nat := match seek a b L 0 with | some p => p.2.born | none => c
def tick (L : List Ent) (a b : Int) (c : Nat) : Nat := match seek a b L 0 with | some _ => c | none => c + 1
def write (L : List Ent) (s : Nat) (v : Value) : List Ent := L.map fun x => if x.born = s then { x with val := v } else x

def Obj32 (L : List Ent) (c : Nat) : Obj := .map (L.map Ent.entry).toArray c

theorem run_lookup_pair {w : World} {r : Nat} {L : List Ent} {c : Nat} (hb : w.heap[r]? = some (Obj32 L c)) (a b : Int) : (Instr.lookup 68 (.map (some r)) (pairV a b) false).run Try.prog w = .ok (look L a b) w := by
  have hz : ∀ w, (zeroValue 39).run Try.prog w = .ok (.slice none 0 0) w := fun w => by kernel_rfl
  unfold Obj32 at hb
  simp [Instr.lookup, run_underlying Try.underlying68, MapKept.run_getObj_map hb, run_checkKey_pair, run_findKey, Result.andThen, look]
  cases seek a b L 0 <;> simp [hz]

theorem sameBits_pair (n : Nat) (a b : Int) : Instr.sameBits (n + 2) (pairV a b) (pairV a b) = true := by
  simp [pairV, Instr.sameBits]

theorem run_stays_pair (a b : Int) (w : World) : (Instr.keyThatStays (pairV a b) (pairV a b)).run Try.prog w = .ok (pairV a b) w := by
  unfold Instr.keyThatStays
  have := sameBits_pair 9998 a b
  simp at this
  simp [this]

theorem modify_self {α : Type} (f : α → α) : ∀ (l : List α) (i : Nat) (x : α), l[i]? = some x → f x = x → l.modify i f = l
  | [], i, x, h, _ => by simp at h
  | y :: r, 0, x, h, hf => by simp at h; subst h; simp [hf]
  | y :: r, i + 1, x, h, hf => by
    simp at h
    simp [modify_self f r i x h hf]

theorem run_mapEntry_pair {w : World} {r : Nat} {L : List Ent} {c : Nat} (hb : w.heap[r]? = some (Obj32 L c)) (a b : Int) :
    (Instr.mapEntry 68 (.map (some r)) (pairV a b)).run Try.prog w = .ok (.tuple #[look L a b, .int .i64 (mark L a b c)]) (setBlock w r (Obj32 (enter L a b c) (tick L a b c))) := by
  have hz : ∀ w, (zeroValue 39).run Try.prog w = .ok (.slice none 0 0) w := fun w => by kernel_rfl
  unfold Obj32 at hb ⊢
  cases hs : seek a b L 0 with
  | none =>
    simp [Instr.mapEntry, run_underlying Try.underlying68, MapKept.run_getObj_map hb, run_checkKey_pair, run_findKey, Result.andThen, look, mark, tick, enter, hs, hz, MapKept.run_setObj_map _ hb, setBlock, goInt, Ent.entry]
  | some p =>
    obtain ⟨_, h1, h2, h3⟩ := seek_some a b L 0 p hs
    simp at h1
    obtain ⟨i, x⟩ := p
    simp at h1 h2 h3
    subst h2 h3
    have e1 : (L.map Ent.entry)[i]? = some x.entry := by simp [h1]
    have e3 : ((L.map Ent.entry).modify i fun e => { e with key := pairV x.a x.b }) = L.map Ent.entry := modify_self _ _ i x.entry e1 rfl
    simp [Instr.mapEntry, run_underlying Try.underlying68, MapKept.run_getObj_map hb, run_checkKey_pair, run_findKey, Result.andThen, look, mark, tick, enter, hs, setBlock, goInt]
    rw [h1]
    have e4 : (Option.map ((fun x => x.key) ∘ Ent.entry) (some x)).getD (pairV x.a x.b) = pairV x.a x.b := rfl
    have e5 : (Option.map ((fun x => (x.born : Int)) ∘ Ent.entry) (some x)).getD 0 = x.born := rfl
    rw [e4, e5, run_stays_pair]
    simp only []
    rw [e3, MapKept.run_setObj_map _ hb]

/-- No two entries of one key, nor of one age; all are older than the clock. -/
structure Sound (L : List Ent) (c : Nat) : Prop where
  keys : L.Pairwise fun x y => ¬ (x.a = y.a ∧ x.b = y.b)
  born : L.Pairwise fun x y => x.born ≠ y.born
  old : ∀ x ∈ L, x.born < c

theorem findIdx_born : ∀ (L : List Ent), L.Pairwise (fun x y => x.born ≠ y.born) → ∀ (i : Nat) (x : Ent), L[i]? = some x → ∀ v : Value,
    (L.map Ent.entry).findIdx? (fun e => (e.born : Int) == (x.born : Int)) = some i ∧ (L.map Ent.entry).modify i (fun e => { e with val := v }) = (write L x.born v).map Ent.entry
  | [], _, _, _, h, _ => by simp at h
  | y :: r, hp, 0, x, h, v => by
    simp at h
    subst h
    obtain ⟨h1, h2⟩ := List.pairwise_cons.1 hp
    refine ⟨by rw [List.map_cons, List.findIdx?_cons]; simp [Ent.entry], ?_⟩
    have e : write r y.born v = r := by
      unfold write
      conv => rhs; rw [← List.map_id r]
      refine List.map_congr_left fun z hz => ?_
      rw [if_neg (fun e => h1 z hz e.symm)]; rfl
    simp [write] at e ⊢
    constructor
    · rfl
    · intro z hz
      rw [if_neg (fun e => h1 z hz e.symm)]
  | y :: r, hp, i + 1, x, h, v => by
    simp at h
    obtain ⟨h1, h2⟩ := List.pairwise_cons.1 hp
    obtain ⟨g1, g2⟩ := findIdx_born r h2 i x h v
    have hne : y.born ≠ x.born := h1 x (List.mem_of_getElem? h)
    refine ⟨?_, ?_⟩
    · rw [List.map_cons, List.findIdx?_cons]
      have : ((y.entry.born : Int) == (x.born : Int)) = false := by
        rw [beq_eq_false_iff_ne]; intro e; apply hne; have : ((y.born : Nat) : Int) = x.born := e; omega
      rw [this, g1]; rfl
    · have e : write (y :: r) x.born v = y :: write r x.born v := by
        simp [write, hne]
      rw [e, List.map_cons, List.map_cons, ← g2]
      simp

theorem run_entryStore_pair {w : World} {r : Nat} {L : List Ent} {c : Nat} (hb : w.heap[r]? = some (Obj32 L c)) (hs : L.Pairwise fun x y => x.born ≠ y.born) {i : Nat} {x : Ent} (hx : L[i]? = some x) (v : Value) :
    (Instr.entryStore 68 (.map (some r)) (.int .i64 x.born) v).run Try.prog w = .ok () (setBlock w r (Obj32 (write L x.born v) c)) := by
  obtain ⟨g1, g2⟩ := findIdx_born L hs i x hx v
  unfold Obj32 at hb ⊢
  rw [List.findIdx?_map] at g1
  simp [Instr.entryStore, MapKept.run_getObj_map hb, asInt, asIntOf, Result.andThen]
  simp only [g1]
  simp [MapKept.run_setObj_map _ hb, setBlock, g2]

/-! What the entries say, key by key. -/

theorem seek_snoc (a b : Int) (y : Ent) : ∀ (L : List Ent) (i : Nat), seek a b (L ++ [y]) i = match seek a b L i with | some p => some p | none => if a == y.a && b == y.b then some (i + L.length, y) else none
  | [], i => by simp [seek]
  | x :: r, i => by
    simp only [List.cons_append, seek]
    split
    · rfl
    · rw [seek_snoc a b y r (i + 1)]
      simp [Nat.add_assoc, Nat.add_comm 1]

theorem seek_write (a b : Int) (s : Nat) (v : Value) : ∀ (L : List Ent) (i : Nat), seek a b (write L s v) i = (seek a b L i).map fun p => (p.1, if p.2.born = s then { p.2 with val := v } else p.2)
  | [], i => rfl
  | x :: r, i => by
    have ih := seek_write a b s v r (i + 1)
    have e : write (x :: r) s v = (if x.born = s then { x with val := v } else x) :: write r s v := rfl
    rw [e]
    unfold seek
    have e1 : (if x.born = s then { x with val := v } else x).a = x.a := by split <;> rfl
    have e2 : (if x.born = s then { x with val := v } else x).b = x.b := by split <;> rfl
    rw [e1, e2]
    split
    · rfl
    · exact ih

theorem mem_of_seek {a b : Int} {L : List Ent} {p : Nat × Ent} (h : seek a b L 0 = some p) : L[p.1]? = some p.2 ∧ p.2 ∈ L ∧ p.2.a = a ∧ p.2.b = b := by
  obtain ⟨_, h1, h2⟩ := seek_some a b L 0 p h
  simp at h1
  exact ⟨h1, List.mem_of_getElem? h1, h2⟩

theorem born_inj {L : List Ent} (h : L.Pairwise fun x y => x.born ≠ y.born) {x y : Ent} (hx : x ∈ L) (hy : y ∈ L) (e : x.born = y.born) : x = y := by
  induction L with
  | nil => simp at hx
  | cons z r ih =>
    obtain ⟨h1, h2⟩ := List.pairwise_cons.1 h
    rcases List.mem_cons.1 hx with e1 | g1 <;> rcases List.mem_cons.1 hy with e2 | g2
    · rw [e1, e2]
    · rw [e1] at e; exact absurd e (h1 y g2)
    · rw [e2] at e; exact absurd e.symm (h1 x g1)
    · exact ih h2 g1 g2

theorem enter_sound {L : List Ent} {c : Nat} (h : Sound L c) (a b : Int) : Sound (enter L a b c) (tick L a b c) := by
  unfold enter tick
  cases hs : seek a b L 0 with
  | some p => exact h
  | none =>
    have hn := seek_none a b L 0 hs
    refine ⟨?_, ?_, ?_⟩
    · refine List.pairwise_append.2 ⟨h.keys, by simp, ?_⟩
      rintro x hx y hy ⟨h1, h2⟩
      simp at hy
      subst hy
      exact hn x hx ⟨h1, h2⟩
    · refine List.pairwise_append.2 ⟨h.born, by simp, ?_⟩
      intro x hx y hy e
      simp at hy
      subst hy
      have := h.old x hx
      simp at e
      omega
    · intro x hx
      rcases List.mem_append.1 hx with hx | hx
      · exact Nat.lt_succ_of_lt (h.old x hx)
      · simp at hx
        subst hx
        exact Nat.lt_succ_self _

theorem write_sound {L : List Ent} {c : Nat} (h : Sound L c) (s : Nat) (v : Value) : Sound (write L s v) c := by
  have ea : ∀ x : Ent, (if x.born = s then { x with val := v } else x).a = x.a := fun x => by split <;> rfl
  have eb : ∀ x : Ent, (if x.born = s then { x with val := v } else x).b = x.b := fun x => by split <;> rfl
  have ec : ∀ x : Ent, (if x.born = s then { x with val := v } else x).born = x.born := fun x => by split <;> rfl
  refine ⟨?_, ?_, ?_⟩
  · unfold write
    rw [List.pairwise_map]
    exact h.keys.imp fun {x y} hxy => by rw [ea, eb, ea, eb]; exact hxy
  · unfold write
    rw [List.pairwise_map]
    exact h.born.imp fun {x y} hxy => by rw [ec, ec]; exact hxy
  · intro x hx
    unfold write at hx
    obtain ⟨y, hy, rfl⟩ := List.mem_map.1 hx
    rw [ec]
    exact h.old y hy

/-- The entry of the key, once it is there. -/
theorem seek_enter {L : List Ent} {c : Nat} (a b : Int) : ∃ i x, (enter L a b c)[i]? = some x ∧ seek a b (enter L a b c) 0 = some (i, x) ∧ x.born = mark L a b c ∧ x.val = look L a b := by
  unfold enter mark look
  cases hs : seek a b L 0 with
  | some p =>
    obtain ⟨h1, h2, h3⟩ := mem_of_seek hs
    exact ⟨p.1, p.2, h1, hs, rfl, rfl⟩
  | none =>
    refine ⟨L.length, ⟨a, b, .slice none 0 0, c⟩, by simp, ?_, rfl, rfl⟩
    rw [seek_snoc, hs]
    simp

theorem look_put {L : List Ent} {c : Nat} (h : Sound L c) (a b : Int) (v : Value) (a' b' : Int) :
    look (write (enter L a b c) (mark L a b c) v) a' b' = if a' = a ∧ b' = b then v else look L a' b' := by
  obtain ⟨i, x, h1, h2, h3, h4⟩ := seek_enter (L := L) (c := c) a b
  have hS := enter_sound h a b
  obtain ⟨_, hx, ha, hb⟩ := mem_of_seek h2
  simp at hx ha hb
  unfold look
  rw [seek_write]
  by_cases hk : a' = a ∧ b' = b
  · obtain ⟨rfl, rfl⟩ := hk
    rw [h2]
    simp [h3]
  · rw [if_neg hk]
    have e : seek a' b' (enter L a b c) 0 = seek a' b' L 0 := by
      unfold enter
      cases hs : seek a b L 0 with
      | some p => rfl
      | none =>
        rw [seek_snoc]
        cases seek a' b' L 0 with
        | some q => rfl
        | none =>
          have : (a' == a && b' == b) = false := by
            rw [Bool.and_eq_false_iff]
            rcases Classical.em (a' = a) with e1 | e1
            · exact Or.inr (by simp; exact fun e2 => hk ⟨e1, e2⟩)
            · exact Or.inl (by simp [e1])
          simp [this]
    cases hs : seek a' b' L 0 with
    | none => rw [e, hs]; rfl
    | some q =>
      rw [e, hs]
      have hq := mem_of_seek (e.trans hs)
      have : q.2.born ≠ mark L a b c := fun e2 => by
        have := born_inj hS.born hq.2.1 hx (e2.trans h3.symm)
        apply hk
        rw [← ha, ← hb, ← this]
        exact ⟨hq.2.2.1.symm, hq.2.2.2.symm⟩
      simp [this]

end Go.Proofs.Ytednejckcdiebaa
