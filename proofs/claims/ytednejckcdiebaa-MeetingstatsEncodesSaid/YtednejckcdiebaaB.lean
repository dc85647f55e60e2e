/- What a book is in memory, and what leaves it as it is. -/
import Derived.Test.YtednejckcdiebaaS
import Derived.Test.YtednejckcdiebaaM
import Derived.Maps.AppendAt
namespace Go.Proofs.Ytednejckcdiebaa
open Go.RowKit Go.Lib

/-- The meeting days, pair by pair (the lesser device first). -/
abbrev Days := Int → Int → List Int

/-- The days of each pair rise, from 0 to the newest one. -/
structure Rise (N : Int) (M : Days) : Prop where
  sorted : ∀ a b, (M a b).Pairwise (· < ·)
  low : ∀ a b x, x ∈ M a b → 0 ≤ x
  high : ∀ a b x, x ∈ M a b → x ≤ N
  most : N ≤ 999999

/-- A pointer to a book of n devices, whose blocks are among F. -/
def IsBook (w : World) (F : Nat → Prop) (k : Nat) (n N : Int) (M : Days) : Prop :=
  ∃ mb L c, F k ∧ F mb ∧ w.heap[k]? = some (.cells #[.int .i64 n, .map (some mb), .int .i64 N] 70 (0, 0)) ∧ w.heap[mb]? = some (Obj32 L c) ∧ Sound L c ∧
    (∀ a b, w.ownsRow 0 3 1 (look L a b) (M a b).length ((M a b).map (.int .i64))) ∧
    (∀ a b g, (look L a b).ownBlock = some g → F g) ∧
    (∀ a b a' b' g, (look L a b).ownBlock = some g → (look L a' b').ownBlock = some g → a = a' ∧ b = b')

/-- A step that writes to blocks of F alone, and makes new ones. -/
structure Upd (F F' : Nat → Prop) (w w' : World) : Prop where
  os : w'.os = w.os
  tape : w'.tape = w.tape
  output : w'.output = w.output
  size : w.heap.size ≤ w'.heap.size
  keep : ∀ b, b < w.heap.size → ¬ F b → w'.heap[b]? = w.heap[b]?
  grow : ∀ b, F' b → F b ∨ w.heap.size ≤ b

theorem Upd.below {F F' : Nat → Prop} {w w' : World} (h : Upd F F' w w') {B : Nat} (hB : B ≤ w.heap.size) (hF : ∀ b, F b → B ≤ b) : Below B w w' :=
  ⟨h.os, h.tape, h.output, h.size, fun k hk => h.keep k (by omega) (fun e => by have := hF k e; omega)⟩

theorem Upd.low {F F' : Nat → Prop} {w w' : World} (h : Upd F F' w w') {B : Nat} (hB : B ≤ w.heap.size) (hF : ∀ b, F b → B ≤ b) : ∀ b, F' b → B ≤ b := fun b hb => by
  rcases h.grow b hb with h | h
  · exact hF b h
  · omega

theorem ownsRow_same {w w' : World} {base : Nat} {e : TypeId} {size : Nat} {v : Value} {n : Nat} {xs : List Value} (h : w.ownsRow base e size v n xs) (hs : ∀ g, v.ownBlock = some g → w'.heap[g]? = w.heap[g]?) : w'.ownsRow base e size v n xs := by
  obtain ⟨h1, h2⟩ := h
  refine ⟨h1, ?_⟩
  rcases h2 with h2 | ⟨g, cap, cur, rfl, h3, h4, h5⟩
  · exact Or.inl h2
  · exact Or.inr ⟨g, cap, cur, rfl, h3, by rw [hs g rfl]; exact h4, h5⟩

theorem IsBook.same {w w' : World} {F : Nat → Prop} {k : Nat} {n N : Int} {M : Days} (h : IsBook w F k n N M) (hs : ∀ b, F b → w'.heap[b]? = w.heap[b]?) : IsBook w' F k n N M := by
  obtain ⟨mb, L, c, fk, fm, h1, h2, h3, h4, h5, h6⟩ := h
  exact ⟨mb, L, c, fk, fm, by rw [hs _ fk]; exact h1, by rw [hs _ fm]; exact h2, h3, fun a b => ownsRow_same (h4 a b) (fun g hg => hs g (h5 a b g hg)), h5, h6⟩

/-- The blocks of a book that are there. -/
theorem IsBook.row_lt {w : World} {L : List Ent} {M : Days} (h4 : ∀ a b, w.ownsRow 0 3 1 (look L a b) (M a b).length ((M a b).map (.int .i64))) {a b : Int} {g : Nat} (hg : (look L a b).ownBlock = some g) : g < w.heap.size :=
  ((h4 a b).lt g hg).2

/-- The book with no more blocks than it needs. -/
theorem IsBook.tight {w : World} {F : Nat → Prop} {k : Nat} {n N : Int} {M : Days} (h : IsBook w F k n N M) : IsBook w (fun b => F b ∧ b < w.heap.size) k n N M := by
  obtain ⟨mb, L, c, fk, fm, h1, h2, h3, h4, h5, h6⟩ := h
  exact ⟨mb, L, c, ⟨fk, (Array.getElem?_eq_some_iff.1 h1).1⟩, ⟨fm, (Array.getElem?_eq_some_iff.1 h2).1⟩, h1, h2, h3, h4, fun a b g hg => ⟨h5 a b g hg, IsBook.row_lt h4 hg⟩, h6⟩

theorem IsBook.below {w w' : World} {F : Nat → Prop} {k : Nat} {n N : Int} {M : Days} (h : IsBook w F k n N M) (hb : Below w.heap.size w w') : IsBook w' F k n N M := by
  obtain ⟨mb, L, c, fk, fm, h1, h2, h3, h4, h5, h6⟩ := h
  refine ⟨mb, L, c, fk, fm, by rw [hb.block k (Array.getElem?_eq_some_iff.1 h1).1]; exact h1, by rw [hb.block mb (Array.getElem?_eq_some_iff.1 h2).1]; exact h2, h3, fun a b => ownsRow_same (h4 a b) (fun g hg => hb.block g (IsBook.row_lt h4 hg)), h5, h6⟩

theorem cell_of_block {w : World} {b : Nat} {cs : Array Value} {t : TypeId} {fr : Nat × Nat} (h : w.heap[b]? = some (.cells cs t fr)) (o : Nat) : w.cell? ⟨b, o, none⟩ = cs[o]? := by
  simp [World.cell?, h]

theorem free_of_block {w : World} {b : Nat} {cs : Array Value} {t : TypeId} (h : w.heap[b]? = some (.cells cs t (0, 0))) (o : Nat) : w.frozen? ⟨b, o, none⟩ = false := by
  simp [World.frozen?, h]

/-- What an owned row of ints reads as. -/
theorem reads_of_row {w : World} {v : Value} {zs : List Int} (h : w.ownsRow 0 3 1 v zs.length (zs.map (.int .i64))) : Reads w v zs := by
  have hcell := h
  obtain ⟨h1, h2⟩ := h
  rcases h2 with ⟨rfl, h0⟩ | ⟨g, cap, cur, rfl, _, _, hcap, _⟩
  · refine ⟨none, 0, by rw [h0], by omega, fun j hj => by omega⟩
  · refine ⟨some ⟨g, 0, none⟩, cap, rfl, hcap, fun j hj => ⟨g, 0, rfl, ?_⟩⟩
    rw [Nat.zero_add, hcell.cellAt j (by omega)]
    simp [List.getD, hj]

theorem Reads.below {w w' : World} {v : Value} {zs : List Int} (h : Reads w v zs) (hb : Below w.heap.size w w') : Reads w' v zs := by
  obtain ⟨ao, c, rfl, hl, hc⟩ := h
  refine ⟨ao, c, rfl, hl, fun j hj => ?_⟩
  obtain ⟨b, off, e, h1⟩ := hc j hj
  exact ⟨b, off, e, by rw [hb.cell (p := ⟨b, off + j, none⟩) (cell_lt h1)]; exact h1⟩

theorem Reads.drewN {w : World} {v : Value} {zs : List Int} (h : Reads w v zs) (q : Nat) : Reads (w.drewN q) v zs := h

theorem rise_le {N : Int} {M : Days} (h : Rise N M) (a b : Int) : (M a b).Pairwise (· ≤ ·) := (h.sorted a b).imp fun {x y} hxy => by omega

/-- Ints that rise from at least lo to at most hi are not many. -/
theorem rising_length : ∀ (l : List Int) (lo hi : Int), l.Pairwise (· < ·) → (∀ x ∈ l, lo ≤ x) → (∀ x ∈ l, x ≤ hi) → (l.length : Int) ≤ hi - lo + 1 ∨ l = []
  | [], _, _, _, _, _ => Or.inr rfl
  | x :: r, lo, hi, hp, h1, h2 => by
    obtain ⟨p1, p2⟩ := List.pairwise_cons.1 hp
    have hx := h1 x (by simp)
    have hx2 := h2 x (by simp)
    rcases rising_length r (x + 1) hi p2 (fun y hy => by have := p1 y hy; omega) (fun y hy => h2 y (by simp [hy])) with h | h
    · left; simp; omega
    · left; subst h; simp; omega

theorem rise_length {N : Int} {M : Days} (h : Rise N M) (a b : Int) : (M a b).length ≤ 1000000 := by
  rcases rising_length (M a b) 0 N (h.sorted a b) (h.low a b) (h.high a b) with h1 | h1
  · have := h.most; omega
  · rw [h1]; simp

end Go.Proofs.Ytednejckcdiebaa
