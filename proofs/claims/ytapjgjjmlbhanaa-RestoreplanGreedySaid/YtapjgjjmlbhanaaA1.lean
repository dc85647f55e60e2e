/- Rows that are read, and the reference's small functions. -/
import Derived.Test.YtapjgjjmlbhanaaProg
import Derived.WalkKit
import Derived.Handy
import Derived.Lib.Hide
import Derived.Deep.QuietTactic
import Derived.BigQuiet
import Derived.Maps.Own
import Derived.WideShapes
namespace Go.Proofs.Ytapjgjjmlbhanaa
open Go.RowKit Go.Lib

theorem cell_lt {w : World} {b o : Nat} {v : Value} (h : w.cell? ⟨b, o, none⟩ = some v) : b < w.heap.size := by
  unfold World.cell? at h
  by_cases hlt : b < w.heap.size
  · exact hlt
  · have : w.heap[b]? = none := Array.getElem?_eq_none (by omega)
    simp [this] at h

/-- A slice of n elements of k cells each, of which cell j of element i holds 'f i j'. -/
def RowAt (w : World) (v : Value) (k n : Nat) (f : Nat → Nat → Value) : Prop :=
  ∃ ao c, v = .slice ao n c ∧ n ≤ c ∧ n ≤ 4611686018427387904 ∧ (0 < n → ∃ b off, ao = some ⟨b, off, none⟩ ∧ ∀ i j, i < n → j < k → w.cell? ⟨b, off + i * k + j, none⟩ = some (f i j))

theorem RowAt.below {w w' : World} {v : Value} {k n : Nat} {f : Nat → Nat → Value} (h : RowAt w v k n f) (hb : Below w.heap.size w w') : RowAt w' v k n f := by
  obtain ⟨ao, c, rfl, hl, hm, hc⟩ := h
  refine ⟨ao, c, rfl, hl, hm, fun h0 => ?_⟩
  obtain ⟨b, off, e, hh⟩ := hc h0
  refine ⟨b, off, e, fun i j hi hj => ?_⟩
  have h1 := hh i j hi hj
  rw [hb.cell (p := ⟨b, _, none⟩) (cell_lt h1)]
  exact h1

theorem RowAt.at {w : World} {v : Value} {k n : Nat} {f : Nat → Nat → Value} (h : RowAt w v k n f) : ∃ ao c b off, v = .slice ao n c ∧ n ≤ c ∧ n ≤ 4611686018427387904 ∧ ∀ i, i < n → ao = some ⟨b, off, none⟩ ∧ ∀ j, j < k → w.cell? ⟨b, off + i * k + j, none⟩ = some (f i j) := by
  obtain ⟨ao, c, rfl, hl, hm, hc⟩ := h
  by_cases h0 : 0 < n
  · obtain ⟨b, off, e, hh⟩ := hc h0
    exact ⟨ao, c, b, off, rfl, hl, hm, fun i hi => ⟨e, fun j hj => hh i j hi hj⟩⟩
  · exact ⟨ao, c, 0, 0, rfl, hl, hm, fun i hi => absurd hi (by omega)⟩

theorem RowAt.take {w : World} {ao : Option Addr} {c k n : Nat} {f : Nat → Nat → Value} (h : RowAt w (.slice ao n c) k n f) (m : Nat) (hm : m ≤ n) : RowAt w (.slice ao m c) k m f := by
  obtain ⟨ao', c', e, hl, hx, hc⟩ := h
  cases e
  refine ⟨ao, c, rfl, by omega, by omega, fun h0 => ?_⟩
  obtain ⟨b, off, e, hh⟩ := hc (by omega)
  exact ⟨b, off, e, fun i j hi hj => hh i j (by omega) hj⟩

theorem RowAt.congr {w : World} {v : Value} {k n : Nat} {f g : Nat → Nat → Value} (h : RowAt w v k n f) (e : ∀ i j, i < n → j < k → f i j = g i j) : RowAt w v k n g := by
  obtain ⟨ao, c, rfl, hl, hm, hc⟩ := h
  refine ⟨ao, c, rfl, hl, hm, fun h0 => ?_⟩
  obtain ⟨b, off, ea, hh⟩ := hc h0
  exact ⟨b, off, ea, fun i j hi hj => by rw [← e i j hi hj]; exact hh i j hi hj⟩

theorem getD_take {α : Type} (zs : List α) (d : α) (m i : Nat) (h : i < m) : (zs.take m).getD i d = zs.getD i d := by
  simp [List.getD, h]

/-- A slice of ints. -/
def ReadsI (w : World) (v : Value) (zs : List Int) : Prop := RowAt w v 1 zs.length fun i _ => .int .i64 (zs.getD i 0)
theorem ReadsI.below {w w' : World} {v : Value} {zs : List Int} (h : ReadsI w v zs) (hb : Below w.heap.size w w') : ReadsI w' v zs := RowAt.below h hb
theorem ReadsI.at {w : World} {v : Value} {zs : List Int} (h : ReadsI w v zs) : ∃ ao c b off, v = .slice ao zs.length c ∧ zs.length ≤ c ∧ zs.length ≤ 4611686018427387904 ∧ ∀ i, i < zs.length → ao = some ⟨b, off, none⟩ ∧ w.cell? ⟨b, off + i, none⟩ = some (.int .i64 (zs.getD i 0)) := by
  obtain ⟨ao, c, b, off, e, h1, h2, h3⟩ := RowAt.at h
  refine ⟨ao, c, b, off, e, h1, h2, fun i hi => ?_⟩
  obtain ⟨h4, h5⟩ := h3 i hi
  have := h5 0 (by omega)
  simp only [Nat.mul_one, Nat.add_zero] at this
  exact ⟨h4, this⟩

theorem mem_take_succ {α : Type} (zs : List α) (x : α) (j : Nat) (h : j < zs.length) : x ∈ zs.take (j + 1) ↔ x ∈ zs.take j ∨ x = zs[j] := by
  rw [List.take_succ_eq_append_getElem h, List.mem_append, List.mem_singleton]

theorem getD_at {α : Type} (zs : List α) (j : Nat) (d : α) (h : j < zs.length) : zs.getD j d = zs[j] := by
  simp [List.getD, h]

set_option maxHeartbeats 1000000 in
theorem contains_any (v : Value) (zs : List Int) (x : Int) (w : World) (hv : ReadsI w v zs) :
    Calls Try.prog 37 #[v, .int .i64 x] w fun e w' => e = .returned (.bool (decide (x ∈ zs))) ∧ w = w' := by
  obtain ⟨ao, c, b, off, rfl, hl, hm, hcell⟩ := hv.at
  have HC := Lib.hid hcell
  clear hcell hv
  obtain ⟨r, hr⟩ : ∃ r, r = decide (x ∈ zs) := ⟨_, rfl⟩
  rw [← hr]
  have HR := Lib.hid hr
  clear hr
  go_enter Try.func37, Try.ntmps37
  go_wp2
  go_loop [5] (fun v5 => ∃ j : Nat, j ≤ zs.length ∧ v5 = .int .i64 j ∧ x ∉ zs.take j) (fun v5 => zs.length - (intOf v5).toNat)
  case atStart => exact ⟨0, Nat.zero_le _, rfl, by simp⟩
  case round =>
    obtain ⟨j, hj, rfl, hnot⟩ := hrel
    have HN := Lib.hid hnot
    clear hnot
    by_cases hlt : j < zs.length
    · obtain ⟨e1, e2⟩ := HC.out j hlt
      subst e1
      have hg := getD_at zs j 0 hlt
      have hs := mem_take_succ zs x j hlt
      have HS := Lib.hid hs
      rw [hg] at e2
      have hmem : zs[j] ∈ zs := List.getElem_mem hlt
      have HM := Lib.hid hmem
      clear hs hg hmem
      generalize zs[j] = y at e2 HS HM
      by_cases hy : y = x
      · have k1 : (y == x) = true := by simp [hy]
        obtain rfl : r = true := by rw [HR.out]; exact decide_eq_true (by rw [← hy]; exact HM.out)
        clear hy
        go_wp2
        go_ret
        exact ⟨rfl, rfl⟩
      · have k1 : (y == x) = false := by simp [hy]
        have HY := Lib.hid hy
        clear hy
        go_wp2
        go_round
        case rel => exact ⟨j + 1, by omega, by go_num, fun h => by rcases HS.out.1 h with h | h; (exact HN.out h); (exact HY.out h.symm)⟩
        case measure => simp [intOf]; omega
    · have hjl : j = zs.length := by omega
      subst hjl
      have hn := HN.out
      rw [List.take_length] at hn
      obtain rfl : r = false := by rw [HR.out]; exact decide_eq_false hn
      clear hn
      go_wp2
      go_ret
      exact ⟨rfl, rfl⟩

end Go.Proofs.Ytapjgjjmlbhanaa
