/- Pieces: Has, pieces; shares; Find. -/
import Derived.Test.YtapjgjjmlbhanaaA1
namespace Go.Proofs.Ytapjgjjmlbhanaa
open Go.RowKit Go.Lib

theorem below_drewN {B : Nat} {a w : World} (h : Below B a w) (n : Nat) : Below B a (w.drewN n) := ⟨h.os, h.tape, h.output, h.size, h.block⟩

/-- A piece's ID. -/
structure Pc where
  st : ByteArray
  ix : Int
deriving DecidableEq
instance : Inhabited Pc := ⟨⟨ByteArray.empty, 0⟩⟩
def Pc.v (p : Pc) : Value := .agg #[.string p.st, .int .i64 p.ix]

def ReadsP (w : World) (v : Value) (ps : List Pc) : Prop := RowAt w v 2 ps.length fun i j => match j with | 0 => .string (ps.getD i default).st | _ => .int .i64 (ps.getD i default).ix
theorem ReadsP.below {w w' : World} {v : Value} {ps : List Pc} (h : ReadsP w v ps) (hb : Below w.heap.size w w') : ReadsP w' v ps := RowAt.below h hb
theorem ReadsP.at {w : World} {v : Value} {ps : List Pc} (h : ReadsP w v ps) : ∃ ao c b off, v = .slice ao ps.length c ∧ ps.length ≤ c ∧ ps.length ≤ 4611686018427387904 ∧
    ∀ i, i < ps.length → ao = some ⟨b, off, none⟩ ∧ w.cell? ⟨b, off + i * 2, none⟩ = some (.string (ps.getD i default).st) ∧ w.cell? ⟨b, off + i * 2 + 1, none⟩ = some (.int .i64 (ps.getD i default).ix) := by
  obtain ⟨ao, c, b, off, e, h1, h2, h3⟩ := RowAt.at h
  refine ⟨ao, c, b, off, e, h1, h2, fun i hi => ?_⟩
  obtain ⟨h4, h5⟩ := h3 i hi
  exact ⟨h4, h5 0 (by omega), h5 1 (by omega)⟩

theorem ReadsP.take {w : World} {ao : Option Addr} {c n : Nat} {ps : List Pc} (h : ReadsP w (.slice ao n c) ps) (m : Nat) (hm : m ≤ ps.length) : ReadsP w (.slice ao m c) (ps.take m) := by
  have h0 := h
  obtain ⟨ao', c', e, _⟩ := h0
  cases e
  have h1 := RowAt.take h m hm
  unfold ReadsP
  rw [List.length_take, Nat.min_eq_left hm]
  exact h1.congr fun i j hi hj => by rw [getD_take _ _ _ _ hi]

theorem str_eq (a b : ByteArray) : (a.toList == b.toList) = decide (a = b) := by
  rw [Bool.eq_iff_iff]
  simp only [beq_iff_eq, decide_eq_true_eq]
  constructor
  · intro h
    refine WideShapes.bytes_inj ?_
    rw [ByteArray.toList_eq, ByteArray.toList_eq] at h
    exact h
  · rintro rfl; rfl

theorem run_eq_pc (p q : Pc) (w : World) : (binOp .eql 68 p.v q.v).run Try.prog w = .ok (.bool (decide (p = q))) w := by
  have u3 := Try.underlying3
  have a3 := Try.isAgg3
  have z3 := Try.sizeOf3
  have u9 := Try.underlying9
  have a9 := Try.isAgg9
  have z9 := Try.sizeOf9
  have hS : Try.prog.underlying 68 = some (.struct (Try.prog.fieldsOf 68)) := by kernel_rfl
  have hp : Try.prog.stoodInHeld 68 = false := by kernel_rfl
  obtain ⟨s, i⟩ := p
  obtain ⟨t, j⟩ := q
  unfold Pc.v
  rw [run_eql_struct, show (10000 : Nat) = 9999 + 1 from rfl, run_equalIn_agg w 9999 68 _ _ hS hp]
  simp only [Program.fieldsOf, Try.underlying68]
  go_simp
  by_cases h1 : s = t
  · subst h1
    by_cases h2 : i = j <;> simp [h2]
  · have h3 : ¬ s.toList = t.toList := by
      have := str_eq s t
      simp [h1] at this
      exact this
    simp [h1, h3]

set_option maxHeartbeats 1000000 in
theorem has_any (v : Value) (ps : List Pc) (p : Pc) (w : World) (hv : ReadsP w v ps) :
    Calls Try.prog 49 #[v, p.v] w fun e w' => e = .returned (.bool (decide (p ∈ ps))) ∧ Below w.heap.size w w' := by
  obtain ⟨ao, c, b, off, rfl, hl, hm, hcell⟩ := hv.at
  have HC := Lib.hid hcell
  clear hcell hv
  obtain ⟨r, hr⟩ : ∃ r, r = decide (p ∈ ps) := ⟨_, rfl⟩
  rw [← hr]
  have HR := Lib.hid hr
  clear hr
  unfold Pc.v
  go_enter Try.func49, Try.ntmps49
  go_wp2
  go_loopw [5] (fun v5 wr => ∃ j : Nat, j ≤ ps.length ∧ v5 = .int .i64 j ∧ p ∉ ps.take j ∧ Below w.heap.size w wr ∧ wr.heap[w.heap.size]? = some (.cells #[.string p.st, .int .i64 p.ix] 68 (0, 0))) (fun v5 _ => ps.length - (intOf v5).toNat)
  case atStart => exact ⟨0, Nat.zero_le _, rfl, by simp, (Below.refl _ _).alloc (Nat.le_refl _) _, heap_alloc_new _ _⟩
  case round =>
    obtain ⟨j, hj, rfl, hnot, hbel, hblk⟩ := hrel
    have HN := Lib.hid hnot
    clear hnot
    by_cases hlt : j < ps.length
    · obtain ⟨e1, e2, e3⟩ := HC.out j hlt
      subst e1
      have hg := getD_at ps j default hlt
      have hs := mem_take_succ ps p j hlt
      have HS := Lib.hid hs
      rw [hg] at e2 e3
      have hmem : ps[j] ∈ ps := List.getElem_mem hlt
      have HM := Lib.hid hmem
      clear hs hg hmem
      generalize ps[j] = y at e2 e3 HS HM
      rw [← hbel.cell (p := ⟨b, _, none⟩) (cell_lt e2)] at e2
      rw [← hbel.cell (p := ⟨b, _, none⟩) (cell_lt e3)] at e3
      have d1 := cell_of_row wr _ 0 _ _ _ hblk
      have d2 := cell_of_row wr _ 1 _ _ _ hblk
      have hq := fun W => run_eq_pc y p W
      unfold Pc.v at hq
      by_cases hy : y = p
      · rw [decide_eq_true hy] at hq
        obtain rfl : r = true := by rw [HR.out]; exact decide_eq_true (by rw [← hy]; exact HM.out)
        clear hy
        go_wp2
        go_quiet (fail)
        go_wp2
        go_ret
        exact ⟨rfl, below_drewN hbel _⟩
      · rw [decide_eq_false hy] at hq
        have HY := Lib.hid hy
        clear hy
        go_wp2
        go_quiet (fail)
        go_wp2
        go_roundw
        case rel => exact ⟨j + 1, by omega, by go_num, fun h => by (rcases HS.out.1 h with h | h; (exact HN.out h); (exact HY.out h.symm)), below_drewN hbel _, hblk⟩
        case measure => simp [intOf]; omega
    · have hjl : j = ps.length := by omega
      subst hjl
      have hn := HN.out
      rw [List.take_length] at hn
      obtain rfl : r = false := by rw [HR.out]; exact decide_eq_false hn
      clear hn
      go_wp2
      go_ret
      exact ⟨rfl, hbel⟩

end Go.Proofs.Ytapjgjjmlbhanaa
