/- Rows that are read, and the reference's small functions. -/
import Derived.Test.YtapjgjjmlbhanaaProg
import Derived.WalkKit
import Derived.Handy
import Derived.Lib.Hide
import Derived.Deep.QuietTactic
import Derived.BigQuiet
import Derived.Maps.Own
import Derived.WideShapes
import Derived.StillTailTactics
namespace Go.Proofs.Ytapjgjjmlbhanaa
open Go.RowKit Go.Lib

theorem cell_lt {w : World} {b o : Nat} {v : Value} (h : w.cell? ⟨b, o, none⟩ = some v) : b < w.heap.size := by
  unfold World.cell? at h
  by_cases hlt : b < w.heap.size
  · exact hlt
  · have : w.heap[b]? = none := Array.getElem?_eq_none (by omega)
    simp [this] at h

/-- A slice of n elements of k cells each, of which cell j of element i holds 'f i j'. -/
def RowAt (w : World) (v : Value) (k n : Nat) (f : Nat → Nat → Value) : Prop :=
  ∃ ao c, v = .slice ao n c ∧ n ≤ c ∧ n ≤ 4611686018427387904 ∧ (0 < n → ∃ b off, ao = some ⟨b, off, none⟩ ∧ ∀ i j, i < n → j < k → w.cell? ⟨b, off + i * k + j, none⟩ = some (f i j))

theorem RowAt.below {w w' : World} {v : Value} {k n : Nat} {f : Nat → Nat → Value} (h : RowAt w v k n f) (hb : Below w.heap.size w w') : RowAt w' v k n f := by
  obtain ⟨ao, c, rfl, hl, hm, hc⟩ := h
  refine ⟨ao, c, rfl, hl, hm, fun h0 => ?_⟩
  obtain ⟨b, off, e, hh⟩ := hc h0
  refine ⟨b, off, e, fun i j hi hj => ?_⟩
  have h1 := hh i j hi hj
  rw [hb.cell (p := ⟨b, _, none⟩) (cell_lt h1)]
  exact h1

theorem RowAt.at {w : World} {v : Value} {k n : Nat} {f : Nat → Nat → Value} (h : RowAt w v k n f) : ∃ ao c b off, v = .slice ao n c ∧ n ≤ c ∧ n ≤ 4611686018427387904 ∧ ∀ i, i < n → ao = some ⟨b, off, none⟩ ∧ ∀ j, j < k → w.cell? ⟨b, off + i * k + j, none⟩ = some (f i j) := by
  obtain ⟨ao, c, rfl, hl, hm, hc⟩ := h
  by_cases h0 : 0 < n
  · obtain ⟨b, off, e, hh⟩ := hc h0
    exact ⟨ao, c, b, off, rfl, hl, hm, fun i hi => ⟨e, fun j hj => hh i j hi hj⟩⟩
  · exact ⟨ao, c, 0, 0, rfl, hl, hm, fun i hi => absurd hi (by omega)⟩

theorem RowAt.take {w : World} {ao : Option Addr} {c k n : Nat} {f : Nat → Nat → Value} (h : RowAt w (.slice ao n c) k n f) (m : Nat) (hm : m ≤ n) : RowAt w (.slice ao m c) k m f := by
  obtain ⟨ao', c', e, hl, hx, hc⟩ := h
  cases e
  refine ⟨ao, c, rfl, by omega, by omega, fun h0 => ?_⟩
  obtain ⟨b, off, e, hh⟩ := hc (by omega)
  exact ⟨b, off, e, fun i j hi hj => hh i j (by omega) hj⟩

theorem RowAt.congr {w : World} {v : Value} {k n : Nat} {f g : Nat → Nat → Value} (h : RowAt w v k n f) (e : ∀ i j, i < n → j < k → f i j = g i j) : RowAt w v k n g := by
  obtain ⟨ao, c, rfl, hl, hm, hc⟩ := h
  refine ⟨ao, c, rfl, hl, hm, fun h0 => ?_⟩
  obtain ⟨b, off, ea, hh⟩ := hc h0
  exact ⟨b, off, ea, fun i j hi hj => by rw [← e i j hi hj]; exact hh i j hi hj⟩

theorem getD_take {α : Type} (zs : List α) (d : α) (m i : Nat) (h : i < m) : (zs.take m).getD i d = zs.getD i d := by
  simp [List.getD, h]

/-- A slice of ints. -/
def ReadsI (w : World) (v : Value) (zs : List Int) : Prop := RowAt w v 1 zs.length fun i _ => .int .i64 (zs.getD i 0)
theorem ReadsI.below {w w' : World} {v : Value} {zs : List Int} (h : ReadsI w v zs) (hb : Below w.heap.size w w') : ReadsI w' v zs := RowAt.below h hb
theorem ReadsI.at {w : World} {v : Value} {zs : List Int} (h : ReadsI w v zs) : ∃ ao c b off, v = .slice ao zs.length c ∧ zs.length ≤ c ∧ zs.length ≤ 4611686018427387904 ∧ ∀ i, i < zs.length → ao = some ⟨b, off, none⟩ ∧ w.cell? ⟨b, off + i, none⟩ = some (.int .i64 (zs.getD i 0)) := by
  obtain ⟨ao, c, b, off, e, h1, h2, h3⟩ := RowAt.at h
  refine ⟨ao, c, b, off, e, h1, h2, fun i hi => ?_⟩
  obtain ⟨h4, h5⟩ := h3 i hi
  have := h5 0 (by omega)
  simp only [Nat.mul_one, Nat.add_zero] at this
  exact ⟨h4, this⟩

theorem mem_take_succ {α : Type} (zs : List α) (x : α) (j : Nat) (h : j < zs.length) : x ∈ zs.take (j + 1) ↔ x ∈ zs.take j ∨ x = zs[j] := by
  rw [List.take_succ_eq_append_getElem h, List.mem_append, List.mem_singleton]

theorem getD_at {α : Type} (zs : List α) (j : Nat) (d : α) (h : j < zs.length) : zs.getD j d = zs[j] := by
  simp [List.getD, h]

set_option maxHeartbeats 1000000 in
theorem contains_any (v : Value) (zs : List Int) (x : Int) (w : World) (hv : ReadsI w v zs) :
    Calls Try.prog 37 #[v, .int .i64 x] w fun e w' => e = .returned (.bool (decide (x ∈ zs))) ∧ w = w' := by
  obtain ⟨ao, c, b, off, rfl, hl, hm, hcell⟩ := hv.at
  have HC := Lib.hid hcell
  clear hcell hv
  obtain ⟨r, hr⟩ : ∃ r, r = decide (x ∈ zs) := ⟨_, rfl⟩
  rw [← hr]
  have HR := Lib.hid hr
  clear hr
  go_enter Try.func37, Try.ntmps37
  go_wp2
  go_loop [5] (fun v5 => ∃ j : Nat, j ≤ zs.length ∧ v5 = .int .i64 j ∧ x ∉ zs.take j) (fun v5 => zs.length - (intOf v5).toNat)
  case atStart => exact ⟨0, Nat.zero_le _, rfl, by simp⟩
  case round =>
    obtain ⟨j, hj, rfl, hnot⟩ := hrel
    have HN := Lib.hid hnot
    clear hnot
    by_cases hlt : j < zs.length
    · obtain ⟨e1, e2⟩ := HC.out j hlt
      subst e1
      have hg := getD_at zs j 0 hlt
      have hs := mem_take_succ zs x j hlt
      have HS := Lib.hid hs
      rw [hg] at e2
      have hmem : zs[j] ∈ zs := List.getElem_mem hlt
      have HM := Lib.hid hmem
      clear hs hg hmem
      generalize zs[j] = y at e2 HS HM
      by_cases hy : y = x
      · have k1 : (y == x) = true := by simp [hy]
        obtain rfl : r = true := by rw [HR.out]; exact decide_eq_true (by rw [← hy]; exact HM.out)
        clear hy
        go_wp2
        go_ret
        exact ⟨rfl, rfl⟩
      · have k1 : (y == x) = false := by simp [hy]
        have HY := Lib.hid hy
        clear hy
        go_wp2
        go_round
        case rel => exact ⟨j + 1, by omega, by go_num, fun h => by rcases HS.out.1 h with h | h; (exact HN.out h); (exact HY.out h.symm)⟩
        case measure => simp [intOf]; omega
    · have hjl : j = zs.length := by omega
      subst hjl
      have hn := HN.out
      rw [List.take_length] at hn
      obtain rfl : r = false := by rw [HR.out]; exact decide_eq_false hn
      clear hn
      go_wp2
      go_ret
      exact ⟨rfl, rfl⟩

end Go.Proofs.Ytapjgjjmlbhanaa

/- Pieces: Has, pieces; shares; Find. -/
namespace Go.Proofs.Ytapjgjjmlbhanaa
open Go.RowKit Go.Lib

theorem below_drewN {B : Nat} {a w : World} (h : Below B a w) (n : Nat) : Below B a (w.drewN n) := ⟨h.os, h.tape, h.output, h.size, h.block⟩

/-- A piece's ID. -/
structure Pc where
  st : ByteArray
  ix : Int
deriving DecidableEq
instance : Inhabited Pc := ⟨⟨ByteArray.empty, 0⟩⟩
def Pc.v (p : Pc) : Value := .agg #[.string p.st, .int .i64 p.ix]

def ReadsP (w : World) (v : Value) (ps : List Pc) : Prop := RowAt w v 2 ps.length fun i j => match j with | 0 => .string (ps.getD i default).st | _ => .int .i64 (ps.getD i default).ix
theorem ReadsP.below {w w' : World} {v : Value} {ps : List Pc} (h : ReadsP w v ps) (hb : Below w.heap.size w w') : ReadsP w' v ps := RowAt.below h hb
theorem ReadsP.at {w : World} {v : Value} {ps : List Pc} (h : ReadsP w v ps) : ∃ ao c b off, v = .slice ao ps.length c ∧ ps.length ≤ c ∧ ps.length ≤ 4611686018427387904 ∧
    ∀ i, i < ps.length → ao = some ⟨b, off, none⟩ ∧ w.cell? ⟨b, off + i * 2, none⟩ = some (.string (ps.getD i default).st) ∧ w.cell? ⟨b, off + i * 2 + 1, none⟩ = some (.int .i64 (ps.getD i default).ix) := by
  obtain ⟨ao, c, b, off, e, h1, h2, h3⟩ := RowAt.at h
  refine ⟨ao, c, b, off, e, h1, h2, fun i hi => ?_⟩
  obtain ⟨h4, h5⟩ := h3 i hi
  exact ⟨h4, h5 0 (by omega), h5 1 (by omega)⟩

theorem ReadsP.take {w : World} {ao : Option Addr} {c n : Nat} {ps : List Pc} (h : ReadsP w (.slice ao n c) ps) (m : Nat) (hm : m ≤ ps.length) : ReadsP w (.slice ao m c) (ps.take m) := by
  have h0 := h
  obtain ⟨ao', c', e, _⟩ := h0
  cases e
  have h1 := RowAt.take h m hm
  unfold ReadsP
  rw [List.length_take, Nat.min_eq_left hm]
  exact h1.congr fun i j hi hj => by rw [getD_take _ _ _ _ hi]

theorem str_eq (a b : ByteArray) : (a.toList == b.toList) = decide (a = b) := by
  rw [Bool.eq_iff_iff]
  simp only [beq_iff_eq, decide_eq_true_eq]
  constructor
  · intro h
    refine WideShapes.bytes_inj ?_
    rw [ByteArray.toList_eq, ByteArray.toList_eq] at h
    exact h
  · rintro rfl; rfl

theorem run_eq_pc (p q : Pc) (w : World) : (binOp .eql 68 p.v q.v).run Try.prog w = .ok (.bool (decide (p = q))) w := by
  have u3 := Try.underlying3
  have a3 := Try.isAgg3
  have z3 := Try.sizeOf3
  have u9 := Try.underlying9
  have a9 := Try.isAgg9
  have z9 := Try.sizeOf9
  have hS : Try.prog.underlying 68 = some (.struct (Try.prog.fieldsOf 68)) := by kernel_rfl
  have hp : Try.prog.stoodInHeld 68 = false := by kernel_rfl
  obtain ⟨s, i⟩ := p
  obtain ⟨t, j⟩ := q
  unfold Pc.v
  rw [run_eql_struct, show (10000 : Nat) = 9999 + 1 from rfl, run_equalIn_agg w 9999 68 _ _ hS hp]
  simp only [Program.fieldsOf, Try.underlying68]
  go_simp
  by_cases h1 : s = t
  · subst h1
    by_cases h2 : i = j <;> simp [h2]
  · have h3 : ¬ s.toList = t.toList := by
      have := str_eq s t
      simp [h1] at this
      exact this
    simp [h1, h3]

set_option maxHeartbeats 1000000 in
theorem has_any (v : Value) (ps : List Pc) (p : Pc) (w : World) (hv : ReadsP w v ps) :
    Calls Try.prog 49 #[v, p.v] w fun e w' => e = .returned (.bool (decide (p ∈ ps))) ∧ Below w.heap.size w w' := by
  obtain ⟨ao, c, b, off, rfl, hl, hm, hcell⟩ := hv.at
  have HC := Lib.hid hcell
  clear hcell hv
  obtain ⟨r, hr⟩ : ∃ r, r = decide (p ∈ ps) := ⟨_, rfl⟩
  rw [← hr]
  have HR := Lib.hid hr
  clear hr
  unfold Pc.v
  go_enter Try.func49, Try.ntmps49
  go_wp2
  go_loopw [5] (fun v5 wr => ∃ j : Nat, j ≤ ps.length ∧ v5 = .int .i64 j ∧ p ∉ ps.take j ∧ Below w.heap.size w wr ∧ wr.heap[w.heap.size]? = some (.cells #[.string p.st, .int .i64 p.ix] 68 (0, 0))) (fun v5 _ => ps.length - (intOf v5).toNat)
  case atStart => exact ⟨0, Nat.zero_le _, rfl, by simp, (Below.refl _ _).alloc (Nat.le_refl _) _, heap_alloc_new _ _⟩
  case round =>
    obtain ⟨j, hj, rfl, hnot, hbel, hblk⟩ := hrel
    have HN := Lib.hid hnot
    clear hnot
    by_cases hlt : j < ps.length
    · obtain ⟨e1, e2, e3⟩ := HC.out j hlt
      subst e1
      have hg := getD_at ps j default hlt
      have hs := mem_take_succ ps p j hlt
      have HS := Lib.hid hs
      rw [hg] at e2 e3
      have hmem : ps[j] ∈ ps := List.getElem_mem hlt
      have HM := Lib.hid hmem
      clear hs hg hmem
      generalize ps[j] = y at e2 e3 HS HM
      rw [← hbel.cell (p := ⟨b, _, none⟩) (cell_lt e2)] at e2
      rw [← hbel.cell (p := ⟨b, _, none⟩) (cell_lt e3)] at e3
      have d1 := cell_of_row wr _ 0 _ _ _ hblk
      have d2 := cell_of_row wr _ 1 _ _ _ hblk
      have hq := fun W => run_eq_pc y p W
      unfold Pc.v at hq
      by_cases hy : y = p
      · rw [decide_eq_true hy] at hq
        obtain rfl : r = true := by rw [HR.out]; exact decide_eq_true (by rw [← hy]; exact HM.out)
        clear hy
        go_wp2
        go_quiet (fail)
        go_wp2
        go_ret
        exact ⟨rfl, below_drewN hbel _⟩
      · rw [decide_eq_false hy] at hq
        have HY := Lib.hid hy
        clear hy
        go_wp2
        go_quiet (fail)
        go_wp2
        go_roundw
        case rel => exact ⟨j + 1, by omega, by go_num, fun h => by (rcases HS.out.1 h with h | h; (exact HN.out h); (exact HY.out h.symm)), below_drewN hbel _, hblk⟩
        case measure => simp [intOf]; omega
    · have hjl : j = ps.length := by omega
      subst hjl
      have hn := HN.out
      rw [List.take_length] at hn
      obtain rfl : r = false := by rw [HR.out]; exact decide_eq_false hn
      clear hn
      go_wp2
      go_ret
      exact ⟨rfl, hbel⟩

end Go.Proofs.Ytapjgjjmlbhanaa

/- The reference's pieces and shares; the program's validShares; Find, Ints. -/
namespace Go.Proofs.Ytapjgjjmlbhanaa
open Go.RowKit Go.Lib

/-- Pieces that are valid and different. -/
def PcsOk (ps : List Pc) : Prop := ps.Nodup ∧ ∀ p ∈ ps, 0 ≤ p.ix ∧ p.ix < 16
instance (ps : List Pc) : Decidable (PcsOk ps) := inferInstanceAs (Decidable (_ ∧ _))

theorem pcsOk_snoc (ps : List Pc) (j : Nat) (h : j < ps.length) : PcsOk (ps.take (j + 1)) ↔ PcsOk (ps.take j) ∧ (0 ≤ ps[j].ix ∧ ps[j].ix < 16) ∧ ps[j] ∉ ps.take j := by
  rw [List.take_succ_eq_append_getElem h]
  unfold PcsOk
  rw [List.nodup_append]
  constructor
  · rintro ⟨⟨h1, _, h3⟩, h4⟩
    exact ⟨⟨h1, fun p hp => h4 p (List.mem_append_left _ hp)⟩, h4 _ (List.mem_append_right _ (List.mem_singleton.2 rfl)), fun hm => h3 _ hm _ (List.mem_singleton.2 rfl) rfl⟩
  · rintro ⟨⟨h1, h2⟩, h3, h4⟩
    refine ⟨⟨h1, by simp, fun a ha b hb e => ?_⟩, fun p hp => ?_⟩
    · simp at hb; subst hb; subst e; exact h4 ha
    · rcases List.mem_append.1 hp with hp | hp
      · exact h2 p hp
      · simp at hp; subst hp; exact h3

theorem pcsOk_take {ps : List Pc} (h : PcsOk ps) (j : Nat) : PcsOk (ps.take j) :=
  ⟨h.1.sublist (List.take_sublist _ _), fun p hp => h.2 p (List.mem_of_mem_take hp)⟩

set_option maxRecDepth 100000 in
set_option maxHeartbeats 1000000 in
theorem pieces_any (v : Value) (ps : List Pc) (w : World) (hv : ReadsP w v ps) :
    Calls Try.prog 46 #[v] w fun e w' => e = .returned (.bool (decide (PcsOk ps))) ∧ Below w.heap.size w w' := by
  obtain ⟨ao, c, b, off, rfl, hl, hm, hcell⟩ := hv.at
  have HV := Lib.hid hv
  have HC := Lib.hid hcell
  clear hcell hv
  obtain ⟨r, hr⟩ : ∃ r, r = decide (PcsOk ps) := ⟨_, rfl⟩
  rw [← hr]
  have HR := Lib.hid hr
  clear hr
  go_enter Try.func46, Try.ntmps46
  go_wp2
  go_loopw [3] (fun v3 wr => ∃ j : Nat, j ≤ ps.length ∧ v3 = .int .i64 j ∧ PcsOk (ps.take j) ∧ Below w.heap.size w wr) (fun v3 _ => ps.length - (intOf v3).toNat)
  case atStart => exact ⟨0, Nat.zero_le _, rfl, by simp [PcsOk], Below.refl _ _⟩
  case round =>
    obtain ⟨j, hj, rfl, hok, hbel⟩ := hrel
    have HN := Lib.hid hok
    clear hok
    by_cases hlt : j < ps.length
    · obtain ⟨e1, e2, e3⟩ := HC.out j hlt
      subst e1
      have hg := getD_at ps j default hlt
      have hs := pcsOk_snoc ps j hlt
      have ht := fun h => pcsOk_take (ps := ps) h (j + 1)
      have HT := Lib.hid ht
      have HS := Lib.hid hs
      rw [hg] at e2 e3
      rw [← hbel.cell (p := ⟨b, _, none⟩) (cell_lt e2)] at e2
      rw [← hbel.cell (p := ⟨b, _, none⟩) (cell_lt e3)] at e3
      have hh := has_any (.slice (some ⟨b, off, none⟩) j c) (ps.take j) ps[j]
      have hrd : ReadsP wr (.slice (some ⟨b, off, none⟩) j c) (ps.take j) :=
        ReadsP.below (ReadsP.take HV.out j hj) hbel
      clear hs hg ht
      generalize ps[j] = y at e2 e3 HS hh
      obtain ⟨s, i⟩ := y
      unfold Pc.v at hh
      have HH := Lib.hid hh
      have HD := Lib.hid hrd
      clear hh hrd
      simp only at e2 e3
      by_cases k1 : i < 0
      · have hr : r = false := by rw [HR.out]; exact decide_eq_false fun h => by (have := HS.out.1 (HT.out h); have := this.2.1.1; simp only at this; omega)
        subst hr
        go_wp2
        go_quiet (fail)
        go_wp2
        go_ret
        exact ⟨rfl, below_drewN hbel _⟩
      · by_cases k2 : i < 16
        · have hjc : j ≤ c := by omega
          have k3 : ¬ 16 ≤ i := by omega
          go_wp2
          go_still_tail 22, (by kernel_rfl)
          change wpList _ _ _ _ _ wr.drew
          have hwd : Below wr.heap.size wr wr.drew := (Below.refl _ _).drew
          generalize wr.drew = w2 at hwd
          by_cases k4 : (⟨s, i⟩ : Pc) ∈ ps.take j
          · have hr : r = false := by rw [HR.out]; exact decide_eq_false fun h => (HS.out.1 (HT.out h)).2.2 k4
            subst hr
            rw [decide_eq_true k4] at HH
            clear k4
            go_wp2_with fail
            refine (HH.out _ (HD.out.below hwd)).mono ?_
            rintro e w3 ⟨rfl, hb3⟩
            have hbb := (hbel.trans (hwd.mono hbel.size)).trans (hb3.mono (Nat.le_trans hbel.size hwd.size))
            go_wp2
            go_ret
            exact ⟨rfl, hbb⟩
          · rw [decide_eq_false k4] at HH
            have H4 := Lib.hid k4
            clear k4
            go_wp2_with fail
            refine (HH.out _ (HD.out.below hwd)).mono ?_
            rintro e w3 ⟨rfl, hb3⟩
            have hbb := (hbel.trans (hwd.mono hbel.size)).trans (hb3.mono (Nat.le_trans hbel.size hwd.size))
            go_wp2
            go_roundw
            case rel => exact ⟨j + 1, by omega, by go_num, HS.out.2 ⟨HN.out, ⟨by show 0 ≤ i; omega, by show i < 16; omega⟩, H4.out⟩, hbb⟩
            case measure => simp [intOf]; omega
        · have hr : r = false := by rw [HR.out]; exact decide_eq_false fun h => by (have := HS.out.1 (HT.out h); have := this.2.1.2; simp only at this; omega)
          subst hr
          have k3 : 16 ≤ i := by omega
          have q1 : decide (i < 0) = false := decide_eq_false k1
          have q2 : decide (16 ≤ i) = true := decide_eq_true k3
          clear HH HD
          go_wp2
          go_quiet (fail)
          go_wp2
          go_ret
          exact ⟨rfl, below_drewN hbel _⟩
    · have hjl : j = ps.length := by omega
      subst hjl
      have hn := HN.out
      rw [List.take_length] at hn
      obtain rfl : r = true := by rw [HR.out]; exact decide_eq_true hn
      clear hn
      go_wp2
      go_ret
      exact ⟨rfl, hbel⟩

end Go.Proofs.Ytapjgjjmlbhanaa

/- Shares: the reference's shares, the program's validShares. -/
namespace Go.Proofs.Ytapjgjjmlbhanaa
open Go.RowKit Go.Lib

/-- One share, valid behind the one before it. -/
def ShAt (zs : List Int) (i : Nat) : Prop := 1 ≤ zs.getD i 0 ∧ zs.getD i 0 ≤ 255 ∧ (0 < i → zs.getD (i - 1) 0 < zs.getD i 0)
instance (zs : List Int) (i : Nat) : Decidable (ShAt zs i) := inferInstanceAs (Decidable (_ ∧ _))
/-- Shares that ascend from 1 to 255. -/
def ShOk (zs : List Int) : Prop := ∀ i, i < zs.length → ShAt zs i
instance (zs : List Int) : Decidable (ShOk zs) := inferInstanceAs (Decidable (∀ i, i < zs.length → ShAt zs i))

set_option maxRecDepth 100000 in
set_option maxHeartbeats 1000000 in
theorem shares_any (v : Value) (zs : List Int) (w : World) (hv : ReadsI w v zs) :
    Calls Try.prog 47 #[v] w fun e w' => e = .returned (.bool (decide (ShOk zs))) ∧ ∃ q, w' = w.drewN q := by
  obtain ⟨ao, c, b, off, rfl, hl, hm, hcell⟩ := hv.at
  have HC := Lib.hid hcell
  clear hcell hv
  obtain ⟨r, hr⟩ : ∃ r, r = decide (ShOk zs) := ⟨_, rfl⟩
  rw [← hr]
  have HR := Lib.hid hr
  clear hr
  go_enter Try.func47, Try.ntmps47
  go_wp2
  go_loopw [3] (fun v3 wr => ∃ j q : Nat, j ≤ zs.length ∧ v3 = .int .i64 j ∧ (∀ i, i < j → ShAt zs i) ∧ wr = w.drewN q) (fun v3 _ => zs.length - (intOf v3).toNat)
  case atStart => exact ⟨0, 0, Nat.zero_le _, rfl, fun i hi => by omega, rfl⟩
  case round =>
    obtain ⟨j, q, hj, rfl, hok, rfl⟩ := hrel
    have HN := Lib.hid hok
    clear hok
    by_cases hlt : j < zs.length
    · obtain ⟨e1, e2⟩ := HC.out j hlt
      subst e1
      have ha : ShAt zs j ↔ (1 ≤ zs.getD j 0 ∧ zs.getD j 0 ≤ 255 ∧ (0 < j → zs.getD (j - 1) 0 < zs.getD j 0)) := Iff.rfl
      have hno : ¬ ShAt zs j → r = false := fun h => by rw [HR.out]; exact decide_eq_false fun hh => h (hh j hlt)
      have hyes : ShAt zs j → ∀ i, i < j + 1 → ShAt zs i := fun h i hi => by
        by_cases e : i = j
        · subst e; exact h
        · exact HN.out i (by omega)
      have HNO := Lib.hid hno
      have HY := Lib.hid hyes
      clear hno hyes
      match j, hlt, hj, e2, ha, HN, HNO, HY with
      | 0, hlt, hj, e2, ha, HN, HNO, HY =>
        simp only [Nat.add_zero] at e2
        have HA := Lib.hid ha
        clear ha
        generalize zs.getD 0 0 = y at e2 HA
        simp only [Int.ofNat_zero]
        by_cases k1 : y < 1
        · have hr := HNO.out fun h => by (have := HA.out.1 h; omega)
          subst hr
          go_wp2
          go_quiet (fail)
          go_wp2
          go_ret
          exact ⟨rfl, _, World.drewN_drewN ..⟩
        · by_cases k2 : 255 < y
          · have hr := HNO.out fun h => by (have := HA.out.1 h; omega)
            subst hr
            have q1 : decide (y < 1) = false := decide_eq_false k1
            have q2 : decide (255 < y) = true := decide_eq_true k2
            go_wp2
            go_quiet (fail)
            go_wp2
            go_ret
            exact ⟨rfl, _, World.drewN_drewN ..⟩
          · have hy := HY.out (HA.out.2 ⟨by omega, by omega, fun h => by omega⟩)
            have HYY := Lib.hid hy
            clear hy
            have q1 : decide (y < 1) = false := decide_eq_false k1
            have q2 : decide (255 < y) = false := decide_eq_false k2
            go_wp2
            go_quiet (fail)
            go_wp2
            go_roundw
            case rel => exact ⟨1, _, by omega, by go_num, HYY.out, rfl⟩
            case measure => simp [intOf]; omega
      | m + 1, hlt, hj, e2, ha, HN, HNO, HY =>
        obtain ⟨_, e3⟩ := HC.out m (by omega)
        simp only [Nat.add_sub_cancel] at ha
        have HA := Lib.hid ha
        clear ha
        generalize zs.getD (m + 1) 0 = y at e2 HA
        generalize zs.getD m 0 = x at e3 HA
        simp only [Int.natCast_add, Int.natCast_one]
        have hm1 : m + 1 < zs.length := hlt
        have hm0 : m < zs.length := by omega
        by_cases k1 : y < 1
        · have hr := HNO.out fun h => by (have := HA.out.1 h; omega)
          subst hr
          go_wp2
          go_quiet (fail)
          go_wp2
          go_ret
          exact ⟨rfl, _, World.drewN_drewN ..⟩
        · by_cases k2 : 255 < y
          · have hr := HNO.out fun h => by (have := HA.out.1 h; omega)
            subst hr
            have q1 : decide (y < 1) = false := decide_eq_false k1
            have q2 : decide (255 < y) = true := decide_eq_true k2
            go_wp2
            go_quiet (fail)
            go_wp2
            go_ret
            exact ⟨rfl, _, World.drewN_drewN ..⟩
          · have q1 : decide (y < 1) = false := decide_eq_false k1
            have q2 : decide (255 < y) = false := decide_eq_false k2
            by_cases k3 : y ≤ x
            · have hr := HNO.out fun h => by (have := (HA.out.1 h).2.2 (by omega); omega)
              subst hr
              have q3 : decide (y ≤ x) = true := decide_eq_true k3
              go_wp2
              go_quiet (fail)
              go_wp2
              go_ret
              exact ⟨rfl, _, World.drewN_drewN ..⟩
            · have q3 : decide (y ≤ x) = false := decide_eq_false k3
              have hy := HY.out (HA.out.2 ⟨by omega, by omega, fun h => by omega⟩)
              have HYY := Lib.hid hy
              clear hy
              go_wp2
              go_quiet (fail)
              go_wp2
              go_roundw
              case rel => exact ⟨m + 1 + 1, _, by omega, by go_num, HYY.out, rfl⟩
              case measure => simp [intOf]; omega
    · have hjl : j = zs.length := by omega
      subst hjl
      obtain rfl : r = true := by rw [HR.out]; exact decide_eq_true HN.out
      go_wp2
      go_ret
      exact ⟨rfl, _, rfl⟩

set_option maxRecDepth 100000 in
set_option maxHeartbeats 1000000 in
theorem validShares_any (v : Value) (zs : List Int) (w : World) (hv : ReadsI w v zs) :
    Calls Try.prog 64 #[v] w fun e w' => e = .returned (.bool (decide (ShOk zs))) ∧ w = w' := by
  obtain ⟨ao, c, b, off, rfl, hl, hm, hcell⟩ := hv.at
  have HC := Lib.hid hcell
  clear hcell hv
  obtain ⟨r, hr⟩ : ∃ r, r = decide (ShOk zs) := ⟨_, rfl⟩
  rw [← hr]
  have HR := Lib.hid hr
  clear hr
  go_enter Try.func64, Try.ntmps64
  go_wp2
  go_loop [7] (fun v3 => ∃ j : Nat, j ≤ zs.length ∧ v3 = .int .i64 j ∧ (∀ i, i < j → ShAt zs i)) (fun v3 => zs.length - (intOf v3).toNat)
  case atStart => exact ⟨0, Nat.zero_le _, rfl, fun i hi => by omega⟩
  case round =>
    obtain ⟨j, hj, rfl, hok⟩ := hrel
    have HN := Lib.hid hok
    clear hok
    by_cases hlt : j < zs.length
    · obtain ⟨e1, e2⟩ := HC.out j hlt
      subst e1
      have ha : ShAt zs j ↔ (1 ≤ zs.getD j 0 ∧ zs.getD j 0 ≤ 255 ∧ (0 < j → zs.getD (j - 1) 0 < zs.getD j 0)) := Iff.rfl
      have hno : ¬ ShAt zs j → r = false := fun h => by rw [HR.out]; exact decide_eq_false fun hh => h (hh j hlt)
      have hyes : ShAt zs j → ∀ i, i < j + 1 → ShAt zs i := fun h i hi => by
        by_cases e : i = j
        · subst e; exact h
        · exact HN.out i (by omega)
      have HNO := Lib.hid hno
      have HY := Lib.hid hyes
      clear hno hyes
      match j, hlt, hj, e2, ha, HN, HNO, HY with
      | 0, hlt, hj, e2, ha, HN, HNO, HY =>
        simp only [Nat.add_zero] at e2
        have HA := Lib.hid ha
        clear ha
        generalize zs.getD 0 0 = y at e2 HA
        simp only [Int.ofNat_zero]
        by_cases k1 : y < 1
        · have hr := HNO.out fun h => by (have := HA.out.1 h; omega)
          subst hr
          go_wp2
          go_ret
          exact ⟨rfl, rfl⟩
        · by_cases k2 : 255 < y
          · have hr := HNO.out fun h => by (have := HA.out.1 h; omega)
            subst hr
            have q1 : decide (y < 1) = false := decide_eq_false k1
            have q2 : decide (255 < y) = true := decide_eq_true k2
            go_wp2
            go_ret
            exact ⟨rfl, rfl⟩
          · have hy := HY.out (HA.out.2 ⟨by omega, by omega, fun h => by omega⟩)
            have HYY := Lib.hid hy
            clear hy
            have q1 : decide (y < 1) = false := decide_eq_false k1
            have q2 : decide (255 < y) = false := decide_eq_false k2
            go_wp2
            go_round
            case rel => exact ⟨1, by omega, by go_num, HYY.out⟩
            case measure => simp [intOf]; omega
      | m + 1, hlt, hj, e2, ha, HN, HNO, HY =>
        obtain ⟨_, e3⟩ := HC.out m (by omega)
        simp only [Nat.add_sub_cancel] at ha
        have HA := Lib.hid ha
        clear ha
        generalize zs.getD (m + 1) 0 = y at e2 HA
        generalize zs.getD m 0 = x at e3 HA
        simp only [Int.natCast_add, Int.natCast_one]
        have hm1 : m + 1 < zs.length := hlt
        have hm0 : m < zs.length := by omega
        by_cases k1 : y < 1
        · have hr := HNO.out fun h => by (have := HA.out.1 h; omega)
          subst hr
          go_wp2
          go_ret
          exact ⟨rfl, rfl⟩
        · by_cases k2 : 255 < y
          · have hr := HNO.out fun h => by (have := HA.out.1 h; omega)
            subst hr
            have q1 : decide (y < 1) = false := decide_eq_false k1
            have q2 : decide (255 < y) = true := decide_eq_true k2
            go_wp2
            go_ret
            exact ⟨rfl, rfl⟩
          · have q1 : decide (y < 1) = false := decide_eq_false k1
            have q2 : decide (255 < y) = false := decide_eq_false k2
            by_cases k3 : y ≤ x
            · have hr := HNO.out fun h => by (have := (HA.out.1 h).2.2 (by omega); omega)
              subst hr
              have q3 : decide (y ≤ x) = true := decide_eq_true k3
              go_wp2
              go_ret
              exact ⟨rfl, rfl⟩
            · have q3 : decide (y ≤ x) = false := decide_eq_false k3
              have hy := HY.out (HA.out.2 ⟨by omega, by omega, fun h => by omega⟩)
              have HYY := Lib.hid hy
              clear hy
              go_wp2
              go_round
              case rel => exact ⟨m + 1 + 1, by omega, by go_num, HYY.out⟩
              case measure => simp [intOf]; omega
    · have hjl : j = zs.length := by omega
      subst hjl
      obtain rfl : r = true := by rw [HR.out]; exact decide_eq_true HN.out
      go_wp2
      go_ret
      exact ⟨rfl, rfl⟩

end Go.Proofs.Ytapjgjjmlbhanaa
