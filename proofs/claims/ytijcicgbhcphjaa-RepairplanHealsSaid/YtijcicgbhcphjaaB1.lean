/- counts, validHeld. -/
import Derived.Test.YtijcicgbhcphjaaA1
import Derived.Lib.SliceRun
namespace Go.Proofs.Ytijcicgbhcphjaa
open Go.RowKit Go.Lib Go.ChangeMaps

theorem cntOk_snoc (zs : List Int) (j : Nat) (h : j < zs.length) : CntOk (zs.take (j + 1)) ↔ CntOk (zs.take j) ∧ (0 ≤ zs[j] ∧ zs[j] ≤ 1099511627776) := by
  unfold CntOk
  rw [List.take_succ_eq_append_getElem h]
  constructor
  · exact fun hh => ⟨fun x hx => hh x (List.mem_append_left _ hx), hh _ (List.mem_append_right _ (List.mem_singleton.2 rfl))⟩
  · rintro ⟨h1, h2⟩ x hx
    rcases List.mem_append.1 hx with hx | hx
    · exact h1 x hx
    · simp at hx; subst hx; exact h2
theorem cntOk_take {zs : List Int} (h : CntOk zs) (j : Nat) : CntOk (zs.take j) := fun x hx => h x (List.mem_of_mem_take hx)

set_option maxRecDepth 100000 in
set_option maxHeartbeats 1000000 in
theorem counts_any (v : Value) (zs : List Int) (n : Nat) (w : World) (hv : ReadsI w v zs) :
    Calls Try.prog 36 #[v, .int .i64 n] w fun e w' => e = .returned (.bool (decide (zs.length = n ∧ CntOk zs))) ∧ w = w' := by
  obtain ⟨ao, c, b, off, rfl, hl, hm, hcell⟩ := hv.at
  have HC := Lib.hid hcell
  clear hcell hv
  obtain ⟨r, hr⟩ : ∃ r, r = decide (zs.length = n ∧ CntOk zs) := ⟨_, rfl⟩
  rw [← hr]
  have HR := Lib.hid hr
  clear hr
  go_enter Try.func36, Try.ntmps36
  by_cases hn : (zs.length : Int) = n
  · have HN := Lib.hid hn
    have k0 : ((zs.length : Int) == n) = true := by simp [hn]
    clear hn
    go_wp2
    go_loop [13] (fun v13 => ∃ j : Nat, j ≤ zs.length ∧ v13 = .int .i64 j ∧ CntOk (zs.take j)) (fun v5 => zs.length - (intOf v5).toNat)
    case atStart => exact ⟨0, Nat.zero_le _, rfl, by simp [CntOk]⟩
    case round =>
      obtain ⟨j, hj, rfl, hok⟩ := hrel
      have HK := Lib.hid hok
      clear hok
      by_cases hlt : j < zs.length
      · obtain ⟨e1, e2⟩ := HC.out j hlt
        subst e1
        have hg := getD_at zs j 0 hlt
        have hs := cntOk_snoc zs j hlt
        have HS := Lib.hid hs
        have ht := fun h => cntOk_take (zs := zs) h (j + 1)
        have HT := Lib.hid ht
        rw [hg] at e2
        clear hs hg ht
        generalize zs[j] = y at e2 HS
        by_cases k1 : y < 0
        · obtain rfl : r = false := by rw [HR.out]; exact decide_eq_false fun h => by (have := (HS.out.1 (HT.out h.2)).2; omega)
          go_wp2
          go_ret
          exact ⟨rfl, rfl⟩
        · by_cases k2 : 1099511627776 < y
          · obtain rfl : r = false := by rw [HR.out]; exact decide_eq_false fun h => by (have := (HS.out.1 (HT.out h.2)).2; omega)
            have q1 : decide (y < 0) = false := decide_eq_false k1
            have q2 : decide (1099511627776 < y) = true := decide_eq_true k2
            go_wp2
            go_ret
            exact ⟨rfl, rfl⟩
          · have hy := HS.out.2 ⟨HK.out, by omega, by omega⟩
            have HY := Lib.hid hy
            clear hy
            have q1 : decide (y < 0) = false := decide_eq_false k1
            have q2 : decide (1099511627776 < y) = false := decide_eq_false k2
            go_wp2
            go_round
            case rel => exact ⟨j + 1, by omega, by go_num, HY.out⟩
            case measure => simp [intOf]; omega
      · have hjl : j = zs.length := by omega
        subst hjl
        obtain rfl : r = true := by
          rw [HR.out]
          have := HK.out
          rw [List.take_length] at this
          exact decide_eq_true ⟨by have := HN.out; omega, this⟩
        go_wp2
        go_ret
        exact ⟨rfl, rfl⟩
  · obtain rfl : r = false := by rw [HR.out]; exact decide_eq_false fun h => hn (by rw [h.1])
    have k0 : ((zs.length : Int) == n) = false := by simpa using hn
    clear hn
    go_wp2
    go_ret
    exact ⟨rfl, rfl⟩

/-- The array of devices seen. -/
def seenC (zs : List Int) : Array Value := ((List.range 12).map fun i : Nat => Value.bool (decide ((i : Int) ∈ zs))).toArray
theorem seenC_size (zs : List Int) : (seenC zs).size = 12 := by simp [seenC]
theorem seenC_at (zs : List Int) (i : Nat) (h : i < 12) : (seenC zs)[i]? = some (.bool (decide ((i : Int) ∈ zs))) := by simp [seenC, h]
theorem seenC_set (zs : List Int) (d : Nat) : (seenC zs).setIfInBounds d (.bool true) = seenC (zs ++ [(d : Int)]) := by
  apply Array.ext_getElem?
  intro i
  rw [Array.getElem?_setIfInBounds]
  by_cases hi : i < 12
  · rw [seenC_at _ _ hi, seenC_at _ _ hi]
    by_cases e : d = i
    · subst e; simp [seenC_size, hi]
    · have : ¬ ((i : Int) = d) := by omega
      simp [e, this]
  · rw [Array.getElem?_eq_none (by rw [seenC_size]; omega), Array.getElem?_eq_none (xs := seenC _) (by rw [seenC_size]; omega)]
    split <;> simp_all [seenC_size]
theorem seenC_neg (zs : List Int) (y : Int) (h : y < 0) : seenC (zs ++ [y]) = seenC zs := by
  unfold seenC
  congr 1
  apply List.map_congr_left
  intro i _
  have : ¬ ((i : Int) = y) := by omega
  simp [this]

def Hp.v (h : Hp) (rv av : Value) : Value := .agg #[.string h.id, .int .i64 h.vault, .int .i64 h.block, .int .i64 h.data, .int .i64 h.total, rv, av]

set_option maxRecDepth 100000 in
set_option maxHeartbeats 2000000 in
theorem validHeld_any (h : Hp) (rv av : Value) (n : Nat) (w : World) (hv : ReadsI w av h.at_) (hr1 : ∃ a n c, rv = .slice a n c) (hn12 : n ≤ 12) :
    Calls Try.prog 37 #[h.v rv av, .int .i64 n] w fun e w' => e = .returned (.bool (decide (HpOk n h))) ∧ Below w.heap.size w w' := by
  obtain ⟨ao, c, b, off, rfl, hl, hm, hcell⟩ := hv.at
  have HC := Lib.hid hcell
  clear hcell hv
  obtain ⟨r, hr⟩ : ∃ r, r = decide (HpOk n h) := ⟨_, rfl⟩
  rw [← hr]
  have HR := Lib.hid hr
  clear hr
  obtain ⟨id, vault, block, data, total, refs, zs⟩ := h
  obtain ⟨ra, rn, rc, rfl⟩ := hr1
  unfold Hp.v
  simp only at hl hm HC ⊢
  have HD := Lib.hid (show HpOk n ⟨id, vault, block, data, total, refs, zs⟩ ↔ (id.size = 32 ∧ (1 ≤ data ∧ data ≤ 8) ∧ (data ≤ total ∧ total ≤ 16) ∧ (1 ≤ block ∧ block ≤ 65536) ∧ (zs.length : Int) = total ∧ AtOk n zs) from Iff.rfl)
  have hno : ¬ (id.size = 32 ∧ (1 ≤ data ∧ data ≤ 8) ∧ (data ≤ total ∧ total ≤ 16) ∧ (1 ≤ block ∧ block ≤ 65536) ∧ (zs.length : Int) = total ∧ AtOk n zs) → r = false := fun h => by rw [HR.out]; exact decide_eq_false fun hh => h (HD.out.1 hh)
  have HNO := Lib.hid hno
  clear hno
  go_enter Try.func37, Try.ntmps37
  by_cases a0 : id.size = 32
  rotate_left
  · obtain rfl := HNO.out fun h => a0 h.1
    have q0 : ((id.size : Int) != 32) = true := by simp; omega
    clear a0
    go_wp2
    go_ret
    exact ⟨rfl, by (repeat' (first | (with_reducible exact Below.refl _ _) | (with_reducible assumption) | (with_reducible refine Below.alloc ?_ ?_ _) | (with_reducible refine Below.drew ?_) | (with_reducible refine below_drewN ?_ _) | (with_reducible refine Below.setCell ?_ ?_ _) | (with_reducible refine below_step ?_ (by with_reducible assumption) ?_) | go_size))⟩
  have q0 : ((id.size : Int) != 32) = false := by simp; omega
  rcases Decidable.em (1 ≤ data ∧ data ≤ 8) with a1 | a1
  rotate_left
  · obtain rfl := HNO.out fun h => a1 h.2.1
    by_cases b1 : data < 1
    · have q1 : decide (data < 1) = true := decide_eq_true b1
      clear a1
      go_wp2
      go_ret
      exact ⟨rfl, by (repeat' (first | (with_reducible exact Below.refl _ _) | (with_reducible assumption) | (with_reducible refine Below.alloc ?_ ?_ _) | (with_reducible refine Below.drew ?_) | (with_reducible refine below_drewN ?_ _) | (with_reducible refine Below.setCell ?_ ?_ _) | (with_reducible refine below_step ?_ (by with_reducible assumption) ?_) | go_size))⟩
    · have q1 : decide (data < 1) = false := decide_eq_false b1
      have q2 : decide (8 < data) = true := decide_eq_true (by omega)
      clear a1
      go_wp2
      go_ret
      exact ⟨rfl, by (repeat' (first | (with_reducible exact Below.refl _ _) | (with_reducible assumption) | (with_reducible refine Below.alloc ?_ ?_ _) | (with_reducible refine Below.drew ?_) | (with_reducible refine below_drewN ?_ _) | (with_reducible refine Below.setCell ?_ ?_ _) | (with_reducible refine below_step ?_ (by with_reducible assumption) ?_) | go_size))⟩
  have q1 : decide (data < 1) = false := decide_eq_false (by omega)
  have q2 : decide (8 < data) = false := decide_eq_false (by omega)
  rcases Decidable.em (data ≤ total ∧ total ≤ 16) with a2 | a2
  rotate_left
  · obtain rfl := HNO.out fun h => a2 h.2.2.1
    by_cases b1 : total < data
    · have q3 : decide (total < data) = true := decide_eq_true b1
      clear a2
      go_wp2
      go_ret
      exact ⟨rfl, by (repeat' (first | (with_reducible exact Below.refl _ _) | (with_reducible assumption) | (with_reducible refine Below.alloc ?_ ?_ _) | (with_reducible refine Below.drew ?_) | (with_reducible refine below_drewN ?_ _) | (with_reducible refine Below.setCell ?_ ?_ _) | (with_reducible refine below_step ?_ (by with_reducible assumption) ?_) | go_size))⟩
    · have q3 : decide (total < data) = false := decide_eq_false b1
      have q4 : decide (16 < total) = true := decide_eq_true (by omega)
      clear a2
      go_wp2
      go_ret
      exact ⟨rfl, by (repeat' (first | (with_reducible exact Below.refl _ _) | (with_reducible assumption) | (with_reducible refine Below.alloc ?_ ?_ _) | (with_reducible refine Below.drew ?_) | (with_reducible refine below_drewN ?_ _) | (with_reducible refine Below.setCell ?_ ?_ _) | (with_reducible refine below_step ?_ (by with_reducible assumption) ?_) | go_size))⟩
  have q3 : decide (total < data) = false := decide_eq_false (by omega)
  have q4 : decide (16 < total) = false := decide_eq_false (by omega)
  rcases Decidable.em (1 ≤ block ∧ block ≤ 65536) with a3 | a3
  rotate_left
  · obtain rfl := HNO.out fun h => a3 h.2.2.2.1
    by_cases b1 : block < 1
    · have q5 : decide (block < 1) = true := decide_eq_true b1
      clear a3
      go_wp2
      go_ret
      exact ⟨rfl, by (repeat' (first | (with_reducible exact Below.refl _ _) | (with_reducible assumption) | (with_reducible refine Below.alloc ?_ ?_ _) | (with_reducible refine Below.drew ?_) | (with_reducible refine below_drewN ?_ _) | (with_reducible refine Below.setCell ?_ ?_ _) | (with_reducible refine below_step ?_ (by with_reducible assumption) ?_) | go_size))⟩
    · have q5 : decide (block < 1) = false := decide_eq_false b1
      have q6 : decide (65536 < block) = true := decide_eq_true (by omega)
      clear a3
      go_wp2
      go_ret
      exact ⟨rfl, by (repeat' (first | (with_reducible exact Below.refl _ _) | (with_reducible assumption) | (with_reducible refine Below.alloc ?_ ?_ _) | (with_reducible refine Below.drew ?_) | (with_reducible refine below_drewN ?_ _) | (with_reducible refine Below.setCell ?_ ?_ _) | (with_reducible refine below_step ?_ (by with_reducible assumption) ?_) | go_size))⟩
  have q5 : decide (block < 1) = false := decide_eq_false (by omega)
  have q6 : decide (65536 < block) = false := decide_eq_false (by omega)
  by_cases a4 : (zs.length : Int) = total
  rotate_left
  · obtain rfl := HNO.out fun h => a4 h.2.2.2.2.1
    have q7 : ((zs.length : Int) != total) = true := by simpa using a4
    clear a4
    go_wp2
    go_ret
    exact ⟨rfl, by (repeat' (first | (with_reducible exact Below.refl _ _) | (with_reducible assumption) | (with_reducible refine Below.alloc ?_ ?_ _) | (with_reducible refine Below.drew ?_) | (with_reducible refine below_drewN ?_ _) | (with_reducible refine Below.setCell ?_ ?_ _) | (with_reducible refine below_step ?_ (by with_reducible assumption) ?_) | go_size))⟩
  have q7 : ((zs.length : Int) != total) = false := by simpa using a4
  have hyes : AtOk n zs → r = true := fun h => by rw [HR.out]; exact decide_eq_true (HD.out.2 ⟨a0, a1, a2, a3, a4, h⟩)
  have hno : ¬ AtOk n zs → r = false := fun h => HNO.out fun hh => h hh.2.2.2.2.2
  have HY := Lib.hid hyes
  have HN := Lib.hid hno
  have hl16 : zs.length ≤ 16 := by omega
  clear hyes hno HNO HD HR a1 a2 a3 a4
  clear a0
  have hz0 : seenC [] = #[.bool false, .bool false, .bool false, .bool false, .bool false, .bool false, .bool false, .bool false, .bool false, .bool false, .bool false, .bool false] := by kernel_rfl
  have HZ0 := Lib.hid hz0
  clear hz0
  go_wp2
  clear q0 q1 q2 q3 q4 q5 q6 q7
  generalize hW : (((w.alloc _).alloc _).alloc _) = W
  have hb0 : Below w.heap.size w W := by subst hW; (repeat' (first | (with_reducible exact Below.refl _ _) | (with_reducible assumption) | (with_reducible refine Below.alloc ?_ ?_ _) | (with_reducible refine Below.drew ?_) | (with_reducible refine below_drewN ?_ _) | (with_reducible refine Below.setCell ?_ ?_ _) | (with_reducible refine below_step ?_ (by with_reducible assumption) ?_) | go_size))
  have hblk0 : W.heap[w.heap.size + 2]? = some (.cells (seenC []) 124 (0, 0)) := by
    subst hW; rw [HZ0.out]; show (Array.push _ _)[_]? = _; rw [Array.getElem?_push, if_pos (by simp)]
  clear hW HZ0
  go_loopw [56] (fun v56 wr => ∃ j : Nat, j ≤ zs.length ∧ v56 = .int .i64 j ∧ AtOk n (zs.take j) ∧ Below w.heap.size w wr ∧ wr.heap[w.heap.size + 2]? = some (.cells (seenC (zs.take j)) 124 (0, 0))) (fun v56 _ => zs.length - (intOf v56).toNat)
  case atStart => exact ⟨0, Nat.zero_le _, rfl, by simp [AtOk], hb0, hblk0⟩
  case round =>
    obtain ⟨j, hj, rfl, hok, hbel, hblk⟩ := hrel
    have HK := Lib.hid hok
    clear hok hb0 hblk0
    by_cases hlt : j < zs.length
    · obtain ⟨e1, e2⟩ := HC.out j hlt
      subst e1
      have hg := getD_at zs j 0 hlt
      have hs := atOk_snoc n zs j hlt
      have hse : seenC (zs.take (j + 1)) = seenC (zs.take j ++ [zs[j]]) := by rw [List.take_succ_eq_append_getElem hlt]
      have ht := fun h => atOk_take (n := n) (zs := zs) h (j + 1)
      rw [hg] at e2
      rw [← hbel.cell (p := ⟨b, _, none⟩) (cell_lt e2)] at e2
      have HS := Lib.hid hs
      have HT := Lib.hid ht
      have HSE := Lib.hid hse
      clear hg hs hse ht
      generalize zs[j] = y at e2 HS HSE
      by_cases k0 : y = -1
      · subst k0
        have h1 := HS.out.2 ⟨HK.out, .inl rfl⟩
        have H1 := Lib.hid h1
        have h2 := HSE.out.trans (seenC_neg _ _ (by omega))
        have H2 := Lib.hid h2
        clear h1 h2
        go_wp2
        go_roundw
        case rel => exact ⟨j + 1, by omega, by go_num, H1.out, hbel, by rw [H2.out]; exact hblk⟩
        case measure => simp [intOf]; omega
      · by_cases k1 : 0 ≤ y ∧ y < n
        · obtain ⟨d, rfl⟩ : ∃ d : Nat, y = d := ⟨y.toNat, by omega⟩
          have hd : d < 12 := by omega
          have c1 := cell_of_row wr _ d _ _ _ hblk
          rw [seenC_at _ _ hd] at c1
          have fz := frozen_of_row wr _ d _ _ hblk
          have q1 : decide ((d : Int) < 0) = false := decide_eq_false (by omega)
          have q2 : decide ((n : Int) ≤ d) = false := decide_eq_false (by omega)
          have q3 : ((d : Int) == -1) = false := by simp
          by_cases k2 : (d : Int) ∈ zs.take j
          · obtain rfl := HN.out fun h => by
              rcases (HS.out.1 (HT.out h)).2 with h | h
              · omega
              · exact h.2 k2
            rw [decide_eq_true k2] at c1
            clear k2
            go_wp2
            go_ret
            exact ⟨rfl, hbel⟩
          · have h1 := HS.out.2 ⟨HK.out, .inr ⟨k1, k2⟩⟩
            have H1 := Lib.hid h1
            have h2 := setCell_block (i := d) hblk (.bool true)
            rw [seenC_set, ← HSE.out] at h2
            have H2 := Lib.hid h2
            rw [decide_eq_false k2] at c1
            clear k2 h1 h2
            go_wp2
            go_roundw
            case rel => exact ⟨j + 1, by omega, by go_num, H1.out, by (repeat' (first | (with_reducible exact Below.refl _ _) | (with_reducible assumption) | (with_reducible refine Below.alloc ?_ ?_ _) | (with_reducible refine Below.drew ?_) | (with_reducible refine below_drewN ?_ _) | (with_reducible refine Below.setCell ?_ ?_ _) | (with_reducible refine below_step ?_ (by with_reducible assumption) ?_) | go_size)), H2.out⟩
            case measure => simp [intOf]; omega
        · obtain rfl := HN.out fun h => by
            rcases (HS.out.1 (HT.out h)).2 with h | h
            · exact k0 h
            · exact k1 h.1
          by_cases k2 : y < 0
          · have q1 : decide (y < 0) = true := decide_eq_true k2
            clear k1
            go_wp2
            go_ret
            exact ⟨rfl, hbel⟩
          · have q1 : decide (y < 0) = false := decide_eq_false k2
            have q2 : decide ((n : Int) ≤ y) = true := decide_eq_true (by omega)
            clear k1
            go_wp2
            go_ret
            exact ⟨rfl, hbel⟩
    · have hjl : j = zs.length := by omega
      subst hjl
      obtain rfl := HY.out (by have := HK.out; rw [List.take_length] at this; exact this)
      go_wp2
      go_ret
      exact ⟨rfl, hbel⟩
end Go.Proofs.Ytijcicgbhcphjaa

/- Valid. -/
namespace Go.Proofs.Ytijcicgbhcphjaa
open Go.RowKit Go.Lib Go.ChangeMaps

theorem key_str : KeyOk (fun s : ByteArray => Value.string s) 9 .string := by
  refine ⟨Try.underlying9, fun em a w => by kernel_rfl, .inl fun a b => ?_⟩
  simp only [Instr.sameNow]
  exact congrArg some (by rw [Bool.eq_iff_iff, MapKept.bytes_beq]; simp)

theorem KeyOk.lookup0 {α : Type} [DecidableEq α] {enc : α → Value} {tk : TypeId} {kind : TypeDesc} (K : KeyOk enc tk kind) {tm te : TypeId} (hm : Try.prog.underlying tm = some (.map tk te)) {z : Value} (hz : ∀ w, (zeroValue te).run Try.prog w = .ok z w) {w : World} {r : Nat} {L : List (α × Value)} (hb : w.heap[r]? = some (mapObj enc L)) (a : α) :
    (Instr.lookup tm (.map (some r)) (enc a) false).run Try.prog w = .ok (match seekL a L 0 with | some p => p.2 | none => z) w := by
  unfold mapObj at hb
  simp [Instr.lookup, run_underlying hm, MapKept.run_getObj_map hb, K.chk, K.find, Result.andThen]
  cases seekL a L 0 <;> simp [hz]

instance decMemB (s : ByteArray) : (ss : List ByteArray) → Decidable (s ∈ ss)
  | [] => isFalse (by simp)
  | x :: r => match decEq s x, decMemB s r with
    | isTrue h, _ => isTrue (by simp [h])
    | isFalse _, isTrue h => isTrue (by simp [h])
    | isFalse h1, isFalse h2 => isFalse (by simp [h1, h2])
/-- A set of strings. -/
def setOf (ss : List ByteArray) : List (ByteArray × Value) := ss.map fun s => (s, .bool true)
theorem setOf_keys (ss : List ByteArray) : (setOf ss).map (·.1) = ss := by
  induction ss with
  | nil => rfl
  | cons x r ih => simp only [setOf, List.map_cons] at ih ⊢; rw [ih]
theorem look_set (s : ByteArray) : ∀ (ss : List ByteArray) (i : Nat), (match seekL s (setOf ss) i with | some p => p.2 | none => Value.bool false) = .bool (decide (s ∈ ss))
  | [], _ => by simp [setOf, seekL]
  | x :: r, i => by
    have := look_set s r (i + 1)
    by_cases h : s = x
    · subst h; simp [setOf, seekL]
    · simp only [setOf, List.map_cons, seekL, h, if_false] at this ⊢
      rw [this]
      simp [h]

theorem msOk_snoc (ms : List Mem) (j : Nat) : (∀ i, i < j + 1 → (ms.getD i default).dev = i) ↔ (∀ i, i < j → (ms.getD i default).dev = i) ∧ (ms.getD j default).dev = j := by
  constructor
  · exact fun h => ⟨fun i hi => h i (by omega), h j (by omega)⟩
  · rintro ⟨h1, h2⟩ i hi
    by_cases e : i = j
    · subst e; exact h2
    · exact h1 i (by omega)

set_option maxRecDepth 100000 in
set_option maxHeartbeats 4000000 in
theorem valid_any (v : Value) (V : Vp) (w : World) (hv : VwAt w v V) :
    Calls Try.prog 14 #[v] w fun e w' => e = .returned (.bool (decide (VOk V))) ∧ Below w.heap.size w w' := by
  obtain ⟨mv, hv, rv, wv, rfl, hM, hH, hR, hW⟩ := hv
  obtain ⟨ma, mc, mb, mo, rfl, ml, mm, mcell⟩ := hM.at
  obtain ⟨ha, hc, hb, ho, rfl, hl, hm, hcell⟩ := hH.at
  have HR0 := Lib.hid hR
  have HW0 := Lib.hid hW
  obtain ⟨ra, rc, _, _, rfl, -⟩ := hR.at
  obtain ⟨wa, wc, _, _, rfl, -⟩ := hW.at
  have MC := Lib.hid mcell
  have HC := Lib.hid hcell
  clear mcell hcell hM hH hR hW
  obtain ⟨r, hr⟩ : ∃ r, r = decide (VOk V) := ⟨_, rfl⟩
  rw [← hr]
  have hno : ¬ VOk V → r = false := fun h => by rw [hr]; exact decide_eq_false h
  have hyes : VOk V → r = true := fun h => by rw [hr]; exact decide_eq_true h
  have HNO := Lib.hid hno
  have HYES := Lib.hid hyes
  clear hno hyes hr
  have HD := Lib.hid (show VOk V ↔ ((V.mem.length ≤ 12 ∧ V.held.length ≤ 256) ∧ MsOk V.mem ∧ (V.room.length = V.mem.length ∧ CntOk V.room) ∧ (V.weight.length = V.mem.length ∧ CntOk V.weight) ∧ HpsOk V.mem.length V.held) from Iff.rfl)
  obtain ⟨ms, hs, rs, ws⟩ := V
  simp only at ml mm hl hm MC HC HD ⊢
  simp only at HR0 HW0
  generalize hrl : rs.length = rl at *
  generalize hwl : ws.length = wl at *
  have hmm := @run_makeMap Try.prog
  go_enter Try.func14, Try.ntmps14
  by_cases a1 : ms.length ≤ 12
  rotate_left
  · obtain rfl := HNO.out fun h => a1 (HD.out.1 h).1.1
    have q1 : decide (12 < (ms.length : Int)) = true := decide_eq_true (by omega)
    clear a1
    go_wp2
    go_ret
    exact ⟨rfl, by (repeat' (first | (with_reducible exact Below.refl _ _) | (with_reducible assumption) | (with_reducible refine Below.alloc ?_ ?_ _) | (with_reducible refine Below.drew ?_) | (with_reducible refine below_drewN ?_ _) | (with_reducible refine Below.setCell ?_ ?_ _) | (with_reducible refine below_step ?_ (by with_reducible assumption) ?_) | go_size))⟩
  have q1 : decide (12 < (ms.length : Int)) = false := decide_eq_false (by omega)
  by_cases a2 : hs.length ≤ 256
  rotate_left
  · obtain rfl := HNO.out fun h => a2 (HD.out.1 h).1.2
    have q2 : decide (256 < (hs.length : Int)) = true := decide_eq_true (by omega)
    clear a2
    go_wp2
    go_ret
    exact ⟨rfl, by (repeat' (first | (with_reducible exact Below.refl _ _) | (with_reducible assumption) | (with_reducible refine Below.alloc ?_ ?_ _) | (with_reducible refine Below.drew ?_) | (with_reducible refine below_drewN ?_ _) | (with_reducible refine Below.setCell ?_ ?_ _) | (with_reducible refine below_step ?_ (by with_reducible assumption) ?_) | go_size))⟩
  have q2 : decide (256 < (hs.length : Int)) = false := decide_eq_false (by omega)
  go_wp2
  clear q1 q2
  generalize hW : w.alloc _ = W
  have hb0 : Below w.heap.size w W := by subst hW; (repeat' (first | (with_reducible exact Below.refl _ _) | (with_reducible assumption) | (with_reducible refine Below.alloc ?_ ?_ _) | (with_reducible refine Below.drew ?_) | (with_reducible refine below_drewN ?_ _) | (with_reducible refine Below.setCell ?_ ?_ _) | (with_reducible refine below_step ?_ (by with_reducible assumption) ?_) | go_size))
  have hb1 : W.heap[w.heap.size]? = some (.cells #[.slice ma ms.length mc, .slice ha hs.length hc, .slice ra rl rc, .slice wa wl wc] 26 (0, 0)) := by subst hW; exact heap_alloc_new _ _
  have d0 : W.cell? ⟨w.heap.size, 0, none⟩ = some (.slice ma ms.length mc) := cell_of_row W _ 0 _ _ _ hb1
  have d1 : W.cell? ⟨w.heap.size, 1, none⟩ = some (.slice ha hs.length hc) := cell_of_row W _ 1 _ _ _ hb1
  have d2 : W.cell? ⟨w.heap.size, 2, none⟩ = some (.slice ra rl rc) := cell_of_row W _ 2 _ _ _ hb1
  have d3 : W.cell? ⟨w.heap.size, 3, none⟩ = some (.slice wa wl wc) := cell_of_row W _ 3 _ _ _ hb1
  have hbs : w.heap.size < W.heap.size := by subst hW; simp
  clear hW hb1
  go_loopw [21] (fun v21 wr => ∃ j : Nat, j ≤ ms.length ∧ v21 = .int .i64 j ∧ (∀ i, i < j → (ms.getD i default).dev = i) ∧ Below W.heap.size W wr) (fun v21 _ => ms.length - (intOf v21).toNat)
  case atStart => exact ⟨0, Nat.zero_le _, rfl, fun i hi => by omega, Below.refl _ _⟩
  case round =>
    obtain ⟨j, hj, rfl, hok, hbel⟩ := hrel
    have HK := Lib.hid hok
    clear hok
    by_cases hlt : j < ms.length
    · obtain ⟨e1, e2, e3, e4, e5, e6⟩ := MC.out j hlt
      subst e1
      have hbw := hb0.trans (hbel.mono hb0.size)
      have zr := hbel.size
      have zw := hbw.size
      rw [← hbw.cell (p := ⟨mb, _, none⟩) (cell_lt e2)] at e2
      rw [← hbw.cell (p := ⟨mb, _, none⟩) (cell_lt e3)] at e3
      rw [← hbw.cell (p := ⟨mb, _, none⟩) (cell_lt e4)] at e4
      rw [← hbw.cell (p := ⟨mb, _, none⟩) (cell_lt e5)] at e5
      rw [← hbw.cell (p := ⟨mb, _, none⟩) (cell_lt e6)] at e6
      have hs1 := msOk_snoc ms j
      have HS := Lib.hid hs1
      have hno : ¬ (ms.getD j default).dev = j → r = false := fun h => HNO.out fun hh => h ((HD.out.1 hh).2.1 j hlt)
      have HN := Lib.hid hno
      clear hs1 hno
      generalize ms.getD j default = y at *
      obtain ⟨dev, nm, pb, qu, ex⟩ := y
      simp only at e2 e3 e4 e5 e6
      by_cases k1 : dev = j
      · have h1 := HS.out.2 ⟨HK.out, k1⟩
        have H1 := Lib.hid h1
        have q1 : (dev != (j : Int)) = false := by simp [k1]
        clear k1 h1
        go_wp2
        go_roundw
        case rel => exact ⟨j + 1, by omega, by go_num, H1.out, by (repeat' (first | (with_reducible exact Below.refl _ _) | (with_reducible assumption) | (with_reducible refine Below.alloc ?_ ?_ _) | (with_reducible refine Below.drew ?_) | (with_reducible refine below_drewN ?_ _) | (with_reducible refine Below.setCell ?_ ?_ _) | (with_reducible refine below_step ?_ (by with_reducible assumption) ?_) | go_size))⟩
        case measure => simp [intOf]; omega
      · obtain rfl := HN.out k1
        have q1 : (dev != (j : Int)) = true := by simp [k1]
        clear k1
        go_wp2
        go_ret
        exact ⟨rfl, by (repeat' (first | (with_reducible exact Below.refl _ _) | (with_reducible assumption) | (with_reducible refine Below.alloc ?_ ?_ _) | (with_reducible refine Below.drew ?_) | (with_reducible refine below_drewN ?_ _) | (with_reducible refine Below.setCell ?_ ?_ _) | (with_reducible refine below_step ?_ (by with_reducible assumption) ?_) | go_size))⟩
    · have hjl : j = ms.length := by omega
      subst hjl
      have HMS := Lib.hid (show MsOk ms from HK.out)
      clear HK MC hj hlt
      have hbw := hb0.trans (hbel.mono hb0.size)
      have zr := hbel.size
      have zw := hbw.size
      rw [← hbel.cell (p := ⟨w.heap.size, 0, none⟩) hbs] at d0
      rw [← hbel.cell (p := ⟨w.heap.size, 1, none⟩) hbs] at d1
      rw [← hbel.cell (p := ⟨w.heap.size, 2, none⟩) hbs] at d2
      rw [← hbel.cell (p := ⟨w.heap.size, 3, none⟩) hbs] at d3
      have hGr := Nat.lt_of_lt_of_le hbs hbel.size
      clear zr
      have hc1 := counts_any _ rs ms.length wr (HR0.out.below (hbw))
      have hc2 := counts_any _ ws ms.length wr (HW0.out.below (hbw))
      rw [hrl] at hc1
      rw [hwl] at hc2
      have HC2 := Lib.hid hc2
      clear hbel hb0 hbs hc2
      by_cases k1 : rl = ms.length ∧ CntOk rs
      rotate_left
      · obtain rfl := HNO.out fun h => k1 (HD.out.1 h).2.2.1
        rw [decide_eq_false k1] at hc1
        have HC1 := Lib.hid hc1
        clear k1 hc1
        go_wp2_with fail
        refine HC1.out.mono ?_
        rintro e w3 ⟨rfl, rfl⟩
        go_wp2
        go_ret
        exact ⟨rfl, by (repeat' (first | (with_reducible exact Below.refl _ _) | (with_reducible assumption) | (with_reducible refine Below.alloc ?_ ?_ _) | (with_reducible refine Below.drew ?_) | (with_reducible refine below_drewN ?_ _) | (with_reducible refine Below.setCell ?_ ?_ _) | (with_reducible refine below_step ?_ (by with_reducible assumption) ?_) | go_size))⟩
      rw [decide_eq_true k1] at hc1
      have K1 := Lib.hid k1
      have HC1 := Lib.hid hc1
      clear k1 hc1
      by_cases k2 : wl = ms.length ∧ CntOk ws
      rotate_left
      · obtain rfl := HNO.out fun h => k2 (HD.out.1 h).2.2.2.1
        rw [decide_eq_false k2] at HC2
        clear k2
        go_wp2_with fail
        refine HC1.out.mono ?_
        rintro e w3 ⟨rfl, rfl⟩
        go_wp2_with fail
        refine HC2.out.mono ?_
        rintro e w3 ⟨rfl, rfl⟩
        go_wp2
        go_ret
        exact ⟨rfl, by (repeat' (first | (with_reducible exact Below.refl _ _) | (with_reducible assumption) | (with_reducible refine Below.alloc ?_ ?_ _) | (with_reducible refine Below.drew ?_) | (with_reducible refine below_drewN ?_ _) | (with_reducible refine Below.setCell ?_ ?_ _) | (with_reducible refine below_step ?_ (by with_reducible assumption) ?_) | go_size))⟩
      rw [decide_eq_true k2] at HC2
      have K2 := Lib.hid k2
      clear k2
      go_wp2_with fail
      refine HC1.out.mono ?_
      rintro e w3 ⟨rfl, rfl⟩
      go_wp2_with fail
      refine HC2.out.mono ?_
      rintro e w3 ⟨rfl, rfl⟩
      clear HC1 HC2
      go_wp2
      clear d2 d3 HR0 HW0
      have f0 : (wr.alloc (.map #[] 0)).cell? ⟨w.heap.size, 0, none⟩ = some (.slice ma ms.length mc) := (Below.cell ((Below.refl wr.heap.size _).alloc (Nat.le_refl _) _) hGr).trans d0
      have hmp : (wr.alloc (.map #[] 0)).heap[wr.heap.size]? = some (mapObj (fun s : ByteArray => Value.string s) (setOf [])) := heap_alloc_new _ _
      have hbw2 : Below w.heap.size w (wr.alloc (.map #[] 0)) := by (repeat' (first | (with_reducible exact Below.refl _ _) | (with_reducible assumption) | (with_reducible refine Below.alloc ?_ ?_ _) | (with_reducible refine Below.drew ?_) | (with_reducible refine below_drewN ?_ _) | (with_reducible refine Below.setCell ?_ ?_ _) | (with_reducible refine below_step ?_ (by with_reducible assumption) ?_) | go_size))
      have hz2 : (wr.alloc (.map #[] 0)).heap.size = wr.heap.size + 1 := World.size_alloc _ _
      clear d0 d1
      generalize hN : wr.heap.size = N at *
      generalize wr.alloc (.map #[] 0) = W2 at *
      clear hN hbw
      go_loopw [51] (fun v51 wr => ∃ j : Nat, j ≤ hs.length ∧ v51 = .int .i64 j ∧ HpsOk ms.length (hs.take j) ∧ Below w.heap.size w wr ∧ N < wr.heap.size ∧
        wr.cell? ⟨w.heap.size, 0, none⟩ = some (.slice ma ms.length mc) ∧ wr.heap[N]? = some (mapObj (fun s : ByteArray => Value.string s) (setOf ((hs.take j).map Hp.id)))) (fun v51 _ => hs.length - (intOf v51).toNat)
      case atStart => exact ⟨0, Nat.zero_le _, rfl, by simp [HpsOk], hbw2, by omega, f0, hmp⟩
      case round =>
        obtain ⟨j, hj, rfl, hok, hbel, hNl, g0, hmap⟩ := hrel
        have HO := Lib.hid hok
        have HB := Lib.hid hmap
        have zr := hbel.size
        clear hok hmap f0 hmp hz2 hbw2
        by_cases hlt : j < hs.length
        · obtain ⟨e1, e2, e3, e4, e5, e6, rv, av, e7, e8, hrr, hra⟩ := HC.out j hlt
          subst e1
          have hg := getD_at hs j default hlt
          have hs1 := hpsOk_snoc ms.length hs j hlt
          have ht := fun h => hpsOk_take (n := (ms.length : Int)) (hs := hs) h (j + 1)
          have happ : hs.take (j + 1) = hs.take j ++ [hs[j]] := List.take_succ_eq_append_getElem hlt
          have HA := Lib.hid happ
          have HT := Lib.hid ht
          have HS1 := Lib.hid hs1
          rw [hg] at e2 e3 e4 e5 e6 hrr hra
          rw [← hbel.cell (p := ⟨hb, _, none⟩) (cell_lt e2)] at e2
          rw [← hbel.cell (p := ⟨hb, _, none⟩) (cell_lt e3)] at e3
          rw [← hbel.cell (p := ⟨hb, _, none⟩) (cell_lt e4)] at e4
          rw [← hbel.cell (p := ⟨hb, _, none⟩) (cell_lt e5)] at e5
          rw [← hbel.cell (p := ⟨hb, _, none⟩) (cell_lt e6)] at e6
          rw [← hbel.cell (p := ⟨hb, _, none⟩) (cell_lt e7)] at e7
          rw [← hbel.cell (p := ⟨hb, _, none⟩) (cell_lt e8)] at e8
          have hra := hra.below hbel
          clear hs1 hg ht happ
          generalize hs[j] = y at e2 e3 e4 e5 e6 HS1 HA hra hrr
          obtain ⟨qa, qc, _, _, rfl, -⟩ := hrr.at
          clear hrr
          generalize y.refs.length = ql at *
          have HV := Lib.hid (fun o => validHeld_any y (.slice qa ql qc) av ms.length (wr.alloc o) (hra.below ((Below.refl _ _).alloc (Nat.le_refl _) _)) ⟨_, _, _, rfl⟩ a1)
          obtain ⟨ao', c', _, _, rfl, -⟩ := hra.at
          clear hra
          obtain ⟨id, vault, block, data, total, refs, at_⟩ := y
          have hlk : ∀ o, _ := fun o => key_str.lookup0 (tm := 84) (te := 4) Try.underlying84 (z := .bool false) (fun w => by kernel_rfl) (w := wr.alloc o) (r := N) (L := setOf ((hs.take j).map Hp.id)) (by rw [Below.heap_alloc wr o _ hNl]; exact HB.out) id
          simp only at e2 e3 e4 e5 e6 hlk
          unfold Hp.v at HV
          simp only at HV
          generalize at_.length = al at *
          simp only [look_set] at hlk
          by_cases k1 : id ∈ (hs.take j).map Hp.id
          · rw [decide_eq_true k1] at hlk
            obtain rfl := HNO.out fun h => (HS1.out.1 (HT.out (HD.out.1 h).2.2.2.2)).2.2 k1
            clear k1
            go_wp2
            go_ret
            exact ⟨rfl, by (repeat' (first | (with_reducible exact Below.refl _ _) | (with_reducible assumption) | (with_reducible refine Below.alloc ?_ ?_ _) | (with_reducible refine Below.drew ?_) | (with_reducible refine below_drewN ?_ _) | (with_reducible refine Below.setCell ?_ ?_ _) | (with_reducible refine below_step ?_ (by with_reducible assumption) ?_) | go_size))⟩
          · rw [decide_eq_false k1] at hlk
            have HK := Lib.hid k1
            clear k1
            have hhp : ¬ HpOk ms.length ⟨id, vault, block, data, total, refs, at_⟩ → r = false := fun h => HNO.out fun hh => h (HS1.out.1 (HT.out (HD.out.1 hh).2.2.2.2)).2.1
            have HHP := Lib.hid hhp
            have g0' : ∀ o, (wr.alloc o).cell? ⟨w.heap.size, 0, none⟩ = some (.slice ma ms.length mc) := fun o => (Below.cell ((Below.refl wr.heap.size _).alloc (Nat.le_refl _) _) (cell_lt g0)).trans g0
            clear hhp
            go_wp2_with fail
            refine (HV.out _).mono ?_
            rintro e w3 ⟨rfl, hb3⟩
            generalize hW3 : wr.alloc _ = W3 at hb3
            have zs : W3.heap.size = wr.heap.size + 1 := by subst hW3; exact World.size_alloc _ _
            have hbW : Below w.heap.size w W3 := by subst hW3; (repeat' (first | (with_reducible exact Below.refl _ _) | (with_reducible assumption) | (with_reducible refine Below.alloc ?_ ?_ _) | (with_reducible refine Below.drew ?_) | (with_reducible refine below_drewN ?_ _) | (with_reducible refine Below.setCell ?_ ?_ _) | (with_reducible refine below_step ?_ (by with_reducible assumption) ?_) | go_size))
            have z3 := hb3.size
            have hb9 : Below w.heap.size w w3 := hbW.trans (hb3.mono hbW.size)
            have hm3 : w3.heap[N]? = some (mapObj (fun s : ByteArray => Value.string s) (setOf ((hs.take j).map Hp.id))) := by
              rw [hb3.block N (by omega)]; subst hW3; rw [Below.heap_alloc wr _ _ hNl]; exact HB.out
            have g3 : w3.cell? ⟨w.heap.size, 0, none⟩ = some (.slice ma ms.length mc) := by
              rw [hb3.cell (p := ⟨_, 0, none⟩) (by rw [zs]; exact Nat.lt_succ_of_lt (cell_lt g0))]; subst hW3; exact g0' _
            have i3 : w3.cell? ⟨wr.heap.size, 0, none⟩ = some (.string id) := by
              rw [hb3.cell (p := ⟨_, 0, none⟩) (by rw [zs]; exact Nat.lt_succ_self _)]; subst hW3; exact cell_of_row _ _ 0 _ _ _ (heap_alloc_new _ _)
            by_cases k2 : HpOk ms.length ⟨id, vault, block, data, total, refs, at_⟩
            · rw [decide_eq_true k2]
              have hup := key_str.update (tm := 84) (te := 4) Try.underlying84 (w := w3) (r := N) (L := setOf ((hs.take j).map Hp.id)) hm3 id (.bool true) (by rw [setOf_keys]; exact HK.out)
              have hnx : setOf ((hs.take j).map Hp.id) ++ [(id, Value.bool true)] = setOf ((hs.take (j + 1)).map Hp.id) := by rw [HA.out]; simp [setOf]
              rw [hnx] at hup
              have K2 := Lib.hid k2
              clear k2 hnx hlk
              go_wp2
              go_roundw
              case rel =>
                refine ⟨j + 1, by omega, by go_num, HS1.out.2 ⟨HO.out, K2.out, HK.out⟩, below_setBlock hb9 (by omega) _, by rw [setBlock_size]; omega, ?_, by rw [List.map_take]; exact setBlock_at (by omega) _⟩
                rw [← g3]
                unfold World.cell?
                rw [setBlock_off _ _ (by show w.heap.size ≠ N; omega)]
              case measure => simp [intOf]; omega
            · rw [decide_eq_false k2]
              obtain rfl := HHP.out k2
              clear k2 hlk
              go_wp2
              go_ret
              exact ⟨rfl, hb9⟩
        · have hjl : j = hs.length := by omega
          subst hjl
          obtain rfl := HYES.out (HD.out.2 ⟨⟨a1, a2⟩, HMS.out, K1.out, K2.out, by have := HO.out; rw [List.take_length] at this; exact this⟩)
          go_wp2
          go_ret
          exact ⟨rfl, hbel⟩
end Go.Proofs.Ytijcicgbhcphjaa

/- Clones. -/
namespace Go.Proofs.Ytijcicgbhcphjaa
open Go.RowKit Go.Lib Go.ChangeMaps

theorem run_append_nilsrc {w : World} {base : Nat} {t ty e : TypeId} {i : TypeInfo} {size : Nat} (ht : Try.prog.underlying t = some (.slice e)) (hi : Try.prog.info? e = some i)
    {v : Value} {n : Nat} {xs : List Value} (hown : w.ownsRow base e size v n xs) (c : Nat) : (Builtin.append_ #[t, t] ty #[v, .slice none 0 c]).run Try.prog w = .ok v w := by
  rcases hown.2 with ⟨rfl, rfl⟩ | ⟨g, cap, cur, rfl, _, _, hnc, _⟩
  · simp [Builtin.append_, run_underlying ht, sizeOf, typeInfo, hi, Builtin.lenOf, Builtin.firstCells]
  · simp [Builtin.append_, run_underlying ht, sizeOf, typeInfo, hi, Builtin.lenOf, Builtin.firstCells, hnc, storeCells]

/-- A row that came in, appended. -/
theorem Own.appendR {t e : TypeId} {z : Value} {k bytes : Nat} (ht : Try.prog.underlying t = some (.slice e)) (hinfo : (Try.prog.info? e).map (fun i => (i.zero, i.size, i.bytes)) = some (some z, k, bytes)) (hz : z.cells.size = k) (hk : 0 < k) (hby : bytes ≤ 1000)
    {V : World} {base : Nat} {v u : Value} {n m : Nat} {f q : Nat → Nat → Value} (h : Own V base e v k n f) (ty : TypeId) (hsrc : RowAt V u k m q) (hf : ∀ i j, i < m → j < k → f (n + i) j = q i j) (h1 : ∀ i j, i < m → j < k → (q i j).oneCell' = true) (hn : n ≤ 1000000000) (hm : m ≤ 1000000000) (hbase : base ≤ V.heap.size) :
    ∃ v' w', (Builtin.append_ #[t, t] ty #[v, u]).run Try.prog V = .ok v' w' ∧ Own w' base e v' k (n + m) f ∧ Below base V w' ∧ (∀ b, b < V.heap.size → v.ownBlock ≠ some b → w'.heap[b]? = V.heap[b]?) := by
  obtain ⟨i0, hi, hz0, hz1, hz2⟩ := info_parts hinfo
  obtain ⟨xs, hown, hxs⟩ := h
  obtain ⟨ao, c, rfl, hmc, _, hcell⟩ := hsrc
  by_cases hm0 : m = 0
  · subst hm0
    rcases ao with _ | ad
    · exact ⟨v, V, run_append_nilsrc ht hi hown c, ⟨xs, hown, hxs⟩, Below.refl _ _, fun _ _ _ => rfl⟩
    · obtain ⟨v', w', r, o1, o2, _, _⟩ := run_append_own_at (P := Try.prog) V base t ty e i0 z k bytes ht hi hz0 hz1 hz2 hz hk v _ _ hown ad 0 c [] (by simp) (fun j x hj => by simp at hj) (by simp) (by unfold maxLen; omega) (by
        have := Nat.mul_le_mul (show n + 0 ≤ 1000000000 by omega) hby
        omega) hbase
      rw [List.append_nil] at o1
      exact ⟨v', w', r, ⟨xs, o1, hxs⟩, ⟨o2.os, o2.tape, o2.output, o2.size, fun i hi => o2.block i (by omega) (fun e => by have := (hown.lt i e.symm).1; omega)⟩, fun b hb hn' => o2.block b hb (fun e => hn' e.symm)⟩
  · obtain ⟨b, off, rfl, hc⟩ := hcell (by omega)
    have hnl : ((List.range (m * k)).map fun c => q (c / k) (c % k)).length = m * k := by simp
    have hbb : (n + m) * bytes ≤ 140737488355328 := by
      have := Nat.mul_le_mul (show n + m ≤ 2000000000 by omega) hby
      omega
    obtain ⟨v', w', r, o1, o2, _, _⟩ := run_append_own_at (P := Try.prog) V base t ty e i0 z k bytes ht hi hz0 hz1 hz2 hz hk v _ _ hown ⟨b, off, none⟩ m c ((List.range (m * k)).map fun c => q (c / k) (c % k)) hnl (by
      intro j x hj
      have hjl : j < m * k := by have := (List.getElem?_eq_some_iff.1 hj).1; rw [hnl] at this; exact this
      have hadd : (⟨b, off, none⟩ : Addr).add j = ⟨b, off + j, none⟩ := by unfold Addr.add; split <;> simp_all
      have h1' : j / k < m := Nat.div_lt_of_lt_mul (by rw [Nat.mul_comm]; exact hjl)
      have h2' : j % k < k := Nat.mod_lt _ hk
      have := hc (j / k) (j % k) h1' h2'
      have hjk : j / k * k + j % k = j := by have := Nat.div_add_mod j k; rw [Nat.mul_comm] at this; exact this
      rw [hadd, show off + j = off + j / k * k + j % k by omega, this]
      simp [hjl] at hj
      rw [hj]) (by
      intro x hx
      obtain ⟨j, hj, rfl⟩ := List.mem_map.1 hx
      have hjl : j < m * k := List.mem_range.1 hj
      exact h1 _ _ (Nat.div_lt_of_lt_mul (by rw [Nat.mul_comm]; exact hjl)) (Nat.mod_lt _ hk)) (by unfold maxLen; omega) hbb hbase
    have hlen := hown.1
    refine ⟨v', w', r, ⟨xs ++ (List.range (m * k)).map fun c => q (c / k) (c % k), o1, fun i j hi' hj => ?_⟩, ⟨o2.os, o2.tape, o2.output, o2.size, fun i hi => o2.block i (by omega) (fun e => by have := (hown.lt i e.symm).1; omega)⟩, fun b hb hn' => o2.block b hb (fun e => hn' e.symm)⟩
    by_cases hin : i < n
    · have hlt : i * k + j < n * k := by
        have : (i + 1) * k ≤ n * k := Nat.mul_le_mul_right k hin
        rw [Nat.add_mul] at this
        omega
      rw [List.getElem?_append_left (by omega)]
      exact hxs i j hin hj
    · obtain ⟨i', rfl⟩ : ∃ i', i = n + i' := ⟨i - n, by omega⟩
      have hi2 : i' < m := by omega
      have hlt : i' * k + j < m * k := by
        have : (i' + 1) * k ≤ m * k := Nat.mul_le_mul_right k hi2
        rw [Nat.add_mul] at this
        omega
      rw [List.getElem?_append_right (by rw [hlen, Nat.add_mul]; omega), hlen, show (n + i') * k + j - n * k = i' * k + j by rw [Nat.add_mul]; omega, List.getElem?_map, List.getElem?_range hlt]
      have d1 : (i' * k + j) / k = i' := by rw [Nat.mul_comm, Nat.mul_add_div hk, Nat.div_eq_of_lt hj, Nat.add_zero]
      have d2 : (i' * k + j) % k = j := by rw [Nat.mul_comm, Nat.mul_add_mod, Nat.mod_eq_of_lt hj]
      simp only [Option.map_some, d1, d2]
      rw [hf i' j hi2 hj]

theorem OwnI.appendR {V : World} {base : Nat} {v u : Value} {ds es : List Int} (h : OwnI V base v ds) (hu : ReadsI V u es) (hn : ds.length ≤ 1000000000) (hm : es.length ≤ 1000000000) (hbase : base ≤ V.heap.size) :
    ∃ v' w', (Builtin.append_ #[24, 24] 24 #[v, u]).run Try.prog V = .ok v' w' ∧ OwnI w' base v' (ds ++ es) ∧ Below base V w' ∧ (∀ b, b < V.heap.size → v.ownBlock ≠ some b → w'.heap[b]? = V.heap[b]?) := by
  have h' : Own V base 3 v 1 ds.length fun i _ => .int .i64 ((ds ++ es).getD i 0) := Own.congr h fun i j hi hj => by rw [getD_at _ _ _ hi, getD_at _ _ _ (by rw [List.length_append]; omega), List.getElem_append_left hi]
  obtain ⟨v', w', r, o1, o2, o3⟩ := Own.appendR (t := 24) (e := 3) (z := .int .i64 0) (k := 1) (bytes := 8) Try.underlying24 (by kernel_rfl) rfl (by omega) (by omega) h' 24 hu (fun i j hi hj => by
    rw [getD_at _ _ _ (by rw [List.length_append]; omega), List.getElem_append_right (by omega), getD_at _ _ _ hi]
    simp) (fun _ _ _ _ => rfl) hn hm hbase
  refine ⟨v', w', r, ?_, o2, o3⟩
  unfold OwnI
  rw [List.length_append]
  exact o1


theorem infoE3 : (Try.prog.info? 3).map (fun i => (i.zero, i.size, i.bytes)) = some (some (.int .i64 0), 1, 8) := by kernel_rfl
set_option maxRecDepth 100000 in
set_option maxHeartbeats 1000000 in
theorem cloneI (v : Value) (n : Nat) (f : Nat → Nat → Value) (w : World) (hv : RowAt w v 1 n f) (h1 : ∀ i j, i < n → j < 1 → (f i j).oneCell' = true) (hn : n ≤ 1000000) :
    Calls Try.prog 47 #[v] w fun e w' => ∃ u, e = .returned u ∧ Own w' w.heap.size 3 u 1 n f ∧ Below w.heap.size w w' := by
  have HV := Lib.hid hv
  obtain ⟨ao, c, rfl, hl, hm, hc⟩ := hv
  have HC := Lib.hid hc
  clear hc
  have heq := fun a n' c' => Lib.run_eql_slice_nil (P := Try.prog) w 24 3 a n' c' 0 0 Try.underlying24
  go_enter Try.func47, Try.ntmps47
  rcases ao with _ | ad
  · have hn0 : n = 0 := by
      rcases Nat.eq_zero_or_pos n with h | h
      · exact h
      · obtain ⟨b, off, e, _⟩ := HC.out h
        cases e
    subst hn0
    go_wp2
    go_ret
    exact ⟨_, rfl, Own.nil _ _ _ _ _, Below.refl _ _⟩
  · have h0 := Own.lit0 w w.heap.size 3 1 f (Nat.le_refl _)
    have hb0 : Below w.heap.size w (w.alloc (.cells #[] 3)) := (Below.refl _ _).alloc (Nat.le_refl _) _
    have hr0 := RowAt.below HV.out hb0
    obtain ⟨v3, w3, r3, o1, o2, _⟩ := Own.appendR (t := 24) (e := 3) (z := .int .i64 0) (bytes := 8) Try.underlying24 infoE3 rfl (by omega) (by omega) h0 24 hr0 (fun i j _ _ => by rw [Nat.zero_add]) h1 (by omega) (by omega) hb0.size
    rw [Nat.zero_add] at o1
    have O1 := Lib.hid o1
    clear o1 h0 hr0
    go_wp2_with (at_builtin; refine wpList_append_run (by rfl) (.tmp 5) (.tmp 6) 24 (by rfl) _ (.slice (some ad) n c) v3 w3 (by rfl) (by rfl) r3 ?_)
    go_ret
    exact ⟨_, rfl, O1.out, hb0.trans o2⟩

theorem infoE81 : (Try.prog.info? 81).map (fun i => (i.zero, i.size, i.bytes)) = some (some (.agg #[.int .i64 0, .string ⟨#[]⟩, .string ⟨#[]⟩, .int .i64 0, .bool false]), 5, 56) := by kernel_rfl
set_option maxRecDepth 100000 in
set_option maxHeartbeats 1000000 in
theorem cloneM (v : Value) (n : Nat) (f : Nat → Nat → Value) (w : World) (hv : RowAt w v 5 n f) (h1 : ∀ i j, i < n → j < 5 → (f i j).oneCell' = true) (hn : n ≤ 1000000) :
    Calls Try.prog 71 #[v] w fun e w' => ∃ u, e = .returned u ∧ Own w' w.heap.size 81 u 5 n f ∧ Below w.heap.size w w' := by
  have HV := Lib.hid hv
  obtain ⟨ao, c, rfl, hl, hm, hc⟩ := hv
  have HC := Lib.hid hc
  clear hc
  have heq := fun a n' c' => Lib.run_eql_slice_nil (P := Try.prog) w 22 81 a n' c' 0 0 Try.underlying22
  go_enter Try.func71, Try.ntmps71
  rcases ao with _ | ad
  · have hn0 : n = 0 := by
      rcases Nat.eq_zero_or_pos n with h | h
      · exact h
      · obtain ⟨b, off, e, _⟩ := HC.out h
        cases e
    subst hn0
    go_wp2
    go_ret
    exact ⟨_, rfl, Own.nil _ _ _ _ _, Below.refl _ _⟩
  · have h0 := Own.lit0 w w.heap.size 81 5 f (Nat.le_refl _)
    have hb0 : Below w.heap.size w (w.alloc (.cells #[] 81)) := (Below.refl _ _).alloc (Nat.le_refl _) _
    have hr0 := RowAt.below HV.out hb0
    obtain ⟨v3, w3, r3, o1, o2, _⟩ := Own.appendR (t := 22) (e := 81) (z := .agg #[.int .i64 0, .string ⟨#[]⟩, .string ⟨#[]⟩, .int .i64 0, .bool false]) (bytes := 56) Try.underlying22 infoE81 rfl (by omega) (by omega) h0 22 hr0 (fun i j _ _ => by rw [Nat.zero_add]) h1 (by omega) (by omega) hb0.size
    rw [Nat.zero_add] at o1
    have O1 := Lib.hid o1
    clear o1 h0 hr0
    go_wp2_with (at_builtin; refine wpList_append_run (by rfl) (.tmp 5) (.tmp 6) 22 (by rfl) _ (.slice (some ad) n c) v3 w3 (by rfl) (by rfl) r3 ?_)
    go_ret
    exact ⟨_, rfl, O1.out, hb0.trans o2⟩

theorem infoE52 : (Try.prog.info? 52).map (fun i => (i.zero, i.size, i.bytes)) = some (some (.agg #[.string ⟨#[]⟩, .int .i64 0, .int .i64 0, .int .i64 0, .int .i64 0, .slice none 0 0, .slice none 0 0]), 7, 96) := by kernel_rfl
set_option maxRecDepth 100000 in
set_option maxHeartbeats 1000000 in
theorem cloneH (v : Value) (n : Nat) (f : Nat → Nat → Value) (w : World) (hv : RowAt w v 7 n f) (h1 : ∀ i j, i < n → j < 7 → (f i j).oneCell' = true) (hn : n ≤ 1000000) :
    Calls Try.prog 72 #[v] w fun e w' => ∃ u, e = .returned u ∧ Own w' w.heap.size 52 u 7 n f ∧ Below w.heap.size w w' := by
  have HV := Lib.hid hv
  obtain ⟨ao, c, rfl, hl, hm, hc⟩ := hv
  have HC := Lib.hid hc
  clear hc
  have heq := fun a n' c' => Lib.run_eql_slice_nil (P := Try.prog) w 23 52 a n' c' 0 0 Try.underlying23
  go_enter Try.func72, Try.ntmps72
  rcases ao with _ | ad
  · have hn0 : n = 0 := by
      rcases Nat.eq_zero_or_pos n with h | h
      · exact h
      · obtain ⟨b, off, e, _⟩ := HC.out h
        cases e
    subst hn0
    go_wp2
    go_ret
    exact ⟨_, rfl, Own.nil _ _ _ _ _, Below.refl _ _⟩
  · have h0 := Own.lit0 w w.heap.size 52 7 f (Nat.le_refl _)
    have hb0 : Below w.heap.size w (w.alloc (.cells #[] 52)) := (Below.refl _ _).alloc (Nat.le_refl _) _
    have hr0 := RowAt.below HV.out hb0
    obtain ⟨v3, w3, r3, o1, o2, _⟩ := Own.appendR (t := 23) (e := 52) (z := .agg #[.string ⟨#[]⟩, .int .i64 0, .int .i64 0, .int .i64 0, .int .i64 0, .slice none 0 0, .slice none 0 0]) (bytes := 96) Try.underlying23 infoE52 rfl (by omega) (by omega) h0 23 hr0 (fun i j _ _ => by rw [Nat.zero_add]) h1 (by omega) (by omega) hb0.size
    rw [Nat.zero_add] at o1
    have O1 := Lib.hid o1
    clear o1 h0 hr0
    go_wp2_with (at_builtin; refine wpList_append_run (by rfl) (.tmp 5) (.tmp 6) 23 (by rfl) _ (.slice (some ad) n c) v3 w3 (by rfl) (by rfl) r3 ?_)
    go_ret
    exact ⟨_, rfl, O1.out, hb0.trans o2⟩

theorem infoE120 : (Try.prog.info? 120).map (fun i => (i.zero, i.size, i.bytes)) = some (some (.agg #[.string ⟨#[]⟩, .int .i64 0, .int .i64 0]), 3, 32) := by kernel_rfl
set_option maxRecDepth 100000 in
set_option maxHeartbeats 1000000 in
theorem cloneR (v : Value) (n : Nat) (f : Nat → Nat → Value) (w : World) (hv : RowAt w v 3 n f) (h1 : ∀ i j, i < n → j < 3 → (f i j).oneCell' = true) (hn : n ≤ 1000000) :
    Calls Try.prog 73 #[v] w fun e w' => ∃ u, e = .returned u ∧ Own w' w.heap.size 120 u 3 n f ∧ Below w.heap.size w w' := by
  have HV := Lib.hid hv
  obtain ⟨ao, c, rfl, hl, hm, hc⟩ := hv
  have HC := Lib.hid hc
  clear hc
  have heq := fun a n' c' => Lib.run_eql_slice_nil (P := Try.prog) w 48 120 a n' c' 0 0 Try.underlying48
  go_enter Try.func73, Try.ntmps73
  rcases ao with _ | ad
  · have hn0 : n = 0 := by
      rcases Nat.eq_zero_or_pos n with h | h
      · exact h
      · obtain ⟨b, off, e, _⟩ := HC.out h
        cases e
    subst hn0
    go_wp2
    go_ret
    exact ⟨_, rfl, Own.nil _ _ _ _ _, Below.refl _ _⟩
  · have h0 := Own.lit0 w w.heap.size 120 3 f (Nat.le_refl _)
    have hb0 : Below w.heap.size w (w.alloc (.cells #[] 120)) := (Below.refl _ _).alloc (Nat.le_refl _) _
    have hr0 := RowAt.below HV.out hb0
    obtain ⟨v3, w3, r3, o1, o2, _⟩ := Own.appendR (t := 48) (e := 120) (z := .agg #[.string ⟨#[]⟩, .int .i64 0, .int .i64 0]) (bytes := 32) Try.underlying48 infoE120 rfl (by omega) (by omega) h0 48 hr0 (fun i j _ _ => by rw [Nat.zero_add]) h1 (by omega) (by omega) hb0.size
    rw [Nat.zero_add] at o1
    have O1 := Lib.hid o1
    clear o1 h0 hr0
    go_wp2_with (at_builtin; refine wpList_append_run (by rfl) (.tmp 5) (.tmp 6) 48 (by rfl) _ (.slice (some ad) n c) v3 w3 (by rfl) (by rfl) r3 ?_)
    go_ret
    exact ⟨_, rfl, O1.out, hb0.trans o2⟩
end Go.Proofs.Ytijcicgbhcphjaa
