/- counts, validHeld. -/
import Derived.Test.YtijcicgbhcphjaaA2
namespace Go.Proofs.Ytijcicgbhcphjaa
open Go.RowKit Go.Lib Go.ChangeMaps

theorem cntOk_snoc (zs : List Int) (j : Nat) (h : j < zs.length) : CntOk (zs.take (j + 1)) ↔ CntOk (zs.take j) ∧ (0 ≤ zs[j] ∧ zs[j] ≤ 1099511627776) := by
  unfold CntOk
  rw [List.take_succ_eq_append_getElem h]
  constructor
  · exact fun hh => ⟨fun x hx => hh x (List.mem_append_left _ hx), hh _ (List.mem_append_right _ (List.mem_singleton.2 rfl))⟩
  · rintro ⟨h1, h2⟩ x hx
    rcases List.mem_append.1 hx with hx | hx
    · exact h1 x hx
    · simp at hx; subst hx; exact h2
theorem cntOk_take {zs : List Int} (h : CntOk zs) (j : Nat) : CntOk (zs.take j) := fun x hx => h x (List.mem_of_mem_take hx)

set_option maxRecDepth 100000 in
set_option maxHeartbeats 1000000 in
theorem counts_any (v : Value) (zs : List Int) (n : Nat) (w : World) (hv : ReadsI w v zs) :
    Calls Try.prog 36 #[v, .int .i64 n] w fun e w' => e = .returned (.bool (decide (zs.length = n ∧ CntOk zs))) ∧ w = w' := by
  obtain ⟨ao, c, b, off, rfl, hl, hm, hcell⟩ := hv.at
  have HC := Lib.hid hcell
  clear hcell hv
  obtain ⟨r, hr⟩ : ∃ r, r = decide (zs.length = n ∧ CntOk zs) := ⟨_, rfl⟩
  rw [← hr]
  have HR := Lib.hid hr
  clear hr
  go_enter Try.func36, Try.ntmps36
  by_cases hn : (zs.length : Int) = n
  · have HN := Lib.hid hn
    have k0 : ((zs.length : Int) == n) = true := by simp [hn]
    clear hn
    go_wp2
    go_loop [13] (fun v13 => ∃ j : Nat, j ≤ zs.length ∧ v13 = .int .i64 j ∧ CntOk (zs.take j)) (fun v5 => zs.length - (intOf v5).toNat)
    case atStart => exact ⟨0, Nat.zero_le _, rfl, by simp [CntOk]⟩
    case round =>
      obtain ⟨j, hj, rfl, hok⟩ := hrel
      have HK := Lib.hid hok
      clear hok
      by_cases hlt : j < zs.length
      · obtain ⟨e1, e2⟩ := HC.out j hlt
        subst e1
        have hg := getD_at zs j 0 hlt
        have hs := cntOk_snoc zs j hlt
        have HS := Lib.hid hs
        have ht := fun h => cntOk_take (zs := zs) h (j + 1)
        have HT := Lib.hid ht
        rw [hg] at e2
        clear hs hg ht
        generalize zs[j] = y at e2 HS
        by_cases k1 : y < 0
        · obtain rfl : r = false := by rw [HR.out]; exact decide_eq_false fun h => by (have := (HS.out.1 (HT.out h.2)).2; omega)
          go_wp2
          go_ret
          exact ⟨rfl, rfl⟩
        · by_cases k2 : 1099511627776 < y
          · obtain rfl : r = false := by rw [HR.out]; exact decide_eq_false fun h => by (have := (HS.out.1 (HT.out h.2)).2; omega)
            have q1 : decide (y < 0) = false := decide_eq_false k1
            have q2 : decide (1099511627776 < y) = true := decide_eq_true k2
            go_wp2
            go_ret
            exact ⟨rfl, rfl⟩
          · have hy := HS.out.2 ⟨HK.out, by omega, by omega⟩
            have HY := Lib.hid hy
            clear hy
            have q1 : decide (y < 0) = false := decide_eq_false k1
            have q2 : decide (1099511627776 < y) = false := decide_eq_false k2
            go_wp2
            go_round
            case rel => exact ⟨j + 1, by omega, by go_num, HY.out⟩
            case measure => simp [intOf]; omega
      · have hjl : j = zs.length := by omega
        subst hjl
        obtain rfl : r = true := by
          rw [HR.out]
          have := HK.out
          rw [List.take_length] at this
          exact decide_eq_true ⟨by have := HN.out; omega, this⟩
        go_wp2
        go_ret
        exact ⟨rfl, rfl⟩
  · obtain rfl : r = false := by rw [HR.out]; exact decide_eq_false fun h => hn (by rw [h.1])
    have k0 : ((zs.length : Int) == n) = false := by simpa using hn
    clear hn
    go_wp2
    go_ret
    exact ⟨rfl, rfl⟩

/-- The array of devices seen. -/
def seenC (zs : List Int) : Array Value := ((List.range 12).map fun i : Nat => Value.bool (decide ((i : Int) ∈ zs))).toArray
theorem seenC_size (zs : List Int) : (seenC zs).size = 12 := by simp [seenC]
theorem seenC_at (zs : List Int) (i : Nat) (h : i < 12) : (seenC zs)[i]? = some (.bool (decide ((i : Int) ∈ zs))) := by simp [seenC, h]
theorem seenC_set (zs : List Int) (d : Nat) : (seenC zs).setIfInBounds d (.bool true) = seenC (zs ++ [(d : Int)]) := by
  apply Array.ext_getElem?
  intro i
  rw [Array.getElem?_setIfInBounds]
  by_cases hi : i < 12
  · rw [seenC_at _ _ hi, seenC_at _ _ hi]
    by_cases e : d = i
    · subst e; simp [seenC_size, hi]
    · have : ¬ ((i : Int) = d) := by omega
      simp [e, this]
  · rw [Array.getElem?_eq_none (by rw [seenC_size]; omega), Array.getElem?_eq_none (xs := seenC _) (by rw [seenC_size]; omega)]
    split <;> simp_all [seenC_size]
theorem seenC_neg (zs : List Int) (y : Int) (h : y < 0) : seenC (zs ++ [y]) = seenC zs := by
  unfold seenC
  congr 1
  apply List.map_congr_left
  intro i _
  have : ¬ ((i : Int) = y) := by omega
  simp [this]

def Hp.v (h : Hp) (rv av : Value) : Value := .agg #[.string h.id, .int .i64 h.vault, .int .i64 h.block, .int .i64 h.data, .int .i64 h.total, rv, av]

set_option maxRecDepth 100000 in
set_option maxHeartbeats 2000000 in
theorem validHeld_any (h : Hp) (rv av : Value) (n : Nat) (w : World) (hv : ReadsI w av h.at_) (hr1 : ∃ a n c, rv = .slice a n c) (hn12 : n ≤ 12) :
    Calls Try.prog 37 #[h.v rv av, .int .i64 n] w fun e w' => e = .returned (.bool (decide (HpOk n h))) ∧ Below w.heap.size w w' := by
  obtain ⟨ao, c, b, off, rfl, hl, hm, hcell⟩ := hv.at
  have HC := Lib.hid hcell
  clear hcell hv
  obtain ⟨r, hr⟩ : ∃ r, r = decide (HpOk n h) := ⟨_, rfl⟩
  rw [← hr]
  have HR := Lib.hid hr
  clear hr
  obtain ⟨id, vault, block, data, total, refs, zs⟩ := h
  obtain ⟨ra, rn, rc, rfl⟩ := hr1
  unfold Hp.v
  simp only at hl hm HC ⊢
  have HD := Lib.hid (show HpOk n ⟨id, vault, block, data, total, refs, zs⟩ ↔ (id.size = 32 ∧ (1 ≤ data ∧ data ≤ 8) ∧ (data ≤ total ∧ total ≤ 16) ∧ (1 ≤ block ∧ block ≤ 65536) ∧ (zs.length : Int) = total ∧ AtOk n zs) from Iff.rfl)
  have hno : ¬ (id.size = 32 ∧ (1 ≤ data ∧ data ≤ 8) ∧ (data ≤ total ∧ total ≤ 16) ∧ (1 ≤ block ∧ block ≤ 65536) ∧ (zs.length : Int) = total ∧ AtOk n zs) → r = false := fun h => by rw [HR.out]; exact decide_eq_false fun hh => h (HD.out.1 hh)
  have HNO := Lib.hid hno
  clear hno
  go_enter Try.func37, Try.ntmps37
  by_cases a0 : id.size = 32
  rotate_left
  · obtain rfl := HNO.out fun h => a0 h.1
    have q0 : ((id.size : Int) != 32) = true := by simp; omega
    clear a0
    go_wp2
    go_ret
    exact ⟨rfl, by (repeat' (first | (with_reducible exact Below.refl _ _) | (with_reducible assumption) | (with_reducible refine Below.alloc ?_ ?_ _) | (with_reducible refine Below.drew ?_) | (with_reducible refine below_drewN ?_ _) | (with_reducible refine Below.setCell ?_ ?_ _) | (with_reducible refine below_step ?_ (by with_reducible assumption) ?_) | go_size))⟩
  have q0 : ((id.size : Int) != 32) = false := by simp; omega
  rcases Decidable.em (1 ≤ data ∧ data ≤ 8) with a1 | a1
  rotate_left
  · obtain rfl := HNO.out fun h => a1 h.2.1
    by_cases b1 : data < 1
    · have q1 : decide (data < 1) = true := decide_eq_true b1
      clear a1
      go_wp2
      go_ret
      exact ⟨rfl, by (repeat' (first | (with_reducible exact Below.refl _ _) | (with_reducible assumption) | (with_reducible refine Below.alloc ?_ ?_ _) | (with_reducible refine Below.drew ?_) | (with_reducible refine below_drewN ?_ _) | (with_reducible refine Below.setCell ?_ ?_ _) | (with_reducible refine below_step ?_ (by with_reducible assumption) ?_) | go_size))⟩
    · have q1 : decide (data < 1) = false := decide_eq_false b1
      have q2 : decide (8 < data) = true := decide_eq_true (by omega)
      clear a1
      go_wp2
      go_ret
      exact ⟨rfl, by (repeat' (first | (with_reducible exact Below.refl _ _) | (with_reducible assumption) | (with_reducible refine Below.alloc ?_ ?_ _) | (with_reducible refine Below.drew ?_) | (with_reducible refine below_drewN ?_ _) | (with_reducible refine Below.setCell ?_ ?_ _) | (with_reducible refine below_step ?_ (by with_reducible assumption) ?_) | go_size))⟩
  have q1 : decide (data < 1) = false := decide_eq_false (by omega)
  have q2 : decide (8 < data) = false := decide_eq_false (by omega)
  rcases Decidable.em (data ≤ total ∧ total ≤ 16) with a2 | a2
  rotate_left
  · obtain rfl := HNO.out fun h => a2 h.2.2.1
    by_cases b1 : total < data
    · have q3 : decide (total < data) = true := decide_eq_true b1
      clear a2
      go_wp2
      go_ret
      exact ⟨rfl, by (repeat' (first | (with_reducible exact Below.refl _ _) | (with_reducible assumption) | (with_reducible refine Below.alloc ?_ ?_ _) | (with_reducible refine Below.drew ?_) | (with_reducible refine below_drewN ?_ _) | (with_reducible refine Below.setCell ?_ ?_ _) | (with_reducible refine below_step ?_ (by with_reducible assumption) ?_) | go_size))⟩
    · have q3 : decide (total < data) = false := decide_eq_false b1
      have q4 : decide (16 < total) = true := decide_eq_true (by omega)
      clear a2
      go_wp2
      go_ret
      exact ⟨rfl, by (repeat' (first | (with_reducible exact Below.refl _ _) | (with_reducible assumption) | (with_reducible refine Below.alloc ?_ ?_ _) | (with_reducible refine Below.drew ?_) | (with_reducible refine below_drewN ?_ _) | (with_reducible refine Below.setCell ?_ ?_ _) | (with_reducible refine below_step ?_ (by with_reducible assumption) ?_) | go_size))⟩
  have q3 : decide (total < data) = false := decide_eq_false (by omega)
  have q4 : decide (16 < total) = false := decide_eq_false (by omega)
  rcases Decidable.em (1 ≤ block ∧ block ≤ 65536) with a3 | a3
  rotate_left
  · obtain rfl := HNO.out fun h => a3 h.2.2.2.1
    by_cases b1 : block < 1
    · have q5 : decide (block < 1) = true := decide_eq_true b1
      clear a3
      go_wp2
      go_ret
      exact ⟨rfl, by (repeat' (first | (with_reducible exact Below.refl _ _) | (with_reducible assumption) | (with_reducible refine Below.alloc ?_ ?_ _) | (with_reducible refine Below.drew ?_) | (with_reducible refine below_drewN ?_ _) | (with_reducible refine Below.setCell ?_ ?_ _) | (with_reducible refine below_step ?_ (by with_reducible assumption) ?_) | go_size))⟩
    · have q5 : decide (block < 1) = false := decide_eq_false b1
      have q6 : decide (65536 < block) = true := decide_eq_true (by omega)
      clear a3
      go_wp2
      go_ret
      exact ⟨rfl, by (repeat' (first | (with_reducible exact Below.refl _ _) | (with_reducible assumption) | (with_reducible refine Below.alloc ?_ ?_ _) | (with_reducible refine Below.drew ?_) | (with_reducible refine below_drewN ?_ _) | (with_reducible refine Below.setCell ?_ ?_ _) | (with_reducible refine below_step ?_ (by with_reducible assumption) ?_) | go_size))⟩
  have q5 : decide (block < 1) = false := decide_eq_false (by omega)
  have q6 : decide (65536 < block) = false := decide_eq_false (by omega)
  by_cases a4 : (zs.length : Int) = total
  rotate_left
  · obtain rfl := HNO.out fun h => a4 h.2.2.2.2.1
    have q7 : ((zs.length : Int) != total) = true := by simpa using a4
    clear a4
    go_wp2
    go_ret
    exact ⟨rfl, by (repeat' (first | (with_reducible exact Below.refl _ _) | (with_reducible assumption) | (with_reducible refine Below.alloc ?_ ?_ _) | (with_reducible refine Below.drew ?_) | (with_reducible refine below_drewN ?_ _) | (with_reducible refine Below.setCell ?_ ?_ _) | (with_reducible refine below_step ?_ (by with_reducible assumption) ?_) | go_size))⟩
  have q7 : ((zs.length : Int) != total) = false := by simpa using a4
  have hyes : AtOk n zs → r = true := fun h => by rw [HR.out]; exact decide_eq_true (HD.out.2 ⟨a0, a1, a2, a3, a4, h⟩)
  have hno : ¬ AtOk n zs → r = false := fun h => HNO.out fun hh => h hh.2.2.2.2.2
  have HY := Lib.hid hyes
  have HN := Lib.hid hno
  have hl16 : zs.length ≤ 16 := by omega
  clear hyes hno HNO HD HR a1 a2 a3 a4
  clear a0
  have hz0 : seenC [] = #[.bool false, .bool false, .bool false, .bool false, .bool false, .bool false, .bool false, .bool false, .bool false, .bool false, .bool false, .bool false] := by kernel_rfl
  have HZ0 := Lib.hid hz0
  clear hz0
  go_wp2
  clear q0 q1 q2 q3 q4 q5 q6 q7
  generalize hW : (((w.alloc _).alloc _).alloc _) = W
  have hb0 : Below w.heap.size w W := by subst hW; (repeat' (first | (with_reducible exact Below.refl _ _) | (with_reducible assumption) | (with_reducible refine Below.alloc ?_ ?_ _) | (with_reducible refine Below.drew ?_) | (with_reducible refine below_drewN ?_ _) | (with_reducible refine Below.setCell ?_ ?_ _) | (with_reducible refine below_step ?_ (by with_reducible assumption) ?_) | go_size))
  have hblk0 : W.heap[w.heap.size + 2]? = some (.cells (seenC []) 124 (0, 0)) := by
    subst hW; rw [HZ0.out]; show (Array.push _ _)[_]? = _; rw [Array.getElem?_push, if_pos (by simp)]
  clear hW HZ0
  go_loopw [56] (fun v56 wr => ∃ j : Nat, j ≤ zs.length ∧ v56 = .int .i64 j ∧ AtOk n (zs.take j) ∧ Below w.heap.size w wr ∧ wr.heap[w.heap.size + 2]? = some (.cells (seenC (zs.take j)) 124 (0, 0))) (fun v56 _ => zs.length - (intOf v56).toNat)
  case atStart => exact ⟨0, Nat.zero_le _, rfl, by simp [AtOk], hb0, hblk0⟩
  case round =>
    obtain ⟨j, hj, rfl, hok, hbel, hblk⟩ := hrel
    have HK := Lib.hid hok
    clear hok hb0 hblk0
    by_cases hlt : j < zs.length
    · obtain ⟨e1, e2⟩ := HC.out j hlt
      subst e1
      have hg := getD_at zs j 0 hlt
      have hs := atOk_snoc n zs j hlt
      have hse : seenC (zs.take (j + 1)) = seenC (zs.take j ++ [zs[j]]) := by rw [List.take_succ_eq_append_getElem hlt]
      have ht := fun h => atOk_take (n := n) (zs := zs) h (j + 1)
      rw [hg] at e2
      rw [← hbel.cell (p := ⟨b, _, none⟩) (cell_lt e2)] at e2
      have HS := Lib.hid hs
      have HT := Lib.hid ht
      have HSE := Lib.hid hse
      clear hg hs hse ht
      generalize zs[j] = y at e2 HS HSE
      by_cases k0 : y = -1
      · subst k0
        have h1 := HS.out.2 ⟨HK.out, .inl rfl⟩
        have H1 := Lib.hid h1
        have h2 := HSE.out.trans (seenC_neg _ _ (by omega))
        have H2 := Lib.hid h2
        clear h1 h2
        go_wp2
        go_roundw
        case rel => exact ⟨j + 1, by omega, by go_num, H1.out, hbel, by rw [H2.out]; exact hblk⟩
        case measure => simp [intOf]; omega
      · by_cases k1 : 0 ≤ y ∧ y < n
        · obtain ⟨d, rfl⟩ : ∃ d : Nat, y = d := ⟨y.toNat, by omega⟩
          have hd : d < 12 := by omega
          have c1 := cell_of_row wr _ d _ _ _ hblk
          rw [seenC_at _ _ hd] at c1
          have fz := frozen_of_row wr _ d _ _ hblk
          have q1 : decide ((d : Int) < 0) = false := decide_eq_false (by omega)
          have q2 : decide ((n : Int) ≤ d) = false := decide_eq_false (by omega)
          have q3 : ((d : Int) == -1) = false := by simp
          by_cases k2 : (d : Int) ∈ zs.take j
          · obtain rfl := HN.out fun h => by
              rcases (HS.out.1 (HT.out h)).2 with h | h
              · omega
              · exact h.2 k2
            rw [decide_eq_true k2] at c1
            clear k2
            go_wp2
            go_ret
            exact ⟨rfl, hbel⟩
          · have h1 := HS.out.2 ⟨HK.out, .inr ⟨k1, k2⟩⟩
            have H1 := Lib.hid h1
            have h2 := setCell_block (i := d) hblk (.bool true)
            rw [seenC_set, ← HSE.out] at h2
            have H2 := Lib.hid h2
            rw [decide_eq_false k2] at c1
            clear k2 h1 h2
            go_wp2
            go_roundw
            case rel => exact ⟨j + 1, by omega, by go_num, H1.out, by (repeat' (first | (with_reducible exact Below.refl _ _) | (with_reducible assumption) | (with_reducible refine Below.alloc ?_ ?_ _) | (with_reducible refine Below.drew ?_) | (with_reducible refine below_drewN ?_ _) | (with_reducible refine Below.setCell ?_ ?_ _) | (with_reducible refine below_step ?_ (by with_reducible assumption) ?_) | go_size)), H2.out⟩
            case measure => simp [intOf]; omega
        · obtain rfl := HN.out fun h => by
            rcases (HS.out.1 (HT.out h)).2 with h | h
            · exact k0 h
            · exact k1 h.1
          by_cases k2 : y < 0
          · have q1 : decide (y < 0) = true := decide_eq_true k2
            clear k1
            go_wp2
            go_ret
            exact ⟨rfl, hbel⟩
          · have q1 : decide (y < 0) = false := decide_eq_false k2
            have q2 : decide ((n : Int) ≤ y) = true := decide_eq_true (by omega)
            clear k1
            go_wp2
            go_ret
            exact ⟨rfl, hbel⟩
    · have hjl : j = zs.length := by omega
      subst hjl
      obtain rfl := HY.out (by have := HK.out; rw [List.take_length] at this; exact this)
      go_wp2
      go_ret
      exact ⟨rfl, hbel⟩
end Go.Proofs.Ytijcicgbhcphjaa
