/- validPieces. -/
import Derived.Test.YtapjgjjmlbhanaaA8
import Derived.Test.YtapjgjjmlbhanaaA1
namespace Go.Proofs.Ytapjgjjmlbhanaa
open Go.RowKit Go.Lib Go.ChangeMaps

def emptyV : Value := .agg #[]
/-- A set of keys. -/
def setOf {α : Type} (ks : List α) : List (α × Value) := ks.map fun k => (k, .agg #[])
theorem setOf_keys {α : Type} (ks : List α) : (setOf ks).map (·.1) = ks := by simp [setOf, Function.comp_def]
theorem seekL_set {α : Type} [DecidableEq α] (a : α) (ks : List α) : (a ∈ ks ∧ ∃ i, seekL a (setOf ks) 0 = some (i, .agg #[])) ∨ (a ∉ ks ∧ seekL a (setOf ks) 0 = none) := by
  by_cases h : a ∈ ks
  · left
    refine ⟨h, ?_⟩
    cases hs : seekL a (setOf ks) 0 with
    | none => have := seekL_none.1 hs; rw [setOf_keys] at this; exact absurd h this
    | some p =>
      obtain ⟨h1, h2⟩ := seekL_some hs
      obtain ⟨i, v⟩ := p
      have : (a, v) ∈ setOf ks := List.mem_of_getElem? h2
      simp [setOf] at this
      exact ⟨i, by obtain ⟨_, _, _, h⟩ := this; rw [h]⟩
  · right
    exact ⟨h, seekL_none.2 (by rw [setOf_keys]; exact h)⟩

set_option maxRecDepth 100000 in
set_option maxHeartbeats 2000000 in
theorem validPieces_any (v : Value) (ps : List Pc) (w : World) (hv : ReadsP w v ps) :
    Calls Try.prog 63 #[v] w fun e w' => e = .returned (.bool (decide (PcsOk ps))) ∧ Below w.heap.size w w' := by
  obtain ⟨ao, c, b, off, rfl, hl, hm, hcell⟩ := hv.at
  have HC := Lib.hid hcell
  clear hcell hv
  obtain ⟨r, hr⟩ : ∃ r, r = decide (PcsOk ps) := ⟨_, rfl⟩
  rw [← hr]
  have HR := Lib.hid hr
  clear hr
  have hmm := @run_makeMap Try.prog
  go_enter Try.func63, Try.ntmps63
  go_wp2
  obtain ⟨m, hm0⟩ : ∃ m, m = w.heap.size := ⟨_, rfl⟩
  have HM0 := Lib.hid hm0
  rw [← hm0]
  clear hm0 hmm
  go_loopw [11] (fun v11 wr => ∃ j : Nat, j ≤ ps.length ∧ v11 = .int .i64 j ∧ PcsOk (ps.take j) ∧ Below w.heap.size w wr ∧ wr.heap[m]? = some (mapObj Pc.v (setOf (ps.take j)))) (fun v11 _ => ps.length - (intOf v11).toNat)
  case atStart => exact ⟨0, Nat.zero_le _, rfl, by simp [PcsOk], (Below.refl _ _).alloc (Nat.le_refl _) _, by rw [HM0.out]; exact heap_alloc_new _ _⟩
  case round =>
    obtain ⟨j, hj, rfl, hok, hbel, hmap⟩ := hrel
    have HN := Lib.hid hok
    have HB := Lib.hid hmap
    have mlt := (Array.getElem?_eq_some_iff.1 hmap).1
    have zr := hbel.size
    clear hok hmap
    by_cases hlt : j < ps.length
    · obtain ⟨e1, e2, e3⟩ := HC.out j hlt
      subst e1
      have hg := getD_at ps j default hlt
      have hs := pcsOk_snoc ps j hlt
      have ht := fun h => pcsOk_take (ps := ps) h (j + 1)
      have happ : ps.take (j + 1) = ps.take j ++ [ps[j]] := List.take_succ_eq_append_getElem hlt
      have HA := Lib.hid happ
      have HT := Lib.hid ht
      have HS := Lib.hid hs
      rw [hg] at e2 e3
      rw [← hbel.cell (p := ⟨b, _, none⟩) (cell_lt e2)] at e2
      rw [← hbel.cell (p := ⟨b, _, none⟩) (cell_lt e3)] at e3
      clear hs hg ht happ
      generalize ps[j] = y at e2 e3 HS HA
      have hlk : ∀ o, _ := fun o => key_pc.lookup (tm := 137) (te := 123) Try.underlying137 (z := .agg #[]) (fun w => by kernel_rfl) (w := wr.alloc o) (r := m) (L := setOf (ps.take j)) (by rw [Below.heap_alloc wr o m mlt]; exact HB.out) y
      obtain ⟨s, i⟩ := y
      unfold Pc.v at hlk
      simp only at e2 e3
      rcases seekL_set (⟨s, i⟩ : Pc) (ps.take j) with ⟨k1, _, k2⟩ | ⟨k1, k2⟩
      · rw [k2] at hlk
        have hr : r = false := by rw [HR.out]; exact decide_eq_false fun h => (HS.out.1 (HT.out h)).2.2 k1
        subst hr
        clear k1 k2
        go_wp2
        go_ret
        exact ⟨rfl, by (repeat' (first | (with_reducible exact Below.refl _ _) | (with_reducible assumption) | (with_reducible refine Below.alloc ?_ ?_ _) | (with_reducible refine Below.drew ?_) | (with_reducible refine below_drewN ?_ _) | (with_reducible refine Below.setCell ?_ ?_ _) | (with_reducible refine below_step ?_ (by with_reducible assumption) ?_) | go_size))⟩
      · rw [k2] at hlk
        have hup : ∀ o o', _ := fun o o' => key_pc.update (tm := 137) (te := 123) Try.underlying137 (w := (wr.alloc o).alloc o') (r := m) (L := setOf (ps.take j))
          (by rw [Below.heap_alloc (wr.alloc o) o' m (by rw [World.size_alloc]; omega), Below.heap_alloc wr o m mlt]; exact HB.out) (⟨s, i⟩ : Pc) (.agg #[]) (by rw [setOf_keys]; exact k1)
        unfold Pc.v at hup
        have hnx : setOf (ps.take j) ++ [((⟨s, i⟩ : Pc), Value.agg #[])] = setOf (ps.take (j + 1)) := by rw [HA.out]; simp [setOf]
        have HK := Lib.hid k1
        clear k1 k2
        by_cases q1 : i < 0
        · have hr : r = false := by rw [HR.out]; exact decide_eq_false fun h => by (have := (HS.out.1 (HT.out h)).2.1.1; simp only at this; omega)
          subst hr
          clear hup hnx
          go_wp2
          go_ret
          exact ⟨rfl, by (repeat' (first | (with_reducible exact Below.refl _ _) | (with_reducible assumption) | (with_reducible refine Below.alloc ?_ ?_ _) | (with_reducible refine Below.drew ?_) | (with_reducible refine below_drewN ?_ _) | (with_reducible refine Below.setCell ?_ ?_ _) | (with_reducible refine below_step ?_ (by with_reducible assumption) ?_) | go_size))⟩
        · by_cases q2 : 16 ≤ i
          · have hr : r = false := by rw [HR.out]; exact decide_eq_false fun h => by (have := (HS.out.1 (HT.out h)).2.1.2; simp only at this; omega)
            subst hr
            clear hup hnx
            go_wp2
            go_ret
            exact ⟨rfl, by (repeat' (first | (with_reducible exact Below.refl _ _) | (with_reducible assumption) | (with_reducible refine Below.alloc ?_ ?_ _) | (with_reducible refine Below.drew ?_) | (with_reducible refine below_drewN ?_ _) | (with_reducible refine Below.setCell ?_ ?_ _) | (with_reducible refine below_step ?_ (by with_reducible assumption) ?_) | go_size))⟩
          · rw [hnx] at hup
            clear hnx
            go_wp2
            go_roundw
            case rel => exact ⟨j + 1, by omega, by go_num, HS.out.2 ⟨HN.out, ⟨by show 0 ≤ i; omega, by show i < 16; omega⟩, HK.out⟩, below_setBlock (by (repeat' (first | (with_reducible exact Below.refl _ _) | (with_reducible assumption) | (with_reducible refine Below.alloc ?_ ?_ _) | (with_reducible refine Below.drew ?_) | (with_reducible refine below_drewN ?_ _) | (with_reducible refine Below.setCell ?_ ?_ _) | (with_reducible refine below_step ?_ (by with_reducible assumption) ?_) | go_size))) (by rw [HM0.out]; exact Nat.le_refl _) _, setBlock_at (by simp only [World.size_alloc]; omega) _⟩
            case measure => simp [intOf]; omega
    · have hjl : j = ps.length := by omega
      subst hjl
      have hn := HN.out
      rw [List.take_length] at hn
      obtain rfl : r = true := by rw [HR.out]; exact decide_eq_true hn
      clear hn
      go_wp2
      go_ret
      exact ⟨rfl, hbel⟩

end Go.Proofs.Ytapjgjjmlbhanaa
