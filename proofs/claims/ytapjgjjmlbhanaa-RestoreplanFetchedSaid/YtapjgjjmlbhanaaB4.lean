/- Find of the reference. -/
import Derived.Test.YtapjgjjmlbhanaaB2
namespace Go.Proofs.Ytapjgjjmlbhanaa
open Go.RowKit Go.Lib

theorem below_step {B : Nat} {w w1 w2 : World} (h1 : Below B w w1) (h2 : Below w1.heap.size w1 w2) (hB : B ≤ w1.heap.size) : Below B w w2 := h1.trans (h2.mono hB)
theorem bcell {W w1 : World} (hb : Below W.heap.size W w1) : (∀ b o, b < W.heap.size → w1.cell? ⟨b, o, none⟩ = W.cell? ⟨b, o, none⟩) ∧ (∀ b o, b < W.heap.size → w1.frozen? ⟨b, o, none⟩ = W.frozen? ⟨b, o, none⟩) :=
  ⟨fun b o h => hb.cell (p := ⟨b, o, none⟩) h, fun b o h => hb.frozen (p := ⟨b, o, none⟩) h⟩

/-- The first place of a number, or -1. -/
def findI (x : Int) : List Int → Int
  | [] => -1
  | y :: r => if y = x then 0 else if findI x r < 0 then -1 else findI x r + 1

theorem findI_ge (x : Int) : ∀ ds : List Int, -1 ≤ findI x ds
  | [] => by simp [findI]
  | y :: r => by have := findI_ge x r; unfold findI; split <;> (try split) <;> omega

theorem findI_none {x : Int} : ∀ {ds : List Int}, x ∉ ds → findI x ds = -1
  | [], _ => rfl
  | y :: r, h => by
    have h1 : y ≠ x := fun e => h (by simp [e])
    have h2 := findI_none (x := x) (ds := r) (fun e => h (by simp [e]))
    unfold findI
    rw [if_neg h1, if_pos (by omega)]

theorem findI_at {x : Int} : ∀ {ds : List Int} (j : Nat), j < ds.length → x ∉ ds.take j → ds.getD j 0 = x → findI x ds = j
  | [], j, h, _, _ => by simp at h
  | y :: r, 0, _, _, h => by simp at h; unfold findI; rw [if_pos h]; rfl
  | y :: r, j + 1, h, h1, h2 => by
    have e1 : y ≠ x := fun e => h1 (by simp [e])
    have e2 := findI_at (ds := r) j (by simpa using h) (fun e => h1 (by rw [List.take_succ_cons]; exact List.mem_cons_of_mem _ e)) (by simpa using h2)
    unfold findI
    rw [if_neg e1, e2, if_neg (by omega)]
    simp

theorem findI_mem {x : Int} : ∀ {ds : List Int}, 0 ≤ findI x ds ↔ x ∈ ds
  | [] => by simp [findI]
  | y :: r => by
    have ih := findI_mem (x := x) (ds := r)
    have := findI_ge x r
    unfold findI
    by_cases h : y = x
    · simp [h]
    · rw [if_neg h]
      have h' : ¬ x = y := fun e => h e.symm
      simp only [List.mem_cons, h', false_or, ← ih]
      split <;> omega

set_option maxHeartbeats 1000000 in
theorem find_any (v : Value) (n : Nat) (f : Nat → Nat → Value) (ds : List Int) (x : Int) (w : World) (hv : RowAt w v 4 n f) (hn : ds.length = n) (hf : ∀ i, i < n → f i 0 = .int .i64 (ds.getD i 0)) :
    Calls Try.prog 48 #[v, .int .i64 x] w fun e w' => e = .returned (.int .i64 (findI x ds)) ∧ w = w' := by
  subst hn
  obtain ⟨ao, c, b, off, rfl, hl, hm, hcell⟩ := hv.at
  have hcell' : ∀ i, i < ds.length → ao = some ⟨b, off, none⟩ ∧ w.cell? ⟨b, off + i * 4, none⟩ = some (.int .i64 (ds.getD i 0)) := fun i hi => by
    obtain ⟨h1, h2⟩ := hcell i hi
    have := h2 0 (by omega)
    rw [hf i hi] at this
    exact ⟨h1, this⟩
  have HC := Lib.hid hcell'
  obtain ⟨r, hr⟩ : ∃ r, r = findI x ds := ⟨_, rfl⟩
  rw [← hr]
  have HR := Lib.hid hr
  clear hcell hcell' hv hr hf
  go_enter Try.func48, Try.ntmps48
  go_wp2
  go_loop [5] (fun v5 => ∃ j : Nat, j ≤ ds.length ∧ v5 = .int .i64 j ∧ x ∉ ds.take j) (fun v5 => ds.length - (intOf v5).toNat)
  case atStart => exact ⟨0, Nat.zero_le _, rfl, by simp⟩
  case round =>
    obtain ⟨j, hj, rfl, hnot⟩ := hrel
    have HN := Lib.hid hnot
    clear hnot
    by_cases hlt : j < ds.length
    · obtain ⟨e1, e2⟩ := HC.out j hlt
      subst e1
      have hs := mem_take_succ ds x j hlt
      rw [← getD_at ds j 0 hlt] at hs
      have hfd := fun h => findI_at (x := x) (ds := ds) j hlt HN.out h
      have HS := Lib.hid hs
      have HF := Lib.hid hfd
      clear hs hfd
      generalize ds.getD j 0 = y at e2 HS HF
      by_cases hy : y = x
      · have k1 : (y == x) = true := by simp [hy]
        obtain rfl : r = (j : Int) := by rw [HR.out]; exact HF.out hy
        clear hy
        go_wp2
        go_ret
        exact ⟨rfl, rfl⟩
      · have k1 : (y == x) = false := by simp [hy]
        have HY := Lib.hid hy
        clear hy
        go_wp2
        go_round
        case rel => exact ⟨j + 1, by omega, by go_num, fun h => by (rcases HS.out.1 h with h | h; (exact HN.out h); (exact HY.out h.symm))⟩
        case measure => simp [intOf]; omega
    · have hjl : j = ds.length := by omega
      subst hjl
      have hn := HN.out
      rw [List.take_length] at hn
      obtain rfl : r = -1 := by rw [HR.out]; exact findI_none hn
      clear hn
      go_wp2
      go_ret
      exact ⟨rfl, rfl⟩

end Go.Proofs.Ytapjgjjmlbhanaa
