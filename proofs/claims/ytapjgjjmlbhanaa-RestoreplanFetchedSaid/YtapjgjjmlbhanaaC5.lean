/- set: the set of the holdings of devices. -/
import Derived.Test.YtapjgjjmlbhanaaC4
namespace Go.Proofs.Ytapjgjjmlbhanaa
open Go.RowKit Go.Lib

/-- The bits of the holdings whose device is among some. -/
def setN (devs : List Int) (L : List Hd) : Nat → Nat
  | 0 => 0
  | n + 1 => if (L.getD n default).dev ∈ devs then setN devs L n ||| 2 ^ n else setN devs L n
theorem setN_lt (devs : List Int) (L : List Hd) : ∀ n, setN devs L n < 2 ^ n
  | 0 => by simp [setN]
  | n + 1 => by
    have h := setN_lt devs L n
    have h2 : setN devs L n < 2 ^ (n + 1) := Nat.lt_trans h (Nat.pow_lt_pow_right (by omega) (by omega))
    unfold setN
    split
    · exact Nat.or_lt_two_pow h2 (Nat.pow_lt_pow_right (by omega) (by omega))
    · exact h2

theorem or_i64 (a j : Nat) (ha : a < 2 ^ j) (hj : j < 12) : bits .or .i64 (a : Int) (2 ^ j) = ((a ||| 2 ^ j : Nat) : Int) := by
  have e : ((2 : Int) ^ j) = ((2 ^ j : Nat) : Int) := by simp
  rw [e]
  have h1 : 2 ^ j < 2 ^ 63 := Nat.pow_lt_pow_right (by omega) (by omega)
  exact (bits_nat .i64 63 (by decide) wraps_i64 a (2 ^ j) (Nat.lt_trans ha h1) h1).2

set_option maxRecDepth 100000 in
set_option maxHeartbeats 4000000 in
theorem set_any (p : Nat) (lv dv : Value) (L : List Hd) (devs : List Int) (w : World) (hp : w.cell? ⟨p, 6, none⟩ = some lv) (hL : ReadsH w lv L) (h12 : L.length ≤ 12) (hd : ReadsI w dv devs) :
    Calls Try.prog 43 #[.pointer (some ⟨p, 0, none⟩), dv] w fun e w' => e = .returned (.int .i64 (setN devs L L.length : Nat)) ∧ Below w.heap.size w w' := by
  obtain ⟨ao, c, b, off, rfl, hl, hm, hcell⟩ := hL.at
  have HC := Lib.hid hcell
  have HD := Lib.hid hd
  obtain ⟨fin, hfin⟩ : ∃ fin, fin = setN devs L L.length := ⟨_, rfl⟩
  rw [← hfin]
  have HF := Lib.hid hfin
  clear hcell hL hd hfin
  go_enter Try.func43, Try.ntmps43
  go_wp2
  have e0 : setN devs L 0 = 0 := rfl
  have E0 := Lib.hid e0
  clear e0
  go_loopw [5, 6, 7, 13] (fun v5 _ _ v13 wr => ∃ j : Nat, j ≤ L.length ∧ v13 = .int .i64 j ∧ v5 = .int .i64 (setN devs L j : Nat) ∧ Below w.heap.size w wr) (fun _ _ _ v13 _ => L.length - (intOf v13).toNat)
  case atStart => exact ⟨0, Nat.zero_le _, rfl, by rw [E0.out]; rfl, Below.refl _ _⟩
  case round =>
    obtain ⟨j, hj, rfl, rfl, hbel⟩ := hrel
    have zr := hbel.size
    by_cases hlt : j < L.length
    · obtain ⟨e1, e2, e3, e4, e5, hat⟩ := HC.out j hlt
      subst e1
      rw [← hbel.cell (p := ⟨b, _, none⟩) (cell_lt e2)] at e2
      rw [← hbel.cell (p := ⟨b, _, none⟩) (cell_lt e3)] at e3
      rw [← hbel.cell (p := ⟨b, _, none⟩) (cell_lt e4)] at e4
      rw [← hbel.cell (p := ⟨b, _, none⟩) (cell_lt e5)] at e5
      have hst : setN devs L (j + 1) = if (L.getD j default).dev ∈ devs then setN devs L j ||| 2 ^ j else setN devs L j := rfl
      have hlt2 := setN_lt devs L j
      have HST := Lib.hid hst
      obtain ⟨hpd, hsd⟩ := hat
      obtain ⟨pa, pc, _, _, hpe, _⟩ := hpd.at
      obtain ⟨sa, sc, _, _, hse, _⟩ := hsd.at
      rw [hpe] at e3
      rw [hse] at e4
      clear hst hpd hsd hpe hse
      generalize (L.getD j default).dev = dev at *
      generalize (L.getD j default).ps.length = pn at *
      generalize (L.getD j default).ss.length = sn at *
      generalize (L.getD j default).idx = idx at *
      have hor := or_i64 (setN devs L j) j hlt2 (by omega)
      have h2j : 2 ^ j < 2 ^ 12 := Nat.pow_lt_pow_right (by omega) (by omega)
      rw [show (2 : Nat) ^ 12 = 4096 from rfl] at h2j
      have hw2 : IntKind.i64.wrap (2 ^ j) = (2 ^ j : Int) := by
        have e : ((2 : Int) ^ j) = ((2 ^ j : Nat) : Int) := by simp
        rw [e]
        generalize (2 ^ j : Nat) = pw at h2j
        exact wraps_i64 _ (by omega) (by omega)
      generalize setN devs L j = s at *
      have bW : Below w.heap.size w (wr.alloc (.cells #[.int .i64 dev, .slice pa pn pc, .slice sa sn sc, .bool idx] 88)) := hbel.alloc zr _
      have CC := Lib.hid (slContains_any dv devs dev _ (HD.out.below bW))
      by_cases hmem : dev ∈ devs
      · rw [decide_eq_true hmem] at CC
        have HNX := Lib.hid (show setN devs L (j + 1) = s ||| 2 ^ j by rw [HST.out, if_pos hmem])
        clear hmem
        generalize s ||| 2 ^ j = t at hor HNX
        go_wp2_with fail
        refine CC.out.mono ?_
        rintro e w5 ⟨rfl, rfl⟩
        go_wp2
        go_roundw
        case rel => exact ⟨j + 1, by omega, by go_num, by rw [HNX.out], bW⟩
        case measure => simp [intOf]; omega
      · rw [decide_eq_false hmem] at CC
        have HNX := Lib.hid (show setN devs L (j + 1) = s by rw [HST.out, if_neg hmem])
        clear hmem hor
        go_wp2_with fail
        refine CC.out.mono ?_
        rintro e w5 ⟨rfl, rfl⟩
        go_wp2
        go_roundw
        case rel => exact ⟨j + 1, by omega, by go_num, by rw [HNX.out], bW⟩
        case measure => simp [intOf]; omega
    · have hjl : j = L.length := by omega
      subst hjl
      have hff := HF.out
      go_wp2
      go_ret
      exact ⟨ret_int (by rw [hff]), hbel⟩

end Go.Proofs.Ytapjgjjmlbhanaa
