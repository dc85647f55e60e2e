/- few: is a goal small? -/
import Derived.Test.YtapjgjjmlbhanaaB5
import Derived.Deep.WholeRow
namespace Go.Proofs.Ytapjgjjmlbhanaa
open Go.RowKit Go.Lib

def hdSmall (x : Hd) : Bool := decide (x.ps.length ≤ 20) && decide (x.ss.length ≤ 20)
def fewB (g : Gl) (hs : List Hd) : Bool := hs.all hdSmall && (decide (g.ns.length ≤ 6) && (decide (g.ps.length ≤ 20) && (decide (g.ss.length ≤ 20) && (decide (hs.length ≤ 6) || decide (hs.length = 13)))))

theorem all_take_succ {α : Type} (p : α → Bool) (xs : List α) (j : Nat) (h : j < xs.length) : (xs.take (j + 1)).all p = ((xs.take j).all p && p xs[j]) := by
  rw [List.take_succ_eq_append_getElem h, List.all_append]; simp

set_option maxRecDepth 100000 in
set_option maxHeartbeats 2000000 in
theorem few_any (g : Gl) (v : Value) (hs : List Hd) (w : World) (hg : GlAt w g) (hv : ReadsH w v hs) :
    Calls Try.prog 12 #[g.v, v] w fun e w' => e = .returned (.bool (fewB g hs)) ∧ Below w.heap.size w w' := by
  obtain ⟨r, hr⟩ : ∃ r, r = fewB g hs := ⟨_, rfl⟩
  rw [← hr]
  have HR := Lib.hid hr
  clear hr
  obtain ⟨ao, c, b, off, rfl, hlc, hm, hcell⟩ := hv.at
  have HC := Lib.hid hcell
  obtain ⟨nv, thr, idx, pv, sv, ns, ps, ss⟩ := g
  unfold Gl.v
  obtain ⟨h1, h2, h3⟩ := hg
  simp only at h1 h2 h3 HR
  obtain ⟨na, nc, nb, noff, rfl, hnl, hnm, _⟩ := h1.at
  obtain ⟨pa, pc, _, _, rfl, _, hpm, _⟩ := h2.at
  obtain ⟨sa, sc, _, _, rfl, _, hsm, _⟩ := h3.at
  have HM := Lib.hid hnm
  clear h1 h2 h3 hv hcell
  unfold fewB at HR
  simp only at HR
  generalize ns.length = n1 at *
  generalize ps.length = n2 at *
  generalize ss.length = n3 at *
  go_enter Try.func12, Try.ntmps12
  go_wp2
  have hb := heap_alloc_last w (.cells #[.slice na n1 nc, .int .i64 thr, .bool idx, .slice pa n2 pc, .slice sa n3 sc] 26)
  have c0 := cell_of_row _ _ 0 _ _ _ hb
  have c3 := cell_of_row _ _ 3 _ _ _ hb
  have c4 := cell_of_row _ _ 4 _ _ _ hb
  have bW : Below w.heap.size w (w.alloc (.cells #[.slice na n1 nc, .int .i64 thr, .bool idx, .slice pa n2 pc, .slice sa n3 sc] 26)) := (Below.refl _ _).alloc (Nat.le_refl _) _
  generalize hG : w.heap.size = G at *
  generalize w.alloc (.cells #[.slice na n1 nc, .int .i64 thr, .bool idx, .slice pa n2 pc, .slice sa n3 sc] 26) = W at *
  clear hb
  go_loop [5] (fun v5 => ∃ j : Nat, j ≤ hs.length ∧ v5 = .int .i64 j ∧ (hs.take j).all hdSmall = true) (fun v5 => hs.length - (intOf v5).toNat)
  case atStart => exact ⟨0, Nat.zero_le _, rfl, rfl⟩
  case round =>
    obtain ⟨j, hj, rfl, hall⟩ := hrel
    by_cases hlt : j < hs.length
    · obtain ⟨e1, _, e3, e4, _, hat⟩ := HC.out j hlt
      subst e1
      have hst := all_take_succ hdSmall hs j hlt
      rw [hall, Bool.true_and] at hst
      rw [getD_at _ _ _ hlt] at e3 e4 hat
      rw [← bW.cell (p := ⟨b, _, none⟩) (by rw [← hG]; exact cell_lt e3)] at e3
      rw [← bW.cell (p := ⟨b, _, none⟩) (by rw [← hG]; exact cell_lt e4)] at e4
      have hF : hdSmall hs[j] = false → r = false := fun h => by
        have : hs.all hdSmall = false := by
          rw [List.all_eq_false]
          exact ⟨hs[j], List.getElem_mem hlt, by simp [h]⟩
        rw [HR.out, this, Bool.false_and]
      have hdd : hdSmall hs[j] = (decide ((hs[j]).ps.length ≤ 20) && decide ((hs[j]).ss.length ≤ 20)) := rfl
      rw [hdd] at hst hF
      clear hdd
      obtain ⟨_, _, _, _, hpv, _, hp1, _⟩ := hat.1.at
      obtain ⟨_, _, _, _, hsv, _, hp2, _⟩ := hat.2.at
      rw [hpv] at e3
      rw [hsv] at e4
      have HST := Lib.hid hst
      have HF := Lib.hid hF
      clear hst hF hpv hsv hat
      generalize (hs[j]).ps.length = m1 at *
      generalize (hs[j]).ss.length = m2 at *
      by_cases q1 : m1 ≤ 20
      · have d1 : decide ((m1 : Int) > 20) = false := by simp; omega
        by_cases q2 : m2 ≤ 20
        · have d2 : decide ((m2 : Int) > 20) = false := by simp; omega
          go_wp2
          go_round
          case rel => exact ⟨j + 1, by omega, by go_num, by rw [HST.out]; simp [q1, q2]⟩
          case measure => simp [intOf]; omega
        · have d2 : decide ((m2 : Int) > 20) = true := by simp; omega
          obtain rfl : r = false := HF.out (by simp [q2])
          go_wp2
          go_ret
          exact ⟨rfl, bW⟩
      · have d1 : decide ((m1 : Int) > 20) = true := by simp; omega
        obtain rfl : r = false := HF.out (by simp [q1])
        go_wp2
        go_ret
        exact ⟨rfl, bW⟩
    · have hjl : j = hs.length := by omega
      subst hjl
      rw [List.take_length] at hall
      have hr : r = (decide (n1 ≤ 6) && (decide (n2 ≤ 20) && (decide (n3 ≤ 20) && (decide (hs.length ≤ 6) || decide (hs.length = 13))))) := by rw [HR.out, hall, Bool.true_and]
      clear hall
      clear hm hlc hj hlt
      generalize hs.length = n4 at *
      have k1 : decide ((n1 : Int) ≤ 6) = decide (n1 ≤ 6) := by rw [decide_eq_decide]; omega
      have k2 : decide ((n2 : Int) ≤ 20) = decide (n2 ≤ 20) := by rw [decide_eq_decide]; omega
      have k3 : decide ((n3 : Int) ≤ 20) = decide (n3 ≤ 20) := by rw [decide_eq_decide]; omega
      have k4 : decide ((n4 : Int) ≤ 6) = decide (n4 ≤ 6) := by rw [decide_eq_decide]; omega
      have k5 : decide ((n4 : Int) = 13) = decide (n4 = 13) := by rw [decide_eq_decide]; omega
      have k6 : ((n4 : Int) == 13) = decide (n4 = 13) := by rw [← k5]; rfl
      clear HC HR
      generalize decide (n1 ≤ 6) = b1 at *
      generalize decide (n2 ≤ 20) = b2 at *
      generalize decide (n3 ≤ 20) = b3 at *
      generalize decide (n4 ≤ 6) = b4 at *
      generalize decide (n4 = 13) = b5 at *
      rcases b1 with _ | _
      · obtain rfl : r = false := by rw [hr]; rfl
        clear hr
        go_wp2
        go_ret
        exact ⟨rfl, bW⟩
      rcases b2 with _ | _
      · obtain rfl : r = false := by rw [hr]; rfl
        clear hr
        go_wp2
        go_ret
        exact ⟨rfl, bW⟩
      rcases b3 with _ | _
      · obtain rfl : r = false := by rw [hr]; rfl
        clear hr
        go_wp2
        go_ret
        exact ⟨rfl, bW⟩
      rcases b4 with _ | _
      · obtain rfl : r = b5 := by rw [hr]; cases b5 <;> rfl
        have K6 := Lib.hid k6
        clear hr k6
        go_wp2
        go_ret
        exact ⟨congrArg (fun x => Ending.returned (.bool x)) K6.out, bW⟩
      · obtain rfl : r = true := by rw [hr]; rfl
        clear hr
        go_wp2
        go_ret
        exact ⟨rfl, bW⟩

end Go.Proofs.Ytapjgjjmlbhanaa
