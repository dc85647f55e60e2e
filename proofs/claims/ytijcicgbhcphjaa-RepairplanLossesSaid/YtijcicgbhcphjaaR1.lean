/- The reference's There, Left. -/
import Derived.Test.YtijcicgbhcphjaaQ3
namespace Go.Proofs.Ytijcicgbhcphjaa
open Go.RowKit Go.Lib Go.ChangeMaps
set_option linter.unusedSimpArgs false

def thereB (V : Vp) (ls : List Int) (d : Int) : Bool := goodB (goneB V.mem ls) d && decide (d < V.mem.length)
theorem goneB_mem' {ms : List Mem} {ls : List Int} {x : Int} (h : x ∈ ls) (h0 : 0 ≤ x) : goneB ms ls x.toNat = true := by
  unfold goneB
  rw [Int.toNat_of_nonneg h0]
  simp [h]
theorem there_lost {V : Vp} {ls : List Int} {d : Int} (h : d ∈ ls) : thereB V ls d = false := by
  unfold thereB goodB
  by_cases h0 : 0 ≤ d
  · rw [goneB_mem' h h0]; simp
  · simp [h0]


set_option maxRecDepth 100000 in
set_option maxHeartbeats 4000000 in
theorem there_any (v lv : Value) (V : Vp) (ls : List Int) (d : Int) (w : World) (hv : VwAt w v V) (hl : ReadsI w lv ls) :
    Calls Try.prog 57 #[v, lv, .int .i64 d] w fun e w' => e = .returned (.bool (thereB V ls d)) ∧ Below w.heap.size w w' := by
  obtain ⟨mv, hv, rv, wv, rfl, hM, hH, hR, hW⟩ := hv
  obtain ⟨ma, mc, mb, mo, rfl, ml1, mm, mcell⟩ := hM.at
  obtain ⟨ha, hc, _, _, rfl, -⟩ := hH.at
  obtain ⟨ra, rc, _, _, rfl, -⟩ := hR.at
  obtain ⟨wa, wc, _, _, rfl, -⟩ := hW.at
  obtain ⟨la, lc, lb, lo, rfl, ll1, lm1, lcell⟩ := hl.at
  have MC := Lib.hid mcell
  have LC := Lib.hid lcell
  clear mcell lcell hM hH hR hW hl
  obtain ⟨r, hr⟩ : ∃ r, r = thereB V ls d := ⟨_, rfl⟩
  rw [← hr]
  have HR := Lib.hid hr
  have hlost : d ∈ ls → r = false := fun h => by rw [hr]; exact there_lost h
  have HLOST := Lib.hid hlost
  have hin : d ∉ ls → ∀ m : Nat, d = m → m < V.mem.length → r = !(V.mem.getD m default).exp := fun hn m e hm => by
    rw [hr]
    unfold thereB goodB goneB
    subst e
    rw [Int.toNat_natCast]
    simp [hn, hm]
  have hout : (d < 0 ∨ (V.mem.length : Int) ≤ d) → r = false := fun h => by
    rw [hr]
    unfold thereB goodB
    rcases h with h | h
    · simp [show ¬ 0 ≤ d by omega]
    · simp [show ¬ d < V.mem.length by omega]
  have HIN := Lib.hid hin
  have HOUT := Lib.hid hout
  clear hr hlost hin hout
  generalize V.held.length = nh at *
  generalize V.room.length = rl at *
  generalize V.weight.length = wl at *
  have hA : Below w.heap.size w (w.alloc (.cells #[.slice ma V.mem.length mc, .slice ha nh hc, .slice ra rl rc, .slice wa wl wc] 33)) := (Below.refl _ _).alloc (Nat.le_refl _) _
  have d0 : (w.alloc (.cells #[.slice ma V.mem.length mc, .slice ha nh hc, .slice ra rl rc, .slice wa wl wc] 33)).cell? ⟨w.heap.size, 0, none⟩ = some (.slice ma V.mem.length mc) := cell_of_row _ _ 0 _ _ _ (heap_alloc_new _ _)
  go_enter Try.func57, Try.ntmps57
  go_wp2
  generalize w.alloc (.cells #[.slice ma V.mem.length mc, .slice ha nh hc, .slice ra rl rc, .slice wa wl wc] 33) = W at *
  go_loop [11, 8] (fun v11 _ => ∃ j : Nat, j ≤ ls.length ∧ v11 = .int .i64 j ∧ d ∉ ls.take j) (fun v11 _ => ls.length - (intOf v11).toNat)
  case atStart => exact ⟨0, Nat.zero_le _, rfl, by simp⟩
  case round =>
    obtain ⟨j, hj, rfl, hnot⟩ := hrel
    have HN := Lib.hid hnot
    clear hnot
    by_cases hlt : j < ls.length
    · obtain ⟨e1, e2⟩ := LC.out j hlt
      subst e1
      rw [← hA.cell (p := ⟨lb, _, none⟩) (cell_lt e2)] at e2
      have hs := mem_take_succ ls d j hlt
      rw [← getD_at ls j 0 hlt] at hs
      have HS := Lib.hid hs
      have hmem : ls.getD j 0 ∈ ls := by rw [getD_at _ _ _ hlt]; exact List.getElem_mem hlt
      have HM := Lib.hid hmem
      clear hs hmem
      generalize ls.getD j 0 = y at *
      by_cases hy : y = d
      · have k1 : (y == d) = true := by simp [hy]
        obtain rfl := HLOST.out (hy ▸ HM.out)
        clear hy
        go_wp2
        go_ret
        exact ⟨rfl, hA⟩
      · have k1 : (y == d) = false := by simp [hy]
        have HY := Lib.hid hy
        clear hy
        go_wp2
        go_round
        case rel => exact ⟨j + 1, by omega, by go_num, fun h => by rcases HS.out.1 h with h | h; (exact HN.out h); (exact HY.out h.symm)⟩
        case measure => simp [intOf]; omega
    · have hjl : j = ls.length := by omega
      have hn := HN.out
      rw [hjl, List.take_length] at hn
      have HND := Lib.hid hn
      clear hn
      by_cases h0 : d < 0
      · obtain rfl := HOUT.out (.inl h0)
        have q1 : decide (0 ≤ d) = false := decide_eq_false (by omega)
        clear h0
        go_wp2
        go_ret
        exact ⟨rfl, hA⟩
      · obtain ⟨m, rfl⟩ : ∃ m : Nat, d = m := ⟨d.toNat, by omega⟩
        by_cases h1 : m < V.mem.length
        · obtain ⟨e1, e2, e3, e4, e5, e6⟩ := MC.out m h1
          subst e1
          have hrr := HIN.out HND.out m rfl h1
          have HRR := Lib.hid hrr
          have e6 := (hA.cell (p := ⟨mb, _, none⟩) (cell_lt e6)).trans e6
          clear e2 e3 e4 e5 hrr
          generalize (V.mem.getD m default).exp = ex at *
          go_wp2
          go_ret
          exact ⟨congrArg (fun b => Ending.returned (.bool b)) HRR.out.symm, hA⟩
        · obtain rfl := HOUT.out (.inr (by omega))
          have q2 : decide (m < V.mem.length) = false := decide_eq_false h1
          go_wp2
          go_ret
          exact ⟨rfl, hA⟩

end Go.Proofs.Ytijcicgbhcphjaa
