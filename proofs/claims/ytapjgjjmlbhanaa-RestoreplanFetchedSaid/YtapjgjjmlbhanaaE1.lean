/- Restorable of the reference; few. -/
import Derived.Test.YtapjgjjmlbhanaaB4
namespace Go.Proofs.Ytapjgjjmlbhanaa
open Go.RowKit Go.Lib

/-- A slice of strings. -/
def ReadsStr (w : World) (v : Value) (ss : List ByteArray) : Prop := RowAt w v 1 ss.length fun i _ => .string (ss.getD i ByteArray.empty)
theorem ReadsStr.below {w w' : World} {v : Value} {ss : List ByteArray} (h : ReadsStr w v ss) (hb : Below w.heap.size w w') : ReadsStr w' v ss := RowAt.below h hb
theorem ReadsStr.at {w : World} {v : Value} {ss : List ByteArray} (h : ReadsStr w v ss) : ∃ ao c b off, v = .slice ao ss.length c ∧ ss.length ≤ c ∧ ss.length ≤ 4611686018427387904 ∧ ∀ i, i < ss.length → ao = some ⟨b, off, none⟩ ∧ w.cell? ⟨b, off + i, none⟩ = some (.string (ss.getD i ByteArray.empty)) := by
  obtain ⟨ao, c, b, off, e, h1, h2, h3⟩ := RowAt.at h
  refine ⟨ao, c, b, off, e, h1, h2, fun i hi => ?_⟩
  obtain ⟨h4, h5⟩ := h3 i hi
  have := h5 0 (by omega)
  simp only [Nat.mul_one, Nat.add_zero] at this
  exact ⟨h4, this⟩

/-- One of the first n needs is this stripe, and lacks nothing. -/
def hasN (ns : List Nd) (nd : List Int) (s : ByteArray) : Nat → Bool
  | 0 => false
  | n + 1 => hasN ns nd s n || (decide ((ns.getD n default).st = s) && decide (nd.getD n 0 = 0))
def restB (ns : List Nd) (nd : List Int) : List ByteArray → Bool
  | [] => true
  | s :: r => hasN ns nd s nd.length && restB ns nd r
theorem restB_take (ns : List Nd) (nd : List Int) : ∀ (ss : List ByteArray) (j : Nat), j < ss.length → restB ns nd (ss.take (j + 1)) = (restB ns nd (ss.take j) && hasN ns nd (ss.getD j ByteArray.empty) nd.length)
  | [], j, h => by simp at h
  | s :: r, 0, _ => by simp [restB]
  | s :: r, j + 1, h => by
    have ih := restB_take ns nd r j (by simpa using h)
    simp only [List.take_succ_cons, restB] at ih ⊢
    rw [ih, Bool.and_assoc]
    rfl
theorem restB_false {ns : List Nd} {nd : List Int} : ∀ {ss : List ByteArray} {j : Nat}, restB ns nd (ss.take j) = false → restB ns nd ss = false
  | [], j, h => by simp [restB] at h
  | s :: r, 0, h => by simp [restB] at h
  | s :: r, j + 1, h => by
    simp only [List.take_succ_cons, restB, Bool.and_eq_false_iff] at h ⊢
    rcases h with h | h
    · exact .inl h
    · exact .inr (restB_false h)

set_option maxRecDepth 100000 in
set_option maxHeartbeats 4000000 in
theorem restorable_any (g : Gl) (nv sv : Value) (nd : List Int) (ss : List ByteArray) (w : World) (hg : ReadsN w g.nv g.ns) (hn : ReadsI w nv nd) (hs : ReadsStr w sv ss) (hl : nd.length ≤ g.ns.length) :
    Calls Try.prog 19 #[g.v, nv, sv] w fun e w' => e = .returned (.bool (restB g.ns nd ss)) ∧ Below w.heap.size w w' := by
  obtain ⟨r, hr⟩ : ∃ r, r = restB g.ns nd ss := ⟨_, rfl⟩
  rw [← hr]
  have HR := Lib.hid hr
  clear hr
  obtain ⟨gnv, thr, idx, pv, gsv, ns, ps, sh⟩ := g
  simp only at hg hl HR
  obtain ⟨ao, c, b, off, rfl, hl1, hm1, hc1⟩ := hg.at
  obtain ⟨ao2, c2, b2, off2, rfl, hl2, hm2, hc2⟩ := hn.at
  obtain ⟨ao3, c3, b3, off3, rfl, hl3, hm3, hc3⟩ := hs.at
  have HC1 := Lib.hid hc1
  have HC2 := Lib.hid hc2
  have HC3 := Lib.hid hc3
  unfold Gl.v
  clear hg hn hs hc1 hc2 hc3
  obtain ⟨G, hG⟩ : ∃ G, G = w.heap.size := ⟨_, rfl⟩
  have HG := Lib.hid hG
  go_enter Try.func19, Try.ntmps19
  go_wp2
  rw [← hG]
  clear hG
  go_loopw [7, 8, 9] (fun v7 _ _ wr => ∃ j : Nat, j ≤ ss.length ∧ v7 = .int .i64 j ∧ restB ns nd (ss.take j) = true ∧ Below w.heap.size w wr ∧ wr.heap[G]? = some (.cells #[.slice ao ns.length c, .int .i64 thr, .bool idx, pv, gsv] 37 (0, 0))) (fun v7 _ _ _ => ss.length - (intOf v7).toNat)
  case atStart => exact ⟨0, Nat.zero_le _, rfl, by simp [restB], by (repeat' (first | (with_reducible exact Below.refl _ _) | (with_reducible assumption) | (with_reducible refine Below.alloc ?_ ?_ _) | (with_reducible refine Below.drew ?_) | (with_reducible refine below_drewN ?_ _) | (with_reducible refine Below.setCell ?_ ?_ _) | (with_reducible refine below_step ?_ (by with_reducible assumption) ?_) | go_size)), by rw [HG.out]; exact heap_alloc_new _ _⟩
  case round =>
    obtain ⟨j, hj, rfl, hok, hbel, hgo⟩ := hrel
    have HOK := Lib.hid hok
    have HGO := Lib.hid hgo
    clear hok hgo
    by_cases hlt : j < ss.length
    · obtain ⟨e1, e2⟩ := HC3.out j hlt
      subst e1
      have hst := restB_take ns nd ss j hlt
      rw [HOK.out, Bool.true_and] at hst
      have hfl := fun h => restB_false (ns := ns) (nd := nd) (ss := ss) (j := j + 1) h
      have HST := Lib.hid hst
      have HFL := Lib.hid hfl
      have E2 := Lib.hid e2
      have e0 : hasN ns nd (ss.getD j ByteArray.empty) 0 = false := rfl
      have E0 := Lib.hid e0
      clear hst hfl e2 e0
      generalize ss.getD j ByteArray.empty = s at E2 HST E0
      go_wp2
      go_loopw [8, 9] (fun v8 v9 wq => ∃ n : Nat, n ≤ nd.length ∧ v9 = .int .i64 n ∧ v8 = .bool (hasN ns nd s n) ∧ Below w.heap.size w wq ∧ wq.heap[G]? = some (.cells #[.slice ao ns.length c, .int .i64 thr, .bool idx, pv, gsv] 37 (0, 0))) (fun _ v9 _ => nd.length - (intOf v9).toNat)
      case atStart => exact ⟨0, Nat.zero_le _, rfl, by rw [E0.out], hbel, HGO.out⟩
      case round =>
        obtain ⟨n, hn, rfl, rfl, hbel2, hgo⟩ := hrel
        have d0 := cell_of_row wr _ 0 _ _ _ hgo
        have HGO2 := Lib.hid hgo
        clear hgo
        by_cases hlt2 : n < nd.length
        · obtain ⟨f1, f2, f3⟩ := HC1.out n (by omega)
          obtain ⟨h1, h2⟩ := HC2.out n hlt2
          subst f1 h1
          have e2 := E2.out
          rw [← hbel2.cell (p := ⟨b3, _, none⟩) (cell_lt e2)] at e2
          rw [← hbel2.cell (p := ⟨b, _, none⟩) (cell_lt f2)] at f2
          rw [← hbel2.cell (p := ⟨b2, _, none⟩) (cell_lt h2)] at h2
          have hnl : n < ns.length := by omega
          have hst : hasN ns nd s (n + 1) = (hasN ns nd s n || (decide ((ns.getD n default).st = s) && decide (nd.getD n 0 = 0))) := rfl
          have HS2 := Lib.hid hst
          clear hst f3
          generalize (ns.getD n default).st = t at f2 HS2
          generalize nd.getD n 0 = y at h2 HS2
          have hst := str_eq t s
          generalize hasN ns nd s n = o at HS2 ⊢
          cases o
          · by_cases hts : t = s
            · rw [decide_eq_true hts] at hst
              by_cases hy : y = 0
              · have k1 : (y == 0) = true := by simp [hy]
                have HNX := Lib.hid (show hasN ns nd s (n + 1) = true by rw [HS2.out, decide_eq_true hts, decide_eq_true hy]; rfl)
                clear hy hts HS2
                go_wp2_with fail
                go_quiet (fail)
                go_wp2
                go_roundw
                case rel => exact ⟨n + 1, by omega, by go_num, by rw [HNX.out], below_drewN hbel2 _, HGO2.out⟩
                case measure => simp [intOf]; omega
              · have k1 : (y == 0) = false := by simp [hy]
                have HNX := Lib.hid (show hasN ns nd s (n + 1) = false by rw [HS2.out, decide_eq_false hy]; simp)
                clear hy hts HS2
                go_wp2_with fail
                go_quiet (fail)
                go_wp2
                go_roundw
                case rel => exact ⟨n + 1, by omega, by go_num, by rw [HNX.out], below_drewN hbel2 _, HGO2.out⟩
                case measure => simp [intOf]; omega
            · rw [decide_eq_false hts] at hst
              have HNX := Lib.hid (show hasN ns nd s (n + 1) = false by rw [HS2.out, decide_eq_false hts]; rfl)
              clear hts HS2
              go_wp2_with fail
              go_quiet (fail)
              go_wp2
              go_roundw
              case rel => exact ⟨n + 1, by omega, by go_num, by rw [HNX.out], below_drewN hbel2 _, HGO2.out⟩
              case measure => simp [intOf]; omega
          · have HNX := Lib.hid (show hasN ns nd s (n + 1) = true by rw [HS2.out]; rfl)
            clear HS2
            go_wp2_with fail
            go_quiet (fail)
            go_wp2
            go_roundw
            case rel => exact ⟨n + 1, by omega, by go_num, by rw [HNX.out], below_drewN hbel2 _, HGO2.out⟩
            case measure => simp [intOf]; omega
        · have hnl : n = nd.length := by omega
          subst hnl
          generalize ho : hasN ns nd s nd.length = o
          have HO := Lib.hid ho
          clear ho
          cases o
          · obtain rfl : r = false := by rw [HR.out]; exact HFL.out (by rw [HST.out, HO.out])
            go_wp2
            go_ret
            exact ⟨rfl, hbel2⟩
          · go_wp2
            go_roundw
            case rel => exact ⟨j + 1, by omega, by go_num, by rw [HST.out, HO.out], hbel2, HGO2.out⟩
            case measure => simp [intOf]; omega
    · have hjl : j = ss.length := by omega
      subst hjl
      obtain rfl : r = true := by have := HOK.out; rw [List.take_length] at this; rw [HR.out]; exact this
      go_wp2
      go_ret
      exact ⟨rfl, hbel⟩

end Go.Proofs.Ytapjgjjmlbhanaa
