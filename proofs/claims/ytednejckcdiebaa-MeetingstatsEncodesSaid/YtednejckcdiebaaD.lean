/- The reference's days of a pair: kinkeepref32.Days. -/
import Derived.Test.YtednejckcdiebaaY
import Derived.Deep.DeepCutAuto
namespace Go.Proofs.Ytednejckcdiebaa
open Go.RowKit Go.Lib Go.ChangeMaps

theorem flatM_at : ∀ (xs : List Mt) (j : Nat) (x : Mt), xs[j]? = some x → (flatM xs)[j * 3]? = some (.int .i64 x.a) ∧ (flatM xs)[j * 3 + 1]? = some (.int .i64 x.b) ∧ (flatM xs)[j * 3 + 2]? = some (.int .i64 x.d)
  | [], j, x, h => by simp at h
  | y :: r, 0, x, h => by simp at h; subst h; simp [flatM]
  | y :: r, j + 1, x, h => by
    simp at h
    obtain ⟨h1, h2, h3⟩ := flatM_at r j x h
    have e : flatM (y :: r) = .int .i64 y.a :: .int .i64 y.b :: .int .i64 y.d :: flatM r := by simp [flatM]
    rw [e]
    refine ⟨?_, ?_, ?_⟩
    · rw [show (j + 1) * 3 = j * 3 + 1 + 1 + 1 by omega]; simpa using h1
    · rw [show (j + 1) * 3 + 1 = j * 3 + 1 + 1 + 1 + 1 by omega]; simpa using h2
    · rw [show (j + 1) * 3 + 2 = j * 3 + 2 + 1 + 1 + 1 by omega]; simpa using h3

theorem readsM_of_row {w : World} {base : Nat} {v : Value} {xs : List Mt} (h : w.ownsRow base 67 3 v xs.length (flatM xs)) : ReadsM w v xs := by
  have hcell := h
  obtain ⟨h1, h2⟩ := h
  rcases h2 with ⟨rfl, h0⟩ | ⟨g, cap, cur, rfl, _, _, hcap, _⟩
  · refine ⟨none, 0, by rw [h0], by omega, fun j x hj => ?_⟩
    have := (List.getElem?_eq_some_iff.1 hj).1
    omega
  · refine ⟨some ⟨g, 0, none⟩, cap, rfl, hcap, fun j x hj => ⟨g, 0, rfl, ?_⟩⟩
    have hlt := (List.getElem?_eq_some_iff.1 hj).1
    obtain ⟨f1, f2, f3⟩ := flatM_at xs j x hj
    refine ⟨?_, ?_, ?_⟩
    · rw [Nat.zero_add, hcell.cellAt _ (by omega)]; exact f1
    · rw [Nat.zero_add, hcell.cellAt _ (by omega)]; exact f2
    · rw [Nat.zero_add, hcell.cellAt _ (by omega)]; exact f3

theorem ownsRow_zero {w : World} {base : Nat} {e : TypeId} {size : Nat} {v : Value} {n : Nat} {xs : List Value} (h : w.ownsRow base e size v n xs) : w.ownsRow 0 e size v n xs := by
  obtain ⟨h1, h2⟩ := h
  refine ⟨h1, ?_⟩
  rcases h2 with h2 | ⟨g, cap, cur, e1, _, h3⟩
  · exact Or.inl h2
  · exact Or.inr ⟨g, cap, cur, e1, Nat.zero_le _, h3⟩

/-- One int more at the end of a row of the call's own. -/
theorem append_int {V : World} {base : Nat} {v : Value} {zs : List Int} (x : Int) (h : V.ownsRow base 3 1 v zs.length (zs.map (.int .i64))) (hlen : zs.length ≤ 1000000) (hbase : base ≤ V.heap.size) :
    ∃ v' w', (Builtin.append_ #[39, 39] 39 #[v, .slice (some ⟨V.heap.size, 0, none⟩) 1 1]).run Try.prog (V.alloc (.cells #[.int .i64 x] 3)) = .ok v' w' ∧
      w'.ownsRow base 3 1 v' (zs ++ [x]).length ((zs ++ [x]).map (.int .i64)) ∧ Below base V w' := by
  obtain ⟨i0, hi, hz0, hz1, hz2⟩ := info_parts info3
  have hv : (V.alloc (.cells #[.int .i64 x] 3)).heap[V.heap.size]? = some (.cells #[.int .i64 x] 3 (0, 0)) := by
    show (V.heap.push _)[_]? = _
    rw [Array.getElem?_push, if_pos rfl]
  obtain ⟨v', w', r, o1, o2, _, _⟩ := run_append_own_at (P := Try.prog) (V.alloc (.cells #[.int .i64 x] 3)) base 39 39 3 i0 _ 1 8 Try.underlying39 hi hz0 hz1 hz2 rfl (by decide) v _ _ (h.alloc _)
    ⟨V.heap.size, 0, none⟩ 1 1 [.int .i64 x] rfl (by
      intro j u hj
      match j, hj with
      | 0, hj =>
        simp at hj
        subst hj
        rw [show (⟨V.heap.size, 0, none⟩ : Addr).add 0 = ⟨V.heap.size, 0, none⟩ from rfl, cell_of_block hv]
        rfl) (by intro u hu; simp at hu; subst hu; rfl) (by unfold maxLen; omega) (by omega) (by simp; omega)
  refine ⟨v', w', r, by simpa using o1, ((Below.refl base V).alloc hbase _).trans ⟨o2.os, o2.tape, o2.output, o2.size, fun i hi => o2.block i (by simp; omega) (fun e => by have := (h.lt i e.symm).1; omega)⟩⟩

theorem refDays_length (xs : List Mt) (a b : Int) : (refDays xs a b).length ≤ xs.length := by
  unfold refDays
  have : ∀ (l : List Mt) (o : List Int), (l.foldl (dayStep a b) o).length ≤ o.length + l.length := by
    intro l
    induction l with
    | nil => intro o; simp
    | cons x r ih =>
      intro o
      have h1 := ih (dayStep a b o x)
      have h2 : (dayStep a b o x).length ≤ o.length + 1 := by
        unfold dayStep addDay
        split
        · split <;> simp
        · omega
      simp at h1 ⊢; omega
  have := this xs []
  simpa using this

set_option maxHeartbeats 4000000 in
theorem refDays_any (dv : Value) (xs : List Mt) (a b : Int) (w : World) (hv : ReadsM w dv xs) (hlen : xs.length ≤ 60) :
    Calls Try.prog 20 #[dv, .int .i64 a, .int .i64 b] w fun e w' => ∃ v, e = .returned v ∧ w'.ownsRow w.heap.size 3 1 v (refDays xs a b).length ((refDays xs a b).map (.int .i64)) ∧ Below w.heap.size w w' := by
  obtain ⟨ao, c, rfl, hcap, hcell⟩ := hv
  have HC := Lib.hid hcell
  clear hcell
  go_enter Try.func20, Try.ntmps20
  go_wp2
  generalize hW : w.alloc (Obj.cells #[] 3) = W
  have bW : Below w.heap.size w W := by rw [← hW]; exact (Below.refl _ _).alloc (Nat.le_refl _) _
  have dW : W.ownsRow w.heap.size 3 1 (.slice (some ⟨w.heap.size, 0, none⟩) 0 0) 0 [] := by
    rw [← hW]
    exact World.ownsRow_lit w #[] 0 (Nat.le_refl _) (by omega) rfl
  have DW := Lib.hid dW
  clear hW dW
  go_loopw [7, 8] (fun v7 v8 wr => ∃ j : Nat, j ≤ xs.length ∧ v8 = .int .i64 j ∧ Below w.heap.size w wr ∧ wr.ownsRow w.heap.size 3 1 v7 (refDays (xs.take j) a b).length ((refDays (xs.take j) a b).map (.int .i64))) (fun _ v8 _ => xs.length - (intOf v8).toNat)
  case atStart => exact ⟨0, Nat.zero_le _, rfl, bW, DW.out⟩
  case round =>
    obtain ⟨j, hj, rfl, hbel, hown⟩ := hrel
    have zr := hbel.size
    by_cases hlt : j < xs.length
    · obtain ⟨x, hx⟩ : ∃ x, x = xs[j] := ⟨_, rfl⟩
      obtain ⟨bk, off, e, c0, c1, c2⟩ := HC.out j x (by rw [hx]; exact List.getElem?_eq_getElem hlt)
      subst e
      have e0 : wr.cell? ⟨bk, off + j * 3, none⟩ = some (.int .i64 x.a) := by rw [hbel.cell (p := ⟨bk, _, none⟩) (cell_lt c0)]; exact c0
      have e1 : wr.cell? ⟨bk, off + j * 3 + 1, none⟩ = some (.int .i64 x.b) := by rw [hbel.cell (p := ⟨bk, _, none⟩) (cell_lt c1)]; exact c1
      have e2 : wr.cell? ⟨bk, off + j * 3 + 2, none⟩ = some (.int .i64 x.d) := by rw [hbel.cell (p := ⟨bk, _, none⟩) (cell_lt c2)]; exact c2
      have htake : xs.take (j + 1) = xs.take j ++ [x] := by rw [hx]; exact List.take_succ_eq_append_getElem hlt
      have hpl : refDays (xs.take (j + 1)) a b = dayStep a b (refDays (xs.take j) a b) x := by rw [htake, refDays_snoc]
      have HP := Lib.hid hpl
      have HO := Lib.hid hown
      have hdl : (refDays (xs.take j) a b).length ≤ 60 := by
        have := refDays_length (xs.take j) a b
        simp at this
        omega
      clear c0 c1 c2 htake hpl hown hx
      generalize refDays (xs.take j) a b = out at HP HO hdl
      obtain ⟨xa, xb, xd⟩ := x
      simp only at e0 e1 e2
      go_upto_region 5 with fail
      go_cut [49] (fun s49 wx => s49 = .bool (hits ⟨xa, xb, xd⟩ a b) ∧ wx = wr)
      case first =>
        cases k1 : (xa == a)
        · cases k3 : (xa == b)
          · go_wp2_with fail
            go_meet
            exact ⟨by simp [hits, k1, k3], rfl⟩
          · cases k4 : (xb == a)
            · go_wp2_with fail
              go_meet
              exact ⟨by simp [hits, k1, k3, k4], rfl⟩
            · go_wp2_with fail
              go_meet
              exact ⟨by simp [hits, k1, k3, k4], rfl⟩
        · cases k2 : (xb == b)
          · cases k3 : (xa == b)
            · go_wp2_with fail
              go_meet
              exact ⟨by simp [hits, k1, k2, k3], rfl⟩
            · cases k4 : (xb == a)
              · go_wp2_with fail
                go_meet
                exact ⟨by simp [hits, k1, k2, k3, k4], rfl⟩
              · simp at k1 k2 k3 k4
                omega
          · go_wp2_with fail
            go_meet
            exact ⟨by simp [hits, k1, k2], rfl⟩
      case rest =>
        obtain ⟨rfl, rfl⟩ := hcut
        cases hh : hits ⟨xa, xb, xd⟩ a b
        · have hst : dayStep a b out ⟨xa, xb, xd⟩ = out := by unfold dayStep; rw [hh]; rfl
          have HST := Lib.hid hst
          clear hst
          go_wp2_with fail
          go_roundw
          case rel => exact ⟨j + 1, by omega, by go_num, hbel, by rw [HP.out, HST.out]; exact HO.out⟩
          case measure => simp [intOf]; omega
        · have hst : dayStep a b out ⟨xa, xb, xd⟩ = addDay out xd := by unfold dayStep; rw [hh]; rfl
          have HST := Lib.hid hst
          have hrd := reads_of_row (ownsRow_zero HO.out)
          clear hst hh
          by_cases h0 : out.length = 0
          · have h0' : out = [] := List.length_eq_zero_iff.1 h0
            subst h0'
            obtain ⟨ao', c', rfl, _, _⟩ := hrd
            have HAD := Lib.hid (show addDay [] xd = [] ++ [xd] by simp [addDay])
            clear h0
            go_wp2_with fail
            go_quiet (fail)
            obtain ⟨v3, w3, r3, r1, r2⟩ := append_int (V := wc.drewN nq) (zs := []) xd HO.out (by simp) zr
            simp only [World.heap_drewN, List.length_nil] at r3
            have HR1 := Lib.hid r1
            have HR2 := Lib.hid r2
            clear r1 r2
            go_wp2_with (at_builtin; refine wpList_append_run (by rfl) (.tmp 67) (.tmp 73) 39 (by rfl) _ (.slice (some ⟨wc.heap.size, 0, none⟩) 1 1) v3 w3 (by rfl) (by rfl) r3 ?_)
            go_roundw
            case rel => exact ⟨j + 1, by omega, by go_num, (below_drewN hbel nq).trans HR2.out, by rw [HP.out, HST.out, HAD.out]; exact HR1.out⟩
            case measure => simp [intOf]; omega
          · obtain ⟨ao', c', rfl, hc', hlast⟩ := hrd
            obtain ⟨g, og, rfl, hl⟩ := hlast (out.length - 1) (by omega)
            obtain ⟨m, hm⟩ : ∃ m, m = out.length - 1 := ⟨_, rfl⟩
            have hm1 : out.length = m + 1 := by omega
            rw [← hm] at hl
            have HM := Lib.hid hm1
            obtain ⟨l, hll⟩ : ∃ l, l = out.getD m 0 := ⟨_, rfl⟩
            rw [← hll] at hl
            have hgl : out.getLast? = some l := by rw [List.getLast?_eq_getElem?, hm1, hll]; simp [List.getD, hm1]
            have HGL := Lib.hid hgl
            clear hlast h0 hm hll hgl
            rw [hm1] at hdl hc' ⊢
            clear hm1
            have hz : (((m : Int) + 1) == 0) = false := by rw [beq_eq_false_iff_ne]; omega
            by_cases hld : l = xd
            · have hbb : (l != xd) = false := by simp [hld]
              have HAD := Lib.hid (show addDay out xd = out by unfold addDay; rw [HGL.out, if_pos (by rw [hld])])
              subst hld
              go_wp2_with fail
              go_quiet (fail)
              go_wp2_with fail
              go_roundw
              case rel => exact ⟨j + 1, by omega, by go_num, below_drewN hbel _, by rw [HP.out, HST.out, HAD.out, HM.out]; exact ownsRow_same (w := wc) (by have := HO.out; rw [HM.out] at this; exact this) (fun _ _ => rfl)⟩
              case measure => simp [intOf]; omega
            · have hbb : (l != xd) = true := by simp [hld]
              have HAD := Lib.hid (show addDay out xd = out ++ [xd] by unfold addDay; rw [HGL.out, if_neg (by simpa using hld)])
              clear hld
              go_wp2_with fail
              go_quiet (fail)
              obtain ⟨v3, w3, r3, r1, r2⟩ := append_int (V := wc.drewN nq) (zs := out) xd HO.out (by rw [HM.out]; omega) zr
              simp only [World.heap_drewN, HM.out] at r3
              have HR1 := Lib.hid r1
              have HR2 := Lib.hid r2
              clear r1 r2
              go_wp2_with (at_builtin; refine wpList_append_run (by rfl) (.tmp 67) (.tmp 73) 39 (by rfl) _ (.slice (some ⟨wc.heap.size, 0, none⟩) 1 1) v3 w3 (by rfl) (by rfl) r3 ?_)
              go_roundw
              case rel => exact ⟨j + 1, by omega, by go_num, (below_drewN hbel nq).trans HR2.out, by rw [HP.out, HST.out, HAD.out]; exact HR1.out⟩
              case measure => simp [intOf]; omega
    · have hjl : j = xs.length := by omega
      subst hjl
      rw [List.take_length] at hown
      have HO := Lib.hid hown
      clear hown
      go_wp2_with fail
      go_ret
      exact ⟨_, rfl, HO.out, hbel⟩

end Go.Proofs.Ytednejckcdiebaa
