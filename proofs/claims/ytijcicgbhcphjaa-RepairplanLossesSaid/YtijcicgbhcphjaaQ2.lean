/- Jobs of the reference. -/
import Derived.Test.YtijcicgbhcphjaaQ1
namespace Go.Proofs.Ytijcicgbhcphjaa
open Go.RowKit Go.Lib Go.ChangeMaps
set_option linter.unusedSimpArgs false

set_option maxRecDepth 100000 in
set_option maxHeartbeats 2000000 in
theorem job_any (j : Jp) (fa : Option Addr) (fl fc : Nat) (w : World) :
    Calls Try.prog 55 #[j.v (.slice fa fl fc)] w fun e w' => e = .returned (j.v (.slice fa fl fc)) ∧ Below w.heap.size w w' := by
  obtain ⟨⟨st, ix⟩, fs, dst, size⟩ := j
  unfold Jp.v
  simp only
  go_enter Try.func55, Try.ntmps55
  have hr : ((w.alloc (.cells #[.string st, .int .i64 ix, .slice fa fl fc, .int .i64 dst, .int .i64 size] 47)).alloc (.cells #[.string st, .int .i64 ix, .slice fa fl fc, .int .i64 dst, .int .i64 size] 107)).heap[w.heap.size + 1]? = some (.cells #[.string st, .int .i64 ix, .slice fa fl fc, .int .i64 dst, .int .i64 size] 107) := by
    have := heap_alloc_new (w.alloc (.cells #[.string st, .int .i64 ix, .slice fa fl fc, .int .i64 dst, .int .i64 size] 47)) (.cells #[.string st, .int .i64 ix, .slice fa fl fc, .int .i64 dst, .int .i64 size] 107)
    rw [World.size_alloc] at this
    exact this
  have HR := Lib.hid hr
  clear hr
  go_wp2
  refine bodyPost_ret (results_cell_row (P := Try.prog) Try.results55 _ _ (w.heap.size + 1) 107 _ (0, 0) _ (by rfl) HR.out Try.underlying107 rfl (by kernel_rfl)) rfl ?_
  exact ⟨rfl, by (repeat' (first | (with_reducible exact Below.refl _ _) | (with_reducible assumption) | (with_reducible refine Below.alloc ?_ ?_ _) | (with_reducible refine Below.drew ?_) | (with_reducible refine below_drewN ?_ _) | (with_reducible refine Below.setCell ?_ ?_ _) | (with_reducible refine below_step ?_ (by with_reducible assumption) ?_) | go_size))⟩

theorem info107 : (Try.prog.info? 107).map (fun i => (i.zero, i.size, i.bytes)) = some (some (.agg #[.string ⟨#[]⟩, .int .i64 0, .slice none 0 0, .int .i64 0, .int .i64 0]), 5, 64) := by kernel_rfl

set_option maxRecDepth 100000 in
set_option maxHeartbeats 4000000 in
theorem all_any (v : Value) (js : List Jp) (w : World) (hj : ReadsJ w v js) (hjs : js.length ≤ 1000) :
    Calls Try.prog 29 #[v] w fun e w' => ∃ u, e = .returned u ∧ ReadsJ w' u js ∧ Below w.heap.size w w' := by
  obtain ⟨xs, hxl, hxr, hxs⟩ := hj
  obtain ⟨ja, jc, jb, jo, rfl, -, -, jcell⟩ := hxr.at
  have JC := Lib.hid jcell
  have HXS := Lib.hid hxs
  have hx1 : ∀ i, i < js.length → ∃ a c, xs.getD i undef = .slice a (js.getD i default).from_.length c := fun i hi => by
    obtain ⟨a, c, _, _, e, _⟩ := (hxs i hi).at
    exact ⟨a, c, e⟩
  have HX1 := Lib.hid hx1
  clear jcell hxs hxr hx1
  go_enter Try.func29, Try.ntmps29
  go_wp2
  go_loopw [9, 3, 5] (fun v9 v3 _ wr => ∃ i : Nat, i ≤ js.length ∧ v9 = .int .i64 i ∧ Below w.heap.size w wr ∧ Own wr w.heap.size 107 v3 5 i (jpCell js xs)) (fun v9 _ _ _ => js.length - (intOf v9).toNat)
  case atStart => exact ⟨0, Nat.zero_le _, rfl, (Below.refl _ _).alloc (Nat.le_refl _) _, Own.lit0 _ _ _ _ _ (Nat.le_refl _)⟩
  case round =>
    obtain ⟨i, hi, rfl, hbel, hown⟩ := hrel
    have HO := Lib.hid hown
    have zr := hbel.size
    clear hown
    by_cases hlt : i < js.length
    · obtain ⟨e1, e2⟩ := JC.out i hlt
      subst e1
      obtain ⟨fa, fc, q2⟩ := HX1.out i hlt
      have d0 := e2 0 (by omega)
      have d1 := e2 1 (by omega)
      have d2 : w.cell? ⟨jb, jo + i * 5 + 2, none⟩ = some (.slice fa (js.getD i default).from_.length fc) := (e2 2 (by omega)).trans (congrArg some q2)
      have d3 := e2 3 (by omega)
      have d4 := e2 4 (by omega)
      simp only [jpCell, Nat.add_zero] at d0 d1 d3 d4
      rw [← hbel.cell (p := ⟨jb, _, none⟩) (cell_lt d0)] at d0
      rw [← hbel.cell (p := ⟨jb, _, none⟩) (cell_lt d1)] at d1
      rw [← hbel.cell (p := ⟨jb, _, none⟩) (cell_lt d2)] at d2
      rw [← hbel.cell (p := ⟨jb, _, none⟩) (cell_lt d3)] at d3
      rw [← hbel.cell (p := ⟨jb, _, none⟩) (cell_lt d4)] at d4
      have hY : ∀ q, q < 5 → ([.string (js.getD i default).pc.st, .int .i64 (js.getD i default).pc.ix, .slice fa (js.getD i default).from_.length fc, .int .i64 (js.getD i default).to, .int .i64 (js.getD i default).size] : List Value)[q]? = some (jpCell js xs i q) := fun q hq => by
        match q, hq with
        | 0, _ => rfl
        | 1, _ => rfl
        | 2, _ => exact congrArg some q2.symm
        | 3, _ => rfl
        | 4, _ => rfl
      have CJ := Lib.hid (fun W => job_any (js.getD i default) fa (js.getD i default).from_.length fc W)
      have hap := fun (W : World) (ho : Own W w.heap.size 107 u3 5 i (jpCell js xs)) (hz : w.heap.size ≤ W.heap.size) => Own.append (V := W) (t := 39) (e := 107) Try.underlying39 info107 rfl (by omega) (by omega) ho 39 _ rfl hY (by
        intro u hu
        simp at hu
        rcases hu with rfl | rfl | rfl | rfl | rfl <;> rfl) (by omega) hz
      have HAP := Lib.hid hap
      unfold Jp.v at CJ
      clear e2 hY hap
      generalize js.getD i default = y at *
      obtain ⟨⟨st, ix⟩, fs, dst, size⟩ := y
      simp only at d0 d1 d2 d3 d4 HAP CJ q2
      generalize fs.length = fl at *
      have hAl : Below wr.heap.size wr (wr.alloc (.cells #[.string st, .int .i64 ix, .slice fa fl fc, .int .i64 dst, .int .i64 size] 47)) := (Below.refl _ _).alloc (Nat.le_refl _) _
      clear q2
      go_wp2_with fail
      refine (CJ.out _).mono ?_
      rintro e w5 ⟨rfl, hb5⟩
      have hr5 := hAl.trans (hb5.mono hAl.size)
      have hbw5 := hbel.trans (hr5.mono zr)
      obtain ⟨v6, w6, r6, o6, b6, -⟩ := HAP.out w5 (HO.out.below hr5) hbw5.size
      have HO6 := Lib.hid o6
      obtain ⟨a6, l6, c6, rfl⟩ := Own.slice o6
      clear o6 d0 d1 d2 d3 d4 HO HAP CJ
      go_wp2_with (at_builtin; refine wpList_append_run (by rfl) (.tmp 13) (.tmp 16) 39 (by rfl) _ (.slice (some ⟨w5.heap.size, 0, none⟩) 1 1) (.slice a6 l6 c6) w6 (by rfl) (by rfl) r6 ?_)
      go_roundw
      case rel => exact ⟨i + 1, by omega, by go_num, hbw5.trans b6, HO6.out⟩
      case measure => simp [intOf]; omega
    · have hil : i = js.length := by omega
      subst hil
      obtain ⟨a3, c3, rfl, -⟩ := Own.row HO.out (by omega)
      go_wp2
      go_ret
      exact ⟨_, rfl, ⟨xs, hxl, Own.row HO.out (by omega), fun k hk => (HXS.out k hk).below hbel⟩, hbel⟩

end Go.Proofs.Ytijcicgbhcphjaa
