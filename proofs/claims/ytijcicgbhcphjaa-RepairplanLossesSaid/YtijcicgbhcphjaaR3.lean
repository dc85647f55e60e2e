/- Dead. -/
import Derived.Test.YtijcicgbhcphjaaR2
namespace Go.Proofs.Ytijcicgbhcphjaa
open Go.RowKit Go.Lib Go.ChangeMaps
set_option linter.unusedSimpArgs false

def stCell (ss : List ByteArray) (i _j : Nat) : Value := .string (ss.getD i ByteArray.empty)
def OwnSt (w : World) (base : Nat) (v : Value) (ss : List ByteArray) : Prop := Own w base 9 v 1 ss.length (stCell ss)
theorem OwnSt.app {V : World} {base : Nat} {v : Value} {ss : List ByteArray} (h : OwnSt V base v ss) (y : ByteArray) (hn : ss.length ≤ 1000000) (hbase : base ≤ V.heap.size) :
    ∃ v' w', (Builtin.append_ #[57, 57] 57 #[v, .slice (some ⟨V.heap.size, 0, none⟩) 1 1]).run Try.prog (V.alloc (.cells #[.string y] 9)) = .ok v' w' ∧ OwnSt w' base v' (ss ++ [y]) ∧ Below base V w' ∧ (∀ b, b < V.heap.size → v.ownBlock ≠ some b → w'.heap[b]? = V.heap[b]?) := by
  have h' : Own V base 9 v 1 ss.length (stCell (ss ++ [y])) := Own.congr h fun i j hi hj => by unfold stCell; rw [getD_at _ _ _ hi, getD_at _ _ _ (by rw [List.length_append]; omega), List.getElem_append_left hi]
  obtain ⟨v3, w3, r3, o1, o2, o3, _⟩ := Own.append (V := V) (t := 57) (e := 9) (z := .string ⟨#[]⟩) (k := 1) (bytes := 16) Try.underlying57 (by kernel_rfl) rfl (by omega) (by omega) h' 57 [.string y] rfl (fun q hq => by
    have : q = 0 := by omega
    subst this
    simp [stCell, List.getD]) (by simp [Value.oneCell']) (by omega) hbase
  refine ⟨v3, w3, r3, ?_, o2, o3⟩
  unfold OwnSt
  rw [List.length_append]
  exact o1

def deadTo (V : Vp) (gone : Nat → Bool) : Nat → List ByteArray
  | 0 => []
  | m + 1 => deadTo V gone m ++ if spareI V gone m < 0 then [(V.held.getD m default).id] else []
theorem deadTo_len (V : Vp) (gone : Nat → Bool) : ∀ m, (deadTo V gone m).length ≤ m
  | 0 => by simp [deadTo]
  | m + 1 => by
    have := deadTo_len V gone m
    unfold deadTo
    rw [List.length_append]
    split <;> simp <;> omega

set_option maxRecDepth 100000 in
set_option maxHeartbeats 4000000 in
theorem dead_any (v lv : Value) (V : Vp) (ls : List Int) (w : World) (hv : VwAt w v V) (hl : ReadsI w lv ls) (hrf : ∀ h ∈ V.held, h.refs.length ≤ 1000) :
    Calls Try.prog 23 #[v, lv] w fun e w' => Below w.heap.size w w' ∧ ((¬ Fits V ls ∧ e = .returned (.tuple #[.slice none 0 0, .int .i64 1])) ∨
      (Fits V ls ∧ ∃ u, e = .returned (.tuple #[u, .int .i64 0]) ∧ OwnSt w' w.heap.size u (deadTo V (goneB V.mem ls) V.held.length))) := by
  have hA := fun o => (Below.refl w.heap.size w).alloc (Nat.le_refl _) o
  have CR := Lib.hid (fun o => read_any v lv V ls (w.alloc o) (hv.below (hA o)) (hl.below (hA o)) hrf)
  have HA := Lib.hid hA
  obtain ⟨ma, mc, ha, hc, ra, rl, rc, wa, wl, wc, rfl⟩ := hv.val
  obtain ⟨la, lc, _, _, rfl, -⟩ := hl.at
  clear hA hv hl
  obtain ⟨nh, hnh⟩ : ∃ nh, nh = V.held.length := ⟨_, rfl⟩
  have HNH := Lib.hid hnh
  rw [← hnh] at CR ⊢
  clear hnh
  generalize V.mem.length = ml at *
  generalize ls.length = ll at *
  generalize goneB V.mem ls = gone at *
  go_enter Try.func23, Try.ntmps23
  go_wp2_with fail
  refine (CR.out _).mono ?_
  rintro e w3 ⟨hb3, hcase⟩
  have hb1 := HA.out (.cells #[.slice ma ml mc, .slice ha nh hc, .slice ra rl rc, .slice wa wl wc] 26)
  have hbw := hb1.trans (hb3.mono hb1.size)
  rcases hcase with ⟨hno, rfl⟩ | ⟨hfit, p, rfl, hp, hst⟩
  · have HNO := Lib.hid hno
    clear hno
    go_wp2
    refine bodyPost_ret (results_tmp2 Try.results23 _ _ _) rfl ?_
    exact ⟨hbw, .inl ⟨HNO.out, rfl⟩⟩
  · have HFIT := Lib.hid hfit
    have h256 : nh ≤ 256 := by rw [HNH.out]; exact hfit.1.1.2
    have HST := Lib.hid hst
    obtain ⟨mv, hv, rv, wv, gv, mp, c0, c1, c2, c3, c4, c5, hM, hH, hR, hW, hG, hmp⟩ := hst.at
    obtain ⟨xa, xc, xb, xo, rfl, xl, xm, xcell⟩ := hH.at
    rw [← HNH.out] at c1 xl xm
    have XC := Lib.hid xcell
    clear hfit hst hb3 hM hH hR hW hG hmp c0 c2 c3 c4 c5 xcell
    go_wp2
    go_loopw [26, 8, 9, 10] (fun v26 v8 _ _ wr => ∃ j : Nat, j ≤ nh ∧ v26 = .int .i64 j ∧ OwnSt wr w3.heap.size v8 (deadTo V gone j) ∧ Below w3.heap.size w3 wr) (fun v26 _ _ _ _ => nh - (intOf v26).toNat)
    case atStart => exact ⟨0, Nat.zero_le _, rfl, Own.nil _ _ _ _ _, Below.refl _ _⟩
    case round =>
      obtain ⟨j, hj, rfl, hown, hbel⟩ := hrel
      have hb9 := hbw.trans (hbel.mono hbw.size)
      have HO := Lib.hid hown
      have zr := hbel.size
      have hdl := deadTo_len V gone j
      clear hown
      by_cases hlt : j < nh
      · have hjl : j < V.held.length := by rw [← HNH.out]; exact hlt
        obtain ⟨e1, e2, e3, e4, e5, e6, xr, av, e7, e8, hrr, hra⟩ := XC.out j hjl
        subst e1
        obtain ⟨qa, qc, _, _, rfl, -⟩ := hrr.at
        obtain ⟨ua, uc, _, _, rfl, -⟩ := hra.at
        rw [← hbel.cell (p := ⟨xb, _, none⟩) (cell_lt e2)] at e2
        rw [← hbel.cell (p := ⟨xb, _, none⟩) (cell_lt e3)] at e3
        rw [← hbel.cell (p := ⟨xb, _, none⟩) (cell_lt e4)] at e4
        rw [← hbel.cell (p := ⟨xb, _, none⟩) (cell_lt e5)] at e5
        rw [← hbel.cell (p := ⟨xb, _, none⟩) (cell_lt e6)] at e6
        rw [← hbel.cell (p := ⟨xb, _, none⟩) (cell_lt e7)] at e7
        rw [← hbel.cell (p := ⟨xb, _, none⟩) (cell_lt e8)] at e8
        have hsu : deadTo V gone (j + 1) = deadTo V gone j ++ if spareI V gone j < 0 then [(V.held.getD j default).id] else [] := rfl
        have HSU := Lib.hid hsu
        have CS := Lib.hid (fun W (h : Below w3.heap.size w3 W) => spare_any j W (HST.out.below h) hjl)
        clear hrr hra hsu
        generalize spareI V gone j = sp at *
        generalize V.held.getD j default = y at *
        obtain ⟨id, vault, block, data, total, refs, at_⟩ := y
        simp only at e2 e3 e4 e5 e6 HSU
        generalize refs.length = ql at *
        generalize at_.length = ul at *
        have hAl : Below wr.heap.size wr (wr.alloc (.cells #[.string id, .int .i64 vault, .int .i64 block, .int .i64 data, .int .i64 total, .slice qa ql qc, .slice ua ul uc] 52)) := (Below.refl _ _).alloc (Nat.le_refl _) _
        have hk := heap_alloc_new wr (.cells #[.string id, .int .i64 vault, .int .i64 block, .int .i64 data, .int .i64 total, .slice qa ql qc, .slice ua ul uc] 52)
        have h3A := hbel.trans (hAl.mono zr)
        go_wp2_with fail
        refine (CS.out _ h3A).mono ?_
        rintro e w4 ⟨rfl, hb4⟩
        have hr4 := hAl.trans (hb4.mono hAl.size)
        have h34 := hbel.trans (hr4.mono zr)
        have hk4 := (hb4.block wr.heap.size (by rw [World.size_alloc]; omega)).trans hk
        have k0 := cell_of_row w4 _ 0 _ _ _ hk4
        have z4 := h34.size
        have ho4 : OwnSt w4 w3.heap.size u8 (deadTo V gone j) := Own.below HO.out hr4
        have HO4 := Lib.hid ho4
        clear ho4 hk hk4 hAl hb4 e2 e3 e4 e5 e6 e7 e8 CS
        by_cases hsp : sp < 0
        · have q1 : decide (sp < 0) = true := decide_eq_true hsp
          rw [if_pos hsp] at HSU
          obtain ⟨v6, w6, r6, o6, b6, -⟩ := HO4.out.app id (by omega) z4
          rw [← HSU.out] at o6
          have HO6 := Lib.hid o6
          obtain ⟨a6, l6, c6, rfl⟩ := Own.slice o6
          clear o6 hsp
          go_wp2_with (at_builtin; refine wpList_append_run (by rfl) (.tmp 35) (.tmp 39) 57 (by rfl) _ (.slice (some ⟨w4.heap.size, 0, none⟩) 1 1) (.slice a6 l6 c6) w6 (by rfl) (by rfl) r6 ?_)
          go_roundw
          case rel => exact ⟨j + 1, by omega, by go_num, HO6.out, h34.trans b6⟩
          case measure => simp [intOf]; omega
        · have q1 : decide (sp < 0) = false := decide_eq_false hsp
          rw [if_neg hsp, List.append_nil] at HSU
          have ho5 : OwnSt w4 w3.heap.size u8 (deadTo V gone (j + 1)) := by rw [HSU.out]; exact HO4.out
          have HO5 := Lib.hid ho5
          clear hsp ho5
          go_wp2
          go_roundw
          case rel => exact ⟨j + 1, by omega, by go_num, HO5.out, h34⟩
          case measure => simp [intOf]; omega
      · have hjn : j = nh := by omega
        subst hjn
        go_wp2
        refine bodyPost_ret (results_tmp2 Try.results23 _ _ _) rfl ?_
        exact ⟨hb9, .inr ⟨HFIT.out, _, rfl, Own.base HO.out hbw.size⟩⟩

end Go.Proofs.Ytijcicgbhcphjaa
