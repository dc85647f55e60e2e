/- small. -/
import Derived.Test.YtijcicgbhcphjaaK1
namespace Go.Proofs.Ytijcicgbhcphjaa
open Go.RowKit Go.Lib Go.ChangeMaps
set_option linter.unusedSimpArgs false

def SmH (h : Hp) : Prop := h.at_.length ≤ 20 ∧ h.refs.length ≤ 8 ∧ h.id.size ≤ 64
instance (h : Hp) : Decidable (SmH h) := inferInstanceAs (Decidable (_ ∧ _))
def SmJ (j : Jp) : Prop := j.from_.length ≤ 20 ∧ j.pc.st.size ≤ 64
instance (j : Jp) : Decidable (SmJ j) := inferInstanceAs (Decidable (_ ∧ _))
/-- A view that is small. -/
def Small (V : Vp) (ls : List Int) (js : List Jp) : Prop := V.mem.length ≤ 20 ∧ V.held.length ≤ 6 ∧ V.room.length ≤ 20 ∧ V.weight.length ≤ 20 ∧ ls.length ≤ 20 ∧ js.length ≤ 12 ∧ (∀ h ∈ V.held, SmH h) ∧ ∀ j ∈ js, SmJ j
instance (V : Vp) (ls : List Int) (js : List Jp) : Decidable (Small V ls js) := inferInstanceAs (Decidable (_ ∧ _))
theorem all_snoc {α : Type} (P : α → Prop) (xs : List α) (j : Nat) (h : j < xs.length) : (∀ x ∈ xs.take (j + 1), P x) ↔ (∀ x ∈ xs.take j, P x) ∧ P xs[j] := by
  rw [List.take_succ_eq_append_getElem h]
  constructor
  · exact fun hh => ⟨fun x hx => hh x (List.mem_append_left _ hx), hh _ (List.mem_append_right _ (List.mem_singleton.2 rfl))⟩
  · rintro ⟨h1, h2⟩ x hx
    rcases List.mem_append.1 hx with hx | hx
    · exact h1 x hx
    · simp at hx; subst hx; exact h2

set_option maxRecDepth 100000 in
set_option maxHeartbeats 8000000 in
theorem small_any (v lv jv : Value) (V : Vp) (ls : List Int) (js : List Jp) (w : World) (hv : VwAt w v V) (hl : ReadsI w lv ls) (hj : ReadsJ w jv js) :
    Calls Try.prog 13 #[v, lv, jv] w fun e w' => e = .returned (.bool (decide (Small V ls js))) ∧ Below w.heap.size w w' := by
  obtain ⟨mv, hv, rv, wv, rfl, hM, hH, hR, hW⟩ := hv
  obtain ⟨ma, mc, _, _, rfl, -⟩ := hM.at
  obtain ⟨ha, hc, hb, ho, rfl, hl1, hm1, hcell⟩ := hH.at
  obtain ⟨ra, rc, _, _, rfl, -⟩ := hR.at
  obtain ⟨wa, wc, _, _, rfl, -⟩ := hW.at
  obtain ⟨la, lc, _, _, rfl, -⟩ := hl.at
  obtain ⟨ja, jc, jb, jo, rfl, jl1, jm1, jcell⟩ := hj.at
  have HC := Lib.hid hcell
  have JC := Lib.hid jcell
  clear hcell jcell hM hH hR hW hl hj
  obtain ⟨r, hr⟩ : ∃ r, r = decide (Small V ls js) := ⟨_, rfl⟩
  rw [← hr]
  have hno : ¬ (V.mem.length ≤ 20 ∧ V.held.length ≤ 6 ∧ V.room.length ≤ 20 ∧ V.weight.length ≤ 20 ∧ ls.length ≤ 20 ∧ js.length ≤ 12 ∧ (∀ h ∈ V.held, SmH h) ∧ ∀ j ∈ js, SmJ j) → r = false := fun h => by rw [hr]; exact decide_eq_false h
  have hyes : (V.mem.length ≤ 20 ∧ V.held.length ≤ 6 ∧ V.room.length ≤ 20 ∧ V.weight.length ≤ 20 ∧ ls.length ≤ 20 ∧ js.length ≤ 12 ∧ (∀ h ∈ V.held, SmH h) ∧ ∀ j ∈ js, SmJ j) → r = true := fun h => by rw [hr]; exact decide_eq_true h
  obtain ⟨ms, hms⟩ : ∃ n, n = V.mem.length := ⟨_, rfl⟩
  obtain ⟨hs, hhs⟩ : ∃ n, n = V.held.length := ⟨_, rfl⟩
  obtain ⟨jl, hjl⟩ : ∃ n, n = js.length := ⟨_, rfl⟩
  have HHS := Lib.hid hhs
  have HJL := Lib.hid hjl
  rw [← hms] at hno hyes ⊢
  rw [← hhs] at hno hyes hl1 ⊢
  rw [← hjl] at hno hyes jl1 ⊢
  clear hms hhs hjl hr
  generalize V.room.length = rs at *
  generalize V.weight.length = ws at *
  generalize ls.length = ll at *
  have HNO := Lib.hid hno
  have HYES := Lib.hid hyes
  clear hno hyes
  go_enter Try.func13, Try.ntmps13
  by_cases a0 : ms ≤ 20
  rotate_left
  · obtain rfl := HNO.out fun h => a0 (h.1)
    have q0 : decide (20 < (ms : Int)) = true := decide_eq_true (by omega)
    clear a0
    go_wp2
    go_ret
    exact ⟨rfl, by (repeat' (first | (with_reducible exact Below.refl _ _) | (with_reducible assumption) | (with_reducible refine Below.alloc ?_ ?_ _) | (with_reducible refine Below.drew ?_) | (with_reducible refine below_drewN ?_ _) | (with_reducible refine Below.setCell ?_ ?_ _) | (with_reducible refine below_step ?_ (by with_reducible assumption) ?_) | go_size))⟩
  have q0 : decide (20 < (ms : Int)) = false := decide_eq_false (by omega)
  by_cases a1 : hs ≤ 6
  rotate_left
  · obtain rfl := HNO.out fun h => a1 (h.2.1)
    have q1 : decide (6 < (hs : Int)) = true := decide_eq_true (by omega)
    clear a1
    go_wp2
    go_ret
    exact ⟨rfl, by (repeat' (first | (with_reducible exact Below.refl _ _) | (with_reducible assumption) | (with_reducible refine Below.alloc ?_ ?_ _) | (with_reducible refine Below.drew ?_) | (with_reducible refine below_drewN ?_ _) | (with_reducible refine Below.setCell ?_ ?_ _) | (with_reducible refine below_step ?_ (by with_reducible assumption) ?_) | go_size))⟩
  have q1 : decide (6 < (hs : Int)) = false := decide_eq_false (by omega)
  by_cases a2 : rs ≤ 20
  rotate_left
  · obtain rfl := HNO.out fun h => a2 (h.2.2.1)
    have q2 : decide (20 < (rs : Int)) = true := decide_eq_true (by omega)
    clear a2
    go_wp2
    go_ret
    exact ⟨rfl, by (repeat' (first | (with_reducible exact Below.refl _ _) | (with_reducible assumption) | (with_reducible refine Below.alloc ?_ ?_ _) | (with_reducible refine Below.drew ?_) | (with_reducible refine below_drewN ?_ _) | (with_reducible refine Below.setCell ?_ ?_ _) | (with_reducible refine below_step ?_ (by with_reducible assumption) ?_) | go_size))⟩
  have q2 : decide (20 < (rs : Int)) = false := decide_eq_false (by omega)
  by_cases a3 : ws ≤ 20
  rotate_left
  · obtain rfl := HNO.out fun h => a3 (h.2.2.2.1)
    have q3 : decide (20 < (ws : Int)) = true := decide_eq_true (by omega)
    clear a3
    go_wp2
    go_ret
    exact ⟨rfl, by (repeat' (first | (with_reducible exact Below.refl _ _) | (with_reducible assumption) | (with_reducible refine Below.alloc ?_ ?_ _) | (with_reducible refine Below.drew ?_) | (with_reducible refine below_drewN ?_ _) | (with_reducible refine Below.setCell ?_ ?_ _) | (with_reducible refine below_step ?_ (by with_reducible assumption) ?_) | go_size))⟩
  have q3 : decide (20 < (ws : Int)) = false := decide_eq_false (by omega)
  by_cases a4 : ll ≤ 20
  rotate_left
  · obtain rfl := HNO.out fun h => a4 (h.2.2.2.2.1)
    have q4 : decide (20 < (ll : Int)) = true := decide_eq_true (by omega)
    clear a4
    go_wp2
    go_ret
    exact ⟨rfl, by (repeat' (first | (with_reducible exact Below.refl _ _) | (with_reducible assumption) | (with_reducible refine Below.alloc ?_ ?_ _) | (with_reducible refine Below.drew ?_) | (with_reducible refine below_drewN ?_ _) | (with_reducible refine Below.setCell ?_ ?_ _) | (with_reducible refine below_step ?_ (by with_reducible assumption) ?_) | go_size))⟩
  have q4 : decide (20 < (ll : Int)) = false := decide_eq_false (by omega)
  by_cases a5 : jl ≤ 12
  rotate_left
  · obtain rfl := HNO.out fun h => a5 (h.2.2.2.2.2.1)
    have q5 : decide (12 < (jl : Int)) = true := decide_eq_true (by omega)
    clear a5
    go_wp2
    go_ret
    exact ⟨rfl, by (repeat' (first | (with_reducible exact Below.refl _ _) | (with_reducible assumption) | (with_reducible refine Below.alloc ?_ ?_ _) | (with_reducible refine Below.drew ?_) | (with_reducible refine below_drewN ?_ _) | (with_reducible refine Below.setCell ?_ ?_ _) | (with_reducible refine below_step ?_ (by with_reducible assumption) ?_) | go_size))⟩
  have q5 : decide (12 < (jl : Int)) = false := decide_eq_false (by omega)
  have hb0 : Below w.heap.size w (w.alloc (.cells #[.slice ma ms mc, .slice ha hs hc, .slice ra rs rc, .slice wa ws wc] 26)) := (Below.refl _ _).alloc (Nat.le_refl _) _
  go_wp2
  clear q0 q1 q2 q3 q4 q5
  go_loopw [46, 8] (fun v46 _ wr => ∃ j : Nat, j ≤ hs ∧ v46 = .int .i64 j ∧ (∀ h ∈ V.held.take j, SmH h) ∧ Below w.heap.size w wr) (fun v46 _ _ => hs - (intOf v46).toNat)
  case atStart => exact ⟨0, Nat.zero_le _, rfl, by simp, hb0⟩
  case round =>
    obtain ⟨j, hj, rfl, hall, hbel⟩ := hrel
    have HA := Lib.hid hall
    have zr := hbel.size
    clear hall hb0
    by_cases hlt : j < hs
    · have hjl : j < V.held.length := by rw [← HHS.out]; exact hlt
      obtain ⟨e1, e2, e3, e4, e5, e6, xr, av, e7, e8, hrr, hra⟩ := HC.out j hjl
      subst e1
      obtain ⟨qa, qc, _, _, rfl, -⟩ := hrr.at
      obtain ⟨ua, uc, _, _, rfl, -⟩ := hra.at
      have hs1 := all_snoc SmH V.held j hjl
      rw [← getD_at V.held j default hjl] at hs1
      have HS1 := Lib.hid hs1
      have hbad : ¬ SmH (V.held.getD j default) → r = false := fun h => HNO.out fun hh => h (hh.2.2.2.2.2.2.1 _ (by rw [getD_at _ _ _ hjl]; exact List.getElem_mem hjl))
      have HBAD0 := Lib.hid hbad
      clear hrr hra hs1 hbad
      rw [← hbel.cell (p := ⟨hb, _, none⟩) (cell_lt e2)] at e2
      rw [← hbel.cell (p := ⟨hb, _, none⟩) (cell_lt e3)] at e3
      rw [← hbel.cell (p := ⟨hb, _, none⟩) (cell_lt e4)] at e4
      rw [← hbel.cell (p := ⟨hb, _, none⟩) (cell_lt e5)] at e5
      rw [← hbel.cell (p := ⟨hb, _, none⟩) (cell_lt e6)] at e6
      rw [← hbel.cell (p := ⟨hb, _, none⟩) (cell_lt e7)] at e7
      rw [← hbel.cell (p := ⟨hb, _, none⟩) (cell_lt e8)] at e8
      generalize V.held.getD j default = y at *
      obtain ⟨id, vault, block, data, total, refs, at_⟩ := y
      simp only at e2 e3 e4 e5 e6
      have HSM := Lib.hid (show SmH ⟨id, vault, block, data, total, refs, at_⟩ ↔ (at_.length ≤ 20 ∧ refs.length ≤ 8 ∧ id.size ≤ 64) from Iff.rfl)
      have HBAD := Lib.hid (show ¬ (at_.length ≤ 20 ∧ refs.length ≤ 8 ∧ id.size ≤ 64) → r = false from fun h => HBAD0.out fun hh => h (HSM.out.1 hh))
      clear HBAD0
      generalize refs.length = ql at *
      generalize at_.length = ul at *
      by_cases b0 : ul ≤ 20
      rotate_left
      · obtain rfl := HBAD.out fun h => b0 (h.1)
        have p0 : decide (20 < (ul : Int)) = true := decide_eq_true (by omega)
        clear b0
        go_wp2
        go_ret
        exact ⟨rfl, by (repeat' (first | (with_reducible exact Below.refl _ _) | (with_reducible assumption) | (with_reducible refine Below.alloc ?_ ?_ _) | (with_reducible refine Below.drew ?_) | (with_reducible refine below_drewN ?_ _) | (with_reducible refine Below.setCell ?_ ?_ _) | (with_reducible refine below_step ?_ (by with_reducible assumption) ?_) | go_size))⟩
      have p0 : decide (20 < (ul : Int)) = false := decide_eq_false (by omega)
      by_cases b1 : ql ≤ 8
      rotate_left
      · obtain rfl := HBAD.out fun h => b1 (h.2.1)
        have p1 : decide (8 < (ql : Int)) = true := decide_eq_true (by omega)
        clear b1
        go_wp2
        go_ret
        exact ⟨rfl, by (repeat' (first | (with_reducible exact Below.refl _ _) | (with_reducible assumption) | (with_reducible refine Below.alloc ?_ ?_ _) | (with_reducible refine Below.drew ?_) | (with_reducible refine below_drewN ?_ _) | (with_reducible refine Below.setCell ?_ ?_ _) | (with_reducible refine below_step ?_ (by with_reducible assumption) ?_) | go_size))⟩
      have p1 : decide (8 < (ql : Int)) = false := decide_eq_false (by omega)
      by_cases b2 : id.size ≤ 64
      rotate_left
      · obtain rfl := HBAD.out fun h => b2 (h.2.2)
        have p2 : decide (64 < (id.size : Int)) = true := decide_eq_true (by omega)
        clear b2
        go_wp2
        go_ret
        exact ⟨rfl, by (repeat' (first | (with_reducible exact Below.refl _ _) | (with_reducible assumption) | (with_reducible refine Below.alloc ?_ ?_ _) | (with_reducible refine Below.drew ?_) | (with_reducible refine below_drewN ?_ _) | (with_reducible refine Below.setCell ?_ ?_ _) | (with_reducible refine below_step ?_ (by with_reducible assumption) ?_) | go_size))⟩
      have p2 : decide (64 < (id.size : Int)) = false := decide_eq_false (by omega)
      have hnx := HS1.out.2 ⟨HA.out, HSM.out.2 ⟨b0, b1, b2⟩⟩
      have HNX := Lib.hid hnx
      clear hnx b0 b1 b2
      go_wp2
      go_roundw
      case rel => exact ⟨j + 1, by omega, by go_num, HNX.out, by (repeat' (first | (with_reducible exact Below.refl _ _) | (with_reducible assumption) | (with_reducible refine Below.alloc ?_ ?_ _) | (with_reducible refine Below.drew ?_) | (with_reducible refine below_drewN ?_ _) | (with_reducible refine Below.setCell ?_ ?_ _) | (with_reducible refine below_step ?_ (by with_reducible assumption) ?_) | go_size))⟩
      case measure => simp [intOf]; omega
    · have hjl : j = hs := by omega
      subst hjl
      have hall := HA.out
      rw [HHS.out, List.take_length] at hall
      have HALL := Lib.hid hall
      clear hall HA hj hlt
      go_wp2
      go_loopw [71, 10] (fun v71 _ wi => ∃ i : Nat, i ≤ jl ∧ v71 = .int .i64 i ∧ (∀ x ∈ js.take i, SmJ x) ∧ Below w.heap.size w wi) (fun v71 _ _ => jl - (intOf v71).toNat)
      case atStart => exact ⟨0, Nat.zero_le _, rfl, by simp, hbel⟩
      case round =>
        clear hbel zr
        obtain ⟨i, hi, rfl, hall, hbel⟩ := hrel
        have HA := Lib.hid hall
        have zr := hbel.size
        clear hall
        by_cases hlt : i < jl
        · have hil : i < js.length := by rw [← HJL.out]; exact hlt
          obtain ⟨e1, e2, e3, fv, e4, e5, e6, hfv⟩ := JC.out i hil
          subst e1
          obtain ⟨fa, fc, _, _, rfl, -⟩ := hfv.at
          have hs1 := all_snoc SmJ js i hil
          rw [← getD_at js i default hil] at hs1
          have HS1 := Lib.hid hs1
          have hbad : ¬ SmJ (js.getD i default) → r = false := fun h => HNO.out fun hh => h (hh.2.2.2.2.2.2.2 _ (by rw [getD_at _ _ _ hil]; exact List.getElem_mem hil))
          have HBAD0 := Lib.hid hbad
          clear hfv hs1 hbad
          rw [← hbel.cell (p := ⟨jb, _, none⟩) (cell_lt e2)] at e2
          rw [← hbel.cell (p := ⟨jb, _, none⟩) (cell_lt e3)] at e3
          rw [← hbel.cell (p := ⟨jb, _, none⟩) (cell_lt e4)] at e4
          rw [← hbel.cell (p := ⟨jb, _, none⟩) (cell_lt e5)] at e5
          rw [← hbel.cell (p := ⟨jb, _, none⟩) (cell_lt e6)] at e6
          generalize js.getD i default = y at *
          obtain ⟨⟨st, ix⟩, fs, dst, size⟩ := y
          simp only at e2 e3 e5 e6
          have HSM := Lib.hid (show SmJ ⟨⟨st, ix⟩, fs, dst, size⟩ ↔ (fs.length ≤ 20 ∧ st.size ≤ 64) from Iff.rfl)
          have HBAD := Lib.hid (show ¬ (fs.length ≤ 20 ∧ st.size ≤ 64) → r = false from fun h => HBAD0.out fun hh => h (HSM.out.1 hh))
          clear HBAD0
          generalize fs.length = fl at *
          by_cases b0 : fl ≤ 20
          rotate_left
          · obtain rfl := HBAD.out fun h => b0 (h.1)
            have p0 : decide (20 < (fl : Int)) = true := decide_eq_true (by omega)
            clear b0
            go_wp2
            go_ret
            exact ⟨rfl, by (repeat' (first | (with_reducible exact Below.refl _ _) | (with_reducible assumption) | (with_reducible refine Below.alloc ?_ ?_ _) | (with_reducible refine Below.drew ?_) | (with_reducible refine below_drewN ?_ _) | (with_reducible refine Below.setCell ?_ ?_ _) | (with_reducible refine below_step ?_ (by with_reducible assumption) ?_) | go_size))⟩
          have p0 : decide (20 < (fl : Int)) = false := decide_eq_false (by omega)
          by_cases b1 : st.size ≤ 64
          rotate_left
          · obtain rfl := HBAD.out fun h => b1 (h.2)
            have p1 : decide (64 < (st.size : Int)) = true := decide_eq_true (by omega)
            clear b1
            go_wp2
            go_ret
            exact ⟨rfl, by (repeat' (first | (with_reducible exact Below.refl _ _) | (with_reducible assumption) | (with_reducible refine Below.alloc ?_ ?_ _) | (with_reducible refine Below.drew ?_) | (with_reducible refine below_drewN ?_ _) | (with_reducible refine Below.setCell ?_ ?_ _) | (with_reducible refine below_step ?_ (by with_reducible assumption) ?_) | go_size))⟩
          have p1 : decide (64 < (st.size : Int)) = false := decide_eq_false (by omega)
          have hnx := HS1.out.2 ⟨HA.out, HSM.out.2 ⟨b0, b1⟩⟩
          have HNX := Lib.hid hnx
          clear hnx b0 b1
          go_wp2
          go_roundw
          case rel => exact ⟨i + 1, by omega, by go_num, HNX.out, by (repeat' (first | (with_reducible exact Below.refl _ _) | (with_reducible assumption) | (with_reducible refine Below.alloc ?_ ?_ _) | (with_reducible refine Below.drew ?_) | (with_reducible refine below_drewN ?_ _) | (with_reducible refine Below.setCell ?_ ?_ _) | (with_reducible refine below_step ?_ (by with_reducible assumption) ?_) | go_size))⟩
          case measure => simp [intOf]; omega
        · have hil : i = jl := by omega
          subst hil
          have hall := HA.out
          rw [HJL.out, List.take_length] at hall
          obtain rfl := HYES.out ⟨a0, a1, a2, a3, a4, a5, HALL.out, hall⟩
          go_wp2
          go_ret
          exact ⟨rfl, hbel⟩

end Go.Proofs.Ytijcicgbhcphjaa
