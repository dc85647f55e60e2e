/- The law Least, walked. -/
import Derived.Test.YtijcicgbhcphjaaP1
import Derived.Test.YtijcicgbhcphjaaM2
import Derived.Test.YtijcicgbhcphjaaL2
namespace Go.Proofs.Ytijcicgbhcphjaa
open Go.RowKit Go.Lib Go.ChangeMaps
set_option linter.unusedSimpArgs false

theorem doP_refs {V : Vp} {n : Nat} (h : ∀ x ∈ V.held, x.refs.length ≤ n) (j : Jp) : ∀ x ∈ (doP V j).held, x.refs.length ≤ n := fun x hx => by
  unfold doP at hx
  split at hx
  · exact h x hx
  · rename_i k hk
    have hkl := (findP_some hk).1
    rcases List.mem_or_eq_of_mem_set (show x ∈ V.held.set _ _ from hx) with hx | rfl
    · exact h x hx
    · exact h (V.held.getD k default) (by rw [getD_at _ _ _ hkl]; exact List.getElem_mem hkl)
theorem doAllP_refs {gone : Nat → Bool} {n : Nat} : ∀ (js : List Jp) (V V' : Vp), doAllP gone V js = some V' → (∀ x ∈ V.held, x.refs.length ≤ n) → ∀ x ∈ V'.held, x.refs.length ≤ n
  | [], V, V', h, hr => by cases h; exact hr
  | j :: r, V, V', h, hr => by
    unfold doAllP at h
    split at h
    · exact doAllP_refs r _ _ h (doP_refs hr j)
    · cases h
theorem clean_refs {gone : Nat → Bool} {V : Vp} {n : Nat} (h : ∀ x ∈ V.held, x.refs.length ≤ n) : ∀ x ∈ (cleanV gone V).held, x.refs.length ≤ n := fun x hx => by
  obtain ⟨y, hy, rfl⟩ := List.mem_map.1 (show x ∈ V.held.map (cleanH gone) from hx)
  exact h y hy

set_option maxRecDepth 100000 in
set_option maxHeartbeats 8000000 in
theorem law_least (v lv : Value) (V : Vp) (ls : List Int) (w : World) (hv : VwAt w v V) (hl : ReadsI w lv ls) :
    Calls Try.prog 8 #[v, lv] w fun e w' => e = .returned (.bool true) ∧ Below w.heap.size w w' := by
  have HV := Lib.hid hv
  have HL := Lib.hid hl
  obtain ⟨ma, mc, ha, hc, ra, rl, rc, wa, wl, wc, rfl⟩ := hv.val
  obtain ⟨la, lc, _, _, rfl, -⟩ := hl.at
  clear hv hl
  obtain ⟨ml, hml⟩ : ∃ ml, ml = V.mem.length := ⟨_, rfl⟩
  obtain ⟨nh, hnh⟩ : ∃ nh, nh = V.held.length := ⟨_, rfl⟩
  rw [← hml, ← hnh] at HV ⊢
  clear hml hnh
  obtain ⟨ll, hll⟩ : ∃ ll, ll = ls.length := ⟨_, rfl⟩
  rw [← hll] at HL ⊢
  clear hll
  have CA := Lib.hid (fun W => awake_any W)
  have hA : Below w.heap.size w (w.alloc (.cells #[.slice ma ml mc, .slice ha nh hc, .slice ra rl rc, .slice wa wl wc] 26)) := (Below.refl _ _).alloc (Nat.le_refl _) _
  have hbx := heap_alloc_new w (.cells #[.slice ma ml mc, .slice ha nh hc, .slice ra rl rc, .slice wa wl wc] 26)
  go_enter Try.func8, Try.ntmps8
  go_wp2_with fail
  refine (CA.out _).mono ?_
  rintro e w1 ⟨rfl, hb1⟩
  have hbw1 := hA.trans (hb1.mono hA.size)
  have hbx1 := (hb1.block w.heap.size (by rw [World.size_alloc]; omega)).trans hbx
  have hlt1 := (Array.getElem?_eq_some_iff.1 hbx1).1
  have d0 := cell_of_row w1 _ 0 _ _ _ hbx1
  have d1 := cell_of_row w1 _ 1 _ _ _ hbx1
  have d2 := cell_of_row w1 _ 2 _ _ _ hbx1
  have d3 := cell_of_row w1 _ 3 _ _ _ hbx1
  have CS := Lib.hid (small_any _ _ (.slice none 0 0) V ls [] w1 (HV.out.below hbw1) (HL.out.below hbw1) (nil_jobs _))
  clear hb1 hA hbx hbx1
  by_cases hsm : Small V ls []
  rotate_left
  · rw [decide_eq_false hsm] at CS
    clear hsm
    go_wp2_with fail
    refine CS.out.mono ?_
    rintro e w2 ⟨rfl, hb2⟩
    go_wp2_with fail
    refine (CA.out _).mono ?_
    rintro e w3 ⟨rfl, hb3⟩
    go_wp2
    go_ret
    exact ⟨rfl, hbw1.trans ((hb2.trans (hb3.mono hb2.size)).mono hbw1.size)⟩
  rw [decide_eq_true hsm] at CS
  have HREF := Lib.hid (Small.refs hsm)
  clear hsm
  go_wp2_with fail
  refine CS.out.mono ?_
  rintro e w2 ⟨rfl, hb2⟩
  have hbw2 := hbw1.trans (hb2.mono hbw1.size)
  have d0 := (hb2.cell (p := ⟨w.heap.size, 0, none⟩) hlt1).trans d0
  have d1 := (hb2.cell (p := ⟨w.heap.size, 1, none⟩) hlt1).trans d1
  have d2 := (hb2.cell (p := ⟨w.heap.size, 2, none⟩) hlt1).trans d2
  have d3 := (hb2.cell (p := ⟨w.heap.size, 3, none⟩) hlt1).trans d3
  have CP := Lib.hid (plan_any _ _ V ls w2 (HV.out.below hbw2) (HL.out.below hbw2) HREF.out)
  have hlt2 := cell_lt d0
  clear CS
  go_wp2_with fail
  refine CP.out.mono ?_
  rintro e w3 ⟨hb3, hcase⟩
  have hbw3 := hbw2.trans (hb3.mono hbw2.size)
  have d0 := (hb3.cell (p := ⟨w.heap.size, 0, none⟩) hlt2).trans d0
  have d1 := (hb3.cell (p := ⟨w.heap.size, 1, none⟩) hlt2).trans d1
  have d2 := (hb3.cell (p := ⟨w.heap.size, 2, none⟩) hlt2).trans d2
  have d3 := (hb3.cell (p := ⟨w.heap.size, 3, none⟩) hlt2).trans d3
  have hlt3 := cell_lt d0
  clear CP
  rcases hcase with ⟨hno, rfl⟩ | ⟨hfit, u, rfl, hu⟩
  · have CY := Lib.hid (apply_any _ _ (.slice none 0 0) V ls [] w3 (HV.out.below hbw3) (HL.out.below hbw3) (nil_jobs _) HREF.out)
    have HNO := Lib.hid hno
    clear hno
    go_wp2_with fail
    refine CY.out.mono ?_
    rintro e w4 ⟨hb4, hcase⟩
    have hb4' := hbw3.trans (hb4.mono hbw3.size)
    have zz := hb4'.size
    rcases hcase with ⟨_, rfl⟩ | ⟨hf, _⟩ | ⟨hf, _⟩
    · go_wp2
      go_ret
      exact ⟨rfl, by (repeat' (first | (with_reducible exact Below.refl _ _) | (with_reducible assumption) | (with_reducible refine Below.alloc ?_ ?_ _) | (with_reducible refine Below.drew ?_) | (with_reducible refine below_drewN ?_ _) | (with_reducible refine Below.setCell ?_ ?_ _) | (with_reducible refine below_step ?_ (by with_reducible assumption) ?_) | go_size))⟩
    · exact absurd hf HNO.out
    · exact absurd hf HNO.out
  obtain ⟨V', f1, f2, f3, f4, f5, f6, f7, f8⟩ := after_plan hfit
  have hpa := planR_all (goneB V.mem ls) hfit.1
  have hjs : ∀ j ∈ (planR V (goneB V.mem ls)).2, j.from_.length ≤ 1000000 := fun j hj => by have := (pjob_facts hfit.1 (hpa.2.2.2 j hj)).2.1; omega
  have hjl := planR_len (goneB V.mem ls) hfit.1
  have hle := least_plan f5
  have hmem : (cleanV (goneB V.mem ls) V').mem = V.mem := f2
  have hrf' := clean_refs (gone := goneB V.mem ls) (doAllP_refs _ _ _ f1 HREF.out)
  have HFIT := Lib.hid hfit
  clear hpa f4 f5 f8 f3 hfit
  have HMEM := Lib.hid hmem
  have HF1 := Lib.hid f1
  have HF6 := Lib.hid f6
  have HF7 := Lib.hid f7
  have HRF := Lib.hid hrf'
  have CL1 := Lib.hid (fun W (h : Below w.heap.size w W) => least_any _ _ V ls W (HV.out.below h) (HL.out.below h) HREF.out)
  clear f1 f2 f6 f7 hmem hrf'
  generalize hgn : goneB V.mem ls = gone at *
  have hrj : ReadsJ w3 u (planR V gone).2 := hu.reads (by omega) hjs
  have CY := Lib.hid (apply_any _ _ u V ls _ w3 (HV.out.below hbw3) (HL.out.below hbw3) hrj HREF.out)
  rw [hgn] at CY
  obtain ⟨ja, jc, _, _, rfl, -⟩ := hrj.at
  clear hu hrj hjs
  generalize (planR V gone).2 = js at *
  have HGN := Lib.hid hgn
  clear hgn
  go_wp2_with fail
  refine CY.out.mono ?_
  rintro e w4 ⟨hb4, hcase⟩
  have hbw4 := hbw3.trans (hb4.mono hbw3.size)
  have d0 := (hb4.cell (p := ⟨w.heap.size, 0, none⟩) hlt3).trans d0
  have d1 := (hb4.cell (p := ⟨w.heap.size, 1, none⟩) hlt3).trans d1
  have d2 := (hb4.cell (p := ⟨w.heap.size, 2, none⟩) hlt3).trans d2
  have d3 := (hb4.cell (p := ⟨w.heap.size, 3, none⟩) hlt3).trans d3
  have hlt4 := cell_lt d0
  clear CY
  rcases hcase with ⟨hno, _⟩ | ⟨_, hd, _⟩ | ⟨_, V2, u2, hd, rfl, hu2⟩
  · exact absurd HFIT.out hno
  · rw [HF1.out] at hd; cases hd
  rw [HF1.out] at hd
  cases hd
  have HU2 := Lib.hid hu2
  obtain ⟨ma2, mc2, ha2, hc2, ra2, rl2, rc2, wa2, wl2, wc2, rfl⟩ := hu2.val
  clear hu2
  generalize (cleanV gone V').mem.length = ml2 at *
  generalize (cleanV gone V').held.length = nh2 at *
  have hA7 : Below w4.heap.size w4 (w4.alloc (.cells #[.slice ma2 ml2 mc2, .slice ha2 nh2 hc2, .slice ra2 rl2 rc2, .slice wa2 wl2 wc2] 26)) := (Below.refl _ _).alloc (Nat.le_refl _) _
  have hbw7 := hbw4.trans (hA7.mono hbw4.size)
  have hbx7 := heap_alloc_new w4 (.cells #[.slice ma2 ml2 mc2, .slice ha2 nh2 hc2, .slice ra2 rl2 rc2, .slice wa2 wl2 wc2] 26)
  have hz7 : (w4.alloc (.cells #[.slice ma2 ml2 mc2, .slice ha2 nh2 hc2, .slice ra2 rl2 rc2, .slice wa2 wl2 wc2] 26)).heap.size = w4.heap.size + 1 := World.size_alloc _ _
  go_wp2_with fail
  refine (CL1.out _ hbw7).mono ?_
  rintro e w5 ⟨rfl, hb5⟩
  rw [if_pos HFIT.out]
  have hbw5 := hbw7.trans (hb5.mono hbw7.size)
  have h45 := hA7.trans (hb5.mono hA7.size)
  have hbx5 := (hb5.block w4.heap.size (by omega)).trans hbx7
  have c0 := cell_of_row w5 _ 0 _ _ _ hbx5
  have c1 := cell_of_row w5 _ 1 _ _ _ hbx5
  have c2 := cell_of_row w5 _ 2 _ _ _ hbx5
  have c3 := cell_of_row w5 _ 3 _ _ _ hbx5
  have hlt5 := cell_lt c0
  have CL2 := Lib.hid (least_any _ _ (cleanV gone V') ls w5 (HU2.out.below h45) (HL.out.below hbw5) HRF.out)
  rw [if_pos HF6.out, HMEM.out, HGN.out] at CL2
  clear CL1 hA7 hb5 d0 d1 d2 d3 hbx7
  generalize leastI V gone = n1 at *
  generalize leastI (cleanV gone V') gone = n2 at *
  go_wp2_with fail
  refine CL2.out.mono ?_
  rintro e w6 ⟨rfl, hb6⟩
  have hbw6 := hbw5.trans (hb6.mono hbw5.size)
  have h46 := h45.trans (hb6.mono h45.size)
  have c0 := (hb6.cell (p := ⟨w4.heap.size, 0, none⟩) hlt5).trans c0
  have c1 := (hb6.cell (p := ⟨w4.heap.size, 1, none⟩) hlt5).trans c1
  have c2 := (hb6.cell (p := ⟨w4.heap.size, 2, none⟩) hlt5).trans c2
  have c3 := (hb6.cell (p := ⟨w4.heap.size, 3, none⟩) hlt5).trans c3
  have CP2 := Lib.hid (plan_any _ _ (cleanV gone V') ls w6 (HU2.out.below h46) (HL.out.below hbw6) HRF.out)
  rw [HMEM.out, HGN.out, HF7.out] at CP2
  clear CL2
  go_wp2_with fail
  refine CP2.out.mono ?_
  rintro e w7 ⟨hb7, hcase⟩
  rcases hcase with ⟨hno, _⟩ | ⟨_, u3, rfl, hu3⟩
  · exact absurd HF6.out hno
  obtain ⟨ja3, jc3, rfl⟩ := hu3.slice (by simp)
  have q9 : decide (n1 ≤ n2) = true := decide_eq_true hle
  clear hu3
  simp only [List.length_nil]
  go_wp2
  go_ret
  exact ⟨rfl, hbw6.trans (hb7.mono hbw6.size)⟩

end Go.Proofs.Ytijcicgbhcphjaa
