/- The law's few and valid. -/
import Derived.Test.YtcgilfnhbliadaaC3
namespace Go.Proofs.Ytcgilfnhbliadaa
open Go.RowKit Go.Lib Go.ChangeMaps
set_option linter.unusedSimpArgs false

/-- A slice of slices of tasks. -/
def ReadsL (w : World) (v : Value) (L : List (Value × List Tk)) : Prop := RowAt w v 1 L.length (fun i _ => (L.getD i (undef, [])).1) ∧ ∀ i, i < L.length → ReadsT w (L.getD i (undef, [])).1 (L.getD i (undef, [])).2
theorem ReadsL.at {w : World} {v : Value} {L : List (Value × List Tk)} (h : ReadsL w v L) : ∃ ao c b off, v = .slice ao L.length c ∧ L.length ≤ 4611686018427387904 ∧ ∀ i, i < L.length → ao = some ⟨b, off, none⟩ ∧ w.cell? ⟨b, off + i, none⟩ = some (L.getD i (undef, [])).1 := by
  obtain ⟨ao, c, b, off, e, h1, h2, h3⟩ := RowAt.at h.1
  refine ⟨ao, c, b, off, e, h2, fun i hi => ?_⟩
  obtain ⟨h4, h5⟩ := h3 i hi
  have := h5 0 (by omega)
  simp only [Nat.mul_one, Nat.add_zero] at this
  exact ⟨h4, this⟩
def FewT (ts : List Tk) : Prop := ts.length ≤ 20 ∧ ∀ t ∈ ts, t.st.size ≤ 64
instance (ts : List Tk) : Decidable (FewT ts) := inferInstanceAs (Decidable (_ ∧ _))
def FewL (L : List (Value × List Tk)) : Prop := ∀ p ∈ L.map (·.2), FewT p
instance (L : List (Value × List Tk)) : Decidable (FewL L) := inferInstanceAs (Decidable (∀ p ∈ _, FewT p))
theorem reads_one {W : World} {v : Value} {ts : List Tk} (h : ReadsT W v ts) : ReadsL (W.alloc (.cells #[v] 36)) (.slice (some ⟨W.heap.size, 0, none⟩) 1 1) [(v, ts)] := by
  have hr := heap_alloc_new W (.cells #[v] 36)
  refine ⟨⟨_, 1, rfl, Nat.le_refl _, by show 1 ≤ _; omega, fun _ => ⟨W.heap.size, 0, rfl, fun i j hi hj => ?_⟩⟩, fun i hi => ?_⟩
  · have hi1 : i < 1 := hi
    obtain rfl : i = 0 := by omega
    obtain rfl : j = 0 := by omega
    exact cell_of_row _ _ 0 _ _ _ hr
  · have hi1 : i < 1 := hi
    obtain rfl : i = 0 := by omega
    exact h.below ((Below.refl _ _).alloc (Nat.le_refl _) _)
theorem reads_two {W : World} {u v : Value} {ts us : List Tk} (hu : ReadsT W u ts) (hv : ReadsT W v us) : ReadsL (W.alloc (.cells #[u, v] 36)) (.slice (some ⟨W.heap.size, 0, none⟩) 2 2) [(u, ts), (v, us)] := by
  have hr := heap_alloc_new W (.cells #[u, v] 36)
  refine ⟨⟨_, 2, rfl, Nat.le_refl _, by show 2 ≤ _; omega, fun _ => ⟨W.heap.size, 0, rfl, fun i j hi hj => ?_⟩⟩, fun i hi => ?_⟩
  · have hi1 : i < 2 := hi
    obtain rfl : j = 0 := by omega
    rcases (show i = 0 ∨ i = 1 by omega) with rfl | rfl
    · exact cell_of_row _ _ 0 _ _ _ hr
    · exact cell_of_row _ _ 1 _ _ _ hr
  · have hi1 : i < 2 := hi
    rcases (show i = 0 ∨ i = 1 by omega) with rfl | rfl
    · exact hu.below ((Below.refl _ _).alloc (Nat.le_refl _) _)
    · exact hv.below ((Below.refl _ _).alloc (Nat.le_refl _) _)

theorem fewL_snoc (L : List (Value × List Tk)) (i : Nat) (h : i < L.length) : FewL (L.take (i + 1)) ↔ FewL (L.take i) ∧ FewT (L.getD i (undef, [])).2 := by
  unfold FewL
  rw [List.take_succ_eq_append_getElem h, getD_at _ _ _ h]
  simp only [List.map_append, List.mem_append, List.map_cons, List.map_nil, List.mem_singleton]
  exact ⟨fun hh => ⟨fun t ht => hh t (.inl ht), hh _ (.inr rfl)⟩, fun ⟨h1, h2⟩ t ht => ht.elim (h1 t) fun e => e ▸ h2⟩
theorem fewL_take {L : List (Value × List Tk)} (h : FewL L) (i : Nat) : FewL (L.take i) := fun p hp => h p (by
  obtain ⟨q, hq, rfl⟩ := List.mem_map.1 hp
  exact List.mem_map.2 ⟨q, List.mem_of_mem_take hq, rfl⟩)
theorem st64_snoc (ts : List Tk) (i : Nat) (h : i < ts.length) : (∀ t ∈ ts.take (i + 1), t.st.size ≤ 64) ↔ (∀ t ∈ ts.take i, t.st.size ≤ 64) ∧ (ts.getD i default).st.size ≤ 64 := by
  rw [List.take_succ_eq_append_getElem h, getD_at _ _ _ h]
  simp only [List.mem_append, List.mem_singleton]
  exact ⟨fun hh => ⟨fun t ht => hh t (.inl ht), hh _ (.inr rfl)⟩, fun ⟨h1, h2⟩ t ht => ht.elim (h1 t) fun e => e ▸ h2⟩

set_option maxRecDepth 100000 in
set_option maxHeartbeats 4000000 in
theorem few_any (v : Value) (L : List (Value × List Tk)) (w : World) (hv : ReadsL w v L) :
    Calls Try.prog 17 #[v] w fun e w' => e = .returned (.bool (decide (FewL L))) ∧ Below w.heap.size w w' := by
  obtain ⟨ao, c, b, off, rfl, hm, hcell⟩ := hv.at
  have HC := Lib.hid hcell
  have HV := Lib.hid hv.2
  clear hcell hv
  obtain ⟨r, hr⟩ : ∃ r, r = decide (FewL L) := ⟨_, rfl⟩
  rw [← hr]
  have HR := Lib.hid hr
  clear hr
  go_enter Try.func17, Try.ntmps17
  go_wp2
  go_loopw [9, 4, 6] (fun v9 _ _ wr => ∃ i : Nat, i ≤ L.length ∧ v9 = .int .i64 i ∧ FewL (L.take i) ∧ Below w.heap.size w wr) (fun v9 _ _ _ => L.length - (intOf v9).toNat)
  case atStart => exact ⟨0, Nat.zero_le _, rfl, fun t h => by simp at h, Below.refl _ _⟩
  case round =>
    obtain ⟨i, hi, rfl, hok, hbel⟩ := hrel
    have HK := Lib.hid hok
    have HB := Lib.hid hbel
    clear hok
    by_cases hlt : i < L.length
    · obtain ⟨rfl, c0⟩ := HC.out i hlt
      have c0 := bc hbel c0
      have HS := Lib.hid (fewL_snoc L i hlt)
      have hrd := HV.out i hlt
      have hrt := fun h => fewL_take (L := L) h (i + 1)
      have HRT := Lib.hid hrt
      clear hrt
      generalize L.getD i (undef, []) = p at *
      obtain ⟨pv, ts⟩ := p
      simp only at c0 HS hrd
      have hrd := hrd.below hbel
      obtain ⟨ta, tc, tb, tq, rfl, -, tm, tcell⟩ := hrd.at
      have TC := Lib.hid tcell
      clear hrd tcell hbel
      by_cases h20 : ts.length ≤ 20
      rotate_left
      · obtain rfl : r = false := by rw [HR.out]; exact decide_eq_false fun h => h20 (HS.out.1 (HRT.out h)).2.1
        have q : decide ((20 : Int) < ts.length) = true := by simp; omega
        clear h20
        go_wp2
        go_ret
        exact ⟨rfl, HB.out⟩
      · have q : decide ((20 : Int) < ts.length) = false := by simp; omega
        go_wp2
        clear c0 q
        go_loopw [18, 6] (fun v18 _ wx => ∃ j : Nat, j ≤ ts.length ∧ v18 = .int .i64 j ∧ (∀ t ∈ ts.take j, t.st.size ≤ 64) ∧ Below wr.heap.size wr wx) (fun v18 _ _ => ts.length - (intOf v18).toNat)
        case atStart => exact ⟨0, Nat.zero_le _, rfl, fun t h => by simp at h, Below.refl _ _⟩
        case round =>
          rename_i wx _ _ _ _ _ _ _ _ _
          obtain ⟨j, hj, rfl, hst, hbj⟩ := hrel
          have HST := Lib.hid hst
          have HBJ := Lib.hid hbj
          clear hst
          by_cases hlj : j < ts.length
          · obtain ⟨rfl, d0, d1, d2, d3, d4, d5, d6⟩ := TC.out j hlj
            have d0 := bc hbj d0
            have d1 := bc hbj d1
            have d2 := bc hbj d2
            have d3 := bc hbj d3
            have d4 := bc hbj d4
            have d5 := bc hbj d5
            have d6 := bc hbj d6
            have HS2 := Lib.hid (st64_snoc ts j hlj)
            have HM := Lib.hid (show ts.getD j default ∈ ts by rw [getD_at _ _ _ hlj]; exact List.getElem_mem hlj)
            generalize ts.getD j default = y at *
            by_cases h64 : y.st.size ≤ 64
            · have HN := Lib.hid (HS2.out.2 ⟨HST.out, h64⟩)
              obtain ⟨yst, yix, ysz, ysp, ynum, yden, yday⟩ := y
              simp only at d0 d1 d2 d3 d4 d5 d6 h64
              have q2 : decide ((64 : Int) < yst.size) = false := by simp; omega
              clear hbj
              go_wp2
              go_roundw
              case rel => exact ⟨j + 1, by omega, by go_num, HN.out, HBJ.out.alloc HBJ.out.size _⟩
              case measure => simp [intOf]; omega
            · obtain rfl : r = false := by rw [HR.out]; exact decide_eq_false fun h => h64 ((HS.out.1 (HRT.out h)).2.2 y HM.out)
              obtain ⟨yst, yix, ysz, ysp, ynum, yden, yday⟩ := y
              simp only at d0 d1 d2 d3 d4 d5 d6 h64
              have q2 : decide ((64 : Int) < yst.size) = true := by simp; omega
              clear hbj HS2 HM
              go_wp2
              go_ret
              exact ⟨rfl, HB.out.trans ((HBJ.out.alloc HBJ.out.size _).mono HB.out.size)⟩
          · have HT := Lib.hid (show ts.take j = ts from List.take_of_length_le (by omega))
            rw [HT.out] at HST
            have HN := Lib.hid (HS.out.2 ⟨HK.out, h20, HST.out⟩)
            clear hbj HST
            go_wp2
            go_roundw
            case rel => exact ⟨i + 1, by omega, by go_num, HN.out, HB.out.trans (HBJ.out.mono HB.out.size)⟩
            case measure => simp [intOf]; omega
    · have HT := Lib.hid (show L.take i = L from List.take_of_length_le (by omega))
      rw [HT.out] at HK
      obtain rfl : r = true := by rw [HR.out]; exact decide_eq_true HK.out
      clear hbel
      go_wp2
      go_ret
      exact ⟨rfl, HB.out⟩

theorem fewL_one (v : Value) (ts : List Tk) : FewL [(v, ts)] ↔ FewT ts := by simp [FewL]
theorem fewL_two (u v : Value) (ts us : List Tk) : FewL [(u, ts), (v, us)] ↔ FewT ts ∧ FewT us := by simp [FewL]

set_option maxRecDepth 100000 in
set_option maxHeartbeats 2000000 in
/-- The law's valid. -/
theorem validLaw_any (t : Tk) (w : World) : Calls Try.prog 13 #[t.v] w fun e w' => e = .returned (.bool (decide (TOk t))) ∧ Below w.heap.size w w' := by
  have CF := Lib.hid (fun W v (h : ReadsL W v [(.slice (some ⟨w.heap.size + 1, 0, none⟩) 1 1, [t])]) => few_any v _ W h)
  have CP := Lib.hid (fun W => plain_any t W)
  have CV := Lib.hid (fun W => valid_ref t W)
  have HB1 := Lib.hid (show decide (FewL [(Value.slice (some ⟨w.heap.size + 1, 0, none⟩) 1 1, [t])]) = false → decide (TOk t) = false from fun h => by
    refine decide_eq_false fun hk => of_decide_eq_false h ((fewL_one _ _).2 ⟨by simp, fun u hu => ?_⟩)
    simp only [List.mem_singleton] at hu
    subst hu
    have := hk.1
    omega)
  obtain ⟨f, hf⟩ : ∃ f, f = decide (FewL [(Value.slice (some ⟨w.heap.size + 1, 0, none⟩) 1 1, [t])]) := ⟨_, rfl⟩
  rw [← hf] at CF HB1
  clear hf
  generalize decide (TOk t) = r at *
  have HRD := Lib.hid (fun (W : World) (h : W.heap[w.heap.size + 1]? = some (.cells #[.string t.st, .int .i64 t.ix, .int .i64 t.size, .int .i64 t.spare, .int .i64 t.num, .int .i64 t.den, .int .i64 t.day] 27)) => (⟨_, 1, rfl, Nat.le_refl _, by show 1 ≤ _; omega, fun _ => ⟨w.heap.size + 1, 0, rfl, fun i j hi hj => by
    have hi1 : i < 1 := hi
    obtain rfl : i = 0 := by omega
    rw [show 0 + 0 * 7 + j = j by omega, cell_of_row _ _ _ _ _ _ h]
    rcases (show j = 0 ∨ j = 1 ∨ j = 2 ∨ j = 3 ∨ j = 4 ∨ j = 5 ∨ j = 6 by omega) with rfl | rfl | rfl | rfl | rfl | rfl | rfl <;> rfl⟩⟩ : ReadsT W (.slice (some ⟨w.heap.size + 1, 0, none⟩) 1 1) [t]))
  obtain ⟨tst, tix, tsz, tsp, tnum, tden, tday⟩ := t
  unfold Tk.v at *
  simp only at CF CP CV HRD ⊢
  have hb3 : Below w.heap.size w (((w.alloc (.cells #[.string tst, .int .i64 tix, .int .i64 tsz, .int .i64 tsp, .int .i64 tnum, .int .i64 tden, .int .i64 tday] 27)).alloc (.cells #[.string tst, .int .i64 tix, .int .i64 tsz, .int .i64 tsp, .int .i64 tnum, .int .i64 tden, .int .i64 tday] 27)).alloc (.cells #[.slice (some ⟨w.heap.size + 1, 0, none⟩) 1 1] 36)) := by (repeat' (first | (with_reducible exact Below.refl _ _) | (with_reducible assumption) | (with_reducible refine Below.alloc ?_ ?_ _) | (with_reducible refine Below.drew ?_) | (with_reducible refine below_drewN ?_ _) | (with_reducible refine Below.setCell ?_ ?_ _) | (with_reducible refine below_step ?_ (by with_reducible assumption) ?_) | go_size))
  have hx := heap_alloc_new (w.alloc (.cells #[.string tst, .int .i64 tix, .int .i64 tsz, .int .i64 tsp, .int .i64 tnum, .int .i64 tden, .int .i64 tday] 27)) (.cells #[.string tst, .int .i64 tix, .int .i64 tsz, .int .i64 tsp, .int .i64 tnum, .int .i64 tden, .int .i64 tday] 27)
  rw [World.size_alloc] at hx
  have hrl := reads_one (HRD.out _ hx)
  have hx0 : (((w.alloc (.cells #[.string tst, .int .i64 tix, .int .i64 tsz, .int .i64 tsp, .int .i64 tnum, .int .i64 tden, .int .i64 tday] 27)).alloc (.cells #[.string tst, .int .i64 tix, .int .i64 tsz, .int .i64 tsp, .int .i64 tnum, .int .i64 tden, .int .i64 tday] 27)).alloc (.cells #[.slice (some ⟨w.heap.size + 1, 0, none⟩) 1 1] 36)).heap[w.heap.size]? = some (.cells #[.string tst, .int .i64 tix, .int .i64 tsz, .int .i64 tsp, .int .i64 tnum, .int .i64 tden, .int .i64 tday] 27) :=
    bb (((Below.refl _ _).alloc (Nat.le_refl _) _).alloc (by simp only [World.size_alloc]; omega) _) (heap_alloc_new w _)
  have HX0 := Lib.hid hx0
  have HB3 := Lib.hid hb3
  have HRL := Lib.hid hrl
  clear hx hrl hx0 hb3 HRD
  go_enter Try.func13, Try.ntmps13
  go_wp2_with fail
  simp only [World.size_alloc] at HRL
  refine (CF.out _ _ HRL.out).mono ?_
  rintro e w1 ⟨rfl, hb1⟩
  have hbw := HB3.out.trans (hb1.mono HB3.out.size)
  cases f with
  | false =>
    obtain rfl : r = false := HB1.out rfl
    go_wp2
    go_ret
    exact ⟨rfl, hbw⟩
  | true =>
  have hx1 := bb hb1 HX0.out
  have d0 := cell_of_row w1 _ 0 _ _ _ hx1
  have d1 := cell_of_row w1 _ 1 _ _ _ hx1
  have d2 := cell_of_row w1 _ 2 _ _ _ hx1
  have d3 := cell_of_row w1 _ 3 _ _ _ hx1
  have d4 := cell_of_row w1 _ 4 _ _ _ hx1
  have d5 := cell_of_row w1 _ 5 _ _ _ hx1
  have d6 := cell_of_row w1 _ 6 _ _ _ hx1
  clear hx1 hb1
  go_wp2_with fail
  refine (CP.out _).mono ?_
  rintro e w2 ⟨rfl, hb2⟩
  clear d0 d1 d2 d3 d4 d5 d6
  go_wp2_with fail
  refine (CV.out _).mono ?_
  rintro e w3 ⟨rfl, hb3⟩
  go_wp2
  go_ret
  exact ⟨by simp, hbw.trans ((hb2.trans (hb3.mono hb2.size)).mono hbw.size)⟩

end Go.Proofs.Ytcgilfnhbliadaa
