/- Cost. -/
import Derived.Test.YtijcicgbhcphjaaL1
namespace Go.Proofs.Ytijcicgbhcphjaa
open Go.RowKit Go.Lib Go.ChangeMaps
set_option linter.unusedSimpArgs false

/-- The bytes that jobs read and write, if each stripe is known. -/
def costF (V : Vp) : List Jp → Int → Int → Option (Int × Int)
  | [], r, t => some (r, t)
  | j :: js, r, t => match findP V.held j.pc.st with
    | none => none
    | some k => costF V js (r + (V.held.getD k default).data * (V.held.getD k default).block) (t + (V.held.getD k default).block)
def costV (o : Option (Int × Int)) : Value := match o with
  | none => .tuple #[.int .i64 0, .int .i64 0, .int .i64 4]
  | some p => .tuple #[.int .i64 p.1, .int .i64 p.2, .int .i64 0]
def costR (V : Vp) (js : List Jp) : Value := if VOk V then costV (costF V js 0 0) else .tuple #[.int .i64 0, .int .i64 0, .int .i64 1]

theorem mul_bound {a b : Int} (ha : 1 ≤ a ∧ a ≤ 8) (hb : 1 ≤ b ∧ b ≤ 65536) : 0 ≤ a * b ∧ a * b ≤ 524288 := by
  have h1 : 0 ≤ a * b := Int.mul_nonneg (by omega) (by omega)
  have h2 : a * b ≤ 8 * b := Int.mul_le_mul_of_nonneg_right ha.2 (by omega)
  omega

set_option maxRecDepth 100000 in
set_option maxHeartbeats 8000000 in
theorem cost_any (v jv : Value) (V : Vp) (js : List Jp) (w : World) (hv : VwAt w v V) (hj : ReadsJ w jv js) (hrf : ∀ h ∈ V.held, h.refs.length ≤ 1000) (hjs : js.length ≤ 1000) :
    Calls Try.prog 31 #[v, jv] w fun e w' => e = .returned (costR V js) ∧ Below w.heap.size w w' := by
  have hA := fun o => (Below.refl w.heap.size w).alloc (Nat.le_refl _) o
  have CR := Lib.hid (fun o => read_any v (.slice none 0 0) V [] (w.alloc o) (hv.below (hA o)) (nil_ints _) hrf)
  have HA := Lib.hid hA
  obtain ⟨ma, mc, ha, hc, ra, rl, rc, wa, wl, wc, rfl⟩ := hv.val
  obtain ⟨ja, jc, jb, jo, rfl, -, -, jcell⟩ := hj.at
  have JC := Lib.hid jcell
  clear hA hv hj jcell
  obtain ⟨res, hres⟩ : ∃ res, res = costR V js := ⟨_, rfl⟩
  rw [← hres]
  have HRES := Lib.hid hres
  clear hres
  obtain ⟨nh, hnh⟩ : ∃ nh, nh = V.held.length := ⟨_, rfl⟩
  have HNH := Lib.hid hnh
  rw [← hnh] at CR ⊢
  clear hnh
  generalize V.mem.length = ml at *
  go_enter Try.func31, Try.ntmps31
  go_wp2_with fail
  refine (CR.out _).mono ?_
  rintro e w3 ⟨hb3, hcase⟩
  have hb1 := HA.out (.cells #[.slice ma ml mc, .slice ha nh hc, .slice ra rl rc, .slice wa wl wc] 26)
  have hbw := hb1.trans (hb3.mono hb1.size)
  rcases hcase with ⟨hno, rfl⟩ | ⟨hfit, p, rfl, hp, hst⟩
  · have hno2 : ¬ VOk V := fun h => hno ⟨h, by simp [LostOk]⟩
    have HNO := Lib.hid hno2
    clear hno hno2
    go_wp2
    refine bodyPost_ret (results_tmp3 Try.results31 _ _ _) rfl ?_
    exact ⟨by rw [HRES.out]; unfold costR; rw [if_neg HNO.out]; rfl, hbw⟩
  have hok := hfit.1
  have hres2 : res = costV (costF V js 0 0) := by rw [HRES.out]; unfold costR; rw [if_pos hok]
  have HRES2 := Lib.hid hres2
  have HSM := Lib.hid hok.small.2.2.2.2
  obtain ⟨mv, hv, rv, wv, gv, mp, c0, c1, c2, c3, c4, c5, hM, hH, hR, hW, hG, hmp⟩ := hst.at
  obtain ⟨xa, xc, xb, xo, rfl, xl, xm, xcell⟩ := hH.at
  have XC := Lib.hid xcell
  rw [← HNH.out] at c1 xl xm
  have plt := cell_lt c1
  have HMP := Lib.hid hmp
  have hmlt := (Array.getElem?_eq_some_iff.1 hmp).1
  clear hres2 hok hfit hst hb3 hM hH hR hW hG hmp c0 c2 c3 c4 xcell CR
  go_wp2
  go_loopw [26, 9, 10, 12, 13, 14, 15] (fun v26 v9 v10 _ _ _ _ wr => ∃ (i : Nat) (r t : Int), i ≤ js.length ∧ v26 = .int .i64 i ∧ v9 = .int .i64 r ∧ v10 = .int .i64 t ∧ (0 ≤ r ∧ r ≤ i * 524288) ∧ (0 ≤ t ∧ t ≤ i * 65536) ∧ costF V js 0 0 = costF V (js.drop i) r t ∧ Below w3.heap.size w3 wr) (fun v26 _ _ _ _ _ _ _ => js.length - (intOf v26).toNat)
  case atStart => exact ⟨0, 0, 0, Nat.zero_le _, rfl, rfl, rfl, by omega, by omega, by rw [List.drop_zero], Below.refl _ _⟩
  case round =>
    obtain ⟨i, r, t, hi, rfl, rfl, rfl, hr, ht, hcf, hbel⟩ := hrel
    have HCF := Lib.hid hcf
    have hb9 := hbw.trans (hbel.mono hbw.size)
    have hb39 := (hb1.trans ((Below.refl _ _).mono (Nat.le_refl _)))
    clear hcf hb39
    by_cases hlt : i < js.length
    · obtain ⟨e1, e2, e3, fv, e4, e5, e6, hfv⟩ := JC.out i hlt
      subst e1
      obtain ⟨fa, fc, _, _, rfl, -⟩ := hfv.at
      have hdr := drop_at js default i hlt
      have HDR := Lib.hid hdr
      rw [← hb9.cell (p := ⟨jb, _, none⟩) (cell_lt e2)] at e2
      rw [← hb9.cell (p := ⟨jb, _, none⟩) (cell_lt e3)] at e3
      rw [← hb9.cell (p := ⟨jb, _, none⟩) (cell_lt e4)] at e4
      rw [← hb9.cell (p := ⟨jb, _, none⟩) (cell_lt e5)] at e5
      rw [← hb9.cell (p := ⟨jb, _, none⟩) (cell_lt e6)] at e6
      clear hfv hdr
      generalize js.getD i default = jj at *
      obtain ⟨⟨st, ix⟩, fs, dst, size⟩ := jj
      simp only at e2 e3 e4 e5 e6
      generalize fs.length = fl at *
      have hA : Below wr.heap.size wr (wr.alloc (.cells #[.string st, .int .i64 ix, .slice fa fl fc, .int .i64 dst, .int .i64 size] 47)).drew := ((Below.refl _ _).alloc (Nat.le_refl _) _).drew
      have hzA : (wr.alloc (.cells #[.string st, .int .i64 ix, .slice fa fl fc, .int .i64 dst, .int .i64 size] 47)).drew.heap.size = wr.heap.size + 1 := World.size_alloc _ _
      have h3A := hbel.trans (hA.mono hbel.size)
      have m0 : (wr.alloc (.cells #[.string st, .int .i64 ix, .slice fa fl fc, .int .i64 dst, .int .i64 size] 47)).drew.cell? ⟨wr.heap.size, 0, none⟩ = some (.string st) := cell_of_row (wr.alloc _) _ 0 _ _ _ (heap_alloc_new _ _)
      have p5 := (h3A.cell (p := ⟨p, 5, none⟩) plt).trans c5
      have p1 := (h3A.cell (p := ⟨p, 1, none⟩) plt).trans c1
      have hlk := lookPlaceT ((h3A.block mp hmlt).trans HMP.out) st
      cases hf : findP V.held st with
      | none =>
        rw [hf] at hlk
        have hnone : costF V js 0 0 = none := by
          rw [HCF.out, HDR.out]
          unfold costF
          simp only [hf]
        have HNONE := Lib.hid hnone
        clear hnone hf
        go_upto_region 8 with fail
        refine wp_region_held_drew (S := fun w' => w'.cell? ⟨p, 5, none⟩ = some (.map (some mp)) ∧ (Instr.lookup 94 (.map (some mp)) (.string st) true).run Try.prog w' = .ok (.tuple #[.int .i64 0, .bool false]) w' ∧ w'.cell? ⟨wr.heap.size, 0, none⟩ = some (.string st)) (by kernel_rfl) ⟨p5, hlk, m0⟩ (fun hHeld => ?_)
        generalize (wr.alloc (.cells #[.string st, .int .i64 ix, .slice fa fl fc, .int .i64 dst, .int .i64 size] 47)).drew = W at *
        refine wpAnyH_take (i := 0) (v := ?_) rfl (by kernel_rfl) (by kernel_rfl) (by kernel_rfl) (fun _ _ _ h => h) (Or.inl ⟨by rfl, ?_⟩) (by assumption) ?_
        rotate_left; · (intro w hSw; (try dsimp only at hSw); go_simp; try with_reducible rfl)
        try simp only [Act.put, List.getElem_toArray, List.getElem_cons_zero, List.getElem_cons_succ, List.setIfInBounds_toArray, List.set_cons_zero, List.set_cons_succ]
        refine wpAnyH_take (i := 1) (v := ?_) rfl (by kernel_rfl) (by kernel_rfl) (by kernel_rfl) (fun _ _ _ h => h) (Or.inl ⟨by rfl, ?_⟩) (by assumption) ?_
        rotate_left; · (intro w hSw; (try dsimp only at hSw); go_simp; try with_reducible rfl)
        try simp only [Act.put, List.getElem_toArray, List.getElem_cons_zero, List.getElem_cons_succ, List.setIfInBounds_toArray, List.set_cons_zero, List.set_cons_succ]
        refine wpAnyH_take (i := 2) (v := ?_) rfl (by kernel_rfl) (by kernel_rfl) (by kernel_rfl) (fun _ _ _ h => h) (Or.inl ⟨by rfl, ?_⟩) (by assumption) ?_
        rotate_left; · (intro w hSw; (try dsimp only at hSw); go_simp; try with_reducible rfl)
        try simp only [Act.put, List.getElem_toArray, List.getElem_cons_zero, List.getElem_cons_succ, List.setIfInBounds_toArray, List.set_cons_zero, List.set_cons_succ]
        refine wpAnyH_take (i := 3) (v := ?_) rfl (by kernel_rfl) (by kernel_rfl) (by kernel_rfl) (fun _ _ _ h => h) (Or.inl ⟨by rfl, ?_⟩) (by assumption) ?_
        rotate_left; · (intro w hSw; (try dsimp only at hSw); go_simp; try with_reducible rfl)
        try simp only [Act.put, List.getElem_toArray, List.getElem_cons_zero, List.getElem_cons_succ, List.setIfInBounds_toArray, List.set_cons_zero, List.set_cons_succ]
        refine wpAnyH_take (i := 4) (v := ?_) rfl (by kernel_rfl) (by kernel_rfl) (by kernel_rfl) (fun _ _ _ h => h) (Or.inl ⟨by rfl, ?_⟩) (by assumption) ?_
        rotate_left; · (intro w hSw; (try dsimp only at hSw); go_simp; try with_reducible rfl)
        try simp only [Act.put, List.getElem_toArray, List.getElem_cons_zero, List.getElem_cons_succ, List.setIfInBounds_toArray, List.set_cons_zero, List.set_cons_succ]
        refine wpAnyH_take (i := 5) (v := ?_) rfl (by kernel_rfl) (by kernel_rfl) (by kernel_rfl) (fun _ _ _ h => h) (Or.inl ⟨by rfl, ?_⟩) (by assumption) ?_
        rotate_left; · (intro w hSw; (try dsimp only at hSw); go_simp; try with_reducible rfl)
        try simp only [Act.put, List.getElem_toArray, List.getElem_cons_zero, List.getElem_cons_succ, List.setIfInBounds_toArray, List.set_cons_zero, List.set_cons_succ]
        refine wpAnyH_take (i := 6) (v := ?_) rfl (by kernel_rfl) (by kernel_rfl) (by kernel_rfl) (fun _ _ _ h => h) (Or.inl ⟨by rfl, ?_⟩) (by assumption) ?_
        rotate_left; · (intro w hSw; (try dsimp only at hSw); go_simp; try with_reducible rfl)
        try simp only [Act.put, List.getElem_toArray, List.getElem_cons_zero, List.getElem_cons_succ, List.setIfInBounds_toArray, List.set_cons_zero, List.set_cons_succ]
        refine wpAnyH_take (i := 7) (v := ?_) rfl (by kernel_rfl) (by kernel_rfl) (by kernel_rfl) (fun _ _ _ h => h) (Or.inl ⟨by rfl, ?_⟩) (by assumption) ?_
        rotate_left; · (intro w hSw; (try dsimp only at hSw); go_simp; try with_reducible rfl)
        try simp only [Act.put, List.getElem_toArray, List.getElem_cons_zero, List.getElem_cons_succ, List.setIfInBounds_toArray, List.set_cons_zero, List.set_cons_succ]
        refine wpAnyH_take (i := 8) (v := ?_) rfl (by kernel_rfl) (by kernel_rfl) (by kernel_rfl) (fun _ _ _ h => h) (Or.inl ⟨by rfl, ?_⟩) (by assumption) ?_
        rotate_left; · (intro w hSw; (try dsimp only at hSw); go_simp; try with_reducible rfl)
        try simp only [Act.put, List.getElem_toArray, List.getElem_cons_zero, List.getElem_cons_succ, List.setIfInBounds_toArray, List.set_cons_zero, List.set_cons_succ]
        refine wpAnyH_take (i := 9) (v := ?_) rfl (by kernel_rfl) (by kernel_rfl) (by kernel_rfl) (fun _ _ _ h => h) (Or.inl ⟨by rfl, ?_⟩) (by assumption) ?_
        rotate_left; · (intro w hSw; (try dsimp only at hSw); go_simp; try with_reducible rfl)
        try simp only [Act.put, List.getElem_toArray, List.getElem_cons_zero, List.getElem_cons_succ, List.setIfInBounds_toArray, List.set_cons_zero, List.set_cons_succ]
        refine wpAnyH_take (i := 10) (v := ?_) rfl (by kernel_rfl) (by kernel_rfl) (by kernel_rfl) (fun _ _ _ h => h) (Or.inl ⟨by rfl, ?_⟩) (by assumption) ?_
        rotate_left; · (intro w hSw; (try dsimp only at hSw); go_simp; try with_reducible rfl)
        try simp only [Act.put, List.getElem_toArray, List.getElem_cons_zero, List.getElem_cons_succ, List.setIfInBounds_toArray, List.set_cons_zero, List.set_cons_succ]
        refine wpAnyH_take (i := 11) (v := ?_) rfl (by kernel_rfl) (by kernel_rfl) (by kernel_rfl) (fun _ _ _ h => h) (Or.inl ⟨by rfl, ?_⟩) (by assumption) ?_
        rotate_left; · (intro w hSw; (try dsimp only at hSw); go_simp; try with_reducible rfl)
        try simp only [Act.put, List.getElem_toArray, List.getElem_cons_zero, List.getElem_cons_succ, List.setIfInBounds_toArray, List.set_cons_zero, List.set_cons_succ]
        refine wpAnyH_take (i := 12) (v := ?_) rfl (by kernel_rfl) (by kernel_rfl) (by kernel_rfl) (fun _ _ _ h => h) (Or.inl ⟨by rfl, ?_⟩) (by assumption) ?_
        rotate_left; · (intro w hSw; (try dsimp only at hSw); go_simp; try with_reducible rfl)
        try simp only [Act.put, List.getElem_toArray, List.getElem_cons_zero, List.getElem_cons_succ, List.setIfInBounds_toArray, List.set_cons_zero, List.set_cons_succ]
        refine wpAnyH_done (by kernel_rfl) ?_ _
        go_wp2
        refine bodyPost_ret (results_tmp3 Try.results31 _ _ _) rfl ?_
        exact ⟨by rw [HRES2.out, HNONE.out]; rfl, hb9.trans (hA.mono hb9.size)⟩
      | some k =>
        rw [hf] at hlk
        obtain ⟨hk, -⟩ := findP_some hf
        have hsm := HSM.out k hk
        have hd := hsm.2.1
        have hbk := hsm.2.2.2.1
        have hmb := mul_bound hd hbk
        obtain ⟨g1, g2, g3, g4, g5, g6, xr, av, g7, g8, hxr, hra⟩ := XC.out k hk
        subst g1
        obtain ⟨qa, qc, _, _, rfl, -⟩ := hxr.at
        have hkn : k < nh := by rw [HNH.out]; exact hk
        have hnext : costF V js 0 0 = costF V (js.drop (i + 1)) (r + (V.held.getD k default).data * (V.held.getD k default).block) (t + (V.held.getD k default).block) := by
          rw [HCF.out, HDR.out]
          conv => lhs; unfold costF
          simp only [hf]
        have HNX := Lib.hid hnext
        have g2 := (h3A.cell (p := ⟨xb, _, none⟩) (cell_lt g2)).trans g2
        have g3 := (h3A.cell (p := ⟨xb, _, none⟩) (cell_lt g3)).trans g3
        have g4 := (h3A.cell (p := ⟨xb, _, none⟩) (cell_lt g4)).trans g4
        have g5 := (h3A.cell (p := ⟨xb, _, none⟩) (cell_lt g5)).trans g5
        have g6 := (h3A.cell (p := ⟨xb, _, none⟩) (cell_lt g6)).trans g6
        have g7 := (h3A.cell (p := ⟨xb, _, none⟩) (cell_lt g7)).trans g7
        clear hnext hf hxr hra g8 hsm
        generalize (V.held.getD k default).refs.length = ql at *
        generalize (V.held.getD k default).vault = vault at *
        generalize (V.held.getD k default).data = data at *
        generalize (V.held.getD k default).block = block at *
        generalize (V.held.getD k default).total = total at *
        generalize (V.held.getD k default).id = id at *
        have w1 : IntKind.i64.wrap (data * block) = data * block := by rw [IntKind.wrap_i64]; omega
        have w2 : IntKind.i64.wrap (r + data * block) = r + data * block := by rw [IntKind.wrap_i64]; omega
        have w3' : IntKind.i64.wrap (t + block) = t + block := by rw [IntKind.wrap_i64]; omega
        have hr2 : 0 ≤ r + data * block ∧ r + data * block ≤ ((i + 1 : Nat) : Int) * 524288 := by omega
        have ht2 : 0 ≤ t + block ∧ t + block ≤ ((i + 1 : Nat) : Int) * 65536 := by omega
        go_upto_region 8 with fail
        refine wp_region_held_drew (S := fun w' => w'.cell? ⟨p, 5, none⟩ = some (.map (some mp)) ∧ (Instr.lookup 94 (.map (some mp)) (.string st) true).run Try.prog w' = .ok (.tuple #[.int .i64 k, .bool true]) w' ∧ w'.cell? ⟨wr.heap.size, 0, none⟩ = some (.string st)) (by kernel_rfl) ⟨p5, hlk, m0⟩ (fun hHeld => ?_)
        generalize (wr.alloc (.cells #[.string st, .int .i64 ix, .slice fa fl fc, .int .i64 dst, .int .i64 size] 47)).drew = W at *
        refine wpAnyH_take (i := 0) (v := ?_) rfl (by kernel_rfl) (by kernel_rfl) (by kernel_rfl) (fun _ _ _ h => h) (Or.inl ⟨by rfl, ?_⟩) (by assumption) ?_
        rotate_left; · (intro w hSw; (try dsimp only at hSw); go_simp; try with_reducible rfl)
        try simp only [Act.put, List.getElem_toArray, List.getElem_cons_zero, List.getElem_cons_succ, List.setIfInBounds_toArray, List.set_cons_zero, List.set_cons_succ]
        refine wpAnyH_take (i := 1) (v := ?_) rfl (by kernel_rfl) (by kernel_rfl) (by kernel_rfl) (fun _ _ _ h => h) (Or.inl ⟨by rfl, ?_⟩) (by assumption) ?_
        rotate_left; · (intro w hSw; (try dsimp only at hSw); go_simp; try with_reducible rfl)
        try simp only [Act.put, List.getElem_toArray, List.getElem_cons_zero, List.getElem_cons_succ, List.setIfInBounds_toArray, List.set_cons_zero, List.set_cons_succ]
        refine wpAnyH_take (i := 2) (v := ?_) rfl (by kernel_rfl) (by kernel_rfl) (by kernel_rfl) (fun _ _ _ h => h) (Or.inl ⟨by rfl, ?_⟩) (by assumption) ?_
        rotate_left; · (intro w hSw; (try dsimp only at hSw); go_simp; try with_reducible rfl)
        try simp only [Act.put, List.getElem_toArray, List.getElem_cons_zero, List.getElem_cons_succ, List.setIfInBounds_toArray, List.set_cons_zero, List.set_cons_succ]
        refine wpAnyH_take (i := 3) (v := ?_) rfl (by kernel_rfl) (by kernel_rfl) (by kernel_rfl) (fun _ _ _ h => h) (Or.inl ⟨by rfl, ?_⟩) (by assumption) ?_
        rotate_left; · (intro w hSw; (try dsimp only at hSw); go_simp; try with_reducible rfl)
        try simp only [Act.put, List.getElem_toArray, List.getElem_cons_zero, List.getElem_cons_succ, List.setIfInBounds_toArray, List.set_cons_zero, List.set_cons_succ]
        refine wpAnyH_take (i := 4) (v := ?_) rfl (by kernel_rfl) (by kernel_rfl) (by kernel_rfl) (fun _ _ _ h => h) (Or.inl ⟨by rfl, ?_⟩) (by assumption) ?_
        rotate_left; · (intro w hSw; (try dsimp only at hSw); go_simp; try with_reducible rfl)
        try simp only [Act.put, List.getElem_toArray, List.getElem_cons_zero, List.getElem_cons_succ, List.setIfInBounds_toArray, List.set_cons_zero, List.set_cons_succ]
        refine wpAnyH_take (i := 5) (v := ?_) rfl (by kernel_rfl) (by kernel_rfl) (by kernel_rfl) (fun _ _ _ h => h) (Or.inl ⟨by rfl, ?_⟩) (by assumption) ?_
        rotate_left; · (intro w hSw; (try dsimp only at hSw); go_simp; try with_reducible rfl)
        try simp only [Act.put, List.getElem_toArray, List.getElem_cons_zero, List.getElem_cons_succ, List.setIfInBounds_toArray, List.set_cons_zero, List.set_cons_succ]
        refine wpAnyH_take (i := 6) (v := ?_) rfl (by kernel_rfl) (by kernel_rfl) (by kernel_rfl) (fun _ _ _ h => h) (Or.inl ⟨by rfl, ?_⟩) (by assumption) ?_
        rotate_left; · (intro w hSw; (try dsimp only at hSw); go_simp; try with_reducible rfl)
        try simp only [Act.put, List.getElem_toArray, List.getElem_cons_zero, List.getElem_cons_succ, List.setIfInBounds_toArray, List.set_cons_zero, List.set_cons_succ]
        refine wpAnyH_take (i := 7) (v := ?_) rfl (by kernel_rfl) (by kernel_rfl) (by kernel_rfl) (fun _ _ _ h => h) (Or.inl ⟨by rfl, ?_⟩) (by assumption) ?_
        rotate_left; · (intro w hSw; (try dsimp only at hSw); go_simp; try with_reducible rfl)
        try simp only [Act.put, List.getElem_toArray, List.getElem_cons_zero, List.getElem_cons_succ, List.setIfInBounds_toArray, List.set_cons_zero, List.set_cons_succ]
        refine wpAnyH_take (i := 8) (v := ?_) rfl (by kernel_rfl) (by kernel_rfl) (by kernel_rfl) (fun _ _ _ h => h) (Or.inl ⟨by rfl, ?_⟩) (by assumption) ?_
        rotate_left; · (intro w hSw; (try dsimp only at hSw); go_simp; try with_reducible rfl)
        try simp only [Act.put, List.getElem_toArray, List.getElem_cons_zero, List.getElem_cons_succ, List.setIfInBounds_toArray, List.set_cons_zero, List.set_cons_succ]
        refine wpAnyH_take (i := 9) (v := ?_) rfl (by kernel_rfl) (by kernel_rfl) (by kernel_rfl) (fun _ _ _ h => h) (Or.inl ⟨by rfl, ?_⟩) (by assumption) ?_
        rotate_left; · (intro w hSw; (try dsimp only at hSw); go_simp; try with_reducible rfl)
        try simp only [Act.put, List.getElem_toArray, List.getElem_cons_zero, List.getElem_cons_succ, List.setIfInBounds_toArray, List.set_cons_zero, List.set_cons_succ]
        refine wpAnyH_take (i := 10) (v := ?_) rfl (by kernel_rfl) (by kernel_rfl) (by kernel_rfl) (fun _ _ _ h => h) (Or.inl ⟨by rfl, ?_⟩) (by assumption) ?_
        rotate_left; · (intro w hSw; (try dsimp only at hSw); go_simp; try with_reducible rfl)
        try simp only [Act.put, List.getElem_toArray, List.getElem_cons_zero, List.getElem_cons_succ, List.setIfInBounds_toArray, List.set_cons_zero, List.set_cons_succ]
        refine wpAnyH_take (i := 11) (v := ?_) rfl (by kernel_rfl) (by kernel_rfl) (by kernel_rfl) (fun _ _ _ h => h) (Or.inl ⟨by rfl, ?_⟩) (by assumption) ?_
        rotate_left; · (intro w hSw; (try dsimp only at hSw); go_simp; try with_reducible rfl)
        try simp only [Act.put, List.getElem_toArray, List.getElem_cons_zero, List.getElem_cons_succ, List.setIfInBounds_toArray, List.set_cons_zero, List.set_cons_succ]
        refine wpAnyH_take (i := 12) (v := ?_) rfl (by kernel_rfl) (by kernel_rfl) (by kernel_rfl) (fun _ _ _ h => h) (Or.inl ⟨by rfl, ?_⟩) (by assumption) ?_
        rotate_left; · (intro w hSw; (try dsimp only at hSw); go_simp; try with_reducible rfl)
        try simp only [Act.put, List.getElem_toArray, List.getElem_cons_zero, List.getElem_cons_succ, List.setIfInBounds_toArray, List.set_cons_zero, List.set_cons_succ]
        refine wpAnyH_done (by kernel_rfl) ?_ _
        clear hHeld p5 hlk m0
        have zW := h3A.size
        have hWz := hb9.trans (hA.mono hb9.size)
        go_wp2
        go_roundw
        case rel => exact ⟨i + 1, _, _, by omega, by go_num, rfl, rfl, by first | exact hr2 | (rw [w1, w2]; exact hr2), by first | exact ht2 | (rw [w3']; exact ht2), HNX.out, h3A.alloc zW _⟩
        case measure => simp [intOf]; omega
    · have hil : i = js.length := by omega
      subst hil
      have hfin : costF V js 0 0 = some (r, t) := by rw [HCF.out, List.drop_length]; rfl
      have HFIN := Lib.hid hfin
      clear hfin
      go_wp2
      refine bodyPost_ret (results_tmp3 Try.results31 _ _ _) rfl ?_
      exact ⟨by rw [HRES2.out, HFIN.out]; rfl, hb9⟩

end Go.Proofs.Ytijcicgbhcphjaa

/- Jobs of the reference. -/
namespace Go.Proofs.Ytijcicgbhcphjaa
open Go.RowKit Go.Lib Go.ChangeMaps
set_option linter.unusedSimpArgs false

set_option maxRecDepth 100000 in
set_option maxHeartbeats 2000000 in
theorem job_any (j : Jp) (fa : Option Addr) (fl fc : Nat) (w : World) :
    Calls Try.prog 55 #[j.v (.slice fa fl fc)] w fun e w' => e = .returned (j.v (.slice fa fl fc)) ∧ Below w.heap.size w w' := by
  obtain ⟨⟨st, ix⟩, fs, dst, size⟩ := j
  unfold Jp.v
  simp only
  go_enter Try.func55, Try.ntmps55
  have hr : ((w.alloc (.cells #[.string st, .int .i64 ix, .slice fa fl fc, .int .i64 dst, .int .i64 size] 47)).alloc (.cells #[.string st, .int .i64 ix, .slice fa fl fc, .int .i64 dst, .int .i64 size] 107)).heap[w.heap.size + 1]? = some (.cells #[.string st, .int .i64 ix, .slice fa fl fc, .int .i64 dst, .int .i64 size] 107) := by
    have := heap_alloc_new (w.alloc (.cells #[.string st, .int .i64 ix, .slice fa fl fc, .int .i64 dst, .int .i64 size] 47)) (.cells #[.string st, .int .i64 ix, .slice fa fl fc, .int .i64 dst, .int .i64 size] 107)
    rw [World.size_alloc] at this
    exact this
  have HR := Lib.hid hr
  clear hr
  go_wp2
  refine bodyPost_ret (results_cell_row (P := Try.prog) Try.results55 _ _ (w.heap.size + 1) 107 _ (0, 0) _ (by rfl) HR.out Try.underlying107 rfl (by kernel_rfl)) rfl ?_
  exact ⟨rfl, by (repeat' (first | (with_reducible exact Below.refl _ _) | (with_reducible assumption) | (with_reducible refine Below.alloc ?_ ?_ _) | (with_reducible refine Below.drew ?_) | (with_reducible refine below_drewN ?_ _) | (with_reducible refine Below.setCell ?_ ?_ _) | (with_reducible refine below_step ?_ (by with_reducible assumption) ?_) | go_size))⟩

theorem info107 : (Try.prog.info? 107).map (fun i => (i.zero, i.size, i.bytes)) = some (some (.agg #[.string ⟨#[]⟩, .int .i64 0, .slice none 0 0, .int .i64 0, .int .i64 0]), 5, 64) := by kernel_rfl

set_option maxRecDepth 100000 in
set_option maxHeartbeats 4000000 in
theorem all_any (v : Value) (js : List Jp) (w : World) (hj : ReadsJ w v js) (hjs : js.length ≤ 1000) :
    Calls Try.prog 29 #[v] w fun e w' => ∃ u, e = .returned u ∧ ReadsJ w' u js ∧ Below w.heap.size w w' := by
  obtain ⟨xs, hxl, hxr, hxs⟩ := hj
  obtain ⟨ja, jc, jb, jo, rfl, -, -, jcell⟩ := hxr.at
  have JC := Lib.hid jcell
  have HXS := Lib.hid hxs
  have hx1 : ∀ i, i < js.length → ∃ a c, xs.getD i undef = .slice a (js.getD i default).from_.length c := fun i hi => by
    obtain ⟨a, c, _, _, e, _⟩ := (hxs i hi).at
    exact ⟨a, c, e⟩
  have HX1 := Lib.hid hx1
  clear jcell hxs hxr hx1
  go_enter Try.func29, Try.ntmps29
  go_wp2
  go_loopw [9, 3, 5] (fun v9 v3 _ wr => ∃ i : Nat, i ≤ js.length ∧ v9 = .int .i64 i ∧ Below w.heap.size w wr ∧ Own wr w.heap.size 107 v3 5 i (jpCell js xs)) (fun v9 _ _ _ => js.length - (intOf v9).toNat)
  case atStart => exact ⟨0, Nat.zero_le _, rfl, (Below.refl _ _).alloc (Nat.le_refl _) _, Own.lit0 _ _ _ _ _ (Nat.le_refl _)⟩
  case round =>
    obtain ⟨i, hi, rfl, hbel, hown⟩ := hrel
    have HO := Lib.hid hown
    have zr := hbel.size
    clear hown
    by_cases hlt : i < js.length
    · obtain ⟨e1, e2⟩ := JC.out i hlt
      subst e1
      obtain ⟨fa, fc, q2⟩ := HX1.out i hlt
      have d0 := e2 0 (by omega)
      have d1 := e2 1 (by omega)
      have d2 : w.cell? ⟨jb, jo + i * 5 + 2, none⟩ = some (.slice fa (js.getD i default).from_.length fc) := (e2 2 (by omega)).trans (congrArg some q2)
      have d3 := e2 3 (by omega)
      have d4 := e2 4 (by omega)
      simp only [jpCell, Nat.add_zero] at d0 d1 d3 d4
      rw [← hbel.cell (p := ⟨jb, _, none⟩) (cell_lt d0)] at d0
      rw [← hbel.cell (p := ⟨jb, _, none⟩) (cell_lt d1)] at d1
      rw [← hbel.cell (p := ⟨jb, _, none⟩) (cell_lt d2)] at d2
      rw [← hbel.cell (p := ⟨jb, _, none⟩) (cell_lt d3)] at d3
      rw [← hbel.cell (p := ⟨jb, _, none⟩) (cell_lt d4)] at d4
      have hY : ∀ q, q < 5 → ([.string (js.getD i default).pc.st, .int .i64 (js.getD i default).pc.ix, .slice fa (js.getD i default).from_.length fc, .int .i64 (js.getD i default).to, .int .i64 (js.getD i default).size] : List Value)[q]? = some (jpCell js xs i q) := fun q hq => by
        match q, hq with
        | 0, _ => rfl
        | 1, _ => rfl
        | 2, _ => exact congrArg some q2.symm
        | 3, _ => rfl
        | 4, _ => rfl
      have CJ := Lib.hid (fun W => job_any (js.getD i default) fa (js.getD i default).from_.length fc W)
      have hap := fun (W : World) (ho : Own W w.heap.size 107 u3 5 i (jpCell js xs)) (hz : w.heap.size ≤ W.heap.size) => Own.append (V := W) (t := 39) (e := 107) Try.underlying39 info107 rfl (by omega) (by omega) ho 39 _ rfl hY (by
        intro u hu
        simp at hu
        rcases hu with rfl | rfl | rfl | rfl | rfl <;> rfl) (by omega) hz
      have HAP := Lib.hid hap
      unfold Jp.v at CJ
      clear e2 hY hap
      generalize js.getD i default = y at *
      obtain ⟨⟨st, ix⟩, fs, dst, size⟩ := y
      simp only at d0 d1 d2 d3 d4 HAP CJ q2
      generalize fs.length = fl at *
      have hAl : Below wr.heap.size wr (wr.alloc (.cells #[.string st, .int .i64 ix, .slice fa fl fc, .int .i64 dst, .int .i64 size] 47)) := (Below.refl _ _).alloc (Nat.le_refl _) _
      clear q2
      go_wp2_with fail
      refine (CJ.out _).mono ?_
      rintro e w5 ⟨rfl, hb5⟩
      have hr5 := hAl.trans (hb5.mono hAl.size)
      have hbw5 := hbel.trans (hr5.mono zr)
      obtain ⟨v6, w6, r6, o6, b6, -⟩ := HAP.out w5 (HO.out.below hr5) hbw5.size
      have HO6 := Lib.hid o6
      obtain ⟨a6, l6, c6, rfl⟩ := Own.slice o6
      clear o6 d0 d1 d2 d3 d4 HO HAP CJ
      go_wp2_with (at_builtin; refine wpList_append_run (by rfl) (.tmp 13) (.tmp 16) 39 (by rfl) _ (.slice (some ⟨w5.heap.size, 0, none⟩) 1 1) (.slice a6 l6 c6) w6 (by rfl) (by rfl) r6 ?_)
      go_roundw
      case rel => exact ⟨i + 1, by omega, by go_num, hbw5.trans b6, HO6.out⟩
      case measure => simp [intOf]; omega
    · have hil : i = js.length := by omega
      subst hil
      obtain ⟨a3, c3, rfl, -⟩ := Own.row HO.out (by omega)
      go_wp2
      go_ret
      exact ⟨_, rfl, ⟨xs, hxl, Own.row HO.out (by omega), fun k hk => (HXS.out k hk).below hbel⟩, hbel⟩

end Go.Proofs.Ytijcicgbhcphjaa

/- The reference's find, Cost. -/
namespace Go.Proofs.Ytijcicgbhcphjaa
open Go.RowKit Go.Lib Go.ChangeMaps
set_option linter.unusedSimpArgs false

def findI (V : Vp) (s : ByteArray) : Int := match findP V.held s with
  | some k => k
  | none => -1
theorem findP_at {s : ByteArray} : ∀ {hs : List Hp} {k : Nat}, k < hs.length → (hs.getD k default).id = s → (∀ m, m < k → (hs.getD m default).id ≠ s) → findP hs s = some k
  | [], k, h, _, _ => by simp at h
  | x :: r, 0, _, h, _ => by
    have e : x.id = s := by simpa [List.getD] using h
    unfold findP
    rw [if_pos e.symm]
  | x :: r, k + 1, h, he, hn => by
    have h0 : x.id ≠ s := by simpa [List.getD] using hn 0 (by omega)
    unfold findP
    rw [if_neg (fun e => h0 e.symm), findP_at (k := k) (by simpa using h) (by simpa using he) (fun m hm => by simpa using hn (m + 1) (by omega))]
    rfl
theorem findP_none' {s : ByteArray} : ∀ {hs : List Hp}, (∀ m, m < hs.length → (hs.getD m default).id ≠ s) → findP hs s = none
  | [], _ => rfl
  | x :: r, h => by
    have h0 : x.id ≠ s := by simpa [List.getD] using h 0 (by simp)
    unfold findP
    rw [if_neg (fun e => h0 e.symm), findP_none' (fun m hm => by simpa using h (m + 1) (by simp; omega))]
    rfl

set_option maxRecDepth 100000 in
set_option maxHeartbeats 4000000 in
theorem find_any (v : Value) (V : Vp) (s : ByteArray) (w : World) (hv : VwAt w v V) (hh : V.held.length ≤ 1000) :
    Calls Try.prog 60 #[v, .string s] w fun e w' => e = .returned (.int .i64 (findI V s)) ∧ Below w.heap.size w w' := by
  obtain ⟨mv, hv, rv, wv, rfl, hM, hH, hR, hW⟩ := hv
  obtain ⟨ma, mc, _, _, rfl, -⟩ := hM.at
  obtain ⟨ha, hc, hb, ho, rfl, hl1, hm1, hcell⟩ := hH.at
  obtain ⟨ra, rc, _, _, rfl, -⟩ := hR.at
  obtain ⟨wa, wc, _, _, rfl, -⟩ := hW.at
  have HC := Lib.hid hcell
  clear hcell hM hH hR hW
  obtain ⟨r, hr⟩ : ∃ r, r = findI V s := ⟨_, rfl⟩
  rw [← hr]
  have HR := Lib.hid (show r = match findP V.held s with | some k => (k : Int) | none => -1 from hr)
  clear hr
  generalize V.mem.length = ml at *
  generalize V.room.length = rl at *
  generalize V.weight.length = wl at *
  go_enter Try.func60, Try.ntmps60
  go_wp2
  go_loopw [10, 5, 6] (fun v10 _ _ wr => ∃ j : Nat, j ≤ V.held.length ∧ v10 = .int .i64 j ∧ (∀ m, m < j → (V.held.getD m default).id ≠ s) ∧ Below w.heap.size w wr) (fun v10 _ _ _ => V.held.length - (intOf v10).toNat)
  case atStart => exact ⟨0, Nat.zero_le _, rfl, fun m hm => by omega, (Below.refl _ _).alloc (Nat.le_refl _) _⟩
  case round =>
    obtain ⟨j, hj, rfl, hall, hbel⟩ := hrel
    have HA := Lib.hid hall
    have zr := hbel.size
    clear hall
    by_cases hlt : j < V.held.length
    · obtain ⟨e1, e2, e3, e4, e5, e6, xr, av, e7, e8, hrr, hra⟩ := HC.out j hlt
      subst e1
      obtain ⟨qa, qc, _, _, rfl, -⟩ := hrr.at
      obtain ⟨ua, uc, _, _, rfl, -⟩ := hra.at
      have hyes : (V.held.getD j default).id = s → r = j := fun h => by rw [HR.out, findP_at hlt h HA.out]
      have hno : (V.held.getD j default).id ≠ s → ∀ m, m < j + 1 → (V.held.getD m default).id ≠ s := fun h m hm => by
        by_cases e : m = j
        · subst e; exact h
        · exact HA.out m (by omega)
      have HY := Lib.hid hyes
      have HN := Lib.hid hno
      clear hrr hra hyes hno
      rw [← hbel.cell (p := ⟨hb, _, none⟩) (cell_lt e2)] at e2
      rw [← hbel.cell (p := ⟨hb, _, none⟩) (cell_lt e3)] at e3
      rw [← hbel.cell (p := ⟨hb, _, none⟩) (cell_lt e4)] at e4
      rw [← hbel.cell (p := ⟨hb, _, none⟩) (cell_lt e5)] at e5
      rw [← hbel.cell (p := ⟨hb, _, none⟩) (cell_lt e6)] at e6
      rw [← hbel.cell (p := ⟨hb, _, none⟩) (cell_lt e7)] at e7
      rw [← hbel.cell (p := ⟨hb, _, none⟩) (cell_lt e8)] at e8
      generalize V.held.getD j default = y at *
      obtain ⟨id, vault, block, data, total, refs, at_⟩ := y
      simp only at e2 e3 e4 e5 e6 HY HN
      generalize refs.length = ql at *
      generalize at_.length = ul at *
      have hq := str_eq id s
      by_cases hxy : id = s
      · rw [decide_eq_true hxy] at hq
        obtain rfl := HY.out hxy
        clear hxy
        go_wp2
        go_ret
        exact ⟨rfl, by (repeat' (first | (with_reducible exact Below.refl _ _) | (with_reducible assumption) | (with_reducible refine Below.alloc ?_ ?_ _) | (with_reducible refine Below.drew ?_) | (with_reducible refine below_drewN ?_ _) | (with_reducible refine Below.setCell ?_ ?_ _) | (with_reducible refine below_step ?_ (by with_reducible assumption) ?_) | go_size))⟩
      · rw [decide_eq_false hxy] at hq
        have hn := HN.out hxy
        have HN2 := Lib.hid hn
        clear hxy hn
        go_wp2
        go_roundw
        case rel => exact ⟨j + 1, by omega, by go_num, HN2.out, by (repeat' (first | (with_reducible exact Below.refl _ _) | (with_reducible assumption) | (with_reducible refine Below.alloc ?_ ?_ _) | (with_reducible refine Below.drew ?_) | (with_reducible refine below_drewN ?_ _) | (with_reducible refine Below.setCell ?_ ?_ _) | (with_reducible refine below_step ?_ (by with_reducible assumption) ?_) | go_size))⟩
        case measure => simp [intOf]; omega
    · have hjl : j = V.held.length := by omega
      have hall := HA.out
      rw [hjl] at hall
      obtain rfl : r = -1 := by rw [HR.out, findP_none' hall]
      clear hall
      go_wp2
      go_ret
      exact ⟨rfl, hbel⟩

set_option maxRecDepth 100000 in
set_option maxHeartbeats 8000000 in
theorem cost_ref (v jv : Value) (V : Vp) (js : List Jp) (w : World) (hv : VwAt w v V) (hj : ReadsJ w jv js) (hjs : js.length ≤ 1000) :
    Calls Try.prog 32 #[v, jv] w fun e w' => e = .returned (costR V js) ∧ Below w.heap.size w w' := by
  have HV := Lib.hid hv
  obtain ⟨ma, mc, ha0, hc0, ra, rl, rc, wa, wl, wc, rfl⟩ := hv.val
  obtain ⟨_, _, _, _, e, _, hH, _, _⟩ := hv
  cases e
  obtain ⟨ha, hc, hb, ho, e, hl1, hm1, hcell⟩ := hH.at
  cases e
  have HC := Lib.hid hcell
  obtain ⟨ja, jc, jb, jo, rfl, -, -, jcell⟩ := hj.at
  have JC := Lib.hid jcell
  clear hcell hH hj jcell
  obtain ⟨res, hres⟩ : ∃ res, res = costR V js := ⟨_, rfl⟩
  rw [← hres]
  have HRES := Lib.hid hres
  clear hres
  obtain ⟨nh, hnh⟩ : ∃ nh, nh = V.held.length := ⟨_, rfl⟩
  have HNH := Lib.hid hnh
  rw [← hnh] at HV hl1 ⊢
  clear hnh
  generalize V.mem.length = ml at *
  have hA : Below w.heap.size w (w.alloc (.cells #[.slice ma ml mc, .slice ha0 nh hc0, .slice ra rl rc, .slice wa wl wc] 33)) := (Below.refl _ _).alloc (Nat.le_refl _) _
  have hbx := heap_alloc_new w (.cells #[.slice ma ml mc, .slice ha0 nh hc0, .slice ra rl rc, .slice wa wl wc] 33)
  have CV := Lib.hid (valid_ref _ V _ (HV.out.below hA))
  go_enter Try.func32, Try.ntmps32
  go_wp2_with fail
  refine CV.out.mono ?_
  rintro e w1 ⟨rfl, hb1⟩
  have hbw1 := hA.trans (hb1.mono hA.size)
  have hbx1 := (hb1.block w.heap.size (by rw [World.size_alloc]; omega)).trans hbx
  have hlt1 := (Array.getElem?_eq_some_iff.1 hbx1).1
  have HBX := Lib.hid hbx1
  clear hA hb1 hbx hbx1 CV
  by_cases hok : VOk V
  rotate_left
  · rw [decide_eq_false hok]
    have HNO := Lib.hid hok
    clear hok
    go_wp2
    refine bodyPost_ret (results_tmp3 Try.results32 _ _ _) rfl ?_
    exact ⟨by rw [HRES.out]; unfold costR; rw [if_neg HNO.out]; rfl, hbw1⟩
  rw [decide_eq_true hok]
  have hres2 : res = costV (costF V js 0 0) := by rw [HRES.out]; unfold costR; rw [if_pos hok]
  have HRES2 := Lib.hid hres2
  have HSM := Lib.hid hok.small.2.2.2.2
  have h256 : nh ≤ 256 := by rw [HNH.out]; exact hok.small.2.1
  have HH := Lib.hid (show V.held.length ≤ 1000 by have := hok.small.2.1; omega)
  clear hres2 hok
  go_wp2
  go_loopw [18, 7, 8, 10, 11, 12] (fun v18 v7 v8 _ _ _ wr => ∃ (i : Nat) (r t : Int), i ≤ js.length ∧ v18 = .int .i64 i ∧ v7 = .int .i64 r ∧ v8 = .int .i64 t ∧ (0 ≤ r ∧ r ≤ i * 524288) ∧ (0 ≤ t ∧ t ≤ i * 65536) ∧ costF V js 0 0 = costF V (js.drop i) r t ∧ Below w.heap.size w wr ∧ wr.heap[w.heap.size]? = some (.cells #[.slice ma ml mc, .slice ha0 nh hc0, .slice ra rl rc, .slice wa wl wc] 33)) (fun v18 _ _ _ _ _ _ => js.length - (intOf v18).toNat)
  case atStart => exact ⟨0, 0, 0, Nat.zero_le _, rfl, rfl, rfl, by omega, by omega, by rw [List.drop_zero], hbw1, HBX.out⟩
  case round =>
    obtain ⟨i, r, t, hi, rfl, rfl, rfl, hr, ht, hcf, hbel, hbxr⟩ := hrel
    have HCF := Lib.hid hcf
    have HBR := Lib.hid hbxr
    have zr := hbel.size
    have hNl := (Array.getElem?_eq_some_iff.1 hbxr).1
    have d0 := cell_of_row wr _ 0 _ _ _ hbxr
    have d1 := cell_of_row wr _ 1 _ _ _ hbxr
    have d2 := cell_of_row wr _ 2 _ _ _ hbxr
    have d3 := cell_of_row wr _ 3 _ _ _ hbxr
    clear hcf hbxr hbw1
    by_cases hlt : i < js.length
    · obtain ⟨e1, e2, e3, fv, e4, e5, e6, hfv⟩ := JC.out i hlt
      subst e1
      obtain ⟨fa, fc, _, _, rfl, -⟩ := hfv.at
      have hdr := drop_at js default i hlt
      have HDR := Lib.hid hdr
      rw [← hbel.cell (p := ⟨jb, _, none⟩) (cell_lt e2)] at e2
      rw [← hbel.cell (p := ⟨jb, _, none⟩) (cell_lt e3)] at e3
      rw [← hbel.cell (p := ⟨jb, _, none⟩) (cell_lt e4)] at e4
      rw [← hbel.cell (p := ⟨jb, _, none⟩) (cell_lt e5)] at e5
      rw [← hbel.cell (p := ⟨jb, _, none⟩) (cell_lt e6)] at e6
      clear hfv hdr
      generalize js.getD i default = jj at *
      obtain ⟨⟨st, ix⟩, fs, dst, size⟩ := jj
      simp only at e2 e3 e4 e5 e6
      generalize fs.length = fl at *
      have hA : Below wr.heap.size wr (wr.alloc (.cells #[.string st, .int .i64 ix, .slice fa fl fc, .int .i64 dst, .int .i64 size] 107)) := (Below.refl _ _).alloc (Nat.le_refl _) _
      have hbA := hbel.trans (hA.mono zr)
      have CF := Lib.hid (find_any _ V st _ (HV.out.below hbA) HH.out)
      have hfi : findI V st = match findP V.held st with | some k => (k : Int) | none => -1 := rfl
      have HBA := Lib.hid ((hA.block w.heap.size hNl).trans HBR.out)
      cases hf : findP V.held st with
      | none =>
        rw [hf] at hfi
        simp only at hfi
        rw [hfi] at CF
        have hnone : costF V js 0 0 = none := by
          rw [HCF.out, HDR.out]
          unfold costF
          simp only [hf]
        have HNONE := Lib.hid hnone
        clear hnone hf hfi
        go_wp2_with fail
        refine CF.out.mono ?_
        rintro e w4 ⟨rfl, hb4⟩
        go_wp2
        refine bodyPost_ret (results_tmp3 Try.results32 _ _ _) rfl ?_
        exact ⟨by rw [HRES2.out, HNONE.out]; rfl, hbA.trans (hb4.mono hbA.size)⟩
      | some k =>
        rw [hf] at hfi
        simp only at hfi
        rw [hfi] at CF
        obtain ⟨hk, -⟩ := findP_some hf
        have hsm := HSM.out k hk
        have hd := hsm.2.1
        have hbk := hsm.2.2.2.1
        have hmb := mul_bound hd hbk
        obtain ⟨g1, g2, g3, g4, g5, g6, xr, av, g7, g8, hxr, hra⟩ := HC.out k hk
        subst g1
        obtain ⟨qa, qc, _, _, rfl, -⟩ := hxr.at
        have hkn : k < nh := by rw [HNH.out]; exact hk
        have hnext : costF V js 0 0 = costF V (js.drop (i + 1)) (r + (V.held.getD k default).data * (V.held.getD k default).block) (t + (V.held.getD k default).block) := by
          rw [HCF.out, HDR.out]
          conv => lhs; unfold costF
          simp only [hf]
        have HNX := Lib.hid hnext
        clear hnext hf hxr hra g8 hsm hfi
        generalize (V.held.getD k default).refs.length = ql at *
        generalize (V.held.getD k default).vault = vault at *
        generalize (V.held.getD k default).data = data at *
        generalize (V.held.getD k default).block = block at *
        generalize (V.held.getD k default).total = total at *
        generalize (V.held.getD k default).id = id at *
        have w1 : IntKind.i64.wrap (data * block) = data * block := by rw [IntKind.wrap_i64]; omega
        have w2 : IntKind.i64.wrap (r + data * block) = r + data * block := by rw [IntKind.wrap_i64]; omega
        have w3' : IntKind.i64.wrap (t + block) = t + block := by rw [IntKind.wrap_i64]; omega
        have hr2 : 0 ≤ r + data * block ∧ r + data * block ≤ ((i + 1 : Nat) : Int) * 524288 := by omega
        have ht2 : 0 ≤ t + block ∧ t + block ≤ ((i + 1 : Nat) : Int) * 65536 := by omega
        have q1 : decide ((k : Int) < 0) = false := decide_eq_false (by omega)
        go_wp2_with fail
        refine CF.out.mono ?_
        rintro e w4 ⟨rfl, hb4⟩
        have hb4w := hbA.trans (hb4.mono hbA.size)
        have hbx4 := (hb4.block w.heap.size (Array.getElem?_eq_some_iff.1 HBA.out).1).trans HBA.out
        have d1 := cell_of_row w4 _ 1 _ _ _ hbx4
        have g2 := (hb4w.cell (p := ⟨hb, _, none⟩) (cell_lt g2)).trans g2
        have g3 := (hb4w.cell (p := ⟨hb, _, none⟩) (cell_lt g3)).trans g3
        have g4 := (hb4w.cell (p := ⟨hb, _, none⟩) (cell_lt g4)).trans g4
        have g5 := (hb4w.cell (p := ⟨hb, _, none⟩) (cell_lt g5)).trans g5
        have g6 := (hb4w.cell (p := ⟨hb, _, none⟩) (cell_lt g6)).trans g6
        have g7 := (hb4w.cell (p := ⟨hb, _, none⟩) (cell_lt g7)).trans g7
        have z4 := hb4w.size
        have HB4 := Lib.hid hbx4
        have hN4 := (Array.getElem?_eq_some_iff.1 hbx4).1
        clear hbx4 hb4 CF d0 d2 d3 e2 e3 e4 e5 e6
        go_wp2
        go_roundw
        case rel => exact ⟨i + 1, _, _, by omega, by go_num, rfl, rfl, by first | exact hr2 | (rw [w1, w2]; exact hr2), by first | exact ht2 | (rw [w3']; exact ht2), HNX.out, by (repeat' (first | (with_reducible exact Below.refl _ _) | (with_reducible assumption) | (with_reducible refine Below.alloc ?_ ?_ _) | (with_reducible refine Below.drew ?_) | (with_reducible refine below_drewN ?_ _) | (with_reducible refine Below.setCell ?_ ?_ _) | (with_reducible refine below_step ?_ (by with_reducible assumption) ?_) | go_size)), (Below.heap_alloc _ _ _ hN4).trans HB4.out⟩
        case measure => simp [intOf]; omega
    · have hil : i = js.length := by omega
      subst hil
      have hfin : costF V js 0 0 = some (r, t) := by rw [HCF.out, List.drop_length]; rfl
      have HFIN := Lib.hid hfin
      clear hfin
      go_wp2
      refine bodyPost_ret (results_tmp3 Try.results32 _ _ _) rfl ?_
      exact ⟨by rw [HRES2.out, HFIN.out]; rfl, hbel⟩

end Go.Proofs.Ytijcicgbhcphjaa
