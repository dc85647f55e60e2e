/- Cost. -/
import Derived.Test.YtijcicgbhcphjaaL1
namespace Go.Proofs.Ytijcicgbhcphjaa
open Go.RowKit Go.Lib Go.ChangeMaps
set_option linter.unusedSimpArgs false

/-- The bytes that jobs read and write, if each stripe is known. -/
def costF (V : Vp) : List Jp → Int → Int → Option (Int × Int)
  | [], r, t => some (r, t)
  | j :: js, r, t => match findP V.held j.pc.st with
    | none => none
    | some k => costF V js (r + (V.held.getD k default).data * (V.held.getD k default).block) (t + (V.held.getD k default).block)
def costV (o : Option (Int × Int)) : Value := match o with
  | none => .tuple #[.int .i64 0, .int .i64 0, .int .i64 4]
  | some p => .tuple #[.int .i64 p.1, .int .i64 p.2, .int .i64 0]
def costR (V : Vp) (js : List Jp) : Value := if VOk V then costV (costF V js 0 0) else .tuple #[.int .i64 0, .int .i64 0, .int .i64 1]

theorem mul_bound {a b : Int} (ha : 1 ≤ a ∧ a ≤ 8) (hb : 1 ≤ b ∧ b ≤ 65536) : 0 ≤ a * b ∧ a * b ≤ 524288 := by
  have h1 : 0 ≤ a * b := Int.mul_nonneg (by omega) (by omega)
  have h2 : a * b ≤ 8 * b := Int.mul_le_mul_of_nonneg_right ha.2 (by omega)
  omega

set_option maxRecDepth 100000 in
set_option maxHeartbeats 8000000 in
theorem cost_any (v jv : Value) (V : Vp) (js : List Jp) (w : World) (hv : VwAt w v V) (hj : ReadsJ w jv js) (hrf : ∀ h ∈ V.held, h.refs.length ≤ 1000) (hjs : js.length ≤ 1000) :
    Calls Try.prog 31 #[v, jv] w fun e w' => e = .returned (costR V js) ∧ Below w.heap.size w w' := by
  have hA := fun o => (Below.refl w.heap.size w).alloc (Nat.le_refl _) o
  have CR := Lib.hid (fun o => read_any v (.slice none 0 0) V [] (w.alloc o) (hv.below (hA o)) (nil_ints _) hrf)
  have HA := Lib.hid hA
  obtain ⟨ma, mc, ha, hc, ra, rl, rc, wa, wl, wc, rfl⟩ := hv.val
  obtain ⟨ja, jc, jb, jo, rfl, -, -, jcell⟩ := hj.at
  have JC := Lib.hid jcell
  clear hA hv hj jcell
  obtain ⟨res, hres⟩ : ∃ res, res = costR V js := ⟨_, rfl⟩
  rw [← hres]
  have HRES := Lib.hid hres
  clear hres
  obtain ⟨nh, hnh⟩ : ∃ nh, nh = V.held.length := ⟨_, rfl⟩
  have HNH := Lib.hid hnh
  rw [← hnh] at CR ⊢
  clear hnh
  generalize V.mem.length = ml at *
  go_enter Try.func31, Try.ntmps31
  go_wp2_with fail
  refine (CR.out _).mono ?_
  rintro e w3 ⟨hb3, hcase⟩
  have hb1 := HA.out (.cells #[.slice ma ml mc, .slice ha nh hc, .slice ra rl rc, .slice wa wl wc] 26)
  have hbw := hb1.trans (hb3.mono hb1.size)
  rcases hcase with ⟨hno, rfl⟩ | ⟨hfit, p, rfl, hp, hst⟩
  · have hno2 : ¬ VOk V := fun h => hno ⟨h, by simp [LostOk]⟩
    have HNO := Lib.hid hno2
    clear hno hno2
    go_wp2
    refine bodyPost_ret (results_tmp3 Try.results31 _ _ _) rfl ?_
    exact ⟨by rw [HRES.out]; unfold costR; rw [if_neg HNO.out]; rfl, hbw⟩
  have hok := hfit.1
  have hres2 : res = costV (costF V js 0 0) := by rw [HRES.out]; unfold costR; rw [if_pos hok]
  have HRES2 := Lib.hid hres2
  have HSM := Lib.hid hok.small.2.2.2.2
  obtain ⟨mv, hv, rv, wv, gv, mp, c0, c1, c2, c3, c4, c5, hM, hH, hR, hW, hG, hmp⟩ := hst.at
  obtain ⟨xa, xc, xb, xo, rfl, xl, xm, xcell⟩ := hH.at
  have XC := Lib.hid xcell
  rw [← HNH.out] at c1 xl xm
  have plt := cell_lt c1
  have HMP := Lib.hid hmp
  have hmlt := (Array.getElem?_eq_some_iff.1 hmp).1
  clear hres2 hok hfit hst hb3 hM hH hR hW hG hmp c0 c2 c3 c4 xcell CR
  go_wp2
  go_loopw [26, 9, 10, 12, 13, 14, 15] (fun v26 v9 v10 _ _ _ _ wr => ∃ (i : Nat) (r t : Int), i ≤ js.length ∧ v26 = .int .i64 i ∧ v9 = .int .i64 r ∧ v10 = .int .i64 t ∧ (0 ≤ r ∧ r ≤ i * 524288) ∧ (0 ≤ t ∧ t ≤ i * 65536) ∧ costF V js 0 0 = costF V (js.drop i) r t ∧ Below w3.heap.size w3 wr) (fun v26 _ _ _ _ _ _ _ => js.length - (intOf v26).toNat)
  case atStart => exact ⟨0, 0, 0, Nat.zero_le _, rfl, rfl, rfl, by omega, by omega, by rw [List.drop_zero], Below.refl _ _⟩
  case round =>
    obtain ⟨i, r, t, hi, rfl, rfl, rfl, hr, ht, hcf, hbel⟩ := hrel
    have HCF := Lib.hid hcf
    have hb9 := hbw.trans (hbel.mono hbw.size)
    have hb39 := (hb1.trans ((Below.refl _ _).mono (Nat.le_refl _)))
    clear hcf hb39
    by_cases hlt : i < js.length
    · obtain ⟨e1, e2, e3, fv, e4, e5, e6, hfv⟩ := JC.out i hlt
      subst e1
      obtain ⟨fa, fc, _, _, rfl, -⟩ := hfv.at
      have hdr := drop_at js default i hlt
      have HDR := Lib.hid hdr
      rw [← hb9.cell (p := ⟨jb, _, none⟩) (cell_lt e2)] at e2
      rw [← hb9.cell (p := ⟨jb, _, none⟩) (cell_lt e3)] at e3
      rw [← hb9.cell (p := ⟨jb, _, none⟩) (cell_lt e4)] at e4
      rw [← hb9.cell (p := ⟨jb, _, none⟩) (cell_lt e5)] at e5
      rw [← hb9.cell (p := ⟨jb, _, none⟩) (cell_lt e6)] at e6
      clear hfv hdr
      generalize js.getD i default = jj at *
      obtain ⟨⟨st, ix⟩, fs, dst, size⟩ := jj
      simp only at e2 e3 e4 e5 e6
      generalize fs.length = fl at *
      have hA : Below wr.heap.size wr (wr.alloc (.cells #[.string st, .int .i64 ix, .slice fa fl fc, .int .i64 dst, .int .i64 size] 47)).drew := ((Below.refl _ _).alloc (Nat.le_refl _) _).drew
      have hzA : (wr.alloc (.cells #[.string st, .int .i64 ix, .slice fa fl fc, .int .i64 dst, .int .i64 size] 47)).drew.heap.size = wr.heap.size + 1 := World.size_alloc _ _
      have h3A := hbel.trans (hA.mono hbel.size)
      have m0 : (wr.alloc (.cells #[.string st, .int .i64 ix, .slice fa fl fc, .int .i64 dst, .int .i64 size] 47)).drew.cell? ⟨wr.heap.size, 0, none⟩ = some (.string st) := cell_of_row (wr.alloc _) _ 0 _ _ _ (heap_alloc_new _ _)
      have p5 := (h3A.cell (p := ⟨p, 5, none⟩) plt).trans c5
      have p1 := (h3A.cell (p := ⟨p, 1, none⟩) plt).trans c1
      have hlk := lookPlaceT ((h3A.block mp hmlt).trans HMP.out) st
      cases hf : findP V.held st with
      | none =>
        rw [hf] at hlk
        have hnone : costF V js 0 0 = none := by
          rw [HCF.out, HDR.out]
          unfold costF
          simp only [hf]
        have HNONE := Lib.hid hnone
        clear hnone hf
        go_upto_region 8 with fail
        refine wp_region_held_drew (S := fun w' => w'.cell? ⟨p, 5, none⟩ = some (.map (some mp)) ∧ (Instr.lookup 94 (.map (some mp)) (.string st) true).run Try.prog w' = .ok (.tuple #[.int .i64 0, .bool false]) w' ∧ w'.cell? ⟨wr.heap.size, 0, none⟩ = some (.string st)) (by kernel_rfl) ⟨p5, hlk, m0⟩ (fun hHeld => ?_)
        generalize (wr.alloc (.cells #[.string st, .int .i64 ix, .slice fa fl fc, .int .i64 dst, .int .i64 size] 47)).drew = W at *
        refine wpAnyH_take (i := 0) (v := ?_) rfl (by kernel_rfl) (by kernel_rfl) (by kernel_rfl) (fun _ _ _ h => h) (Or.inl ⟨by rfl, ?_⟩) (by assumption) ?_
        rotate_left; · (intro w hSw; (try dsimp only at hSw); go_simp; try with_reducible rfl)
        try simp only [Act.put, List.getElem_toArray, List.getElem_cons_zero, List.getElem_cons_succ, List.setIfInBounds_toArray, List.set_cons_zero, List.set_cons_succ]
        refine wpAnyH_take (i := 1) (v := ?_) rfl (by kernel_rfl) (by kernel_rfl) (by kernel_rfl) (fun _ _ _ h => h) (Or.inl ⟨by rfl, ?_⟩) (by assumption) ?_
        rotate_left; · (intro w hSw; (try dsimp only at hSw); go_simp; try with_reducible rfl)
        try simp only [Act.put, List.getElem_toArray, List.getElem_cons_zero, List.getElem_cons_succ, List.setIfInBounds_toArray, List.set_cons_zero, List.set_cons_succ]
        refine wpAnyH_take (i := 2) (v := ?_) rfl (by kernel_rfl) (by kernel_rfl) (by kernel_rfl) (fun _ _ _ h => h) (Or.inl ⟨by rfl, ?_⟩) (by assumption) ?_
        rotate_left; · (intro w hSw; (try dsimp only at hSw); go_simp; try with_reducible rfl)
        try simp only [Act.put, List.getElem_toArray, List.getElem_cons_zero, List.getElem_cons_succ, List.setIfInBounds_toArray, List.set_cons_zero, List.set_cons_succ]
        refine wpAnyH_take (i := 3) (v := ?_) rfl (by kernel_rfl) (by kernel_rfl) (by kernel_rfl) (fun _ _ _ h => h) (Or.inl ⟨by rfl, ?_⟩) (by assumption) ?_
        rotate_left; · (intro w hSw; (try dsimp only at hSw); go_simp; try with_reducible rfl)
        try simp only [Act.put, List.getElem_toArray, List.getElem_cons_zero, List.getElem_cons_succ, List.setIfInBounds_toArray, List.set_cons_zero, List.set_cons_succ]
        refine wpAnyH_take (i := 4) (v := ?_) rfl (by kernel_rfl) (by kernel_rfl) (by kernel_rfl) (fun _ _ _ h => h) (Or.inl ⟨by rfl, ?_⟩) (by assumption) ?_
        rotate_left; · (intro w hSw; (try dsimp only at hSw); go_simp; try with_reducible rfl)
        try simp only [Act.put, List.getElem_toArray, List.getElem_cons_zero, List.getElem_cons_succ, List.setIfInBounds_toArray, List.set_cons_zero, List.set_cons_succ]
        refine wpAnyH_take (i := 5) (v := ?_) rfl (by kernel_rfl) (by kernel_rfl) (by kernel_rfl) (fun _ _ _ h => h) (Or.inl ⟨by rfl, ?_⟩) (by assumption) ?_
        rotate_left; · (intro w hSw; (try dsimp only at hSw); go_simp; try with_reducible rfl)
        try simp only [Act.put, List.getElem_toArray, List.getElem_cons_zero, List.getElem_cons_succ, List.setIfInBounds_toArray, List.set_cons_zero, List.set_cons_succ]
        refine wpAnyH_take (i := 6) (v := ?_) rfl (by kernel_rfl) (by kernel_rfl) (by kernel_rfl) (fun _ _ _ h => h) (Or.inl ⟨by rfl, ?_⟩) (by assumption) ?_
        rotate_left; · (intro w hSw; (try dsimp only at hSw); go_simp; try with_reducible rfl)
        try simp only [Act.put, List.getElem_toArray, List.getElem_cons_zero, List.getElem_cons_succ, List.setIfInBounds_toArray, List.set_cons_zero, List.set_cons_succ]
        refine wpAnyH_take (i := 7) (v := ?_) rfl (by kernel_rfl) (by kernel_rfl) (by kernel_rfl) (fun _ _ _ h => h) (Or.inl ⟨by rfl, ?_⟩) (by assumption) ?_
        rotate_left; · (intro w hSw; (try dsimp only at hSw); go_simp; try with_reducible rfl)
        try simp only [Act.put, List.getElem_toArray, List.getElem_cons_zero, List.getElem_cons_succ, List.setIfInBounds_toArray, List.set_cons_zero, List.set_cons_succ]
        refine wpAnyH_take (i := 8) (v := ?_) rfl (by kernel_rfl) (by kernel_rfl) (by kernel_rfl) (fun _ _ _ h => h) (Or.inl ⟨by rfl, ?_⟩) (by assumption) ?_
        rotate_left; · (intro w hSw; (try dsimp only at hSw); go_simp; try with_reducible rfl)
        try simp only [Act.put, List.getElem_toArray, List.getElem_cons_zero, List.getElem_cons_succ, List.setIfInBounds_toArray, List.set_cons_zero, List.set_cons_succ]
        refine wpAnyH_take (i := 9) (v := ?_) rfl (by kernel_rfl) (by kernel_rfl) (by kernel_rfl) (fun _ _ _ h => h) (Or.inl ⟨by rfl, ?_⟩) (by assumption) ?_
        rotate_left; · (intro w hSw; (try dsimp only at hSw); go_simp; try with_reducible rfl)
        try simp only [Act.put, List.getElem_toArray, List.getElem_cons_zero, List.getElem_cons_succ, List.setIfInBounds_toArray, List.set_cons_zero, List.set_cons_succ]
        refine wpAnyH_take (i := 10) (v := ?_) rfl (by kernel_rfl) (by kernel_rfl) (by kernel_rfl) (fun _ _ _ h => h) (Or.inl ⟨by rfl, ?_⟩) (by assumption) ?_
        rotate_left; · (intro w hSw; (try dsimp only at hSw); go_simp; try with_reducible rfl)
        try simp only [Act.put, List.getElem_toArray, List.getElem_cons_zero, List.getElem_cons_succ, List.setIfInBounds_toArray, List.set_cons_zero, List.set_cons_succ]
        refine wpAnyH_take (i := 11) (v := ?_) rfl (by kernel_rfl) (by kernel_rfl) (by kernel_rfl) (fun _ _ _ h => h) (Or.inl ⟨by rfl, ?_⟩) (by assumption) ?_
        rotate_left; · (intro w hSw; (try dsimp only at hSw); go_simp; try with_reducible rfl)
        try simp only [Act.put, List.getElem_toArray, List.getElem_cons_zero, List.getElem_cons_succ, List.setIfInBounds_toArray, List.set_cons_zero, List.set_cons_succ]
        refine wpAnyH_take (i := 12) (v := ?_) rfl (by kernel_rfl) (by kernel_rfl) (by kernel_rfl) (fun _ _ _ h => h) (Or.inl ⟨by rfl, ?_⟩) (by assumption) ?_
        rotate_left; · (intro w hSw; (try dsimp only at hSw); go_simp; try with_reducible rfl)
        try simp only [Act.put, List.getElem_toArray, List.getElem_cons_zero, List.getElem_cons_succ, List.setIfInBounds_toArray, List.set_cons_zero, List.set_cons_succ]
        refine wpAnyH_done (by kernel_rfl) ?_ _
        go_wp2
        refine bodyPost_ret (results_tmp3 Try.results31 _ _ _) rfl ?_
        exact ⟨by rw [HRES2.out, HNONE.out]; rfl, hb9.trans (hA.mono hb9.size)⟩
      | some k =>
        rw [hf] at hlk
        obtain ⟨hk, -⟩ := findP_some hf
        have hsm := HSM.out k hk
        have hd := hsm.2.1
        have hbk := hsm.2.2.2.1
        have hmb := mul_bound hd hbk
        obtain ⟨g1, g2, g3, g4, g5, g6, xr, av, g7, g8, hxr, hra⟩ := XC.out k hk
        subst g1
        obtain ⟨qa, qc, _, _, rfl, -⟩ := hxr.at
        have hkn : k < nh := by rw [HNH.out]; exact hk
        have hnext : costF V js 0 0 = costF V (js.drop (i + 1)) (r + (V.held.getD k default).data * (V.held.getD k default).block) (t + (V.held.getD k default).block) := by
          rw [HCF.out, HDR.out]
          conv => lhs; unfold costF
          simp only [hf]
        have HNX := Lib.hid hnext
        have g2 := (h3A.cell (p := ⟨xb, _, none⟩) (cell_lt g2)).trans g2
        have g3 := (h3A.cell (p := ⟨xb, _, none⟩) (cell_lt g3)).trans g3
        have g4 := (h3A.cell (p := ⟨xb, _, none⟩) (cell_lt g4)).trans g4
        have g5 := (h3A.cell (p := ⟨xb, _, none⟩) (cell_lt g5)).trans g5
        have g6 := (h3A.cell (p := ⟨xb, _, none⟩) (cell_lt g6)).trans g6
        have g7 := (h3A.cell (p := ⟨xb, _, none⟩) (cell_lt g7)).trans g7
        clear hnext hf hxr hra g8 hsm
        generalize (V.held.getD k default).refs.length = ql at *
        generalize (V.held.getD k default).vault = vault at *
        generalize (V.held.getD k default).data = data at *
        generalize (V.held.getD k default).block = block at *
        generalize (V.held.getD k default).total = total at *
        generalize (V.held.getD k default).id = id at *
        have w1 : IntKind.i64.wrap (data * block) = data * block := by rw [IntKind.wrap_i64]; omega
        have w2 : IntKind.i64.wrap (r + data * block) = r + data * block := by rw [IntKind.wrap_i64]; omega
        have w3' : IntKind.i64.wrap (t + block) = t + block := by rw [IntKind.wrap_i64]; omega
        have hr2 : 0 ≤ r + data * block ∧ r + data * block ≤ ((i + 1 : Nat) : Int) * 524288 := by omega
        have ht2 : 0 ≤ t + block ∧ t + block ≤ ((i + 1 : Nat) : Int) * 65536 := by omega
        go_upto_region 8 with fail
        refine wp_region_held_drew (S := fun w' => w'.cell? ⟨p, 5, none⟩ = some (.map (some mp)) ∧ (Instr.lookup 94 (.map (some mp)) (.string st) true).run Try.prog w' = .ok (.tuple #[.int .i64 k, .bool true]) w' ∧ w'.cell? ⟨wr.heap.size, 0, none⟩ = some (.string st)) (by kernel_rfl) ⟨p5, hlk, m0⟩ (fun hHeld => ?_)
        generalize (wr.alloc (.cells #[.string st, .int .i64 ix, .slice fa fl fc, .int .i64 dst, .int .i64 size] 47)).drew = W at *
        refine wpAnyH_take (i := 0) (v := ?_) rfl (by kernel_rfl) (by kernel_rfl) (by kernel_rfl) (fun _ _ _ h => h) (Or.inl ⟨by rfl, ?_⟩) (by assumption) ?_
        rotate_left; · (intro w hSw; (try dsimp only at hSw); go_simp; try with_reducible rfl)
        try simp only [Act.put, List.getElem_toArray, List.getElem_cons_zero, List.getElem_cons_succ, List.setIfInBounds_toArray, List.set_cons_zero, List.set_cons_succ]
        refine wpAnyH_take (i := 1) (v := ?_) rfl (by kernel_rfl) (by kernel_rfl) (by kernel_rfl) (fun _ _ _ h => h) (Or.inl ⟨by rfl, ?_⟩) (by assumption) ?_
        rotate_left; · (intro w hSw; (try dsimp only at hSw); go_simp; try with_reducible rfl)
        try simp only [Act.put, List.getElem_toArray, List.getElem_cons_zero, List.getElem_cons_succ, List.setIfInBounds_toArray, List.set_cons_zero, List.set_cons_succ]
        refine wpAnyH_take (i := 2) (v := ?_) rfl (by kernel_rfl) (by kernel_rfl) (by kernel_rfl) (fun _ _ _ h => h) (Or.inl ⟨by rfl, ?_⟩) (by assumption) ?_
        rotate_left; · (intro w hSw; (try dsimp only at hSw); go_simp; try with_reducible rfl)
        try simp only [Act.put, List.getElem_toArray, List.getElem_cons_zero, List.getElem_cons_succ, List.setIfInBounds_toArray, List.set_cons_zero, List.set_cons_succ]
        refine wpAnyH_take (i := 3) (v := ?_) rfl (by kernel_rfl) (by kernel_rfl) (by kernel_rfl) (fun _ _ _ h => h) (Or.inl ⟨by rfl, ?_⟩) (by assumption) ?_
        rotate_left; · (intro w hSw; (try dsimp only at hSw); go_simp; try with_reducible rfl)
        try simp only [Act.put, List.getElem_toArray, List.getElem_cons_zero, List.getElem_cons_succ, List.setIfInBounds_toArray, List.set_cons_zero, List.set_cons_succ]
        refine wpAnyH_take (i := 4) (v := ?_) rfl (by kernel_rfl) (by kernel_rfl) (by kernel_rfl) (fun _ _ _ h => h) (Or.inl ⟨by rfl, ?_⟩) (by assumption) ?_
        rotate_left; · (intro w hSw; (try dsimp only at hSw); go_simp; try with_reducible rfl)
        try simp only [Act.put, List.getElem_toArray, List.getElem_cons_zero, List.getElem_cons_succ, List.setIfInBounds_toArray, List.set_cons_zero, List.set_cons_succ]
        refine wpAnyH_take (i := 5) (v := ?_) rfl (by kernel_rfl) (by kernel_rfl) (by kernel_rfl) (fun _ _ _ h => h) (Or.inl ⟨by rfl, ?_⟩) (by assumption) ?_
        rotate_left; · (intro w hSw; (try dsimp only at hSw); go_simp; try with_reducible rfl)
        try simp only [Act.put, List.getElem_toArray, List.getElem_cons_zero, List.getElem_cons_succ, List.setIfInBounds_toArray, List.set_cons_zero, List.set_cons_succ]
        refine wpAnyH_take (i := 6) (v := ?_) rfl (by kernel_rfl) (by kernel_rfl) (by kernel_rfl) (fun _ _ _ h => h) (Or.inl ⟨by rfl, ?_⟩) (by assumption) ?_
        rotate_left; · (intro w hSw; (try dsimp only at hSw); go_simp; try with_reducible rfl)
        try simp only [Act.put, List.getElem_toArray, List.getElem_cons_zero, List.getElem_cons_succ, List.setIfInBounds_toArray, List.set_cons_zero, List.set_cons_succ]
        refine wpAnyH_take (i := 7) (v := ?_) rfl (by kernel_rfl) (by kernel_rfl) (by kernel_rfl) (fun _ _ _ h => h) (Or.inl ⟨by rfl, ?_⟩) (by assumption) ?_
        rotate_left; · (intro w hSw; (try dsimp only at hSw); go_simp; try with_reducible rfl)
        try simp only [Act.put, List.getElem_toArray, List.getElem_cons_zero, List.getElem_cons_succ, List.setIfInBounds_toArray, List.set_cons_zero, List.set_cons_succ]
        refine wpAnyH_take (i := 8) (v := ?_) rfl (by kernel_rfl) (by kernel_rfl) (by kernel_rfl) (fun _ _ _ h => h) (Or.inl ⟨by rfl, ?_⟩) (by assumption) ?_
        rotate_left; · (intro w hSw; (try dsimp only at hSw); go_simp; try with_reducible rfl)
        try simp only [Act.put, List.getElem_toArray, List.getElem_cons_zero, List.getElem_cons_succ, List.setIfInBounds_toArray, List.set_cons_zero, List.set_cons_succ]
        refine wpAnyH_take (i := 9) (v := ?_) rfl (by kernel_rfl) (by kernel_rfl) (by kernel_rfl) (fun _ _ _ h => h) (Or.inl ⟨by rfl, ?_⟩) (by assumption) ?_
        rotate_left; · (intro w hSw; (try dsimp only at hSw); go_simp; try with_reducible rfl)
        try simp only [Act.put, List.getElem_toArray, List.getElem_cons_zero, List.getElem_cons_succ, List.setIfInBounds_toArray, List.set_cons_zero, List.set_cons_succ]
        refine wpAnyH_take (i := 10) (v := ?_) rfl (by kernel_rfl) (by kernel_rfl) (by kernel_rfl) (fun _ _ _ h => h) (Or.inl ⟨by rfl, ?_⟩) (by assumption) ?_
        rotate_left; · (intro w hSw; (try dsimp only at hSw); go_simp; try with_reducible rfl)
        try simp only [Act.put, List.getElem_toArray, List.getElem_cons_zero, List.getElem_cons_succ, List.setIfInBounds_toArray, List.set_cons_zero, List.set_cons_succ]
        refine wpAnyH_take (i := 11) (v := ?_) rfl (by kernel_rfl) (by kernel_rfl) (by kernel_rfl) (fun _ _ _ h => h) (Or.inl ⟨by rfl, ?_⟩) (by assumption) ?_
        rotate_left; · (intro w hSw; (try dsimp only at hSw); go_simp; try with_reducible rfl)
        try simp only [Act.put, List.getElem_toArray, List.getElem_cons_zero, List.getElem_cons_succ, List.setIfInBounds_toArray, List.set_cons_zero, List.set_cons_succ]
        refine wpAnyH_take (i := 12) (v := ?_) rfl (by kernel_rfl) (by kernel_rfl) (by kernel_rfl) (fun _ _ _ h => h) (Or.inl ⟨by rfl, ?_⟩) (by assumption) ?_
        rotate_left; · (intro w hSw; (try dsimp only at hSw); go_simp; try with_reducible rfl)
        try simp only [Act.put, List.getElem_toArray, List.getElem_cons_zero, List.getElem_cons_succ, List.setIfInBounds_toArray, List.set_cons_zero, List.set_cons_succ]
        refine wpAnyH_done (by kernel_rfl) ?_ _
        clear hHeld p5 hlk m0
        have zW := h3A.size
        have hWz := hb9.trans (hA.mono hb9.size)
        go_wp2
        go_roundw
        case rel => exact ⟨i + 1, _, _, by omega, by go_num, rfl, rfl, by first | exact hr2 | (rw [w1, w2]; exact hr2), by first | exact ht2 | (rw [w3']; exact ht2), HNX.out, h3A.alloc zW _⟩
        case measure => simp [intOf]; omega
    · have hil : i = js.length := by omega
      subst hil
      have hfin : costF V js 0 0 = some (r, t) := by rw [HCF.out, List.drop_length]; rfl
      have HFIN := Lib.hid hfin
      clear hfin
      go_wp2
      refine bodyPost_ret (results_tmp3 Try.results31 _ _ _) rfl ?_
      exact ⟨by rw [HRES2.out, HFIN.out]; rfl, hb9⟩

end Go.Proofs.Ytijcicgbhcphjaa
