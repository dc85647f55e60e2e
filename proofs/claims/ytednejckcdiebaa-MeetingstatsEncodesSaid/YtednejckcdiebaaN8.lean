/- readValue at int: limited, Count's closure. -/
import Derived.Test.YtednejckcdiebaaN7
namespace Go.Proofs.Ytednejckcdiebaa
open Go.RowKit Go.Lib Go.ChangeMaps
set_option linter.unusedSimpArgs false

set_option maxRecDepth 100000 in
set_option maxHeartbeats 2000000 in
theorem limited_one (R : Nat) (a : Option Addr) (c db doff : Nat) (D : List Int) (off : Nat) (err most : Int) (w : World) (hm : most ≤ 9223372036854775807) (h : RdAt w R a c db doff D off err) (hD : Byt D) (hl : D.length ≤ 1000000) :
    Calls Try.prog 70 #[.pointer (some ⟨R, 0, none⟩), .int .i64 most] w fun e w' => ∃ (v : Nat) (ec : Int) (o : Nat), e = .returned (.tuple #[.int .i64 v, .int .i64 ec]) ∧ RdAt w' R a c db doff D o err ∧ w.grownBy w' (some R) ∧
      ((ec = 0 ∧ numG 0 0 (D.drop off) = some (v, D.drop o) ∧ v ≤ most.toNat) ∨ (ec ≠ 0 ∧ v = 0 ∧ (numG 0 0 (D.drop off) = none ∨ ∃ n r, numG 0 0 (D.drop off) = some (n, r) ∧ most.toNat < n))) := by
  have CN := Lib.hid (number_one R a c db doff D off err w h hD hl)
  obtain ⟨mx, hmx⟩ : ∃ mx : Nat, mx = most.toNat := ⟨_, rfl⟩
  have hmax : max most 0 = (mx : Int) := by omega
  have hwr : IntKind.u64.wrap (mx : Int) = (mx : Int) := by rw [IntKind.wrap_u64]; omega
  rw [← hmx]
  have hmx2 : (mx : Int) ≤ 9223372036854775807 := by omega
  clear h hmx
  go_enter Try.func70, Try.ntmps70
  go_wp2_with fail
  refine CN.out.mono ?_
  rintro e w5 ⟨v, ec, o, rfl, hrd, hg, hcase⟩
  have HRD := Lib.hid hrd
  have HG := Lib.hid hg
  clear hrd hg CN
  rcases hcase with ⟨rfl, hn⟩ | ⟨rfl, rfl, hn⟩
  · by_cases hv : mx < v
    · have hv' : (mx : Int) < (v : Int) := by omega
      go_wp2
      go_ret2
      exact ⟨0, 2, o, rfl, HRD.out, HG.out, .inr ⟨by omega, rfl, .inr ⟨_, _, hn, hv⟩⟩⟩
    · have hv' : ¬ (mx : Int) < (v : Int) := by omega
      have hwv : IntKind.i64.wrap (v : Int) = (v : Int) := by rw [IntKind.wrap_i64]; omega
      go_wp2
      go_ret2
      exact ⟨v, 0, o, rfl, HRD.out, HG.out, .inl ⟨rfl, hn, by omega⟩⟩
  · go_wp2
    go_ret2
    exact ⟨0, 3, o, rfl, HRD.out, HG.out, .inr ⟨by omega, rfl, .inl hn⟩⟩

set_option maxRecDepth 100000 in
set_option maxHeartbeats 2000000 in
theorem countC_one (X1 X2 R : Nat) (a : Option Addr) (c db doff : Nat) (D : List Int) (off : Nat) (err most : Int) (w : World) (h1 : w.cell? ⟨X1, 0, none⟩ = some (.pointer (some ⟨R, 0, none⟩))) (h2 : w.cell? ⟨X2, 0, none⟩ = some (.int .i64 most))
    (hm : most ≤ 9223372036854775807) (h : RdAt w R a c db doff D off err) (hD : Byt D) (hl : D.length ≤ 1000000) :
    Calls Try.prog 69 #[.pointer (some ⟨X1, 0, none⟩), .pointer (some ⟨X2, 0, none⟩)] w fun e w' => ∃ (v : Nat) (ec : Int) (o : Nat), e = .returned (.tuple #[.int .i64 v, .int .i64 ec]) ∧ RdAt w' R a c db doff D o err ∧ w.grownBy w' (some R) ∧
      ((ec = 0 ∧ numG 0 0 (D.drop off) = some (v, D.drop o) ∧ v ≤ most.toNat) ∨ (ec ≠ 0 ∧ v = 0 ∧ (numG 0 0 (D.drop off) = none ∨ ∃ n r, numG 0 0 (D.drop off) = some (n, r) ∧ most.toNat < n))) := by
  have CL := Lib.hid (limited_one R a c db doff D off err most w hm h hD hl)
  clear h
  go_enter Try.func69, Try.ntmps69
  go_wp2_with fail
  refine CL.out.mono ?_
  rintro e w5 ⟨v, ec, o, rfl, hrest⟩
  have HREST := Lib.hid hrest
  clear hrest CL
  go_wp2
  go_ret2
  exact ⟨v, ec, o, rfl, HREST.out⟩

set_option maxRecDepth 100000 in
set_option maxHeartbeats 4000000 in
theorem readI_bad (R : Nat) (a : Option Addr) (c db doff : Nat) (D : List Int) (off : Nat) (err : Int) (fv : Value) (w : World) (h : RdAt w R a c db doff D off err) (he : err ≠ 0) :
    Calls Try.prog 68 #[.pointer (some ⟨R, 0, none⟩), fv] w fun e w' => e = .returned (.int .i64 0) ∧ Below w.heap.size w w' := by
  obtain ⟨⟨last, hR⟩, _⟩ := h
  have p1 : (err != 0) = true := by simp [he]
  have hRl := (Array.getElem?_eq_some_iff.1 hR).1
  have c3 : ((w.alloc (.cells #[.pointer (some ⟨R, 0, none⟩)] 89)).alloc (.cells #[.int .i64 0] 3)).cell? ⟨R, 3, none⟩ = some (.int .i64 err) := bc (sb0 _) (bc (sb0 _) (by rw [cell_of_block hR]; rfl))
  clear hR he
  go_enter_defers Try.func68, Try.ntmps68
  go_wp2
  have cB : ((w.alloc (.cells #[.pointer (some ⟨R, 0, none⟩)] 89)).alloc (.cells #[.int .i64 0] 3)).cell? ⟨w.heap.size + 1, 0, none⟩ = some (.int .i64 0) := by
    have := heap_alloc_new (w.alloc (.cells #[.pointer (some ⟨R, 0, none⟩)] 89)) (.cells #[.int .i64 0] 3)
    rw [World.size_alloc] at this
    rw [cell_of_block this]; rfl
  have hb : Below w.heap.size w ((w.alloc (.cells #[.pointer (some ⟨R, 0, none⟩)] 89)).alloc (.cells #[.int .i64 0] 3)) := (sb0 _).trans ((sb0 _).mono (by rw [World.size_alloc]; omega))
  simp [bodyPostD, Leaves, settle, results, Try.results68, go_sem, cB]
  exact hb

set_option maxRecDepth 100000 in
set_option maxHeartbeats 4000000 in
theorem readI_ok (R : Nat) (a : Option Addr) (c db doff : Nat) (D : List Int) (off : Nat) (X1 X2 : Nat) (most : Int) (w : World) (hx1 : w.cell? ⟨X1, 0, none⟩ = some (.pointer (some ⟨R, 0, none⟩))) (hx2 : w.cell? ⟨X2, 0, none⟩ = some (.int .i64 most)) (hm : most ≤ 9223372036854775807) (h : RdAt w R a c db doff D off 0) (hD : Byt D) (hl : D.length ≤ 1000000) :
    Calls Try.prog 68 #[.pointer (some ⟨R, 0, none⟩), .func (.func 69) #[] #[.pointer (some ⟨X1, 0, none⟩), .pointer (some ⟨X2, 0, none⟩)]] w fun e w' => w.grownBy w' (some R) ∧ ∃ v : Nat, e = .returned (.int .i64 v) ∧
      ((∃ o, numG 0 0 (D.drop off) = some (v, D.drop o) ∧ v ≤ most.toNat ∧ RdAt w' R a c db doff D o 0) ∨ ((numG 0 0 (D.drop off) = none ∨ ∃ n r, numG 0 0 (D.drop off) = some (n, r) ∧ most.toNat < n) ∧ v = 0 ∧ ∃ ec : Int, ec ≠ 0 ∧ RdAt w' R a c db doff D off ec)) := by
  have H := Lib.hid h
  obtain ⟨⟨last, hR⟩, hol, _⟩ := h
  have HOL := Lib.hid hol
  have hRl := (Array.getElem?_eq_some_iff.1 hR).1
  have hmf : ∀ (fn : Fn) (first cap : Array Value) (w : World), (Instr.makeFunc fn first cap).run Try.prog w = .ok (.func fn first cap) w := fun _ _ _ _ => rfl
  obtain ⟨w1, hw1⟩ : ∃ w1, w1 = w.alloc (.cells #[.pointer (some ⟨R, 0, none⟩)] 89) := ⟨_, rfl⟩
  obtain ⟨w2, hw2⟩ : ∃ w2, w2 = w1.alloc (.cells #[.int .i64 0] 3) := ⟨_, rfl⟩
  obtain ⟨w3, hw3⟩ : ∃ w3, w3 = w2.alloc (.cells #[.int .i64 off] 3) := ⟨_, rfl⟩
  have b1 : Below w.heap.size w w1 := by rw [hw1]; exact sb0 _
  have b2 : Below w1.heap.size w1 w2 := by rw [hw2]; exact sb0 _
  have b3 : Below w2.heap.size w2 w3 := by rw [hw3]; exact sb0 _
  have s1 : w1.heap.size = w.heap.size + 1 := by rw [hw1]; exact World.size_alloc _ _
  have s2 : w2.heap.size = w.heap.size + 2 := by rw [hw2, World.size_alloc, s1]
  have hA1 : w1.heap[w.heap.size]? = some (.cells #[.pointer (some ⟨R, 0, none⟩)] 89) := by rw [hw1]; exact heap_alloc_new w _
  have hB2 : w2.heap[w.heap.size + 1]? = some (.cells #[.int .i64 0] 3) := by rw [hw2, ← s1]; exact heap_alloc_new w1 _
  have hC3 : w3.heap[w.heap.size + 1 + 1]? = some (.cells #[.int .i64 off] 3) := by rw [hw3, ← s2]; exact heap_alloc_new w2 _
  have b13 := b1.trans ((b2.trans (b3.mono b2.size)).mono b1.size)
  have c3 : w2.cell? ⟨R, 3, none⟩ = some (.int .i64 0) := bc b2 (bc b1 (by rw [cell_of_block hR]; rfl))
  have c1 : w2.cell? ⟨R, 1, none⟩ = some (.int .i64 off) := bc b2 (bc b1 (by rw [cell_of_block hR]; rfl))
  have HA := Lib.hid (bb b3 (bb b2 hA1))
  have HB := Lib.hid (bb b3 hB2)
  have HC := Lib.hid hC3
  have HR3 := Lib.hid (H.out.below b13)
  have HG3 := Lib.hid (gb_of b13 (some R))
  have HX1 := Lib.hid (bc b13 hx1)
  have HX2 := Lib.hid (bc b13 hx2)
  have HW1 := Lib.hid hw1
  have HW2 := Lib.hid hw2
  have HW3 := Lib.hid hw3
  rw [hw2, hw1] at c3 c1
  clear hx1 hx2 hw1 hw2 hw3 b1 b2 b3 s1 s2 hA1 hB2 hC3 b13 hR hol
  go_enter_defers Try.func68, Try.ntmps68
  go_upto_region 5 with fail
  rw [← HW1.out, ← HW2.out, ← HW3.out]
  obtain ⟨A, hA⟩ : ∃ A, A = w.heap.size := ⟨_, rfl⟩
  rw [← hA] at HA HB HC hRl ⊢
  have HAA := Lib.hid hA
  clear hA c3 c1
  have CN := Lib.hid (countC_one X1 X2 R a c db doff D off 0 most w3.drew (bc (Below.refl _ _).drew (HX1.out)) (bc (Below.refl _ _).drew (HX2.out)) hm (HR3.out.below ((Below.refl _ _).drew)) hD hl)
  have HGD := Lib.hid (HG3.out.trans (gb_of (Below.refl _ w3).drew (some R)))
  have ca : w3.cell? ⟨A, 0, none⟩ = some (.pointer (some ⟨R, 0, none⟩)) := by rw [cell_of_block HA.out]; rfl
  have HAD := Lib.hid (bb (Below.refl _ w3).drew HA.out)
  have HBD := Lib.hid (bb (Below.refl _ w3).drew HB.out)
  have HCD := Lib.hid (bb (Below.refl _ w3).drew HC.out)
  have nA : R ≠ A := by omega
  have nB : R ≠ A + 1 := by omega
  have nC : R ≠ A + 1 + 1 := by omega
  refine wp_no_panic ?_
  refine wp_region_held_drew (S := fun w' => w'.cell? ⟨A, 0, none⟩ = some (.pointer (some ⟨R, 0, none⟩))) (by kernel_rfl) (bc (Below.refl _ w3).drew ca) (fun hHeld => ?_)
  generalize w3.drew = Wd at *
  clear ca
  refine wpAnyH_take (i := 0) (v := ?_) rfl (by kernel_rfl) (by kernel_rfl) (by kernel_rfl) (fun _ _ _ h => h) (Or.inl ⟨by rfl, ?_⟩) (by assumption) ?_
  rotate_left; · (intro w hSw; (try dsimp only at hSw); go_simp; try with_reducible rfl)
  try simp only [Act.put, List.getElem_toArray, List.getElem_cons_zero, List.getElem_cons_succ, List.setIfInBounds_toArray, List.set_cons_zero, List.set_cons_succ]
  refine wpAnyH_take (i := 1) (v := ?_) rfl (by kernel_rfl) (by kernel_rfl) (by kernel_rfl) (fun _ _ _ h => h) (Or.inl ⟨by rfl, ?_⟩) (by assumption) ?_
  rotate_left; · (intro w hSw; (try dsimp only at hSw); go_simp; try with_reducible rfl)
  try simp only [Act.put, List.getElem_toArray, List.getElem_cons_zero, List.getElem_cons_succ, List.setIfInBounds_toArray, List.set_cons_zero, List.set_cons_succ]
  refine wpAnyH_ready (rs := [2]) (by kernel_rfl) (by simp) ?_
  refine AllReadyH.cons rfl (fun K hK => ?_) AllReadyH.nil
  go_simp
  refine CN.out.mono ?_; rintro e w5 ⟨v, ec, o, rfl, hrd5, hg5, hcase⟩
  go_wp2_with fail
  refine hK.out _ _ ((by rw [cell_of_block ((hg5.block A (Array.getElem?_eq_some_iff.1 HAD.out).1 (by intro e; injection e; omega)).trans HAD.out)]; rfl)) (fun hNew => ?_)
  clear hK K hHeld
  have hHeld := hNew
  clear hNew
  try simp only [Act.put, List.getElem_toArray, List.getElem_cons_zero, List.getElem_cons_succ, List.setIfInBounds_toArray, List.set_cons_zero, List.set_cons_succ]
  refine wpAnyH_take (i := 3) (v := ?_) rfl (by kernel_rfl) (by kernel_rfl) (by kernel_rfl) (fun _ _ _ h => h) (Or.inl ⟨by rfl, ?_⟩) (by assumption) ?_
  rotate_left; · (intro w hSw; (try dsimp only at hSw); go_simp; try with_reducible rfl)
  try simp only [Act.put, List.getElem_toArray, List.getElem_cons_zero, List.getElem_cons_succ, List.setIfInBounds_toArray, List.set_cons_zero, List.set_cons_succ]
  refine wpAnyH_take (i := 4) (v := ?_) rfl (by kernel_rfl) (by kernel_rfl) (by kernel_rfl) (fun _ _ _ h => h) (Or.inl ⟨by rfl, ?_⟩) (by assumption) ?_
  rotate_left; · (intro w hSw; (try dsimp only at hSw); go_simp; try with_reducible rfl)
  try simp only [Act.put, List.getElem_toArray, List.getElem_cons_zero, List.getElem_cons_succ, List.setIfInBounds_toArray, List.set_cons_zero, List.set_cons_succ]
  refine wpAnyH_take (i := 5) (v := ?_) rfl (by kernel_rfl) (by kernel_rfl) (by kernel_rfl) (fun _ _ _ h => h) (Or.inl ⟨by rfl, ?_⟩) (by assumption) ?_
  rotate_left; · (intro w hSw; (try dsimp only at hSw); go_simp; try with_reducible rfl)
  try simp only [Act.put, List.getElem_toArray, List.getElem_cons_zero, List.getElem_cons_succ, List.setIfInBounds_toArray, List.set_cons_zero, List.set_cons_succ]
  have hB5 := (hg5.block (A + 1) (Array.getElem?_eq_some_iff.1 HBD.out).1 (by intro e; injection e; omega)).trans HBD.out
  have hA5 := (hg5.block A (Array.getElem?_eq_some_iff.1 HAD.out).1 (by intro e; injection e; omega)).trans HAD.out
  have hC5 := (hg5.block (A + 1 + 1) (Array.getElem?_eq_some_iff.1 HCD.out).1 (by intro e; injection e; omega)).trans HCD.out
  obtain ⟨⟨last5, hR5⟩, hrest⟩ := hrd5
  have HRD5 := Lib.hid (show RdAt w5 R a c db doff D o 0 from ⟨⟨last5, hR5⟩, hrest⟩)
  have cB : w5.cell? ⟨A + 1, 0, none⟩ = some (.int .i64 0) := by rw [cell_of_block hB5]; rfl
  have fB : w5.frozen? ⟨A + 1, 0, none⟩ = false := free_of_block hB5 0
  have HB6 := Lib.hid (setCell_at' (i := 0) hB5 (.int .i64 v))
  have HA6 := Lib.hid ((setCell_other' w5 (b := A + 1) (i := 0) (.int .i64 v) (show A ≠ A + 1 by omega)).trans hA5)
  have HC6 := Lib.hid ((setCell_other' w5 (b := A + 1) (i := 0) (.int .i64 v) (show A + 1 + 1 ≠ A + 1 by omega)).trans hC5)
  have HR6 := Lib.hid ((setCell_other' w5 (b := A + 1) (i := 0) (.int .i64 v) (show R ≠ A + 1 by omega)).trans hR5)
  have HG5 := Lib.hid (HGD.out.trans hg5)
  have HCASE := Lib.hid hcase
  clear hB5 hA5 hC5 hR5 hrest hg5 hcase
  refine wpAnyH_ready (rs := [6]) (by kernel_rfl) (by simp) ?_
  refine AllReadyH.cons rfl (fun K hK => ?_) AllReadyH.nil
  go_simp
  refine hK.out _ _ (by rw [cell_of_block HA6.out]; rfl) (fun hNew => ?_)
  clear hK K hHeld
  have hHeld := hNew
  clear hNew
  try simp only [Act.put, List.getElem_toArray, List.getElem_cons_zero, List.getElem_cons_succ, List.setIfInBounds_toArray, List.set_cons_zero, List.set_cons_succ]
  clear cB fB
  obtain ⟨w6, hw6⟩ : ∃ w6, w6 = w5.setCell ⟨A + 1, 0, none⟩ (.int .i64 v) := ⟨_, rfl⟩
  rw [← hw6] at HB6 HA6 HC6 HR6 hHeld ⊢
  have HW6 := Lib.hid hw6
  clear hw6
  refine wpAnyH_take (i := 7) (v := ?_) rfl (by kernel_rfl) (by kernel_rfl) (by kernel_rfl) (fun _ _ _ h => h) (Or.inl ⟨by rfl, ?_⟩) (by assumption) ?_
  rotate_left; · (intro w hSw; (try dsimp only at hSw); go_simp; try with_reducible rfl)
  try simp only [Act.put, List.getElem_toArray, List.getElem_cons_zero, List.getElem_cons_succ, List.setIfInBounds_toArray, List.set_cons_zero, List.set_cons_succ]
  refine wpAnyH_take (i := 8) (v := ?_) rfl (by kernel_rfl) (by kernel_rfl) (by kernel_rfl) (fun _ _ _ h => h) (Or.inl ⟨by rfl, ?_⟩) (by assumption) ?_
  rotate_left; · (intro w hSw; (try dsimp only at hSw); go_simp; try with_reducible rfl)
  try simp only [Act.put, List.getElem_toArray, List.getElem_cons_zero, List.getElem_cons_succ, List.setIfInBounds_toArray, List.set_cons_zero, List.set_cons_succ]
  have c3 : w6.cell? ⟨R, 3, none⟩ = some (.int .i64 0) := by rw [cell_of_block HR6.out]; rfl
  have f3 : w6.frozen? ⟨R, 3, none⟩ = false := free_of_block HR6.out 3
  have HR7 := Lib.hid (setCell_at' (i := 3) HR6.out (.int .i64 ec))
  have HA7 := Lib.hid ((setCell_other' w6 (b := R) (i := 3) (.int .i64 ec) (Ne.symm nA)).trans HA6.out)
  have HB7 := Lib.hid ((setCell_other' w6 (b := R) (i := 3) (.int .i64 ec) (Ne.symm nB)).trans HB6.out)
  have HC7 := Lib.hid ((setCell_other' w6 (b := R) (i := 3) (.int .i64 ec) (Ne.symm nC)).trans HC6.out)
  refine wpAnyH_ready (rs := [9]) (by kernel_rfl) (by simp) ?_
  refine AllReadyH.cons rfl (fun K hK => ?_) AllReadyH.nil
  go_simp
  refine hK.out _ _ (by rw [cell_of_block HA7.out]; rfl) (fun hNew => ?_)
  clear hK K hHeld
  have hHeld := hNew
  clear hNew
  try simp only [Act.put, List.getElem_toArray, List.getElem_cons_zero, List.getElem_cons_succ, List.setIfInBounds_toArray, List.set_cons_zero, List.set_cons_succ]
  clear c3 f3
  obtain ⟨w7, hw7⟩ : ∃ w7, w7 = w6.setCell ⟨R, 3, none⟩ (.int .i64 ec) := ⟨_, rfl⟩
  rw [← hw7] at HB7 HA7 HC7 HR7 hHeld ⊢
  have HW7 := Lib.hid hw7
  clear hw7
  refine wpAnyH_done (by kernel_rfl) ?_ _
  dsimp only
  clear hHeld
  have cB : w7.cell? ⟨A + 1, 0, none⟩ = some (.int .i64 v) := by rw [cell_of_block HB7.out]; rfl
  have fB : w7.frozen? ⟨A + 1, 0, none⟩ = false := free_of_block HB7.out 0
  go_wp2
  have hB8 := setCell_at' (i := 0) HB7.out (.int .i64 v)
  have hA8 := (setCell_other' w7 (b := A + 1) (i := 0) (.int .i64 v) (show A ≠ A + 1 by omega)).trans HA7.out
  have hC8 := (setCell_other' w7 (b := A + 1) (i := 0) (.int .i64 v) (show A + 1 + 1 ≠ A + 1 by omega)).trans HC7.out
  have hR8 := (setCell_other' w7 (b := A + 1) (i := 0) (.int .i64 v) (show R ≠ A + 1 by omega)).trans HR7.out
  have hG8 : w.grownBy (w7.setCell ⟨A + 1, 0, none⟩ (.int .i64 v)) (some R) := by
    rw [HW7.out, HW6.out]
    exact gb_setC (gb_setC (gb_setC HG5.out (.inr (by rw [← HAA.out]; omega)) _ _) (.inl rfl) _ _) (.inr (by rw [← HAA.out]; omega)) _ _
  have hAl : w.heap.size ≤ A + 1 := by rw [← HAA.out]; omega
  generalize w7.setCell ⟨A + 1, 0, none⟩ (.int .i64 v) = w8 at *
  refine leaves_cons (f := 75) (args := #[.pointer (some ⟨A + 1 + 1, 0, none⟩), .pointer (some ⟨A, 0, none⟩), .pointer (some ⟨A + 1, 0, none⟩)]) (by simp) (by simp [go_sem]) ?_
  refine (closure75 A (A + 1) (A + 1 + 1) R (.slice a D.length c) o off last5 ec (.int .i64 v) .returning w8 (by rw [cell_of_block hA8]; rfl) (by rw [cell_of_block hC8]; rfl) (by simpa using hR8) (by simpa using hB8) nA nB nC).mono ?_
  rintro e u' w'' ⟨rfl, rfl, hend⟩
  rcases HCASE.out with ⟨rfl, hn, hvm⟩ | ⟨hec, rfl, hn⟩
  · rcases hend with ⟨_, rfl⟩ | ⟨h0, _⟩
    rotate_left
    · exact absurd rfl h0
    have cB9 : (w8.setCell ⟨R, 2, none⟩ (.int .i64 off)).cell? ⟨A + 1, 0, none⟩ = some (.int .i64 v) := far _ nB (by rw [cell_of_block hB8]; rfl)
    have hG9 := gb_setC hG8 (.inl rfl) 2 (.int .i64 off)
    have hR9 := setCell_at' (i := 2) hR8 (.int .i64 off)
    have hrd := H.out.keep HRD5.out.2.1 (by simpa using hR9) (fun g hg hl => hG9.block g hl (fun e => hg (by injection e)))
    simp [Leaves, settle, results, Try.results68, go_sem, cB9]
    exact ⟨hG9, v, rfl, .inl ⟨o, hn, hvm, hrd⟩⟩
  · rcases hend with ⟨h0, _⟩ | ⟨_, rfl⟩
    · exact absurd h0 hec
    have hG9 := gb_setC (gb_setC (gb_setC hG8 (.inl rfl) 2 (.int .i64 off)) (.inl rfl) 1 (.int .i64 off)) (.inr hAl) 0 (.int .i64 0)
    have hB9 := setCell_at' (i := 0) ((setCell_other' _ (b := R) (i := 1) (.int .i64 off) (Ne.symm nB)).trans ((setCell_other' w8 (b := R) (i := 2) (.int .i64 off) (Ne.symm nB)).trans hB8)) (.int .i64 0)
    have cB9 : (((w8.setCell ⟨R, 2, none⟩ (.int .i64 off)).setCell ⟨R, 1, none⟩ (.int .i64 off)).setCell ⟨A + 1, 0, none⟩ (.int .i64 0)).cell? ⟨A + 1, 0, none⟩ = some (.int .i64 0) := by rw [cell_of_block hB9]; rfl
    have hR9 := (setCell_other' _ (b := A + 1) (i := 0) (.int .i64 0) nB).trans (setCell_at' (i := 1) (setCell_at' (i := 2) hR8 (.int .i64 off)) (.int .i64 off))
    have hrd := H.out.keep (err' := ec) HOL.out (by simpa using hR9) (fun g hg hl => hG9.block g hl (fun e => hg (by injection e)))
    simp [Leaves, settle, results, Try.results68, go_sem, cB9]
    exact ⟨hG9, 0, rfl, .inr ⟨hn.imp id (fun ⟨n, r, h1, h2⟩ => ⟨n, ⟨r, h1⟩, h2⟩), rfl, ec, hec, hrd⟩⟩

end Go.Proofs.Ytednejckcdiebaa
