/- Next returns the jobs to which a meeting of two devices contributes, or its error (chapter 50, P50.5): for every view, every list of lost devices, every list of jobs and every two devices, without a condition. -/
import Derived.Test.YtijcicgbhcphjaaRows
import Derived.Test.YtijcicgbhcphjaaL8
import Derived.Test.YtijcicgbhcphjaaO1
import Derived.Test.YtijcicgbhcphjaaO2
import Derived.ProofKit
import Derived.OpenShut
import Derived.SizedLaws
namespace Go.Proofs.Ytijcicgbhcphjaa.repairplanNext
open Go.ChangeShapes Go.WideShapes Go.ChangeAt Go.RowKit
set_option linter.unusedVariables false

theorem own : ownKnob Try.prog.godebug = none := by kernel_rfl
theorem laidOut : laidOutB Try.prog = true := by kernel_rfl

set_option maxRecDepth 100000 in
theorem lifted (os : Os) (started : os.Started) (H : Type) (enc : TypeId × Value → H) :
    ReturnsInHanded {} Try.checked os 10 .any (Rows.repairplanNextSpec.pre6 enc Try.prog Try.f10 Rows.repairplanNextRow.domain false) (Rows.repairplanNextSpec.post enc Try.prog Try.f10 false true false false) := by
  refine returnsInHanded_of_change_sized (C := Try.checked) own started (by kernel_rfl) Try.func10
    (ChangeSpec.witness6 (enc := enc) (C := Try.checked) false ⟨#[], #[.agg #[.slice none 0 0, .slice none 0 0, .slice none 0 0, .slice none 0 0], .slice none 0 0, .slice none 0 0, .int .i64 0, .int .i64 0], []⟩ 8 (by kernel_rfl) (by kernel_rfl) (by kernel_rfl) (by kernel_rfl)) ?_
  intro W base args ds gs before hval0 hW hcnd hsz0 _
  have hsz : (DataW.weightsEach Try.prog (Try.f10.params.toList ++ Rows.repairplanNextSpec.plain.varTypes Try.prog) (ds ++ gs)).all (· ≤ reachBytes) = true := hsz0
  have hval : ∀ (j : Nat) t v, Try.f10.params[j]? = some t → args[j]? = some v → Value.okWide Try.prog W .any base t v := hval0
  have hW' := hW
  obtain ⟨p, q, hA0, hV, rfl, hfz, hnd⟩ := hW
  have hA : DataW.TrodAll enc Try.prog W 0 (fun _ => true) true Try.f10.params.toList args.toList ds p := hA0
  rw [Try.params10] at hA hval hsz
  obtain ⟨v0, vs0, d0, ds0, p0, q0, hargs, rfl, rfl, h0, r0⟩ := trodAll_cons hA
  obtain ⟨v1, vs1, d1, ds1, p1, q1, rfl, rfl, rfl, h1, r1⟩ := trodAll_cons r0
  obtain ⟨v2, vs2, d2, ds2, p2, q2, rfl, rfl, rfl, h2, r2⟩ := trodAll_cons r1
  obtain ⟨v3, vs3, d3, ds3, p3, q3, rfl, rfl, rfl, h3, r3⟩ := trodAll_cons r2
  obtain ⟨v4, vs4, d4, ds4, p4, q4, rfl, rfl, rfl, h4, r4⟩ := trodAll_cons r3
  obtain ⟨rfl, rfl, rfl⟩ := trodAll_nil r4
  obtain rfl : args = #[v0, v1, v2, v3, v4] := by cases args; simp_all
  obtain ⟨rfl, rfl⟩ := trodVars_none hV
  have t0 := h0
  have o0 := hval 0 26 v0 rfl rfl
  have F0 : FitsD 26 d0 := fun n hn => of_decide_eq_true (List.all_eq_true.1 hsz _ (DataW.weights_mem_each (j := 0) (t := 26) (d := d0) rfl rfl n hn))
  have t1 := h1
  have o1 := hval 1 24 v1 rfl rfl
  have F1 : FitsD 24 d1 := fun n hn => of_decide_eq_true (List.all_eq_true.1 hsz _ (DataW.weights_mem_each (j := 1) (t := 24) (d := d1) rfl rfl n hn))
  have t2 := h2
  have o2 := hval 2 35 v2 rfl rfl
  have F2 : FitsD 35 d2 := fun n hn => of_decide_eq_true (List.all_eq_true.1 hsz _ (DataW.weights_mem_each (j := 2) (t := 35) (d := d2) rfl rfl n hn))
  have t3 := h3
  have o3 := hval 3 3 v3 rfl rfl
  have t4 := h4
  have o4 := hval 4 3 v4 rfl rfl
  have hlt := hW'.lt
  have l0 : ∀ x ∈ p0, x.block < W.heap.size := fun x hx => hlt x (by first | exact List.mem_append_left _ (List.mem_append_left _ hx) | (simp; simp at hx; simp [hx]))
  have l1 : ∀ x ∈ p1, x.block < W.heap.size := fun x hx => hlt x (by first | exact List.mem_append_left _ (List.mem_append_right _ (List.mem_append_left _ hx)) | (simp; simp at hx; simp [hx]))
  have l2 : ∀ x ∈ p2, x.block < W.heap.size := fun x hx => hlt x (by first | exact List.mem_append_left _ (List.mem_append_right _ (List.mem_append_right _ (List.mem_append_left _ hx))) | (simp; simp at hx; simp [hx]))
  have l3 : ∀ x ∈ p3, x.block < W.heap.size := fun x hx => hlt x (by first | exact List.mem_append_left _ (List.mem_append_right _ (List.mem_append_right _ (List.mem_append_right _ (List.mem_append_left _ hx)))) | (simp; simp at hx; simp [hx]))
  have l4 : ∀ x ∈ p4, x.block < W.heap.size := fun x hx => hlt x (by first | exact List.mem_append_left _ (List.mem_append_right _ (List.mem_append_right _ (List.mem_append_right _ (List.mem_append_right _ (List.mem_append_left _ hx))))) | (simp; simp at hx; simp [hx]))
  obtain ⟨V0, hV0⟩ := arg_view F0 o0 h0
  obtain ⟨zs1, hz1⟩ := arg_ints F1 o1 h1
  obtain ⟨js2, hj2⟩ := arg_jobs F2 o2 h2
  obtain ⟨a3, rfl, _, _, w3⟩ := open_int Try.underlying3 o3 h3
  obtain ⟨a4, rfl, _, _, w4⟩ := open_int Try.underlying3 o4 h4
  refine (law_next v0 v1 v2 V0 zs1 js2 a3 a4 W hV0 hz1 hj2).mono fun e W' ⟨he, hg⟩ => ?_
  subst he
  exact ⟨_, rfl, _, _, _, _, _, _, hW', trodAll_cons_mk (shut_bool Try.underlying4 _) trodAll_mk0, (trodAll_cons_mk (Below.trod laidOut (by kernel_rfl) (of_decide_eq_true (by kernel_rfl)) t0 hg l0) (trodAll_cons_mk (Below.trod laidOut (by kernel_rfl) (of_decide_eq_true (by kernel_rfl)) t1 hg l1) (trodAll_cons_mk (Below.trod laidOut (by kernel_rfl) (of_decide_eq_true (by kernel_rfl)) t2 hg l2) (trodAll_cons_mk (Below.trod laidOut (by kernel_rfl) (of_decide_eq_true (by kernel_rfl)) t3 hg l3) (trodAll_cons_mk (Below.trod laidOut (by kernel_rfl) (of_decide_eq_true (by kernel_rfl)) t4 hg l4) trodAll_mk0))))), rfl, hg.frame _, fun h => by cases h⟩

theorem over : Rows.repairplanNextRow.holds Try.pinned (OpenSpec.ofChange Rows.repairplanNextSpec) :=
  OpenClaim.holds_of_wide 10 Try.f10 rfl rfl rfl rfl rfl rfl rfl ⟨rfl, rfl, rfl, rfl, rfl⟩ rfl rfl rfl rfl rfl (by kernel_rfl) Try.func10 (by kernel_rfl)
    (of_decide_eq_true (by kernel_rfl)) (by unfold Func.isWrapper; first | (rw [if_pos (by decide +kernel)]; kernel_rfl) | (rw [if_neg (by decide +kernel)]; exact ⟨rfl, rfl⟩))
    (fun os started H enc _ => lifted os started H enc)

theorem proved : Rows.RepairplanNextSaid :=
  over
#print axioms proved
end Go.Proofs.Ytijcicgbhcphjaa.repairplanNext
