/- After the jobs of the plan no stripe has fewer pieces than before, and each one that can be computed has all of its pieces, or no device that is there and lacks one has room for it: for every view and every list of lost devices. -/
import Derived.Test.YtijcicgbhcphjaaRows
import Derived.Test.YtijcicgbhcphjaaO1
import Derived.Test.YtijcicgbhcphjaaX3
import Derived.ProofKit
import Derived.OpenShut
import Derived.SizedLaws
namespace Go.Proofs.Ytijcicgbhcphjaa.repairplanHeals
open Go.ChangeShapes Go.WideShapes Go.ChangeAt Go.RowKit
set_option linter.unusedVariables false

theorem own : ownKnob Try.prog.godebug = none := by kernel_rfl
theorem laidOut : laidOutB Try.prog = true := by kernel_rfl

set_option maxRecDepth 100000 in
theorem lifted (os : Os) (started : os.Started) (H : Type) (enc : TypeId × Value → H) :
    ReturnsInHanded {} Try.checked os 11 .any (Rows.repairplanHealsSpec.pre6 enc Try.prog Try.f11 Rows.repairplanHealsRow.domain false) (Rows.repairplanHealsSpec.post enc Try.prog Try.f11 false true false false) := by
  refine returnsInHanded_of_change_sized (C := Try.checked) own started (by kernel_rfl) Try.func11
    (ChangeSpec.witness6 (enc := enc) (C := Try.checked) false ⟨#[], #[.agg #[.slice none 0 0, .slice none 0 0, .slice none 0 0, .slice none 0 0], .slice none 0 0], []⟩ 8 (by kernel_rfl) (by kernel_rfl) (by kernel_rfl) (by kernel_rfl)) ?_
  intro W base args ds gs before hval0 hW hcnd hsz0 _
  have hsz : (DataW.weightsEach Try.prog (Try.f11.params.toList ++ Rows.repairplanHealsSpec.plain.varTypes Try.prog) (ds ++ gs)).all (· ≤ reachBytes) = true := hsz0
  have hval : ∀ (j : Nat) t v, Try.f11.params[j]? = some t → args[j]? = some v → Value.okWide Try.prog W .any base t v := hval0
  have hW' := hW
  obtain ⟨p, q, hA0, hV, rfl, hfz, hnd⟩ := hW
  have hA : DataW.TrodAll enc Try.prog W 0 (fun _ => true) true Try.f11.params.toList args.toList ds p := hA0
  rw [Try.params11] at hA hval hsz
  obtain ⟨v0, vs0, d0, ds0, p0, q0, hargs, rfl, rfl, h0, r0⟩ := trodAll_cons hA
  obtain ⟨v1, vs1, d1, ds1, p1, q1, rfl, rfl, rfl, h1, r1⟩ := trodAll_cons r0
  obtain ⟨rfl, rfl, rfl⟩ := trodAll_nil r1
  obtain rfl : args = #[v0, v1] := by cases args; simp_all
  obtain ⟨rfl, rfl⟩ := trodVars_none hV
  have t0 := h0
  have o0 := hval 0 26 v0 rfl rfl
  have F0 : FitsD 26 d0 := fun n hn => of_decide_eq_true (List.all_eq_true.1 hsz _ (DataW.weights_mem_each (j := 0) (t := 26) (d := d0) rfl rfl n hn))
  have t1 := h1
  have o1 := hval 1 24 v1 rfl rfl
  have F1 : FitsD 24 d1 := fun n hn => of_decide_eq_true (List.all_eq_true.1 hsz _ (DataW.weights_mem_each (j := 1) (t := 24) (d := d1) rfl rfl n hn))
  have hlt := hW'.lt
  have l0 : ∀ x ∈ p0, x.block < W.heap.size := fun x hx => hlt x (by first | exact List.mem_append_left _ (List.mem_append_left _ hx) | (simp; simp at hx; simp [hx]))
  have l1 : ∀ x ∈ p1, x.block < W.heap.size := fun x hx => hlt x (by first | exact List.mem_append_left _ (List.mem_append_right _ (List.mem_append_left _ hx)) | (simp; simp at hx; simp [hx]))
  obtain ⟨V0, hV0⟩ := arg_view F0 o0 h0
  obtain ⟨zs1, hz1⟩ := arg_ints F1 o1 h1
  refine (law_heals v0 v1 V0 zs1 W hV0 hz1).mono fun e W' ⟨he, hg⟩ => ?_
  subst he
  exact ⟨_, rfl, _, _, _, _, _, _, hW', trodAll_cons_mk (shut_bool Try.underlying4 _) trodAll_mk0, (trodAll_cons_mk (Below.trod laidOut (by kernel_rfl) (of_decide_eq_true (by kernel_rfl)) t0 hg l0) (trodAll_cons_mk (Below.trod laidOut (by kernel_rfl) (of_decide_eq_true (by kernel_rfl)) t1 hg l1) trodAll_mk0)), rfl, hg.frame _, fun h => by cases h⟩

theorem over : Rows.repairplanHealsRow.holds Try.pinned (OpenSpec.ofChange Rows.repairplanHealsSpec) :=
  OpenClaim.holds_of_wide 11 Try.f11 rfl rfl rfl rfl rfl rfl rfl ⟨rfl, rfl, rfl, rfl, rfl⟩ rfl rfl rfl rfl rfl (by kernel_rfl) Try.func11 (by kernel_rfl)
    (of_decide_eq_true (by kernel_rfl)) (by unfold Func.isWrapper; first | (rw [if_pos (by decide +kernel)]; kernel_rfl) | (rw [if_neg (by decide +kernel)]; exact ⟨rfl, rfl⟩))
    (fun os started H enc _ => lifted os started H enc)

theorem proved : Rows.RepairplanHealsSaid :=
  over
#print axioms proved
end Go.Proofs.Ytijcicgbhcphjaa.repairplanHeals
