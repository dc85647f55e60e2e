/- For all fractions a and b, MeetingstatsCompares returns true and leaves its arguments as they were. Conditions: none. -/
import Derived.Test.YtednejckcdiebaaRows
import Derived.Test.YtednejckcdiebaaR4
import Derived.Test.YtednejckcdiebaaZ
import Derived.ProofKit
import Derived.OpenShut
namespace Go.Proofs.Ytednejckcdiebaa.meetingstatsCompares
open Go.ChangeShapes Go.WideShapes Go.ChangeAt Go.RowKit
set_option linter.unusedVariables false

theorem own : ownKnob Try.prog.godebug = none := by kernel_rfl
theorem laidOut : laidOutB Try.prog = true := by kernel_rfl

set_option maxRecDepth 100000 in
theorem lifted (os : Os) (started : os.Started) (H : Type) (enc : TypeId × Value → H) :
    ReturnsInHanded {} Try.checked os 6 .any (Rows.meetingstatsComparesSpec.pre6 enc Try.prog Try.f6 Rows.meetingstatsComparesRow.domain false) (Rows.meetingstatsComparesSpec.post enc Try.prog Try.f6 false true false false) := by
  refine returnsInHanded_of_change (C := Try.checked) own started (by kernel_rfl) Try.func6
    (ChangeSpec.witness6 (enc := enc) (C := Try.checked) false ⟨#[], #[.agg #[.int .i64 0, .int .i64 0], .agg #[.int .i64 0, .int .i64 0]], []⟩ 8 (by kernel_rfl) (by kernel_rfl) (by kernel_rfl) (by kernel_rfl)) ?_
  intro W base args ds gs before hval0 hW hcnd _
  have hval : ∀ (j : Nat) t v, Try.f6.params[j]? = some t → args[j]? = some v → Value.okWide Try.prog W .any base t v := hval0
  have hW' := hW
  obtain ⟨p, q, hA0, hV, rfl, hfz, hnd⟩ := hW
  have hA : DataW.TrodAll enc Try.prog W 0 (fun _ => true) true Try.f6.params.toList args.toList ds p := hA0
  rw [Try.params6] at hA hval
  obtain ⟨v0, vs0, d0, ds0, p0, q0, hargs, rfl, rfl, h0, r0⟩ := trodAll_cons hA
  obtain ⟨v1, vs1, d1, ds1, p1, q1, rfl, rfl, rfl, h1, r1⟩ := trodAll_cons r0
  obtain ⟨rfl, rfl, rfl⟩ := trodAll_nil r1
  obtain rfl : args = #[v0, v1] := by cases args; simp_all
  obtain ⟨rfl, rfl⟩ := trodVars_none hV
  have g0 := h0
  have o0 := hval 0 23 v0 rfl rfl
  have g1 := h1
  have o1 := hval 1 23 v1 rfl rfl
  have hlt := hW'.lt
  have l0 : ∀ x ∈ p0, x.block < W.heap.size := fun x hx => hlt x (by first | exact List.mem_append_left _ (List.mem_append_left _ hx) | (simp; simp at hx; simp [hx]))
  have l1 : ∀ x ∈ p1, x.block < W.heap.size := fun x hx => hlt x (by first | exact List.mem_append_left _ (List.mem_append_right _ (List.mem_append_left _ hx)) | (simp; simp at hx; simp [hx]))
  obtain ⟨a0, b0, rfl, wa0, wb0⟩ := open_frac o0 h0
  obtain ⟨a1, b1, rfl, wa1, wb1⟩ := open_frac o1 h1
  refine (((fun (a0 b0 a1 b1 : Int) (W : World) (h0 : -9223372036854775808 ≤ a0 ∧ a0 ≤ 9223372036854775807) (h1 : -9223372036854775808 ≤ b0 ∧ b0 ≤ 9223372036854775807) (h2 : -9223372036854775808 ≤ a1 ∧ a1 ≤ 9223372036854775807) (h3 : -9223372036854775808 ≤ b1 ∧ b1 ≤ 9223372036854775807) => compares_any a0 b0 a1 b1 W h0.1 h0.2 h1.2 h2.1 h2.2 h3.2)) a0 b0 a1 b1 W (of_wf wa0) (of_wf wb0) (of_wf wa1) (of_wf wb1)).mono fun e W' ⟨he, hg⟩ => ?_
  subst he
  exact ⟨_, rfl, _, _, _, _, _, _, hW', trodAll_cons_mk (shut_bool Try.underlying4 _) trodAll_mk0, (trodAll_cons_mk (Below.trod laidOut (by kernel_rfl) (of_decide_eq_true (by kernel_rfl)) g0 hg l0) (trodAll_cons_mk (Below.trod laidOut (by kernel_rfl) (of_decide_eq_true (by kernel_rfl)) g1 hg l1) trodAll_mk0)), rfl, hg.frame _, fun h => by cases h⟩

theorem over : Rows.meetingstatsComparesRow.holds Try.pinned (OpenSpec.ofChange Rows.meetingstatsComparesSpec) :=
  OpenClaim.holds_of_wide 6 Try.f6 rfl rfl rfl rfl rfl rfl rfl ⟨rfl, rfl, rfl, rfl, rfl⟩ rfl rfl rfl rfl rfl (by kernel_rfl) Try.func6 (by kernel_rfl)
    (of_decide_eq_true (by kernel_rfl)) (by unfold Func.isWrapper; first | (rw [if_pos (by decide +kernel)]; kernel_rfl) | (rw [if_neg (by decide +kernel)]; exact ⟨rfl, rfl⟩))
    (fun os started H enc _ => lifted os started H enc)

theorem proved : Rows.MeetingstatsComparesSaid :=
  over
#print axioms proved
end Go.Proofs.Ytednejckcdiebaa.meetingstatsCompares
