/- For all n, all lists of meetings and all meetings, MeetingstatsEncodes returns true and leaves its arguments as they were. Conditions: none. -/
import Derived.Test.YtednejckcdiebaaRows
import Derived.Test.YtednejckcdiebaaN16
import Derived.Test.YtednejckcdiebaaO
import Derived.Test.YtednejckcdiebaaZ2
import Derived.ProofKit
import Derived.OpenShut
namespace Go.Proofs.Ytednejckcdiebaa.meetingstatsEncodes
open Go.ChangeShapes Go.WideShapes Go.ChangeAt Go.RowKit
set_option linter.unusedVariables false

theorem own : ownKnob Try.prog.godebug = none := by kernel_rfl
theorem laidOut : laidOutB Try.prog = true := by kernel_rfl

set_option maxRecDepth 100000 in
theorem lifted (os : Os) (started : os.Started) (H : Type) (enc : TypeId × Value → H) :
    ReturnsInHanded {} Try.checked os 9 .any (Rows.meetingstatsEncodesSpec.pre6 enc Try.prog Try.f9 Rows.meetingstatsEncodesRow.domain false) (Rows.meetingstatsEncodesSpec.post enc Try.prog Try.f9 false true false false) := by
  refine returnsInHanded_of_change (C := Try.checked) own started (by kernel_rfl) Try.func9
    (ChangeSpec.witness6 (enc := enc) (C := Try.checked) false ⟨#[], #[.int .i64 0, .slice none 0 0, .agg #[.int .i64 0, .int .i64 0, .int .i64 0]], []⟩ 8 (by kernel_rfl) (by kernel_rfl) (by kernel_rfl) (by kernel_rfl)) ?_
  intro W base args ds gs before hval0 hW hcnd _
  have hval : ∀ (j : Nat) t v, Try.f9.params[j]? = some t → args[j]? = some v → Value.okWide Try.prog W .any base t v := hval0
  have hW' := hW
  obtain ⟨p, q, hA0, hV, rfl, hfz, hnd⟩ := hW
  have hA : DataW.TrodAll enc Try.prog W 0 (fun _ => true) true Try.f9.params.toList args.toList ds p := hA0
  rw [Try.params9] at hA hval
  obtain ⟨v0, vs0, d0, ds0, p0, q0, hargs, rfl, rfl, h0, r0⟩ := trodAll_cons hA
  obtain ⟨v1, vs1, d1, ds1, p1, q1, rfl, rfl, rfl, h1, r1⟩ := trodAll_cons r0
  obtain ⟨v2, vs2, d2, ds2, p2, q2, rfl, rfl, rfl, h2, r2⟩ := trodAll_cons r1
  obtain ⟨rfl, rfl, rfl⟩ := trodAll_nil r2
  obtain rfl : args = #[v0, v1, v2] := by cases args; simp_all
  obtain ⟨rfl, rfl⟩ := trodVars_none hV
  have g0 := h0
  have o0 := hval 0 3 v0 rfl rfl
  have g1 := h1
  have o1 := hval 1 30 v1 rfl rfl
  have g2 := h2
  have o2 := hval 2 52 v2 rfl rfl
  have hlt := hW'.lt
  have l0 : ∀ x ∈ p0, x.block < W.heap.size := fun x hx => hlt x (by first | exact List.mem_append_left _ (List.mem_append_left _ hx) | (simp; simp at hx; simp [hx]))
  have l1 : ∀ x ∈ p1, x.block < W.heap.size := fun x hx => hlt x (by first | exact List.mem_append_left _ (List.mem_append_right _ (List.mem_append_left _ hx)) | (simp; simp at hx; simp [hx]))
  have l2 : ∀ x ∈ p2, x.block < W.heap.size := fun x hx => hlt x (by first | exact List.mem_append_left _ (List.mem_append_right _ (List.mem_append_right _ (List.mem_append_left _ hx))) | (simp; simp at hx; simp [hx]))
  obtain ⟨a0, rfl, _, _, w0⟩ := open_int Try.underlying3 o0 h0
  obtain ⟨ao1, len1, c1, rfl, hm1, xs1, hx1, hr1⟩ := open_meetings o1 h1
  obtain ⟨x2, y2, z2, rfl⟩ := open_meeting o2 h2
  refine ((fun n ao len c x y z W _ _ hm xs hx hr => encodes_any n ao len c x y z W hm xs hx hr) a0 ao1 len1 c1 x2 y2 z2 W (of_wf w0).1 (of_wf w0).2 hm1 xs1 hx1 hr1).mono fun e W' ⟨he, hg⟩ => ?_
  subst he
  exact ⟨_, rfl, _, _, _, _, _, _, hW', trodAll_cons_mk (shut_bool Try.underlying4 _) trodAll_mk0, (trodAll_cons_mk (Below.trod laidOut (by kernel_rfl) (of_decide_eq_true (by kernel_rfl)) g0 hg l0) (trodAll_cons_mk (Below.trod laidOut (by kernel_rfl) (of_decide_eq_true (by kernel_rfl)) g1 hg l1) (trodAll_cons_mk (Below.trod laidOut (by kernel_rfl) (of_decide_eq_true (by kernel_rfl)) g2 hg l2) trodAll_mk0))), rfl, hg.frame _, fun h => by cases h⟩

theorem over : Rows.meetingstatsEncodesRow.holds Try.pinned (OpenSpec.ofChange Rows.meetingstatsEncodesSpec) :=
  OpenClaim.holds_of_wide 9 Try.f9 rfl rfl rfl rfl rfl rfl rfl ⟨rfl, rfl, rfl, rfl, rfl⟩ rfl rfl rfl rfl rfl (by kernel_rfl) Try.func9 (by kernel_rfl)
    (of_decide_eq_true (by kernel_rfl)) (by unfold Func.isWrapper; first | (rw [if_pos (by decide +kernel)]; kernel_rfl) | (rw [if_neg (by decide +kernel)]; exact ⟨rfl, rfl⟩))
    (fun os started H enc _ => lifted os started H enc)

theorem proved : Rows.MeetingstatsEncodesSaid :=
  over
#print axioms proved
end Go.Proofs.Ytednejckcdiebaa.meetingstatsEncodes
