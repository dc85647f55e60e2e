/- Arguments that are read: a slice of bytes; the law MeetingstatsDecodes, all its cases. -/
import Derived.Test.YtednejckcdiebaaO
import Derived.Test.YtednejckcdiebaaN13
import Derived.ChangeSlices
namespace Go.Proofs.Ytednejckcdiebaa
open Go.ChangeShapes Go.WideShapes Go.ChangeAt Go.RowKit Go.Deep

theorem byte_wf {x : Int} (h : (Lit.int .u8 x).wf = true) : 0 ≤ x ∧ x ≤ 255 := by
  have h1 : IntKind.u8.min = 0 := rfl
  have h2 : IntKind.u8.max = 255 := rfl
  simp only [Lit.wf, Bool.and_eq_true, decide_eq_true_eq] at h
  omega
set_option maxRecDepth 100000 in
/-- An argument that is a slice of bytes. -/
theorem open_bytesarg {H : Type} {enc : TypeId × Value → H} {w : World} {spare : Nat → Bool} {held : Bool} {r : Reach} {b0 : Nat} {v : Value} {d : DataW H} {p : List MemPlace} (hv : Value.okWide Try.prog w r b0 56 v) (h : DataW.Trod enc Try.prog w 0 spare held 56 v d p) :
    ∃ ao len c, v = .slice ao len c ∧ len ≤ 9223372036854775807 ∧ ∃ xs : List Int, xs.length = len ∧ Byt xs ∧ (len ≤ 300 → ReadsB w (.slice ao len c) xs) := by
  obtain ⟨a0, len, cap, rfl⟩ := okWide_slice Try.underlying56 hv
  obtain ⟨fuel, hf⟩ := h
  refine ⟨a0, len, cap, rfl, ?_⟩
  rcases open_ints Try.underlying56 Try.underlying5 (by kernel_rfl) hf with ⟨e, _⟩ | ⟨a, len', cap', zs, e, _, hl, hm, hz, _, hc, hw⟩
  · simp [Value.cells] at e
    obtain ⟨rfl, rfl, rfl⟩ := e
    exact ⟨by omega, [], rfl, fun x hx => by simp at hx, fun _ => ⟨none, 0, rfl, by simp, by simp, fun h => by simp at h⟩⟩
  · simp [Value.cells] at e
    obtain ⟨rfl, rfl, rfl⟩ := e
    unfold maxLen at hm
    have hlm : len ≤ zs.length := by rw [hz]; split <;> omega
    have hxl : (zs.take len).length = len := by rw [List.length_take]; omega
    refine ⟨by omega, zs.take len, hxl, fun x hx => byte_wf (hw x (List.mem_of_mem_take hx)), fun h300 => ?_⟩
    refine ⟨some a, cap, by rw [hxl], by omega, by omega, fun h0 => ?_⟩
    obtain ⟨b, o, spot⟩ := a
    have hspot : spot = none := by
      have c0 := hc 0 (by omega)
      have e : (⟨b, o, spot⟩ : Addr).add 0 = ⟨b, o, spot⟩ := by simp [Addr.add]
      rw [e] at c0
      simpa using World.cell?_spot c0
    subst hspot
    refine ⟨b, o, rfl, fun i j hi hj => ?_⟩
    have hj0 : j = 0 := by omega
    subst hj0
    have c1 := hc i (by omega)
    rw [add_plain] at c1
    rw [Nat.mul_one, Nat.add_zero, c1]
    have : (zs.take len).getD i 0 = zs.getD i 0 := getD_take zs 0 len i (by omega)
    show some (Value.int .u8 (zs.getD i 0)) = some (Value.int .u8 ((zs.take len).getD i 0))
    rw [this]

theorem decodes_any (ao : Option Addr) (len c : Nat) (w : World) (hm : len ≤ 9223372036854775807) (xs : List Int) (hx : xs.length = len) (hr : Byt xs ∧ (len ≤ 300 → ReadsB w (.slice ao len c) xs)) :
    Calls Try.prog 10 #[.slice ao len c] w fun e w' => e = .returned (.bool true) ∧ Below w.heap.size w w' := by
  by_cases h : 300 < len
  · exact decodes_long ao len c w h hm
  · exact decodes_fit _ xs w (hr.2 (by omega)) hr.1 (by omega)

end Go.Proofs.Ytednejckcdiebaa
