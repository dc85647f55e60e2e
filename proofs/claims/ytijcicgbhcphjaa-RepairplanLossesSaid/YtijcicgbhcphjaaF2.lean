/- Check. -/
import Derived.Test.YtijcicgbhcphjaaF1
namespace Go.Proofs.Ytijcicgbhcphjaa
open Go.RowKit Go.Lib Go.ChangeMaps
set_option linter.unusedSimpArgs false

def checkB (V : Vp) (ls : List Int) (js : List Jp) : Bool := decide (Fits V ls) && (doAllP (goneB V.mem ls) V js).isSome

theorem VwAt.val {w : World} {v : Value} {V : Vp} (h : VwAt w v V) : ∃ ma mc ha hc ra rl rc wa wl wc, v = .agg #[.slice ma V.mem.length mc, .slice ha V.held.length hc, .slice ra rl rc, .slice wa wl wc] := by
  obtain ⟨mv, hv, rv, wv, rfl, hM, hH, hR, hW⟩ := h
  obtain ⟨ma, mc, _, _, rfl, -⟩ := hM.at
  obtain ⟨ha, hc, _, _, rfl, -⟩ := hH.at
  obtain ⟨ra, rc, _, _, rfl, -⟩ := hR.at
  obtain ⟨wa, wc, _, _, rfl, -⟩ := hW.at
  exact ⟨_, _, _, _, _, _, _, _, _, _, rfl⟩

set_option maxRecDepth 100000 in
set_option maxHeartbeats 2000000 in
theorem check_any (v lv jv : Value) (V : Vp) (ls : List Int) (js : List Jp) (w : World) (hv : VwAt w v V) (hl : ReadsI w lv ls) (hj : ReadsJ w jv js) (hrf : ∀ h ∈ V.held, h.refs.length ≤ 1000) :
    Calls Try.prog 20 #[v, lv, jv] w fun e w' => e = .returned (.bool (checkB V ls js)) ∧ Below w.heap.size w w' := by
  have hA := fun o => (Below.refl w.heap.size w).alloc (Nat.le_refl _) o
  have CR := Lib.hid (fun o => read_any v lv V ls (w.alloc o) (hv.below (hA o)) (hl.below (hA o)) hrf)
  have HJ := Lib.hid (fun o => hj.below (hA o))
  have HA := Lib.hid hA
  obtain ⟨ma, mc, ha, hc, ra, rl, rc, wa, wl, wc, rfl⟩ := hv.val
  obtain ⟨la, lc, _, _, rfl, -⟩ := hl.at
  obtain ⟨ja, jc, _, _, rfl, -⟩ := hj.at
  clear hA hv hl hj
  obtain ⟨r, hr⟩ : ∃ r, r = checkB V ls js := ⟨_, rfl⟩
  rw [← hr]
  have HR := Lib.hid (show r = (decide (Fits V ls) && (doAllP (goneB V.mem ls) V js).isSome) from hr)
  clear hr
  generalize V.mem.length = ml at *
  generalize V.held.length = hl at *
  generalize ls.length = ll at *
  generalize js.length = jl at *
  go_enter Try.func20, Try.ntmps20
  go_wp2_with fail
  refine (CR.out _).mono ?_
  rintro e w3 ⟨hb3, hcase⟩
  have hb1 := HA.out (.cells #[.slice ma ml mc, .slice ha hl hc, .slice ra rl rc, .slice wa wl wc] 26)
  have hbw := hb1.trans (hb3.mono hb1.size)
  rcases hcase with ⟨hno, rfl⟩ | ⟨hfit, p, rfl, hp, hst⟩
  · obtain rfl : r = false := by rw [HR.out, decide_eq_false hno]; rfl
    clear hno
    go_wp2
    go_ret
    exact ⟨rfl, hbw⟩
  · have CD := Lib.hid (doAll_any (.slice ja jl jc) js _ w3 rfl hb3 hst (HJ.out _) (Nat.le_refl _))
    have hr2 : r = (doAllP (goneB V.mem ls) V js).isSome := by rw [HR.out, decide_eq_true hfit]; rfl
    rw [← hr2] at CD
    clear hst hfit hr2 hb3
    go_wp2_with fail
    refine CD.out.mono ?_
    rintro e w4 ⟨rfl, hk4, -⟩
    go_wp2
    go_ret
    exact ⟨rfl, hbw.trans (hk4.1.mono hb1.size)⟩

end Go.Proofs.Ytijcicgbhcphjaa
