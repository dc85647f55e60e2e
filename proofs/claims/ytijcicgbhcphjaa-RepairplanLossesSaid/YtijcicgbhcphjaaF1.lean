/- doAll. -/
import Derived.Test.YtijcicgbhcphjaaE4
namespace Go.Proofs.Ytijcicgbhcphjaa
open Go.RowKit Go.Lib Go.ChangeMaps
set_option linter.unusedSimpArgs false

/-- Jobs one after the other, if each is possible. -/
def doAllP (gone : Nat → Bool) : Vp → List Jp → Option Vp
  | V, [] => some V
  | V, j :: r => if possB V gone j = true then doAllP gone (doP V j) r else none

theorem drop_at {α : Type} (xs : List α) (d : α) (i : Nat) (h : i < xs.length) : xs.drop i = xs.getD i d :: xs.drop (i + 1) := by
  rw [getD_at _ _ _ h]
  exact (List.getElem_cons_drop ..).symm

set_option maxRecDepth 100000 in
set_option maxHeartbeats 4000000 in
theorem doAll_any {lo hi p : Nat} {V : Vp} {gone : Nat → Bool} (jv : Value) (js : List Jp) (w0 w : World) (h0 : w0.heap.size = lo) (hb0 : Below lo w0 w) (hst : StAt w lo hi p V gone) (hjs : ReadsJ w0 jv js) (hhi : hi ≤ w.heap.size) :
    Calls Try.prog 56 #[.pointer (some ⟨p, 0, none⟩), jv] w fun e w' => e = .returned (.bool (doAllP gone V js).isSome) ∧ Keep lo hi w w' ∧ ∀ V', doAllP gone V js = some V' → StAt w' lo hi p V' gone := by
  obtain ⟨ja, jc, jb, jo, rfl, jl, jm, jcell⟩ := hjs.at
  have JC := Lib.hid jcell
  clear jcell hjs
  obtain ⟨q, hq⟩ : ∃ q, q = doAllP gone V js := ⟨_, rfl⟩
  rw [← hq]
  have HQ := Lib.hid hq
  clear hq
  subst h0
  have HST := Lib.hid hst
  clear hst
  go_enter Try.func56, Try.ntmps56
  go_wp2
  go_loopw [9, 6] (fun v9 _ wr => ∃ (i : Nat) (Vi : Vp), i ≤ js.length ∧ v9 = .int .i64 i ∧ StAt wr w0.heap.size hi p Vi gone ∧ Keep w0.heap.size hi w wr ∧ q = doAllP gone Vi (js.drop i)) (fun v9 _ _ => js.length - (intOf v9).toNat)
  case atStart => exact ⟨0, V, Nat.zero_le _, rfl, HST.out, Keep.refl _ _ _, by rw [HQ.out, List.drop_zero]⟩
  case round =>
    obtain ⟨i, Vi, hi', rfl, hst, hkeep, hrem⟩ := hrel
    have hbw := hb0.trans hkeep.1
    have zr := hbw.size
    have zk := hkeep.1.size
    have HREM := Lib.hid hrem
    clear hrem HST HQ
    by_cases hlt : i < js.length
    · obtain ⟨e1, e2, e3, fv, e4, e5, e6, hfv⟩ := JC.out i hlt
      subst e1
      have hd : js.drop i = js.getD i default :: js.drop (i + 1) := drop_at js default i hlt
      have hrem2 := HREM.out
      rw [hd] at hrem2
      have hstep : doAllP gone Vi (js.getD i default :: js.drop (i + 1)) = if possB Vi gone (js.getD i default) = true then doAllP gone (doP Vi (js.getD i default)) (js.drop (i + 1)) else none := rfl
      rw [hstep] at hrem2
      have HREM2 := Lib.hid hrem2
      rw [← hbw.cell (p := ⟨jb, _, none⟩) (cell_lt e2)] at e2
      rw [← hbw.cell (p := ⟨jb, _, none⟩) (cell_lt e3)] at e3
      rw [← hbw.cell (p := ⟨jb, _, none⟩) (cell_lt e4)] at e4
      rw [← hbw.cell (p := ⟨jb, _, none⟩) (cell_lt e5)] at e5
      rw [← hbw.cell (p := ⟨jb, _, none⟩) (cell_lt e6)] at e6
      have hfr := hfv.below hbw
      obtain ⟨fa, fc, _, _, rfl, -⟩ := hfv.at
      clear hd hstep hrem2 hfv HREM
      generalize js.getD i default = jj at *
      have hA := fun o => (Below.refl wr.heap.size wr).alloc (Nat.le_refl _) o
      have CP := Lib.hid (fun o => possible_any jj (.slice fa jj.from_.length fc) (wr.alloc o) (hst.below (hA o)) (hfr.below (hA o)))
      have HST := Lib.hid hst
      have CD := Lib.hid (fun W (hW : StAt W w0.heap.size hi p Vi gone) (hp : possB Vi gone jj = true) (h1 : w0.heap.size ≤ W.heap.size) (h2 : hi ≤ W.heap.size) => do_any jj (.slice fa jj.from_.length fc) W hW hp ⟨_, _, _, rfl⟩ h1 h2)
      have hs0 : ∀ o, (wr.alloc o).heap[wr.heap.size]? = some o := fun o => heap_alloc_new _ _
      have HS0 := Lib.hid hs0
      have hA1 := Lib.hid hA
      clear hA hfr hst hs0
      unfold Jp.v at CP CD
      generalize hfl : jj.from_.length = fl at *
      obtain ⟨⟨st, ix⟩, fs, dst, size⟩ := jj
      simp only at e2 e3 e5 e6 CP CD
      generalize hps : possB Vi gone ⟨⟨st, ix⟩, fs, dst, size⟩ = ps at *
      go_wp2_with fail
      refine (CP.out _).mono ?_
      rintro e w3 ⟨rfl, hb3⟩
      have hwr3 := (hA1.out (.cells #[.string st, .int .i64 ix, .slice fa fl fc, .int .i64 dst, .int .i64 size] 47)).trans (hb3.mono (hA1.out _).size)
      have hk3 : Keep w0.heap.size hi w w3 := hkeep.trans (Keep.of_below hwr3 zr)
      have hblk := (hb3.block wr.heap.size (by rw [World.size_alloc]; omega)).trans (HS0.out (.cells #[.string st, .int .i64 ix, .slice fa fl fc, .int .i64 dst, .int .i64 size] 47))
      have hst3 := HST.out.below hwr3
      have g0 := cell_of_row _ _ 0 _ _ _ hblk
      have g1 := cell_of_row _ _ 1 _ _ _ hblk
      have g2 := cell_of_row _ _ 2 _ _ _ hblk
      have g3 := cell_of_row _ _ 3 _ _ _ hblk
      have g4 := cell_of_row _ _ 4 _ _ _ hblk
      have z3 := hwr3.size
      clear hb3 hwr3 hblk e2 e3 e4 e5 e6 CP
      cases ps
      · have hnone : q = none := by rw [HREM2.out, if_neg (by simp)]
        subst hnone
        clear g0 g1 g2 g3 g4
        go_wp2
        go_ret
        exact ⟨rfl, hk3, fun V' h => by cases h⟩
      · have hq2 : q = doAllP gone (doP Vi ⟨⟨st, ix⟩, fs, dst, size⟩) (js.drop (i + 1)) := by rw [HREM2.out, if_pos rfl]
        have HQ2 := Lib.hid hq2
        have CD2 := Lib.hid (CD.out w3 hst3 rfl (by omega) (by omega))
        clear hq2 HREM2 CD hst3
        go_wp2_with fail
        refine CD2.out.mono ?_
        rintro e w4 ⟨rfl, hst4, hk4⟩
        go_wp2
        go_roundw
        case rel => exact ⟨i + 1, _, by omega, by go_num, hst4, hk3.trans hk4, HQ2.out⟩
        case measure => simp [intOf]; omega
    · have hjl : i = js.length := by omega
      subst hjl
      have hq2 := HREM.out
      rw [List.drop_length] at hq2
      have hq3 : q = some Vi := hq2
      subst hq3
      go_wp2
      go_ret
      exact ⟨rfl, hkeep, fun V' h => by cases h; exact hst⟩

end Go.Proofs.Ytijcicgbhcphjaa
