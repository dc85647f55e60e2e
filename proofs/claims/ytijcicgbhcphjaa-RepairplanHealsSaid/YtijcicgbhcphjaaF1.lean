/- doAll. -/
import Derived.Test.YtijcicgbhcphjaaE1
namespace Go.Proofs.Ytijcicgbhcphjaa
open Go.RowKit Go.Lib Go.ChangeMaps
set_option linter.unusedSimpArgs false

/-- Jobs one after the other, if each is possible. -/
def doAllP (gone : Nat → Bool) : Vp → List Jp → Option Vp
  | V, [] => some V
  | V, j :: r => if possB V gone j = true then doAllP gone (doP V j) r else none

theorem drop_at {α : Type} (xs : List α) (d : α) (i : Nat) (h : i < xs.length) : xs.drop i = xs.getD i d :: xs.drop (i + 1) := by
  rw [getD_at _ _ _ h]
  exact (List.getElem_cons_drop ..).symm

set_option maxRecDepth 100000 in
set_option maxHeartbeats 4000000 in
theorem doAll_any {lo hi p : Nat} {V : Vp} {gone : Nat → Bool} (jv : Value) (js : List Jp) (w0 w : World) (h0 : w0.heap.size = lo) (hb0 : Below lo w0 w) (hst : StAt w lo hi p V gone) (hjs : ReadsJ w0 jv js) (hhi : hi ≤ w.heap.size) :
    Calls Try.prog 56 #[.pointer (some ⟨p, 0, none⟩), jv] w fun e w' => e = .returned (.bool (doAllP gone V js).isSome) ∧ Keep lo hi w w' ∧ ∀ V', doAllP gone V js = some V' → StAt w' lo hi p V' gone := by
  obtain ⟨ja, jc, jb, jo, rfl, jl, jm, jcell⟩ := hjs.at
  have JC := Lib.hid jcell
  clear jcell hjs
  obtain ⟨q, hq⟩ : ∃ q, q = doAllP gone V js := ⟨_, rfl⟩
  rw [← hq]
  have HQ := Lib.hid hq
  clear hq
  subst h0
  have HST := Lib.hid hst
  clear hst
  go_enter Try.func56, Try.ntmps56
  go_wp2
  go_loopw [9, 6] (fun v9 _ wr => ∃ (i : Nat) (Vi : Vp), i ≤ js.length ∧ v9 = .int .i64 i ∧ StAt wr w0.heap.size hi p Vi gone ∧ Keep w0.heap.size hi w wr ∧ q = doAllP gone Vi (js.drop i)) (fun v9 _ _ => js.length - (intOf v9).toNat)
  case atStart => exact ⟨0, V, Nat.zero_le _, rfl, HST.out, Keep.refl _ _ _, by rw [HQ.out, List.drop_zero]⟩
  case round =>
    obtain ⟨i, Vi, hi', rfl, hst, hkeep, hrem⟩ := hrel
    have hbw := hb0.trans hkeep.1
    have zr := hbw.size
    have zk := hkeep.1.size
    have HREM := Lib.hid hrem
    clear hrem HST HQ
    by_cases hlt : i < js.length
    · obtain ⟨e1, e2, e3, fv, e4, e5, e6, hfv⟩ := JC.out i hlt
      subst e1
      have hd : js.drop i = js.getD i default :: js.drop (i + 1) := drop_at js default i hlt
      have hrem2 := HREM.out
      rw [hd] at hrem2
      have hstep : doAllP gone Vi (js.getD i default :: js.drop (i + 1)) = if possB Vi gone (js.getD i default) = true then doAllP gone (doP Vi (js.getD i default)) (js.drop (i + 1)) else none := rfl
      rw [hstep] at hrem2
      have HREM2 := Lib.hid hrem2
      rw [← hbw.cell (p := ⟨jb, _, none⟩) (cell_lt e2)] at e2
      rw [← hbw.cell (p := ⟨jb, _, none⟩) (cell_lt e3)] at e3
      rw [← hbw.cell (p := ⟨jb, _, none⟩) (cell_lt e4)] at e4
      rw [← hbw.cell (p := ⟨jb, _, none⟩) (cell_lt e5)] at e5
      rw [← hbw.cell (p := ⟨jb, _, none⟩) (cell_lt e6)] at e6
      have hfr := hfv.below hbw
      obtain ⟨fa, fc, _, _, rfl, -⟩ := hfv.at
      clear hd hstep hrem2 hfv HREM
      generalize js.getD i default = jj at *
      have hA := fun o => (Below.refl wr.heap.size wr).alloc (Nat.le_refl _) o
      have CP := Lib.hid (fun o => possible_any jj (.slice fa jj.from_.length fc) (wr.alloc o) (hst.below (hA o)) (hfr.below (hA o)))
      have HST := Lib.hid hst
      have CD := Lib.hid (fun W (hW : StAt W w0.heap.size hi p Vi gone) (hp : possB Vi gone jj = true) (h1 : w0.heap.size ≤ W.heap.size) (h2 : hi ≤ W.heap.size) => do_any jj (.slice fa jj.from_.length fc) W hW hp ⟨_, _, _, rfl⟩ h1 h2)
      have hs0 : ∀ o, (wr.alloc o).heap[wr.heap.size]? = some o := fun o => heap_alloc_new _ _
      have HS0 := Lib.hid hs0
      have hA1 := Lib.hid hA
      clear hA hfr hst hs0
      unfold Jp.v at CP CD
      generalize hfl : jj.from_.length = fl at *
      obtain ⟨⟨st, ix⟩, fs, dst, size⟩ := jj
      simp only at e2 e3 e5 e6 CP CD
      generalize hps : possB Vi gone ⟨⟨st, ix⟩, fs, dst, size⟩ = ps at *
      go_wp2_with fail
      refine (CP.out _).mono ?_
      rintro e w3 ⟨rfl, hb3⟩
      have hwr3 := (hA1.out (.cells #[.string st, .int .i64 ix, .slice fa fl fc, .int .i64 dst, .int .i64 size] 47)).trans (hb3.mono (hA1.out _).size)
      have hk3 : Keep w0.heap.size hi w w3 := hkeep.trans (Keep.of_below hwr3 zr)
      have hblk := (hb3.block wr.heap.size (by rw [World.size_alloc]; omega)).trans (HS0.out (.cells #[.string st, .int .i64 ix, .slice fa fl fc, .int .i64 dst, .int .i64 size] 47))
      have hst3 := HST.out.below hwr3
      have g0 := cell_of_row _ _ 0 _ _ _ hblk
      have g1 := cell_of_row _ _ 1 _ _ _ hblk
      have g2 := cell_of_row _ _ 2 _ _ _ hblk
      have g3 := cell_of_row _ _ 3 _ _ _ hblk
      have g4 := cell_of_row _ _ 4 _ _ _ hblk
      have z3 := hwr3.size
      clear hb3 hwr3 hblk e2 e3 e4 e5 e6 CP
      cases ps
      · have hnone : q = none := by rw [HREM2.out, if_neg (by simp)]
        subst hnone
        clear g0 g1 g2 g3 g4
        go_wp2
        go_ret
        exact ⟨rfl, hk3, fun V' h => by cases h⟩
      · have hq2 : q = doAllP gone (doP Vi ⟨⟨st, ix⟩, fs, dst, size⟩) (js.drop (i + 1)) := by rw [HREM2.out, if_pos rfl]
        have HQ2 := Lib.hid hq2
        have CD2 := Lib.hid (CD.out w3 hst3 rfl (by omega) (by omega))
        clear hq2 HREM2 CD hst3
        go_wp2_with fail
        refine CD2.out.mono ?_
        rintro e w4 ⟨rfl, hst4, hk4⟩
        go_wp2
        go_roundw
        case rel => exact ⟨i + 1, _, by omega, by go_num, hst4, hk3.trans hk4, HQ2.out⟩
        case measure => simp [intOf]; omega
    · have hjl : i = js.length := by omega
      subst hjl
      have hq2 := HREM.out
      rw [List.drop_length] at hq2
      have hq3 : q = some Vi := hq2
      subst hq3
      go_wp2
      go_ret
      exact ⟨rfl, hkeep, fun V' h => by cases h; exact hst⟩

end Go.Proofs.Ytijcicgbhcphjaa

/- Check. -/
namespace Go.Proofs.Ytijcicgbhcphjaa
open Go.RowKit Go.Lib Go.ChangeMaps
set_option linter.unusedSimpArgs false

def checkB (V : Vp) (ls : List Int) (js : List Jp) : Bool := decide (Fits V ls) && (doAllP (goneB V.mem ls) V js).isSome

theorem VwAt.val {w : World} {v : Value} {V : Vp} (h : VwAt w v V) : ∃ ma mc ha hc ra rl rc wa wl wc, v = .agg #[.slice ma V.mem.length mc, .slice ha V.held.length hc, .slice ra rl rc, .slice wa wl wc] := by
  obtain ⟨mv, hv, rv, wv, rfl, hM, hH, hR, hW⟩ := h
  obtain ⟨ma, mc, _, _, rfl, -⟩ := hM.at
  obtain ⟨ha, hc, _, _, rfl, -⟩ := hH.at
  obtain ⟨ra, rc, _, _, rfl, -⟩ := hR.at
  obtain ⟨wa, wc, _, _, rfl, -⟩ := hW.at
  exact ⟨_, _, _, _, _, _, _, _, _, _, rfl⟩

set_option maxRecDepth 100000 in
set_option maxHeartbeats 2000000 in
theorem check_any (v lv jv : Value) (V : Vp) (ls : List Int) (js : List Jp) (w : World) (hv : VwAt w v V) (hl : ReadsI w lv ls) (hj : ReadsJ w jv js) (hrf : ∀ h ∈ V.held, h.refs.length ≤ 1000) :
    Calls Try.prog 20 #[v, lv, jv] w fun e w' => e = .returned (.bool (checkB V ls js)) ∧ Below w.heap.size w w' := by
  have hA := fun o => (Below.refl w.heap.size w).alloc (Nat.le_refl _) o
  have CR := Lib.hid (fun o => read_any v lv V ls (w.alloc o) (hv.below (hA o)) (hl.below (hA o)) hrf)
  have HJ := Lib.hid (fun o => hj.below (hA o))
  have HA := Lib.hid hA
  obtain ⟨ma, mc, ha, hc, ra, rl, rc, wa, wl, wc, rfl⟩ := hv.val
  obtain ⟨la, lc, _, _, rfl, -⟩ := hl.at
  obtain ⟨ja, jc, _, _, rfl, -⟩ := hj.at
  clear hA hv hl hj
  obtain ⟨r, hr⟩ : ∃ r, r = checkB V ls js := ⟨_, rfl⟩
  rw [← hr]
  have HR := Lib.hid (show r = (decide (Fits V ls) && (doAllP (goneB V.mem ls) V js).isSome) from hr)
  clear hr
  generalize V.mem.length = ml at *
  generalize V.held.length = hl at *
  generalize ls.length = ll at *
  generalize js.length = jl at *
  go_enter Try.func20, Try.ntmps20
  go_wp2_with fail
  refine (CR.out _).mono ?_
  rintro e w3 ⟨hb3, hcase⟩
  have hb1 := HA.out (.cells #[.slice ma ml mc, .slice ha hl hc, .slice ra rl rc, .slice wa wl wc] 26)
  have hbw := hb1.trans (hb3.mono hb1.size)
  rcases hcase with ⟨hno, rfl⟩ | ⟨hfit, p, rfl, hp, hst⟩
  · obtain rfl : r = false := by rw [HR.out, decide_eq_false hno]; rfl
    clear hno
    go_wp2
    go_ret
    exact ⟨rfl, hbw⟩
  · have CD := Lib.hid (doAll_any (.slice ja jl jc) js _ w3 rfl hb3 hst (HJ.out _) (Nat.le_refl _))
    have hr2 : r = (doAllP (goneB V.mem ls) V js).isSome := by rw [HR.out, decide_eq_true hfit]; rfl
    rw [← hr2] at CD
    clear hst hfit hr2 hb3
    go_wp2_with fail
    refine CD.out.mono ?_
    rintro e w4 ⟨rfl, hk4, -⟩
    go_wp2
    go_ret
    exact ⟨rfl, hbw.trans (hk4.1.mono hb1.size)⟩

end Go.Proofs.Ytijcicgbhcphjaa

/- Least. -/
namespace Go.Proofs.Ytijcicgbhcphjaa
open Go.RowKit Go.Lib Go.ChangeMaps
set_option linter.unusedSimpArgs false

def leastTo (V : Vp) (gone : Nat → Bool) : Nat → Int
  | 0 => 16
  | m + 1 => if spareI V gone m < leastTo V gone m then spareI V gone m else leastTo V gone m
def leastI (V : Vp) (gone : Nat → Bool) : Int := leastTo V gone V.held.length

set_option maxRecDepth 100000 in
set_option maxHeartbeats 2000000 in
theorem least_any (v lv : Value) (V : Vp) (ls : List Int) (w : World) (hv : VwAt w v V) (hl : ReadsI w lv ls) (hrf : ∀ h ∈ V.held, h.refs.length ≤ 1000) :
    Calls Try.prog 25 #[v, lv] w fun e w' => e = .returned (if Fits V ls then .tuple #[.int .i64 (leastI V (goneB V.mem ls)), .int .i64 0] else .tuple #[.int .i64 0, .int .i64 1]) ∧ Below w.heap.size w w' := by
  have hA := fun o => (Below.refl w.heap.size w).alloc (Nat.le_refl _) o
  have CR := Lib.hid (fun o => read_any v lv V ls (w.alloc o) (hv.below (hA o)) (hl.below (hA o)) hrf)
  have HA := Lib.hid hA
  obtain ⟨ma, mc, ha, hc, ra, rl, rc, wa, wl, wc, rfl⟩ := hv.val
  obtain ⟨la, lc, _, _, rfl, -⟩ := hl.at
  clear hA hv hl
  obtain ⟨nh, hnh⟩ : ∃ nh, nh = V.held.length := ⟨_, rfl⟩
  have HNH := Lib.hid hnh
  rw [← hnh] at CR ⊢
  clear hnh
  generalize V.mem.length = ml at *
  generalize ls.length = ll at *
  obtain ⟨R, hR⟩ : ∃ R, R = (if Fits V ls then Value.tuple #[.int .i64 (leastI V (goneB V.mem ls)), .int .i64 0] else .tuple #[.int .i64 0, .int .i64 1]) := ⟨_, rfl⟩
  rw [← hR]
  have HR := Lib.hid hR
  clear hR
  go_enter Try.func25, Try.ntmps25
  go_wp2_with fail
  refine (CR.out _).mono ?_
  rintro e w3 ⟨hb3, hcase⟩
  have hb1 := HA.out (.cells #[.slice ma ml mc, .slice ha nh hc, .slice ra rl rc, .slice wa wl wc] 26)
  have hbw := hb1.trans (hb3.mono hb1.size)
  rcases hcase with ⟨hno, rfl⟩ | ⟨hfit, p, rfl, hp, hst⟩
  · have HNO := Lib.hid hno
    clear hno
    go_wp2
    refine bodyPost_ret (results_tmp2 Try.results25 _ _ _) rfl ?_
    exact ⟨by rw [HR.out, if_neg HNO.out]; rfl, hbw⟩
  · have HFIT := Lib.hid hfit
    have h256 : nh ≤ 256 := by rw [HNH.out]; exact hfit.1.1.2
    have HST := Lib.hid hst
    obtain ⟨mv, hv, rv, wv, gv, mp, c0, c1, c2, c3, c4, c5, hM, hH, hR, hW, hG, hmp⟩ := hst.at
    obtain ⟨xa, xc, _, _, rfl, -⟩ := hH.at
    have plt := cell_lt c1
    rw [← HNH.out] at c1
    clear hfit hst hb3 hM hH hR hW hG hmp c0 c2 c3 c4 c5
    go_wp2
    go_loopw [25, 8, 9] (fun v25 v8 _ wr => ∃ j : Nat, j ≤ nh ∧ v25 = .int .i64 j ∧ v8 = .int .i64 (leastTo V (goneB V.mem ls) j) ∧ Below w3.heap.size w3 wr) (fun v25 _ _ _ => nh - (intOf v25).toNat)
    case atStart => exact ⟨0, Nat.zero_le _, rfl, rfl, Below.refl _ _⟩
    case round =>
      obtain ⟨j, hj, rfl, rfl, hbel⟩ := hrel
      have hb9 := hbw.trans (hbel.mono hbw.size)
      by_cases hlt : j < nh
      · have CS := Lib.hid (spare_any j wr (HST.out.below hbel) (by rw [← HNH.out]; exact hlt))
        have HLE := Lib.hid (show leastTo V (goneB V.mem ls) (j + 1) = if spareI V (goneB V.mem ls) j < leastTo V (goneB V.mem ls) j then spareI V (goneB V.mem ls) j else leastTo V (goneB V.mem ls) j from rfl)
        generalize spareI V (goneB V.mem ls) j = sp at *
        generalize leastTo V (goneB V.mem ls) j = le at *
        go_wp2_with fail
        refine CS.out.mono ?_
        rintro e w4 ⟨rfl, hb4⟩
        go_wp2
        go_roundw
        case rel => exact ⟨j + 1, by omega, by go_num, by rw [HLE.out], hbel.trans (hb4.mono hbel.size)⟩
        case measure => simp [intOf]; omega
      · have hjl : j = nh := by omega
        subst hjl
        go_wp2
        refine bodyPost_ret (results_tmp2 Try.results25 _ _ _) rfl ?_
        exact ⟨by rw [HR.out, if_pos HFIT.out]; unfold leastI; rw [← HNH.out]; rfl, hb9⟩

end Go.Proofs.Ytijcicgbhcphjaa

/- Damaged. -/
namespace Go.Proofs.Ytijcicgbhcphjaa
open Go.RowKit Go.Lib Go.ChangeMaps
set_option linter.unusedSimpArgs false

def pcCell (ps : List Pc) (i j : Nat) : Value := match j with | 0 => .string (ps.getD i default).st | _ => .int .i64 (ps.getD i default).ix
def OwnP (w : World) (base : Nat) (v : Value) (ps : List Pc) : Prop := Own w base 45 v 2 ps.length (pcCell ps)
theorem OwnP.app {V : World} {base : Nat} {v : Value} {ps : List Pc} (h : OwnP V base v ps) (y : Pc) (hn : ps.length ≤ 1000000) (hbase : base ≤ V.heap.size) :
    ∃ v' w', (Builtin.append_ #[53, 53] 53 #[v, .slice (some ⟨V.heap.size, 0, none⟩) 1 1]).run Try.prog (V.alloc (.cells #[.string y.st, .int .i64 y.ix] 45)) = .ok v' w' ∧ OwnP w' base v' (ps ++ [y]) ∧ Below base V w' ∧ (∀ b, b < V.heap.size → v.ownBlock ≠ some b → w'.heap[b]? = V.heap[b]?) := by
  have h' : Own V base 45 v 2 ps.length (pcCell (ps ++ [y])) := Own.congr h fun i j hi hj => by unfold pcCell; rw [getD_at _ _ _ hi, getD_at _ _ _ (by rw [List.length_append]; omega), List.getElem_append_left hi]
  obtain ⟨v3, w3, r3, o1, o2, o3, _⟩ := Own.append (V := V) (t := 53) (e := 45) (z := .agg #[.string ⟨#[]⟩, .int .i64 0]) (k := 2) (bytes := 24) Try.underlying53 (by kernel_rfl) rfl (by omega) (by omega) h' 53 [.string y.st, .int .i64 y.ix] rfl (fun q hq => by
    match q, hq with
    | 0, _ => simp [pcCell, List.getD]
    | 1, _ => simp [pcCell, List.getD]) (by simp [Value.oneCell']) (by omega) hbase
  refine ⟨v3, w3, r3, ?_, o2, o3⟩
  unfold OwnP
  rw [List.length_append]
  exact o1

/-- A device that is gone. -/
def badB (gone : Nat → Bool) (x : Int) : Bool := decide (0 ≤ x) && gone x.toNat
def dmAt (gone : Nat → Bool) (id : ByteArray) (zs : List Int) (n : Nat) : List Pc := ((List.range n).filter fun i => badB gone (zs.getD i 0)).map fun i : Nat => ⟨id, i⟩
theorem dmAt_succ (gone : Nat → Bool) (id : ByteArray) (zs : List Int) (n : Nat) : dmAt gone id zs (n + 1) = dmAt gone id zs n ++ if badB gone (zs.getD n 0) = true then [⟨id, n⟩] else [] := by
  unfold dmAt
  rw [List.range_succ, List.filter_append, List.map_append]
  simp only [List.filter_cons, List.filter_nil]
  cases badB gone (zs.getD n 0) <;> rfl
theorem dmAt_len (gone : Nat → Bool) (id : ByteArray) (zs : List Int) (n : Nat) : (dmAt gone id zs n).length ≤ n := by
  unfold dmAt
  rw [List.length_map]
  exact Nat.le_trans (List.length_filter_le _ _) (by simp)
def dmTo (gone : Nat → Bool) (hs : List Hp) : Nat → List Pc
  | 0 => []
  | m + 1 => dmTo gone hs m ++ dmAt gone (hs.getD m default).id (hs.getD m default).at_ (hs.getD m default).at_.length
theorem dmTo_len (gone : Nat → Bool) (hs : List Hp) (h16 : ∀ k, k < hs.length → (hs.getD k default).at_.length ≤ 16) : ∀ m, m ≤ hs.length → (dmTo gone hs m).length ≤ 16 * m
  | 0, _ => by simp [dmTo]
  | m + 1, hm => by
    have h1 := dmTo_len gone hs h16 m (by omega)
    have h2 := dmAt_len gone (hs.getD m default).id (hs.getD m default).at_ (hs.getD m default).at_.length
    have h3 := h16 m (by omega)
    unfold dmTo
    rw [List.length_append]
    omega

set_option maxRecDepth 100000 in
set_option maxHeartbeats 4000000 in
theorem damaged_any (v lv : Value) (V : Vp) (ls : List Int) (w : World) (hv : VwAt w v V) (hl : ReadsI w lv ls) (hrf : ∀ h ∈ V.held, h.refs.length ≤ 1000) :
    Calls Try.prog 21 #[v, lv] w fun e w' => Below w.heap.size w w' ∧ ((¬ Fits V ls ∧ e = .returned (.tuple #[.slice none 0 0, .int .i64 1])) ∨
      (Fits V ls ∧ ∃ u, e = .returned (.tuple #[u, .int .i64 0]) ∧ OwnP w' w.heap.size u (dmTo (goneB V.mem ls) V.held V.held.length))) := by
  have hA := fun o => (Below.refl w.heap.size w).alloc (Nat.le_refl _) o
  have CR := Lib.hid (fun o => read_any v lv V ls (w.alloc o) (hv.below (hA o)) (hl.below (hA o)) hrf)
  have HA := Lib.hid hA
  obtain ⟨ma, mc, ha, hc, ra, rl, rc, wa, wl, wc, rfl⟩ := hv.val
  obtain ⟨la, lc, _, _, rfl, -⟩ := hl.at
  clear hA hv hl
  obtain ⟨nh, hnh⟩ : ∃ nh, nh = V.held.length := ⟨_, rfl⟩
  have HNH := Lib.hid hnh
  rw [← hnh] at CR ⊢
  clear hnh
  obtain ⟨ml, hml⟩ : ∃ ml, ml = V.mem.length := ⟨_, rfl⟩
  have HML := Lib.hid hml
  rw [← hml] at CR ⊢
  clear hml
  generalize ls.length = ll at *
  go_enter Try.func21, Try.ntmps21
  go_wp2_with fail
  refine (CR.out _).mono ?_
  rintro e w3 ⟨hb3, hcase⟩
  have hb1 := HA.out (.cells #[.slice ma ml mc, .slice ha nh hc, .slice ra rl rc, .slice wa wl wc] 26)
  have hbw := hb1.trans (hb3.mono hb1.size)
  rcases hcase with ⟨hno, rfl⟩ | ⟨hfit, p, rfl, hp, hst⟩
  · have HNO := Lib.hid hno
    clear hno
    go_wp2
    refine bodyPost_ret (results_tmp2 Try.results21 _ _ _) rfl ?_
    exact ⟨hbw, .inl ⟨HNO.out, rfl⟩⟩
  · have HFIT := Lib.hid hfit
    have h256 : nh ≤ 256 := by rw [HNH.out]; exact hfit.1.1.2
    have hsm := hfit.1.small.2.2.2.2
    have HSM := Lib.hid hsm
    have h16 := Lib.hid (show ∀ k, k < V.held.length → (V.held.getD k default).at_.length ≤ 16 from fun k hk => (hsm k hk).at_small.1)
    obtain ⟨mv, hv, rv, wv, gv, mp, c0, c1, c2, c3, c4, c5, hM, hH, hR, hW, hG, hmp⟩ := hst.at
    obtain ⟨xa, xc, xb, xo, rfl, xl, xm, xcell⟩ := hH.at
    obtain ⟨ga, gc, gb, go, rfl, gl, gm, gcell⟩ := hG.at
    rw [← HNH.out] at c1 xl xm
    rw [← HML.out] at c4 gl gm
    have XC := Lib.hid xcell
    have GC := Lib.hid gcell
    clear hfit hst hb3 hM hH hR hW hG hmp c0 c2 c3 c5 xcell gcell hsm
    go_wp2
    go_loopw [28, 8] (fun v28 v8 wr => ∃ j : Nat, j ≤ nh ∧ v28 = .int .i64 j ∧ OwnP wr w3.heap.size v8 (dmTo (goneB V.mem ls) V.held j) ∧ Below w3.heap.size w3 wr) (fun v28 _ _ => nh - (intOf v28).toNat)
    case atStart => exact ⟨0, Nat.zero_le _, rfl, Own.nil _ _ _ _ _, Below.refl _ _⟩
    case round =>
      obtain ⟨j, hj, rfl, hown, hbel⟩ := hrel
      have hb9 := hbw.trans (hbel.mono hbw.size)
      have HO := Lib.hid hown
      clear hown
      by_cases hlt : j < nh
      · have hjl : j < V.held.length := by rw [← HNH.out]; exact hlt
        obtain ⟨e1, e2, e3, e4, e5, e6, xr, av, e7, e8, hrr, hra⟩ := XC.out j hjl
        subst e1
        obtain ⟨qa, qc, _, _, rfl, -⟩ := hrr.at
        obtain ⟨aa, ac, ab, af, rfl, al, am, acell⟩ := hra.at
        have AC := Lib.hid acell
        have hok := HSM.out j hjl
        have A8 := Lib.hid (show ∀ x ∈ (V.held.getD j default).at_, x = -1 ∨ (0 ≤ x ∧ x < V.mem.length) from hok.2.2.2.2.2.2)
        rw [← HML.out] at A8
        have a16 := hok.at_small.1
        rw [← hbel.cell (p := ⟨xb, _, none⟩) (cell_lt e2)] at e2
        rw [← hbel.cell (p := ⟨xb, _, none⟩) (cell_lt e3)] at e3
        rw [← hbel.cell (p := ⟨xb, _, none⟩) (cell_lt e4)] at e4
        rw [← hbel.cell (p := ⟨xb, _, none⟩) (cell_lt e5)] at e5
        rw [← hbel.cell (p := ⟨xb, _, none⟩) (cell_lt e6)] at e6
        rw [← hbel.cell (p := ⟨xb, _, none⟩) (cell_lt e7)] at e7
        rw [← hbel.cell (p := ⟨xb, _, none⟩) (cell_lt e8)] at e8
        have hdl := dmTo_len (goneB V.mem ls) V.held h16.out j (by omega)
        have HST := Lib.hid (show dmTo (goneB V.mem ls) V.held (j + 1) = dmTo (goneB V.mem ls) V.held j ++ dmAt (goneB V.mem ls) (V.held.getD j default).id (V.held.getD j default).at_ (V.held.getD j default).at_.length from rfl)
        clear hrr hra acell hok hjl
        generalize dmTo (goneB V.mem ls) V.held j = ds at *
        generalize hy : V.held.getD j default = y at *
        obtain ⟨id, vault, block, data, total, refs, zs⟩ := y
        simp only at e2 e3 e4 e5 e6 a16 al am AC A8 HST e7 e8
        generalize refs.length = ql at *
        go_wp2
        generalize hWa : wr.alloc (.cells #[.string id, .int .i64 vault, .int .i64 block, .int .i64 data, .int .i64 total, .slice qa ql qc, .slice aa zs.length ac] 52) = Wa
        have hAa : Below wr.heap.size wr Wa := by subst hWa; exact (Below.refl _ _).alloc (Nat.le_refl _) _
        have hkb : Wa.heap[wr.heap.size]? = some (.cells #[.string id, .int .i64 vault, .int .i64 block, .int .i64 data, .int .i64 total, .slice qa ql qc, .slice aa zs.length ac] 52 (0, 0)) := by subst hWa; exact heap_alloc_new _ _
        have HO2 := Lib.hid (show OwnP Wa w3.heap.size u8 ds from Own.below HO.out hAa)
        have hbA := hbel.trans (hAa.mono hbel.size)
        clear hWa e2 e3 e4 e5 e6 e7 e8 HO hy
        obtain ⟨wo, hwo⟩ : ∃ wo, wo = wr := ⟨_, rfl⟩
        subst hwo
        go_loopw [35, 8, 11, 12] (fun v35 v8 _ _ wi => ∃ i : Nat, i ≤ zs.length ∧ v35 = .int .i64 i ∧ OwnP wi w3.heap.size v8 (ds ++ dmAt (goneB V.mem ls) id zs i) ∧ Below w3.heap.size w3 wi ∧ wi.heap[wo.heap.size]? = some (.cells #[.string id, .int .i64 vault, .int .i64 block, .int .i64 data, .int .i64 total, .slice qa ql qc, .slice aa zs.length ac] 52 (0, 0))) (fun v35 _ _ _ _ => zs.length - (intOf v35).toNat)
        case atStart => exact ⟨0, Nat.zero_le _, rfl, by simpa [dmAt] using HO2.out, hbA, hkb⟩
        case round =>
          obtain ⟨i, hi, rfl, hown, hb5, hkb⟩ := hrel
          have HOI := Lib.hid hown
          have HKB := Lib.hid hkb
          have zz := hb5.size
          clear hown hkb
          by_cases hlti : i < zs.length
          · obtain ⟨d1, d2⟩ := AC.out i hlti
            subst d1
            have d3 := (hb5.cell (p := ⟨ab, _, none⟩) (cell_lt d2)).trans d2
            have c4i := (hb5.cell (p := ⟨p, _, none⟩) (cell_lt c4)).trans c4
            have k0i := cell_of_row wr wo.heap.size 0 _ _ _ HKB.out
            have hA8 := A8.out (zs.getD i 0) (by rw [getD_at _ _ _ hlti]; exact List.getElem_mem hlti)
            have hs1 := dmAt_succ (goneB V.mem ls) id zs i
            have HS1 := Lib.hid hs1
            have hl1 := dmAt_len (goneB V.mem ls) id zs i
            clear hs1 d2
            generalize zs.getD i 0 = x at *
            have hcase : (badB (goneB V.mem ls) x = true ∧ ∃ d : Nat, x = d ∧ d < ml ∧ goneB V.mem ls d = true) ∨ (badB (goneB V.mem ls) x = false ∧ (x < 0 ∨ ∃ d : Nat, x = d ∧ d < ml ∧ goneB V.mem ls d = false)) := by
              rcases hA8 with rfl | ⟨h1, h2⟩
              · exact .inr ⟨by simp [badB], .inl (by omega)⟩
              · obtain ⟨d, rfl⟩ : ∃ d : Nat, x = d := ⟨x.toNat, by omega⟩
                cases hg : goneB V.mem ls d with
                | false => exact .inr ⟨by simp [badB, hg], .inr ⟨d, rfl, by omega, hg⟩⟩
                | true => exact .inl ⟨by simp [badB, hg], d, rfl, by omega, hg⟩
            clear hA8
            rcases hcase with ⟨k1, d, rfl, hd, hgd⟩ | ⟨k1, hcase⟩
            · rw [if_pos k1] at HS1
              obtain ⟨f1, f2⟩ := GC.out d (by rw [← HML.out]; exact hd)
              subst f1
              have f3 := f2 0 (by omega)
              simp only [Nat.mul_one, Nat.add_zero, hgd] at f3
              have f4 := (hb5.cell (p := ⟨gb, _, none⟩) (cell_lt f3)).trans f3
              have q1 : decide (0 ≤ (d : Int)) = true := decide_eq_true (by omega)
              obtain ⟨v6, w6, r6, o6, b6, s6⟩ := HOI.out.app ⟨id, i⟩ (by rw [List.length_append]; omega) zz
              rw [List.append_assoc, ← HS1.out] at o6
              have O6 := Lib.hid o6
              have hb7 := hb5.trans b6
              have hk6 := (s6 wo.heap.size (Array.getElem?_eq_some_iff.1 HKB.out).1 (own_ne HOI.out HKB.out (by decide))).trans HKB.out
              have HK6 := Lib.hid hk6
              clear f2 o6 k1 f3 hk6 s6
              go_wp2_with (at_builtin; refine wpList_append_run (by rfl) (.tmp 51) (.tmp 57) 53 (by rfl) _ (.slice (some ⟨wr.heap.size, 0, none⟩) 1 1) v6 w6 (by rfl) (by rfl) r6 ?_)
              go_roundw
              case rel => exact ⟨i + 1, by omega, by go_num, O6.out, hb7, HK6.out⟩
              case measure => simp [intOf]; omega
            · rw [if_neg (by simp [k1]), List.append_nil] at HS1
              have hown2 : OwnP wr w3.heap.size u8 (ds ++ dmAt (goneB V.mem ls) id zs (i + 1)) := by rw [HS1.out]; exact HOI.out
              have HOI2 := Lib.hid hown2
              clear hown2 k1
              rcases hcase with k2 | ⟨d, rfl, hd, hgd⟩
              · have q1 : decide (0 ≤ x) = false := decide_eq_false (by omega)
                go_wp2
                go_roundw
                case rel => exact ⟨i + 1, by omega, by go_num, HOI2.out, hb5, HKB.out⟩
                case measure => simp [intOf]; omega
              · obtain ⟨f1, f2⟩ := GC.out d (by rw [← HML.out]; exact hd)
                subst f1
                have f3 := f2 0 (by omega)
                simp only [Nat.mul_one, Nat.add_zero, hgd] at f3
                have f4 := (hb5.cell (p := ⟨gb, _, none⟩) (cell_lt f3)).trans f3
                have q1 : decide (0 ≤ (d : Int)) = true := decide_eq_true (by omega)
                clear f2 f3
                go_wp2
                go_roundw
                case rel => exact ⟨i + 1, by omega, by go_num, HOI2.out, hb5, HKB.out⟩
                case measure => simp [intOf]; omega
          · have hil : i = zs.length := by omega
            subst hil
            have ho2 := HOI.out
            rw [← HST.out] at ho2
            have HO3 := Lib.hid ho2
            clear ho2
            go_wp2
            go_roundw
            case rel => exact ⟨j + 1, by omega, by go_num, HO3.out, hb5⟩
            case measure => simp [intOf]; omega
      · have hjl : j = nh := by omega
        subst hjl
        go_wp2
        refine bodyPost_ret (results_tmp2 Try.results21 _ _ _) rfl ?_
        exact ⟨hb9, .inr ⟨HFIT.out, _, rfl, Own.base HO.out hbw.size⟩⟩

end Go.Proofs.Ytijcicgbhcphjaa
