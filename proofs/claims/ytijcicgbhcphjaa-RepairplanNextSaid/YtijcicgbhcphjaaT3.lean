/- The reference's do. -/
import Derived.Test.YtijcicgbhcphjaaP3
import Derived.Test.YtijcicgbhcphjaaS1
import Derived.StillTailTactics
namespace Go.Proofs.Ytijcicgbhcphjaa
open Go.RowKit Go.Lib Go.ChangeMaps
set_option linter.unusedSimpArgs false

theorem OwnI.lit0 (w : World) : OwnI (w.alloc (.cells #[] 3)) w.heap.size (.slice (some ⟨w.heap.size, 0, none⟩) 0 0) [] := Own.lit0 w w.heap.size 3 1 (fun i _ => .int .i64 (([] : List Int).getD i 0)) (Nat.le_refl _)
theorem sbell {w : World} (o : Obj) : Below w.heap.size w (w.alloc o) := (Below.refl _ _).alloc (Nat.le_refl _) _

/-- A row that does not lie in the block g. -/
def RowAv (w : World) (v : Value) (k n : Nat) (f : Nat → Nat → Value) (g : Nat) : Prop :=
  ∃ ao c, v = .slice ao n c ∧ n ≤ c ∧ n ≤ 4611686018427387904 ∧ (0 < n → ∃ b off, ao = some ⟨b, off, none⟩ ∧ b ≠ g ∧ ∀ i j, i < n → j < k → w.cell? ⟨b, off + i * k + j, none⟩ = some (f i j))
theorem RowAv.row {w : World} {v : Value} {k n : Nat} {f : Nat → Nat → Value} {g : Nat} (h : RowAv w v k n f g) : RowAt w v k n f := by
  obtain ⟨ao, c, e, h1, h2, h3⟩ := h
  exact ⟨ao, c, e, h1, h2, fun h0 => by obtain ⟨b, off, e1, _, e2⟩ := h3 h0; exact ⟨b, off, e1, e2⟩⟩
theorem RowAv.below {w w' : World} {v : Value} {k n : Nat} {f : Nat → Nat → Value} {g : Nat} (h : RowAv w v k n f g) (hb : Below w.heap.size w w') : RowAv w' v k n f g := by
  obtain ⟨ao, c, e, h1, h2, h3⟩ := h
  exact ⟨ao, c, e, h1, h2, fun h0 => by obtain ⟨b, off, e1, e0, e2⟩ := h3 h0; exact ⟨b, off, e1, e0, fun i j hi hj => bc hb (e2 i j hi hj)⟩⟩
/-- A row that is there does not lie in a block that is yet to come. -/
theorem RowAv.of_lt {w : World} {v : Value} {k n : Nat} {f : Nat → Nat → Value} {g : Nat} (h : RowAt w v k n f) (hk : 0 < k) (hg : w.heap.size ≤ g) : RowAv w v k n f g := by
  obtain ⟨ao, c, e, h1, h2, h3⟩ := h
  refine ⟨ao, c, e, h1, h2, fun h0 => ?_⟩
  obtain ⟨b, off, e1, e2⟩ := h3 h0
  have := cell_lt (e2 0 0 h0 hk)
  exact ⟨b, off, e1, by omega, e2⟩
/-- The block g turns, or what comes behind w. -/
theorem RowAv.same {w w' : World} {v : Value} {k n : Nat} {f : Nat → Nat → Value} {g : Nat} (h : RowAv w v k n f g) (hs : ∀ q, q < w.heap.size → q ≠ g → w'.heap[q]? = w.heap[q]?) : RowAv w' v k n f g := by
  obtain ⟨ao, c, e, h1, h2, h3⟩ := h
  refine ⟨ao, c, e, h1, h2, fun h0 => ?_⟩
  obtain ⟨b, off, e1, e0, e2⟩ := h3 h0
  refine ⟨b, off, e1, e0, fun i j hi hj => ?_⟩
  have hc := e2 i j hi hj
  have hl := cell_lt hc
  unfold World.cell? at hc ⊢
  rw [hs b hl e0]
  exact hc
theorem RowAv.off {w w' : World} {N : Nat} {v : Value} {k n : Nat} {f : Nat → Nat → Value} {g : Nat} (h : RowAv w v k n f g) (hk : 0 < k) (hN : ∀ o u, w.cell? ⟨N, o, none⟩ = some u → ∃ a l c, u = .slice a l c) (hf : ∀ a l c, 0 < n → f 0 0 ≠ .slice a l c)
    (hs : ∀ q, q ≠ N → w'.heap[q]? = w.heap[q]?) : RowAv w' v k n f g := by
  obtain ⟨ao, c, e, h1, h2, h3⟩ := h
  refine ⟨ao, c, e, h1, h2, fun h0 => ?_⟩
  obtain ⟨b, off, e1, e0, e2⟩ := h3 h0
  have hb : b ≠ N := fun e => by
    subst e
    obtain ⟨a, l, c, e⟩ := hN _ _ (e2 0 0 h0 hk)
    exact hf a l c h0 e
  refine ⟨b, off, e1, e0, fun i j hi hj => ?_⟩
  have hc := e2 i j hi hj
  unfold World.cell? at hc ⊢
  rw [hs b hb]
  exact hc
theorem RowAv.switch {w w' : World} {v : Value} {k n : Nat} {f : Nat → Nat → Value} {g g' : Nat} (h : RowAv w v k n f g) (hk : 0 < k) (hg : w.heap.size ≤ g') (hs : ∀ q, q < w.heap.size → q ≠ g → w'.heap[q]? = w.heap[q]?) : RowAv w' v k n f g' := by
  obtain ⟨ao, c, e, h1, h2, h3⟩ := h
  refine ⟨ao, c, e, h1, h2, fun h0 => ?_⟩
  obtain ⟨b, off, e1, e0, e2⟩ := h3 h0
  have := cell_lt (e2 0 0 h0 hk)
  refine ⟨b, off, e1, by omega, fun i j hi hj => ?_⟩
  have hc := e2 i j hi hj
  unfold World.cell? at hc ⊢
  rw [hs b this e0]
  exact hc
theorem Own.av {w : World} {base : Nat} {e : TypeId} {v : Value} {k n : Nat} {f : Nat → Nat → Value} {g : Nat} (h : Own w base e v k n f) (hn : n ≤ 4611686018427387904) (hg : g < base) : RowAv w v k n f g := by
  obtain ⟨ao, c, e, h1, h2, h3⟩ := Own.row h hn
  refine ⟨ao, c, e, h1, h2, fun h0 => ?_⟩
  obtain ⟨b, off, e1, e2⟩ := h3 h0
  refine ⟨b, off, e1, fun eb => ?_, e2⟩
  obtain ⟨xs, ⟨_, q2⟩, _⟩ := h
  rcases q2 with ⟨q3, q4⟩ | ⟨g2, cap, cur, q3, q4, _⟩
  · rw [q3] at e; cases e; cases e1
  · rw [q3] at e
    cases e
    cases e1
    omega
theorem rowAt_eq {w : World} {v : Value} {k n : Nat} {f f' : Nat → Nat → Value} (h : RowAt w v k n f) (h' : RowAt w v k n f') {i j : Nat} (hi : i < n) (hj : j < k) : f i j = f' i j := by
  obtain ⟨ao, c, rfl, _, _, h3⟩ := h
  obtain ⟨ao', c', e, _, _, h3'⟩ := h'
  cases e
  obtain ⟨b, off, e1, e2⟩ := h3 (by omega)
  obtain ⟨b', off', e1', e2'⟩ := h3' (by omega)
  rw [e1] at e1'
  cases e1'
  have a := e2 i j hi hj
  rw [e2' i j hi hj] at a
  exact (Option.some.inj a).symm
/-- A view no row of which lies in the block g. -/
def VwAv (w : World) (v : Value) (V : Vp) (g : Nat) : Prop := ∃ mv hv rv wv, v = .agg #[mv, hv, rv, wv] ∧ RowAv w mv 5 V.mem.length (memCell V.mem) g ∧ (∃ xs : List (Value × Value), xs.length = V.held.length ∧ RowAv w hv 7 V.held.length (hpCell V.held xs) g ∧
    ∀ i, i < V.held.length → RowAv w (xsR xs i) 3 (V.held.getD i default).refs.length (rfCell (V.held.getD i default).refs) g ∧ RowAv w (xsA xs i) 1 (V.held.getD i default).at_.length (fun a _ => .int .i64 ((V.held.getD i default).at_.getD a 0)) g) ∧
  RowAv w rv 1 V.room.length (fun a _ => .int .i64 (V.room.getD a 0)) g ∧ RowAv w wv 1 V.weight.length (fun a _ => .int .i64 (V.weight.getD a 0)) g
theorem VwAv.map {w w' : World} {v : Value} {V : Vp} {g g' : Nat} (h : VwAv w v V g) (hm : ∀ {v : Value} {k n : Nat} {f : Nat → Nat → Value}, RowAv w v k n f g → 0 < k → (∀ a l c, 0 < n → f 0 0 ≠ .slice a l c) → RowAv w' v k n f g') : VwAv w' v V g' := by
  obtain ⟨mv, hv, rv, wv, e, h1, ⟨xs, h2, h3, h4⟩, h5, h6⟩ := h
  exact ⟨mv, hv, rv, wv, e, hm h1 (by omega) (fun _ _ _ _ e => by cases e), ⟨xs, h2, hm h3 (by omega) (fun _ _ _ _ e => by cases e), fun i hi => ⟨hm (h4 i hi).1 (by omega) (fun _ _ _ _ e => by cases e), hm (h4 i hi).2 (by omega) (fun _ _ _ _ e => by cases e)⟩⟩, hm h5 (by omega) (fun _ _ _ _ e => by cases e), hm h6 (by omega) (fun _ _ _ _ e => by cases e)⟩
theorem VwAv.vw {w : World} {v : Value} {V : Vp} {g : Nat} (h : VwAv w v V g) : VwAt w v V := by
  obtain ⟨mv, hv, rv, wv, e, h1, ⟨xs, h2, h3, h4⟩, h5, h6⟩ := h
  exact ⟨mv, hv, rv, wv, e, h1.row, ⟨xs, h2, h3.row, fun i hi => ⟨(h4 i hi).1.row, (h4 i hi).2.row⟩⟩, h5.row, h6.row⟩
theorem VwAv.of_lt {w : World} {v : Value} {V : Vp} {g : Nat} (h : VwAt w v V) (hg : w.heap.size ≤ g) : VwAv w v V g := by
  obtain ⟨mv, hv, rv, wv, e, h1, ⟨xs, h2, h3, h4⟩, h5, h6⟩ := h
  exact ⟨mv, hv, rv, wv, e, .of_lt h1 (by omega) hg, ⟨xs, h2, .of_lt h3 (by omega) hg, fun i hi => ⟨.of_lt (h4 i hi).1 (by omega) hg, .of_lt (h4 i hi).2 (by omega) hg⟩⟩, .of_lt h5 (by omega) hg, .of_lt h6 (by omega) hg⟩
theorem VwAv.below {w w' : World} {v : Value} {V : Vp} {g : Nat} (h : VwAv w v V g) (hb : Below w.heap.size w w') : VwAv w' v V g := h.map fun r _ _ => r.below hb
theorem VwAv.same {w w' : World} {v : Value} {V : Vp} {g : Nat} (h : VwAv w v V g) (hs : ∀ q, q < w.heap.size → q ≠ g → w'.heap[q]? = w.heap[q]?) : VwAv w' v V g := h.map fun r _ _ => r.same hs
theorem VwAv.switch {w w' : World} {v : Value} {V : Vp} {g g' : Nat} (h : VwAv w v V g) (hg : w.heap.size ≤ g') (hs : ∀ q, q < w.heap.size → q ≠ g → w'.heap[q]? = w.heap[q]?) : VwAv w' v V g' := h.map fun r hk _ => r.switch hk hg hs
theorem VwAv.off {w w' : World} {N : Nat} {v : Value} {V : Vp} {g : Nat} (h : VwAv w v V g) (hN : ∀ o u, w.cell? ⟨N, o, none⟩ = some u → ∃ a l c, u = .slice a l c) (hs : ∀ q, q ≠ N → w'.heap[q]? = w.heap[q]?) : VwAv w' v V g := h.map fun r hk hf => r.off hk hN hf hs

set_option maxRecDepth 100000 in
set_option maxHeartbeats 16000000 in
theorem do_ref2 (v fv : Value) (V : Vp) (gone : Nat → Bool) (j : Jp) (w : World) (hv : VwAt w v V) (hf : ∃ a n c, fv = .slice a n c) (hok : VOk V) (hp : possB V gone j = true) :
    Calls Try.prog 53 #[v, j.v fv] w fun e w' => ∃ u, e = .returned u ∧ VwAt w' u (doP V j) ∧ Below w.heap.size w w' ∧ ∀ g, g < w.heap.size → VwAv w v V g → VwAv w' u (doP V j) g := by
  obtain ⟨k, hfp, h1, h2, h3, h4, h5⟩ := possB_some hp
  obtain ⟨c1, c2, c3, c4, c5⟩ := canB_true h5
  obtain ⟨i, hi, hil, hig⟩ := mem_otherI.1 h1
  obtain ⟨hk, -⟩ := findP_some hfp
  obtain ⟨d, hd⟩ : ∃ d : Nat, j.to = d := ⟨j.to.toNat, by omega⟩
  have hdo : doP V j = setRoomP (setAtP V k i d) d (V.room.getD d 0 - j.size) := by
    unfold doP
    rw [hfp]
    simp only
    rw [hi, hd]
    simp only [Int.toNat_natCast]
  rw [hdo]
  obtain ⟨a1, a2, a3, a4, a5⟩ := hok.small
  have a6 := a5 k hk
  have a16 := a6.at_small.1
  have hbl := a6.2.2.2.1
  rw [hd, Int.toNat_natCast] at c4
  rw [hd] at c2
  have hdm : d < V.room.length := by omega
  have hrm := (hok.2.2.1.2 (V.room.getD d 0) (by rw [getD_at _ _ _ hdm]; exact List.getElem_mem hdm)).2
  have hrw : IntKind.i64.wrap (V.room.getD d 0 - j.size) = V.room.getD d 0 - j.size := by rw [IntKind.wrap_i64]; omega
  have hfi : findI V j.pc.st = k := by unfold findI; rw [hfp]
  obtain ⟨fa, fn, fc, rfl⟩ := hf
  have CF := Lib.hid (fun W (hW : Below w.heap.size w W) => find_any _ V j.pc.st W (hv.below hW) (by omega))
  rw [hfi] at CF
  obtain ⟨mv, hv', rv, wv, rfl, hM, hH, hRm, hW⟩ := hv
  have HM := Lib.hid hM
  have HRM := Lib.hid hRm
  have HWT := Lib.hid hW
  obtain ⟨ma, mc, _, _, rfl, -⟩ := hM.at
  obtain ⟨xs, hxl, hxr, hxs⟩ := hH
  have HXS := Lib.hid hxs
  have HXR := Lib.hid hxr
  obtain ⟨xa, xc, xb, xo, rfl, xl, xm, -⟩ := hxr.at
  obtain ⟨ra, rc, _, _, rfl, rl1, rm1, -⟩ := hRm.at
  obtain ⟨wa, wc, _, _, rfl, -⟩ := hW.at
  have hx1 : ∀ i, i < V.held.length → (xsR xs i).oneCell' = true ∧ (xsA xs i).oneCell' = true := fun i hi => by
    obtain ⟨q1, q2⟩ := hxs i hi
    obtain ⟨_, _, _, _, e1, _⟩ := q1.at
    obtain ⟨_, _, _, _, e2, _⟩ := q2.at
    unfold xsR xsA
    rw [e1, e2]
    exact ⟨rfl, rfl⟩
  have HX1 := Lib.hid hx1
  have hjx : k < xs.length := by rw [hxl]; exact hk
  obtain ⟨⟨st, ix⟩, fs, dst, size⟩ := j
  simp only at hi hd hrw CF h3
  subst hi
  subst hd
  have hxk := (hxs k hk).2
  obtain ⟨ka, kc, _, _, ek, -⟩ := hxk.at
  obtain ⟨zs, hzs⟩ : ∃ zs, zs = (V.held.getD k default).at_ := ⟨_, rfl⟩
  rw [← hzs] at hxk ek hil a16
  have HXK := Lib.hid hxk
  have HZS := Lib.hid hzs
  obtain ⟨rm, hrmm⟩ : ∃ rm, rm = V.room.getD d 0 := ⟨_, rfl⟩
  rw [← hrmm] at hrw hrm c4 ⊢
  have HRMM := Lib.hid hrmm
  clear hzs hrmm
  clear hp hfp h1 h2 h4 h5 hig hdo hfi hM hRm hW hxs hxr hx1 hxk c1 c3 c5 a4 a5 a6
  unfold Jp.v
  simp only
  obtain ⟨A, hA⟩ : ∃ A, A = Obj.cells #[.slice ma V.mem.length mc, .slice xa V.held.length xc, .slice ra V.room.length rc, .slice wa V.weight.length wc] 33 := ⟨_, rfl⟩
  obtain ⟨B, hB⟩ : ∃ B, B = Obj.cells #[.string st, .int .i64 i, .slice fa fn fc, .int .i64 d, .int .i64 size] 107 := ⟨_, rfl⟩
  obtain ⟨C, hC⟩ : ∃ C, C = Obj.cells #[.slice none 0 0, .slice none 0 0, .slice none 0 0, .slice none 0 0] 33 := ⟨_, rfl⟩
  have hz0 : (((w.alloc A).alloc B).alloc C).heap.size = w.heap.size + 3 := by simp
  have hb0 : Below w.heap.size w (((w.alloc A).alloc B).alloc C) := by (repeat' (first | (with_reducible exact Below.refl _ _) | (with_reducible assumption) | (with_reducible refine Below.alloc ?_ ?_ _) | (with_reducible refine Below.drew ?_) | (with_reducible refine below_drewN ?_ _) | (with_reducible refine Below.setCell ?_ ?_ _) | (with_reducible refine below_step ?_ (by with_reducible assumption) ?_) | go_size))
  have kA : (((w.alloc A).alloc B).alloc C).heap[w.heap.size]? = some A := by
    show (((w.heap.push _).push _).push _)[_]? = _; simp only [Array.getElem?_push, Array.size_push]; repeat (first | rw [if_pos trivial] | rw [if_pos (by omega)] | rw [if_neg (by omega)])
  have kB : (((w.alloc A).alloc B).alloc C).heap[w.heap.size + 1]? = some B := by
    show (((w.heap.push _).push _).push _)[_]? = _; simp only [Array.getElem?_push, Array.size_push]; repeat (first | rw [if_pos trivial] | rw [if_pos (by omega)] | rw [if_neg (by omega)])
  have kC : (((w.alloc A).alloc B).alloc C).heap[w.heap.size + 1 + 1]? = some C := by
    show (((w.heap.push _).push _).push _)[_]? = _; simp only [Array.getElem?_push, Array.size_push]; repeat (first | rw [if_pos trivial] | rw [if_pos (by omega)] | rw [if_neg (by omega)])
  subst hA hB hC
  have hrl12 : V.room.length ≤ 12 := by omega
  have HA3 := Lib.hid a3
  have HXL := Lib.hid hxl
  have H3 := Lib.hid h3
  clear a3 hxl h3
  go_enter Try.func53, Try.ntmps53
  go_upto_region 1 with fail
  generalize hW0 : (((w.alloc _).alloc _).alloc _) = W0 at *
  clear hW0
  have hap := Own.appendR (V := W0.alloc (.cells #[] 87)) (t := 31) (e := 87) (base := w.heap.size + 3) Try.underlying31 info87 rfl (by omega) (by omega) (Own.lit0 W0 (w.heap.size + 3) 87 7 (hpCell V.held xs) (by omega)) 31 (HXR.out.below (hb0.trans ((sbell _).mono hb0.size))) (fun i j _ _ => by rw [Nat.zero_add]) (fun i j hi _ => hpCell_one HX1.out hi) (by omega) (by omega) (by rw [World.size_alloc]; omega)
  obtain ⟨v6, w6, r6, o6, b6, -⟩ := hap
  rw [Nat.zero_add] at o6
  have b06 : Below (w.heap.size + 3) W0 w6 := ((Below.refl _ _).alloc (by omega) _).trans b6
  have kA6 := (b06.block _ (by omega)).trans kA
  have kB6 := (b06.block _ (by omega)).trans kB
  have kC6 := (b06.block _ (by omega)).trans kC
  have hb6 := hb0.trans (b06.mono (show w.heap.size ≤ w.heap.size + 3 by omega))
  have hz6 : w.heap.size + 3 ≤ w6.heap.size := by have := b06.size; omega
  have m1 := cell_of_row _ (w.heap.size) 1 _ _ _ kA
  have HO6 := Lib.hid o6
  obtain ⟨gH, cH, eH, -⟩ := o6.set (i := k) (j := 0) hk (by omega) undef (fun i' j' => if i' = k ∧ j' = 0 then undef else hpCell V.held xs i' j') (fun _ _ _ _ => rfl)
  subst eH
  have KA6 := Lib.hid kA6
  have KB6 := Lib.hid kB6
  have KC6 := Lib.hid kC6
  clear kA kB kC b6 b06 o6
  have d0 := cell_of_row _ (w.heap.size) 0 _ _ _ kA6
  have d1 := cell_of_row _ (w.heap.size) 1 _ _ _ kA6
  have d2 := cell_of_row _ (w.heap.size) 2 _ _ _ kA6
  have d3 := cell_of_row _ (w.heap.size) 3 _ _ _ kA6
  have f0 := cell_of_row _ (w.heap.size + 1) 0 _ _ _ kB6
  clear kA6 kB6 kC6
  have m1lt := cell_lt m1
  have HZ0 := Lib.hid hz0
  clear hz0
  go_wp2_with (at_builtin; refine wpList_append_run (by rfl) (.tmp 8) (.tmp 10) 31 (by rfl) _ (.slice xa V.held.length xc) (.slice (some ⟨gH, 0, none⟩) V.held.length cH) w6 (by rfl) (by rfl) r6 ?_)
  refine (CF.out _ hb6).mono ?_
  rintro e w7 ⟨rfl, hb7⟩
  have hb7w := hb6.trans (hb7.mono hb6.size)
  have o7 := Own.below HO6.out hb7
  have KA7 := Lib.hid (bb hb7 KA6.out)
  have KB7 := Lib.hid (bb hb7 KB6.out)
  have KC7 := Lib.hid (bb hb7 KC6.out)
  have hz7 : w.heap.size + 3 ≤ w7.heap.size := by have := hb7.size; omega
  clear KA6 KB6 KC6 HO6 CF d0 d1 d2 d3 f0 m1 m1lt r6 hb6 hb7 hb0 HZ0 hz6
  obtain ⟨gH', cH', eH', hgl, hgs, hcap, fz7, cc7, -⟩ := o7.set (i := k) (j := 6) hk (by omega) undef (fun i' j' => if i' = k ∧ j' = 6 then undef else hpCell V.held xs i' j') (fun _ _ _ _ => rfl)
  cases eH'
  have c7 : w7.cell? ⟨gH, k * 7 + 6, none⟩ = some (.slice ka zs.length kc) := cc7.trans (congrArg some ek)
  have hap2 := OwnI.appendR (V := w7.alloc (.cells #[] 3)) (base := w7.heap.size) (OwnI.lit0 w7) (HXK.out.below (hb7w.trans ((sbell _).mono hb7w.size))) (by simp) (by omega) (by rw [World.size_alloc]; omega)
  rw [List.nil_append, ek] at hap2
  obtain ⟨v8, w8, r8, o8, b8, -⟩ := hap2
  have b78 : Below w7.heap.size w7 w8 := (sbell _).trans b8
  have o8h := o7.below b78
  obtain ⟨_, _, eH2, _, hgs8, _, fz8, cc8, oset⟩ := o8h.set (i := k) (j := 6) hk (by omega) v8 (hpCell V.held (xs.set k (xsR xs k, v8))) (fun i' j' _ hj' => hpCell_set hjx (xsR xs k, v8) 6 v8 (.inr ⟨rfl, rfl, rfl⟩) i' j' hj')
  cases eH2
  have o9A : OwnI (w8.setCell ⟨gH, k * 7 + 6, none⟩ v8) w7.heap.size v8 zs := Own.same o8 fun g hg => setCell_other w8 v8 (fun e => own_apart' o8 o8h (by decide) g hg (by simp [Value.ownBlock, e]))
  obtain ⟨_, _, eH3, _, _, _, _, cc9, -⟩ := oset.set (i := k) (j := 6) hk (by omega) undef (fun i' j' => if i' = k ∧ j' = 6 then undef else hpCell V.held (xs.set k (xsR xs k, v8)) i' j') (fun _ _ _ _ => rfl)
  cases eH3
  have c9 : (w8.setCell ⟨gH, k * 7 + 6, none⟩ v8).cell? ⟨gH, k * 7 + 6, none⟩ = some v8 := cc9.trans (congrArg some (show ((xs.set k (xsR xs k, v8)).getD k (undef, undef)).2 = v8 by rw [getD_set_self _ _ _ _ hjx]))
  obtain ⟨gA, cA, eA, hAl, hAs, hAc, fzA, ccA, oA10⟩ := Own.set o9A (i := i) (j := 0) hil (by omega) (.int .i64 d) (fun a _ => .int .i64 ((zs.set i (d : Int)).getD a 0)) (fun a b ha hb => by
    have : b = 0 := by omega
    subst this
    by_cases e : a = i
    · subst e; rw [getD_set_self _ _ _ _ ha]; simp
    · rw [getD_set_ne _ _ _ e, if_neg (fun h => e h.1)])
  subst eA
  rw [Nat.mul_one, Nat.add_zero] at fzA ccA oA10
  have hAs8 : gA < w8.heap.size := by rw [setCell_size] at hAs; exact hAs
  have hzb : w7.heap.size ≤ w8.heap.size := b78.size
  have hb8w := hb7w.trans (b78.mono hb7w.size)
  have hb9w : Below w.heap.size w (w8.setCell ⟨gH, k * 7 + 6, none⟩ (.slice (some ⟨gA, 0, none⟩) zs.length cA)) := hb8w.setCell (by show w.heap.size ≤ gH; omega) _
  have hz9 : (w8.setCell ⟨gH, k * 7 + 6, none⟩ (.slice (some ⟨gA, 0, none⟩) zs.length cA)).heap.size = w8.heap.size := setCell_size _ _ _
  have KA9 := Lib.hid ((setCell_other w8 (b := gH) (i := k * 7 + 6) (.slice (some ⟨gA, 0, none⟩) zs.length cA) (show w.heap.size ≠ gH by omega)).trans (bb b78 KA7.out))
  have KB9 := Lib.hid ((setCell_other w8 (b := gH) (i := k * 7 + 6) (.slice (some ⟨gA, 0, none⟩) zs.length cA) (show w.heap.size + 1 ≠ gH by omega)).trans (bb b78 KB7.out))
  have KC9 := Lib.hid ((setCell_other w8 (b := gH) (i := k * 7 + 6) (.slice (some ⟨gA, 0, none⟩) zs.length cA) (show w.heap.size + 1 + 1 ≠ gH by omega)).trans (bb b78 KC7.out))
  have HOS := Lib.hid oset
  have HOA := Lib.hid oA10
  have hHA : gA ≠ gH := fun e => own_apart' o8 o8h (by decide) gA rfl (by simp [Value.ownBlock, e])
  clear o7 o8 o8h oset o9A oA10 cc7 cc9 b8 hb7w KA7 KB7 KC7
  have hgs7 := hgs
  go_wp2_with (at_builtin; refine wpList_append_run (by rfl) (.tmp 19) (.tmp 24) 24 (by rfl) _ (.slice ka zs.length kc) (.slice (some ⟨gA, 0, none⟩) zs.length cA) w8 (by rfl) (by rfl) r8 ?_)
  have k4 := hcap
  have e1 := cell_of_row _ (w.heap.size + 1) 1 _ _ _ KB9.out
  have e3 := cell_of_row _ (w.heap.size + 1) 3 _ _ _ KB9.out
  generalize w8.setCell ⟨gH, k * 7 + 6, none⟩ (.slice (some ⟨gA, 0, none⟩) zs.length cA) = W9 at *
  have hb9d : Below w.heap.size w W9.drew := hb9w.drew
  have c9' : W9.drew.cell? ⟨gH, k * 7 + 6, none⟩ = some (.slice (some ⟨gA, 0, none⟩) zs.length cA) := c9
  have e1' : W9.drew.cell? ⟨w.heap.size + 1, 1, none⟩ = some (.int .i64 i) := e1
  have e3' : W9.drew.cell? ⟨w.heap.size + 1, 3, none⟩ = some (.int .i64 d) := e3
  have fzA' : W9.drew.frozen? ⟨gA, i, none⟩ = false := fzA
  have ccA' : W9.drew.cell? ⟨gA, i, none⟩ = some (.int .i64 (zs.getD i 0)) := ccA
  have HOS9 := Lib.hid (show Own W9.drew (w.heap.size + 3) 87 (.slice (some ⟨gH, 0, none⟩) V.held.length cH) 7 V.held.length _ from HOS.out)
  have HOA9 := Lib.hid (show Own (W9.drew.setCell ⟨gA, i, none⟩ (.int .i64 d)) w7.heap.size 3 (.slice (some ⟨gA, 0, none⟩) zs.length cA) 1 zs.length (fun a _ => .int .i64 ((zs.set i (d : Int)).getD a 0)) from HOA.out)
  have KA9' := Lib.hid (show W9.drew.heap[w.heap.size]? = _ from KA9.out)
  have KB9' := Lib.hid (show W9.drew.heap[w.heap.size + 1]? = _ from KB9.out)
  have KC9' := Lib.hid (show W9.drew.heap[w.heap.size + 1 + 1]? = _ from KC9.out)
  have hz9' : W9.drew.heap.size = w8.heap.size := hz9
  clear HOS HOA KA9 KB9 KC9 c9 c7 fz7 fz8 cc8 r8 b78 hb8w hb9w hz9
  go_still_tail 11, (by kernel_rfl)
  change wpList _ _ _ _ _ W9.drew
  clear e1 e3 fzA ccA
  have HZ9 := Lib.hid hz9'
  clear hz9'
  generalize W9.drew = Wd at *
  have hb10 : Below w.heap.size w (Wd.setCell ⟨gA, i, none⟩ (.int .i64 d)) := hb9d.setCell (by show w.heap.size ≤ gA; omega) _
  have hz10 : (Wd.setCell ⟨gA, i, none⟩ (.int .i64 d)).heap.size = w8.heap.size := (setCell_size _ _ _).trans HZ9.out
  have KA10 := Lib.hid ((setCell_other Wd (b := gA) (i := i) (.int .i64 d) (show w.heap.size ≠ gA by omega)).trans KA9'.out)
  have KB10 := Lib.hid ((setCell_other Wd (b := gA) (i := i) (.int .i64 d) (show w.heap.size + 1 ≠ gA by omega)).trans KB9'.out)
  have KC10 := Lib.hid ((setCell_other Wd (b := gA) (i := i) (.int .i64 d) (show w.heap.size + 1 + 1 ≠ gA by omega)).trans KC9'.out)
  have HOS10 := Lib.hid (Own.same (w' := Wd.setCell ⟨gA, i, none⟩ (.int .i64 d)) HOS9.out fun g hg => setCell_other Wd _ (fun e => hHA (by simp [Value.ownBlock] at hg; omega)))
  have hap3 := OwnI.appendR (V := (Wd.setCell ⟨gA, i, none⟩ (.int .i64 d)).alloc (.cells #[] 3)) (base := (Wd.setCell ⟨gA, i, none⟩ (.int .i64 d)).heap.size) (OwnI.lit0 _) (HRM.out.below (hb10.trans ((sbell _).mono hb10.size))) (by simp) (by omega) (by rw [World.size_alloc]; omega)
  rw [List.nil_append] at hap3
  obtain ⟨v11, w11, r11, o11, b11, -⟩ := hap3
  have b10 : Below (Wd.setCell ⟨gA, i, none⟩ (.int .i64 d)).heap.size (Wd.setCell ⟨gA, i, none⟩ (.int .i64 d)) w11 := (sbell _).trans b11
  obtain ⟨gR, cR, eR, hRl, hRs, hRc, fzR, ccR, oR⟩ := Own.set o11 (i := d) (j := 0) hdm (by omega) (.int .i64 (rm - size)) (fun a _ => .int .i64 ((V.room.set d (rm - size)).getD a 0)) (fun a b ha hb => by
    have : b = 0 := by omega
    subst this
    by_cases e : a = d
    · subst e; rw [getD_set_self _ _ _ _ ha]; simp
    · rw [getD_set_ne _ _ _ e, if_neg (fun h => e h.1)])
  subst eR
  rw [Nat.mul_one, Nat.add_zero] at fzR ccR oR
  rw [← HRMM.out] at ccR
  have hb11 := hb10.trans (b10.mono hb10.size)
  have KA11 := Lib.hid (bb b10 KA10.out)
  have KB11 := Lib.hid (bb b10 KB10.out)
  have KC11 := Lib.hid (bb b10 KC10.out)
  have HOS11 := Lib.hid (HOS10.out.below b10)
  have HOA11 := Lib.hid (HOA9.out.below b10)
  have HOR := Lib.hid oR
  have hRA : gR ≠ gA := by have := setCell_size Wd ⟨gA, i, none⟩ (.int .i64 d); omega
  have hRH : gR ≠ gH := by have := setCell_size Wd ⟨gA, i, none⟩ (.int .i64 d); omega
  have t2 := cell_of_row _ w.heap.size 2 _ _ _ KA10.out
  have t2l : w.heap.size < (Wd.setCell ⟨gA, i, none⟩ (.int .i64 d)).heap.size := by omega
  have R11 := Lib.hid r11
  have T2 := Lib.hid t2
  have T2L := Lib.hid t2l
  have HZ10 := Lib.hid hz10
  clear o11 oR b11 KA9' KB9' KC9' KA10 KB10 KC10 HOS9 HOS10 HOA9 r11 b10 hb10 hb9d t2 t2l hz10
  go_upto_region 5 with fail
  generalize Wd.setCell ⟨gA, i, none⟩ (.int .i64 d) = W10 at *
  have t2 := T2.out
  have t2l := T2L.out
  have r11' := R11.out
  clear c9' e1' e3' fzA' ccA' T2 T2L R11
  go_wp2_with (at_builtin; refine wpList_append_run (by rfl) (.tmp 39) (.tmp 41) 24 (by rfl) _ (.slice ra V.room.length rc) (.slice (some ⟨gR, 0, none⟩) V.room.length cR) w11 (by rfl) (by rfl) r11' ?_)
  have e3 := cell_of_row _ (w.heap.size + 1) 3 _ _ _ KB11.out
  have e4 := cell_of_row _ (w.heap.size + 1) 4 _ _ _ KB11.out
  have hb11d : Below w.heap.size w w11.drew := hb11.drew
  have e3' : w11.drew.cell? ⟨w.heap.size + 1, 3, none⟩ = some (.int .i64 d) := e3
  have e4' : w11.drew.cell? ⟨w.heap.size + 1, 4, none⟩ = some (.int .i64 size) := e4
  have fzR' : w11.drew.frozen? ⟨gR, d, none⟩ = false := fzR
  have ccR' : w11.drew.cell? ⟨gR, d, none⟩ = some (.int .i64 rm) := ccR
  have HOSd := Lib.hid (show Own w11.drew (w.heap.size + 3) 87 (.slice (some ⟨gH, 0, none⟩) V.held.length cH) 7 V.held.length _ from HOS11.out)
  have HOAd := Lib.hid (show Own w11.drew w7.heap.size 3 (.slice (some ⟨gA, 0, none⟩) zs.length cA) 1 zs.length (fun a _ => .int .i64 ((zs.set i (d : Int)).getD a 0)) from HOA11.out)
  have HORd := Lib.hid (show Own (w11.drew.setCell ⟨gR, d, none⟩ (.int .i64 (rm - size))) W10.heap.size 3 (.slice (some ⟨gR, 0, none⟩) V.room.length cR) 1 V.room.length (fun a _ => .int .i64 ((V.room.set d (rm - size)).getD a 0)) from HOR.out)
  have KAd := Lib.hid (show w11.drew.heap[w.heap.size]? = _ from KA11.out)
  have KCd := Lib.hid (show w11.drew.heap[w.heap.size + 1 + 1]? = _ from KC11.out)
  have hsw : w8.heap.size ≤ gR := by have := HZ10.out; omega
  clear KA11 KB11 KC11 HOS11 HOA11 HOR hb11 t2 t2l r11'
  go_still_tail 9, (by kernel_rfl)
  change wpList _ _ _ _ _ w11.drew
  clear e3 e4 fzR ccR
  generalize w11.drew = Wd2 at *
  go_upto_region 7 with fail
  try rw [hrw]
  have hb12 : Below w.heap.size w (Wd2.setCell ⟨gR, d, none⟩ (.int .i64 (rm - size))) := hb11d.setCell (by show w.heap.size ≤ gR; omega) _
  have KA12 := Lib.hid ((setCell_other Wd2 (b := gR) (i := d) (.int .i64 (rm - size)) (show w.heap.size ≠ gR by omega)).trans KAd.out)
  have KC12 := Lib.hid ((setCell_other Wd2 (b := gR) (i := d) (.int .i64 (rm - size)) (show w.heap.size + 1 + 1 ≠ gR by omega)).trans KCd.out)
  have HOS12 := Lib.hid (Own.same (w' := Wd2.setCell ⟨gR, d, none⟩ (.int .i64 (rm - size))) HOSd.out fun g hg => setCell_other Wd2 _ (fun e => hRH (by simp [Value.ownBlock] at hg; omega)))
  have HOA12 := Lib.hid (Own.same (w' := Wd2.setCell ⟨gR, d, none⟩ (.int .i64 (rm - size))) HOAd.out fun g hg => setCell_other Wd2 _ (fun e => hRA (by simp [Value.ownBlock] at hg; omega)))
  generalize Wd2.setCell ⟨gR, d, none⟩ (.int .i64 (rm - size)) = W12 at *
  clear KAd KCd HOSd HOAd e3' e4' fzR' ccR' hb11d
  have p0 := cell_of_row _ w.heap.size 0 _ _ _ KA12.out
  have p1 := cell_of_row _ w.heap.size 1 _ _ _ KA12.out
  have p2 := cell_of_row _ w.heap.size 2 _ _ _ KA12.out
  have p3 := cell_of_row _ w.heap.size 3 _ _ _ KA12.out
  have f1 := frozen_of_row _ w.heap.size 1 _ _ KA12.out
  have f2 := frozen_of_row _ w.heap.size 2 _ _ KA12.out
  go_upto_region 8 with fail
  have q1 := setCell_block (i := 1) KA12.out (.slice (some ⟨gH, 0, none⟩) V.held.length cH)
  have q2 := setCell_block (i := 2) q1 (.slice (some ⟨gR, 0, none⟩) V.room.length cR)
  have KA14 := Lib.hid q2
  have hb14 : Below w.heap.size w ((W12.setCell ⟨w.heap.size, 1, none⟩ (.slice (some ⟨gH, 0, none⟩) V.held.length cH)).setCell ⟨w.heap.size, 2, none⟩ (.slice (some ⟨gR, 0, none⟩) V.room.length cR)) := (hb12.setCell (Nat.le_refl _) _).setCell (Nat.le_refl _) _
  have hoff : ∀ q, q ≠ w.heap.size → ((W12.setCell ⟨w.heap.size, 1, none⟩ (.slice (some ⟨gH, 0, none⟩) V.held.length cH)).setCell ⟨w.heap.size, 2, none⟩ (.slice (some ⟨gR, 0, none⟩) V.room.length cR)).heap[q]? = W12.heap[q]? := fun q hq => (setCell_other _ _ hq).trans (setCell_other _ _ hq)
  have KC14 := Lib.hid ((hoff (w.heap.size + 1 + 1) (by omega)).trans KC12.out)
  have hoS := Own.same HOS12.out fun q hq => hoff q (by simp [Value.ownBlock] at hq; omega)
  have hoA := Own.same HOA12.out fun q hq => hoff q (by simp [Value.ownBlock] at hq; omega)
  have hoR := Own.same HORd.out fun q hq => hoff q (by simp [Value.ownBlock] at hq; omega)
  have HS14 := Lib.hid hoS
  have HA14 := Lib.hid hoA
  have HR14 := Lib.hid hoR
  clear q1 q2 hoff hoS hoA hoR p0 p1 p2 p3 f1 f2 KA12 KC12 HOS12 HOA12 HORd
  generalize ((W12.setCell ⟨w.heap.size, 1, none⟩ (.slice (some ⟨gH, 0, none⟩) V.held.length cH)).setCell ⟨w.heap.size, 2, none⟩ (.slice (some ⟨gR, 0, none⟩) V.room.length cR)) = W14 at *
  have kA14 : W14.heap[w.heap.size]? = some (.cells #[.slice ma V.mem.length mc, .slice (some ⟨gH, 0, none⟩) V.held.length cH, .slice (some ⟨gR, 0, none⟩) V.room.length cR, .slice wa V.weight.length wc] 33 (0, 0)) := KA14.out
  have p0 := cell_of_row _ w.heap.size 0 _ _ _ kA14
  have p1 := cell_of_row _ w.heap.size 1 _ _ _ kA14
  have p2 := cell_of_row _ w.heap.size 2 _ _ _ kA14
  have p3 := cell_of_row _ w.heap.size 3 _ _ _ kA14
  have r0 := cell_of_row _ (w.heap.size + 1 + 1) 0 _ _ _ KC14.out
  have r1 := cell_of_row _ (w.heap.size + 1 + 1) 1 _ _ _ KC14.out
  have r2 := cell_of_row _ (w.heap.size + 1 + 1) 2 _ _ _ KC14.out
  have r3 := cell_of_row _ (w.heap.size + 1 + 1) 3 _ _ _ KC14.out
  have f0 := frozen_of_row _ (w.heap.size + 1 + 1) 0 _ _ KC14.out
  have f1 := frozen_of_row _ (w.heap.size + 1 + 1) 1 _ _ KC14.out
  have f2 := frozen_of_row _ (w.heap.size + 1 + 1) 2 _ _ KC14.out
  have f3 := frozen_of_row _ (w.heap.size + 1 + 1) 3 _ _ KC14.out
  obtain ⟨y1, y2, y3⟩ := four_set KC14.out (.slice ma V.mem.length mc) (.slice (some ⟨gH, 0, none⟩) V.held.length cH) (.slice (some ⟨gR, 0, none⟩) V.room.length cR) (.slice wa V.weight.length wc)
  have HBF := Lib.hid (y3 w.heap.size w (by omega) hb14)
  have HSF := Lib.hid (HS14.out.same fun q hq => y2 q (by simp [Value.ownBlock] at hq; omega))
  have HAF := Lib.hid (HA14.out.same fun q hq => y2 q (by simp [Value.ownBlock] at hq; omega))
  have HRF := Lib.hid (HR14.out.same fun q hq => y2 q (by simp [Value.ownBlock] at hq; omega))
  have HY1 := Lib.hid y1
  clear y1 y2 y3 kA14 KA14 KC14 HS14 HA14 HR14 hb14
  go_wp2
  refine bodyPost_ret (results_cell_row (P := Try.prog) Try.results53 _ _ (w.heap.size + 1 + 1) 33 _ (0, 0) _ (by rfl) HY1.out Try.underlying33 rfl (by kernel_rfl)) rfl ?_
  refine ⟨_, rfl, ⟨_, _, _, _, rfl, HM.out.below HBF.out, ⟨xs.set k (xsR xs k, .slice (some ⟨gA, 0, none⟩) zs.length cA), ?_, ?_, fun m hm => ?_⟩, ?_, HWT.out.below HBF.out⟩, HBF.out, fun g hg hav => ?_⟩
  · rw [List.length_set]
    exact HXL.out.trans setAt_len.symm
  · have h9 := (Own.row HSF.out (by omega)).congr fun a b _ _ => (hpCell_setAt (V := V) (k := k) (i := i) (d := (d : Int)) (xs.set k (xsR xs k, .slice (some ⟨gA, 0, none⟩) zs.length cA)) a b).symm
    show RowAt _ _ 7 (setAtP V k i d).held.length (hpCell (setAtP V k i d).held _)
    rw [setAt_len]
    exact h9
  · have hm' : m < V.held.length := by rw [← setAt_len (V := V) (k := k) (i := i) (d := (d : Int))]; exact hm
    obtain ⟨x1, x2⟩ := HXS.out m hm'
    show ReadsR _ _ ((setAtP V k i d).held.getD m default).refs ∧ ReadsI _ _ ((setAtP V k i d).held.getD m default).at_
    by_cases e : m = k
    · subst e
      rw [getD_set_self _ _ _ _ hjx, setAt_self hk]
      refine ⟨x1.below HBF.out, ?_⟩
      show ReadsI _ _ ((V.held.getD m default).at_.set i d)
      rw [← HZS.out]
      have h9 := Own.row HAF.out (by omega)
      unfold ReadsI
      rw [List.length_set]
      exact h9
    · rw [getD_set_ne _ _ _ e, setAt_ne e]
      exact ⟨x1.below HBF.out, x2.below HBF.out⟩
  · show ReadsI _ _ (V.room.set d (rm - size))
    have h9 := Own.row HRF.out (by omega)
    unfold ReadsI
    rw [List.length_set]
    exact h9
  · obtain ⟨mv2, hv2, rv2, wv2, e, z1, ⟨xs2, z2, z3, z4⟩, z5, z6⟩ := hav
    cases e
    have hx : ∀ m, m < V.held.length → xsR xs2 m = xsR xs m ∧ xsA xs2 m = xsA xs m := fun m hm => ⟨rowAt_eq z3.row HXR.out hm (show 5 < 7 by omega), rowAt_eq z3.row HXR.out hm (show 6 < 7 by omega)⟩
    refine ⟨_, _, _, _, rfl, z1.below HBF.out, ⟨xs.set k (xsR xs k, .slice (some ⟨gA, 0, none⟩) zs.length cA), ?_, ?_, fun m hm => ?_⟩, ?_, z6.below HBF.out⟩
    · rw [List.length_set]
      exact HXL.out.trans setAt_len.symm
    · have h9 := Own.av (g := g) (HSF.out.congr fun a b _ _ => (hpCell_setAt (V := V) (k := k) (i := i) (d := (d : Int)) (xs.set k (xsR xs k, .slice (some ⟨gA, 0, none⟩) zs.length cA)) a b).symm) (by omega) (by omega)
      show RowAv _ _ 7 (setAtP V k i d).held.length (hpCell (setAtP V k i d).held _) g
      rw [setAt_len]
      exact h9
    · have hm' : m < V.held.length := by rw [← setAt_len (V := V) (k := k) (i := i) (d := (d : Int))]; exact hm
      obtain ⟨x1, x2⟩ := z4 m hm'
      rw [(hx m hm').1] at x1
      rw [(hx m hm').2] at x2
      show RowAv _ _ 3 ((setAtP V k i d).held.getD m default).refs.length (rfCell ((setAtP V k i d).held.getD m default).refs) g ∧ RowAv _ _ 1 ((setAtP V k i d).held.getD m default).at_.length (fun a _ => .int .i64 (((setAtP V k i d).held.getD m default).at_.getD a 0)) g
      unfold xsR at x1
      unfold xsA at x2
      unfold xsR xsA
      by_cases e : m = k
      · subst e
        rw [getD_set_self _ _ _ _ hjx, setAt_self hk]
        refine ⟨x1.below HBF.out, ?_⟩
        show RowAv _ _ 1 ((V.held.getD m default).at_.set i (d : Int)).length (fun a _ => .int .i64 (((V.held.getD m default).at_.set i (d : Int)).getD a 0)) g
        rw [← HZS.out, List.length_set]
        exact Own.av HAF.out (by omega) (by omega)
      · rw [getD_set_ne _ _ _ e, setAt_ne e]
        exact ⟨x1.below HBF.out, x2.below HBF.out⟩
    · show RowAv _ _ 1 (V.room.set d (rm - size)).length (fun a _ => .int .i64 ((V.room.set d (rm - size)).getD a 0)) g
      rw [List.length_set]
      refine Own.av HRF.out (by omega) ?_
      have := hb12.size
      have := HZ10.out
      omega

theorem do_ref (v fv : Value) (V : Vp) (gone : Nat → Bool) (j : Jp) (w : World) (hv : VwAt w v V) (hf : ∃ a n c, fv = .slice a n c) (hok : VOk V) (hp : possB V gone j = true) :
    Calls Try.prog 53 #[v, j.v fv] w fun e w' => ∃ u, e = .returned u ∧ VwAt w' u (doP V j) ∧ Below w.heap.size w w' :=
  (do_ref2 v fv V gone j w hv hf hok hp).mono fun _ _ ⟨u, h1, h2, h3, _⟩ => ⟨u, h1, h2, h3⟩

end Go.Proofs.Ytijcicgbhcphjaa
