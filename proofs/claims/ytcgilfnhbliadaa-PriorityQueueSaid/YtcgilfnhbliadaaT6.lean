/- Next. -/
import Derived.Test.YtcgilfnhbliadaaT5
import Derived.Laws.ResultCell
namespace Go.Proofs.Ytcgilfnhbliadaa
open Go.RowKit Go.Lib Go.ChangeMaps
set_option linter.unusedSimpArgs false

theorem results_row_tmp {P : Program} {fn : Func} {p u : Tmp} {ty : TypeId} (h : fn.results = #[.cell p ty, .tmp u]) (tmps : Array Value) (w : World) (g : Nat) (t : TypeId) (cs : Array Value) (fr : Nat × Nat) (d : TypeDesc)
    (hp : tmps.getD p undef = .pointer (some ⟨g, 0, none⟩)) (hg : w.heap[g]? = some (.cells cs t fr))
    (hu : P.underlying ty = some d) (hd : (match d with | .struct _ | .array _ _ => true | _ => false) = true) (hi : (P.info? ty).map (·.size) = some cs.size) :
    (results fn tmps).run P w = .ok (.tuple #[.agg cs, tmps.getD u undef]) w := by
  have hp' : tmps[p]?.getD undef = .pointer (some ⟨g, 0, none⟩) := by simpa using hp
  simp [results, h, hp', asAddr, run_loadVar_row w g t ty cs fr d hg hu hd hi, Result.andThen]

theorem sv_far {w : World} {N b o : Nat} (v0 v1 v2 v3 v4 v5 v6 : Value) {x : Value} (hb : N ≠ b) (h : w.cell? ⟨b, o, none⟩ = some x) : (((((((w.setCell ⟨N, 0, none⟩ v0).setCell ⟨N, 1, none⟩ v1).setCell ⟨N, 2, none⟩ v2).setCell ⟨N, 3, none⟩ v3).setCell ⟨N, 4, none⟩ v4).setCell ⟨N, 5, none⟩ v5).setCell ⟨N, 6, none⟩ v6).cell? ⟨b, o, none⟩ = some x := by
  rw [World.cell?_setCell_far _ _ _ _ hb, World.cell?_setCell_far _ _ _ _ hb, World.cell?_setCell_far _ _ _ _ hb, World.cell?_setCell_far _ _ _ _ hb, World.cell?_setCell_far _ _ _ _ hb, World.cell?_setCell_far _ _ _ _ hb, World.cell?_setCell_far _ _ _ _ hb]
  exact h
theorem sv_set {w : World} {N : Nat} {c0 c1 c2 c3 c4 c5 c6 : Value} {t : TypeId} (h : w.heap[N]? = some (.cells #[c0, c1, c2, c3, c4, c5, c6] t)) (v0 v1 v2 v3 v4 v5 v6 : Value) :
    (((((((w.setCell ⟨N, 0, none⟩ v0).setCell ⟨N, 1, none⟩ v1).setCell ⟨N, 2, none⟩ v2).setCell ⟨N, 3, none⟩ v3).setCell ⟨N, 4, none⟩ v4).setCell ⟨N, 5, none⟩ v5).setCell ⟨N, 6, none⟩ v6).heap[N]? = some (.cells #[v0, v1, v2, v3, v4, v5, v6] t) := by
  have s0 : (w.setCell ⟨N, 0, none⟩ v0).heap[N]? = some (.cells #[v0, c1, c2, c3, c4, c5, c6] t) := setCell_block h v0
  have s1 : ((w.setCell ⟨N, 0, none⟩ v0).setCell ⟨N, 1, none⟩ v1).heap[N]? = some (.cells #[v0, v1, c2, c3, c4, c5, c6] t) := setCell_block s0 v1
  have s2 : (((w.setCell ⟨N, 0, none⟩ v0).setCell ⟨N, 1, none⟩ v1).setCell ⟨N, 2, none⟩ v2).heap[N]? = some (.cells #[v0, v1, v2, c3, c4, c5, c6] t) := setCell_block s1 v2
  have s3 : ((((w.setCell ⟨N, 0, none⟩ v0).setCell ⟨N, 1, none⟩ v1).setCell ⟨N, 2, none⟩ v2).setCell ⟨N, 3, none⟩ v3).heap[N]? = some (.cells #[v0, v1, v2, v3, c4, c5, c6] t) := setCell_block s2 v3
  have s4 : (((((w.setCell ⟨N, 0, none⟩ v0).setCell ⟨N, 1, none⟩ v1).setCell ⟨N, 2, none⟩ v2).setCell ⟨N, 3, none⟩ v3).setCell ⟨N, 4, none⟩ v4).heap[N]? = some (.cells #[v0, v1, v2, v3, v4, c5, c6] t) := setCell_block s3 v4
  have s5 : ((((((w.setCell ⟨N, 0, none⟩ v0).setCell ⟨N, 1, none⟩ v1).setCell ⟨N, 2, none⟩ v2).setCell ⟨N, 3, none⟩ v3).setCell ⟨N, 4, none⟩ v4).setCell ⟨N, 5, none⟩ v5).heap[N]? = some (.cells #[v0, v1, v2, v3, v4, v5, c6] t) := setCell_block s4 v5
  have s6 : (((((((w.setCell ⟨N, 0, none⟩ v0).setCell ⟨N, 1, none⟩ v1).setCell ⟨N, 2, none⟩ v2).setCell ⟨N, 3, none⟩ v3).setCell ⟨N, 4, none⟩ v4).setCell ⟨N, 5, none⟩ v5).setCell ⟨N, 6, none⟩ v6).heap[N]? = some (.cells #[v0, v1, v2, v3, v4, v5, v6] t) := setCell_block s5 v6
  exact s6
theorem sv_other (w : World) {N g : Nat} (v0 v1 v2 v3 v4 v5 v6 : Value) (h : g ≠ N) : (((((((w.setCell ⟨N, 0, none⟩ v0).setCell ⟨N, 1, none⟩ v1).setCell ⟨N, 2, none⟩ v2).setCell ⟨N, 3, none⟩ v3).setCell ⟨N, 4, none⟩ v4).setCell ⟨N, 5, none⟩ v5).setCell ⟨N, 6, none⟩ v6).heap[g]? = w.heap[g]? := by
  simp only [setCell_other _ _ h]
theorem sv_size (w : World) {N : Nat} (v0 v1 v2 v3 v4 v5 v6 : Value) : (((((((w.setCell ⟨N, 0, none⟩ v0).setCell ⟨N, 1, none⟩ v1).setCell ⟨N, 2, none⟩ v2).setCell ⟨N, 3, none⟩ v3).setCell ⟨N, 4, none⟩ v4).setCell ⟨N, 5, none⟩ v5).setCell ⟨N, 6, none⟩ v6).heap.size = w.heap.size := by
  simp only [setCell_size]
theorem sv_below {B : Nat} {a w : World} (h : Below B a w) {N : Nat} (hN : B ≤ N) (v0 v1 v2 v3 v4 v5 v6 : Value) : Below B a (((((((w.setCell ⟨N, 0, none⟩ v0).setCell ⟨N, 1, none⟩ v1).setCell ⟨N, 2, none⟩ v2).setCell ⟨N, 3, none⟩ v3).setCell ⟨N, 4, none⟩ v4).setCell ⟨N, 5, none⟩ v5).setCell ⟨N, 6, none⟩ v6) :=
  below_setCell (below_setCell (below_setCell (below_setCell (below_setCell (below_setCell (below_setCell h hN _) hN _) hN _) hN _) hN _) hN _) hN _
theorem QAt.kept {w w' : World} {b m k : Nat} {S : List Tk} (h : QAt w b m S) (hb : k ≠ b) (hm : k ≠ m) (hk : ∀ j, j ≠ k → w'.heap[j]? = w.heap[j]?) : QAt w' b m S := by
  obtain ⟨h1, L, ck, h2, h3⟩ := h
  exact ⟨(hk b hb.symm).trans h1, L, ck, (hk m hm.symm).trans h2, h3⟩
theorem gb_cell {w W : World} {m N o : Nat} (h : w.grownBy W (some m)) (hN : w.heap.size ≤ N) (v : Value) : w.grownBy (W.setCell ⟨N, o, none⟩ v) (some m) :=
  gb_below h (below_setCell (Below.refl w.heap.size W) hN v)
theorem gb_seven {w W : World} {m N : Nat} (h : w.grownBy W (some m)) (hN : w.heap.size ≤ N) (v0 v1 v2 v3 v4 v5 v6 : Value) : w.grownBy (((((((W.setCell ⟨N, 0, none⟩ v0).setCell ⟨N, 1, none⟩ v1).setCell ⟨N, 2, none⟩ v2).setCell ⟨N, 3, none⟩ v3).setCell ⟨N, 4, none⟩ v4).setCell ⟨N, 5, none⟩ v5).setCell ⟨N, 6, none⟩ v6) (some m) :=
  gb_cell (gb_cell (gb_cell (gb_cell (gb_cell (gb_cell (gb_cell h hN _) hN _) hN _) hN _) hN _) hN _) hN _
def zT : Tk := ⟨⟨#[]⟩, 0, 0, 0, 0, 0, 0⟩
/-- The first of those that fit in the room. -/
def BestP (us : List Tk) (room : Int) : Option Tk → Prop
  | none => ∀ u ∈ us, ¬ u.size ≤ room
  | some f => f ∈ us ∧ f.size ≤ room ∧ ∀ u ∈ us, u.size ≤ room → ¬ cmpT u f < 0
theorem BestP.big {us : List Tk} {room : Int} {o : Option Tk} {t : Tk} (h : BestP us room o) (ht : ¬ t.size ≤ room) : BestP (us ++ [t]) room o := by
  cases o with
  | none =>
    intro u hu
    rcases List.mem_append.1 hu with hu | hu
    · exact h u hu
    · rw [List.mem_singleton] at hu; rw [hu]; exact ht
  | some f =>
    obtain ⟨h1, h2, h3⟩ := h
    refine ⟨List.mem_append_left _ h1, h2, fun u hu hs => ?_⟩
    rcases List.mem_append.1 hu with hu | hu
    · exact h3 u hu hs
    · rw [List.mem_singleton] at hu; rw [hu] at hs; exact absurd hs ht
theorem BestP.one {us : List Tk} {room : Int} {t : Tk} (h : BestP us room none) (ht : t.size ≤ room) : BestP (us ++ [t]) room (some t) := by
  refine ⟨List.mem_append_right _ (List.mem_singleton.2 rfl), ht, fun u hu hs => ?_⟩
  rcases List.mem_append.1 hu with hu | hu
  · exact absurd hs (h u hu)
  · rw [List.mem_singleton] at hu; rw [hu, cmpT_cm.self]; omega
theorem BestP.less {us : List Tk} {room : Int} {f t : Tk} (h : BestP us room (some f)) (hok : AllOk us) (hot : TOk t) (ht : t.size ≤ room) (hc : cmpT t f < 0) : BestP (us ++ [t]) room (some t) := by
  obtain ⟨h1, h2, h3⟩ := h
  refine ⟨List.mem_append_right _ (List.mem_singleton.2 rfl), ht, fun u hu hs => ?_⟩
  rcases List.mem_append.1 hu with hu | hu
  · exact fun h4 => h3 u hu hs (cmpT_trans (hok u hu) hot (hok f h1) h4 hc)
  · rw [List.mem_singleton] at hu; rw [hu, cmpT_cm.self]; omega
theorem BestP.more {us : List Tk} {room : Int} {f t : Tk} (h : BestP us room (some f)) (hc : ¬ cmpT t f < 0) : BestP (us ++ [t]) room (some f) := by
  obtain ⟨h1, h2, h3⟩ := h
  refine ⟨List.mem_append_left _ h1, h2, fun u hu hs => ?_⟩
  rcases List.mem_append.1 hu with hu | hu
  · exact h3 u hu hs
  · rw [List.mem_singleton] at hu; rw [hu]; exact hc
theorem BestP.perm {us S : List Tk} {room : Int} {o : Option Tk} (h : BestP us room o) (hp : us.Perm S) : BestP S room o := by
  cases o with
  | none => exact fun u hu => h u (hp.mem_iff.2 hu)
  | some f => exact ⟨hp.mem_iff.1 h.1, h.2.1, fun u hu => h.2.2 u (hp.mem_iff.2 hu)⟩

set_option maxRecDepth 100000 in
set_option maxHeartbeats 8000000 in
theorem Next_any (b m : Nat) (S : List Tk) (room : Int) (w : World) (hq : QAt w b m S) (hok : AllOk S) :
    Calls Try.prog 30 #[.pointer (some ⟨b, 0, none⟩), .int .i64 room] w fun e w' => (BestP S room none ∧ e = .returned (.tuple #[zT.v, .int .i64 4]) ∧ QAt w' b m S ∧ Below w.heap.size w w') ∨
      (∃ f, BestP S room (some f) ∧ e = .returned (.tuple #[f.v, .int .i64 0]) ∧ QAt w' b m (delS f.pc S) ∧ w.grownBy w' (some m)) := by
  have HQ := Lib.hid hq
  have HOK := Lib.hid hok
  have HBL := Lib.hid (Array.getElem?_eq_some_iff.1 hq.1).1
  have HML := Lib.hid (show m < w.heap.size by obtain ⟨_, _, _, h2, _⟩ := hq; exact (Array.getElem?_eq_some_iff.1 h2).1)
  have hne := hq.ne
  clear hq hok
  go_enter Try.func30, Try.ntmps30
  go_upto_region 3 with fail
  obtain ⟨N, hN⟩ : ∃ N, N = w.heap.size := ⟨_, rfl⟩
  have HN := Lib.hid hN
  have hX4 : ((w.alloc (.cells #[.string ⟨#[]⟩, .int .i64 0, .int .i64 0, .int .i64 0, .int .i64 0, .int .i64 0, .int .i64 0] 27)).alloc (.cells #[.string ⟨#[]⟩, .int .i64 0, .int .i64 0, .int .i64 0, .int .i64 0, .int .i64 0, .int .i64 0] 27)).heap[w.heap.size]? = some (.cells #[.string ⟨#[]⟩, .int .i64 0, .int .i64 0, .int .i64 0, .int .i64 0, .int .i64 0, .int .i64 0] 27) := bb (sb0 _) (heap_alloc_new w _)
  have hX6 : ((w.alloc (.cells #[.string ⟨#[]⟩, .int .i64 0, .int .i64 0, .int .i64 0, .int .i64 0, .int .i64 0, .int .i64 0] 27)).alloc (.cells #[.string ⟨#[]⟩, .int .i64 0, .int .i64 0, .int .i64 0, .int .i64 0, .int .i64 0, .int .i64 0] 27)).heap[w.heap.size + 1]? = some (.cells #[.string ⟨#[]⟩, .int .i64 0, .int .i64 0, .int .i64 0, .int .i64 0, .int .i64 0, .int .i64 0] 27) := by have := heap_alloc_new (w.alloc (.cells #[.string ⟨#[]⟩, .int .i64 0, .int .i64 0, .int .i64 0, .int .i64 0, .int .i64 0, .int .i64 0] 27)) (.cells #[.string ⟨#[]⟩, .int .i64 0, .int .i64 0, .int .i64 0, .int .i64 0, .int .i64 0, .int .i64 0] 27); rw [World.size_alloc] at this; exact this
  have hb1 : Below w.heap.size w ((w.alloc (.cells #[.string ⟨#[]⟩, .int .i64 0, .int .i64 0, .int .i64 0, .int .i64 0, .int .i64 0, .int .i64 0] 27)).alloc (.cells #[.string ⟨#[]⟩, .int .i64 0, .int .i64 0, .int .i64 0, .int .i64 0, .int .i64 0, .int .i64 0] 27)) := (sb0 _).trans ((sb0 _).mono (by rw [World.size_alloc]; omega))
  have HS1 := Lib.hid (show ((w.alloc (.cells #[.string ⟨#[]⟩, .int .i64 0, .int .i64 0, .int .i64 0, .int .i64 0, .int .i64 0, .int .i64 0] 27)).alloc (.cells #[.string ⟨#[]⟩, .int .i64 0, .int .i64 0, .int .i64 0, .int .i64 0, .int .i64 0, .int .i64 0] 27)).heap.size = w.heap.size + 2 by rw [World.size_alloc, World.size_alloc])
  obtain ⟨M, hM⟩ : ∃ M, M = w.heap.size + 1 := ⟨_, rfl⟩
  have HM := Lib.hid hM
  rw [← hM] at hX6 ⊢
  rw [← hN] at hX4 ⊢
  have HX4 := Lib.hid hX4
  have HX6 := Lib.hid hX6
  have HB1 := Lib.hid hb1
  clear hX4 hX6 hb1 hM hN
  generalize ((w.alloc (.cells #[.string ⟨#[]⟩, .int .i64 0, .int .i64 0, .int .i64 0, .int .i64 0, .int .i64 0, .int .i64 0] 27)).alloc (.cells #[.string ⟨#[]⟩, .int .i64 0, .int .i64 0, .int .i64 0, .int .i64 0, .int .i64 0, .int .i64 0] 27)) = w1 at *
  have HQ1 := Lib.hid (HQ.out.below HB1.out)
  have c0 : w1.cell? ⟨b, 0, none⟩ = some (.map (some m)) := cell_of_row w1 _ 0 _ _ _ HQ1.out.1
  go_wp2_with (at_range; refine wpList_range_q _ (by rfl) (.tmp 13) (by rfl) b m S (by rfl) HQ1.out ?_; intro w2 lt0 hrg2 hp2 hb2 hs2)
  go_frame
  have HB2 := Lib.hid (HB1.out.trans (hb2.mono HB1.out.size))
  have HP2 := Lib.hid hp2
  have HY4 := Lib.hid (bb hb2 HX4.out)
  have HY6 := Lib.hid (bb hb2 HX6.out)
  obtain ⟨r, hr⟩ : ∃ r, r = w1.heap.size := ⟨_, rfl⟩
  have HR := Lib.hid hr
  rw [← hr] at hrg2 ⊢
  have HRG2 := Lib.hid hrg2
  clear hs2 hp2 hb2 hr hrg2
  have HNM := Lib.hid (show N < M ∧ M < r ∧ N ≠ m ∧ M ≠ m ∧ b < N ∧ m < N by have := HN.out; have := HM.out; have := HR.out; have := HS1.out; have := HBL.out; have := HML.out; omega)
  go_loopw [7, 9] (fun v7 _ wr => ∃ us lt o, RngQ wr b m r S lt ∧ (us ++ lt).Perm S ∧ Below w.heap.size w wr ∧ v7 = .bool (Option.isSome o) ∧ BestP us room o ∧ wr.heap[N]? = some (.cells #[.string ⟨#[]⟩, .int .i64 0, .int .i64 0, .int .i64 0, .int .i64 0, .int .i64 0, .int .i64 0] 27) ∧ (∃ f : Tk, o.getD zT = f ∧ wr.heap[M]? = some (.cells #[.string f.st, .int .i64 f.ix, .int .i64 f.size, .int .i64 f.spare, .int .i64 f.num, .int .i64 f.den, .int .i64 f.day] 27))) (fun _ _ wr => wr.rangeLeft m r)
  case atStart => exact ⟨[], lt0, none, HRG2.out, HP2.out, HB2.out, rfl, fun u hu => absurd hu List.not_mem_nil, HY4.out, zT, rfl, HY6.out⟩
  case round =>
    obtain ⟨us, lt, o, hrg, hp, hbel, rfl, hbest, hx4, f, hf, hx6⟩ := hrel
    have HRG := Lib.hid hrg
    have HP := Lib.hid hp
    have HBEL := Lib.hid hbel
    have HBEST := Lib.hid hbest
    have HZ4 := Lib.hid hx4
    have HZ6 := Lib.hid hx6
    have HF := Lib.hid hf
    obtain ⟨fd, hfd⟩ : ∃ fd, fd = o.isSome := ⟨_, rfl⟩
    have HFD := Lib.hid hfd
    rw [← hfd]
    clear hp hbel hbest hx4 hx6 hf hfd
    go_wp2_with (at_next; refine wpList_next_q _ (by rfl) (.tmp 14) (by rfl) b m r S lt (by rfl) hrg ?_ ?_)
    · intro hl0
      subst hl0
      have HP3 := HP.out
      rw [List.append_nil] at HP3
      have HBP := Lib.hid (HBEST.out.perm HP3)
      clear HP3 hrg
      have HWR := Lib.hid HRG.out.q
      cases fd with
      | false =>
        obtain rfl : o = none := by
          cases o with
          | none => rfl
          | some f' => exact absurd HFD.out (by simp)
        have g0 := frozen_of_row wr _ 0 _ _ HZ4.out
        have g1 := frozen_of_row wr _ 1 _ _ HZ4.out
        have g2 := frozen_of_row wr _ 2 _ _ HZ4.out
        have g3 := frozen_of_row wr _ 3 _ _ HZ4.out
        have g4 := frozen_of_row wr _ 4 _ _ HZ4.out
        have g5 := frozen_of_row wr _ 5 _ _ HZ4.out
        have g6 := frozen_of_row wr _ 6 _ _ HZ4.out
        have n0 := cell_of_row wr _ 0 _ _ _ HZ4.out
        have n1 := cell_of_row wr _ 1 _ _ _ HZ4.out
        have n2 := cell_of_row wr _ 2 _ _ _ HZ4.out
        have n3 := cell_of_row wr _ 3 _ _ _ HZ4.out
        have n4 := cell_of_row wr _ 4 _ _ _ HZ4.out
        have n5 := cell_of_row wr _ 5 _ _ _ HZ4.out
        have n6 := cell_of_row wr _ 6 _ _ _ HZ4.out
        have HB6 := Lib.hid (show Below w.heap.size w (((((((wr.setCell ⟨N, 0, none⟩ (.string ⟨#[]⟩)).setCell ⟨N, 1, none⟩ (.int .i64 0)).setCell ⟨N, 2, none⟩ (.int .i64 0)).setCell ⟨N, 3, none⟩ (.int .i64 0)).setCell ⟨N, 4, none⟩ (.int .i64 0)).setCell ⟨N, 5, none⟩ (.int .i64 0)).setCell ⟨N, 6, none⟩ (.int .i64 0)) from sv_below HBEL.out (by have := HN.out; omega) _ _ _ _ _ _ _)
        have HR6 := Lib.hid (HRG.out.kept (w' := (((((((wr.setCell ⟨N, 0, none⟩ (.string ⟨#[]⟩)).setCell ⟨N, 1, none⟩ (.int .i64 0)).setCell ⟨N, 2, none⟩ (.int .i64 0)).setCell ⟨N, 3, none⟩ (.int .i64 0)).setCell ⟨N, 4, none⟩ (.int .i64 0)).setCell ⟨N, 5, none⟩ (.int .i64 0)).setCell ⟨N, 6, none⟩ (.int .i64 0))) (k := N) (fun e => by have := HNM.out; omega) HNM.out.2.2.1 (fun e => by have := HNM.out; omega) fun j _ hj => sv_other _ _ _ _ _ _ _ _ hj)
        have HC4 := Lib.hid (sv_set HZ4.out (.string ⟨#[]⟩) (.int .i64 0) (.int .i64 0) (.int .i64 0) (.int .i64 0) (.int .i64 0) (.int .i64 0))
        clear HWR
        go_wp2
        refine bodyPost_ret (results_row_tmp (P := Try.prog) Try.results30 _ _ N 27 _ (0, 0) _ (by rfl) HC4.out Try.underlying27 rfl (by kernel_rfl)) rfl ?_
        exact .inl ⟨HBP.out, rfl, HR6.out.q, HB6.out⟩
      | true =>
        obtain rfl : o = some f := by
          cases o with
          | none => exact absurd HFD.out (by simp)
          | some f' => exact congrArg some HF.out
        have HDEL := Lib.hid (HRG.out.q.below (Below.refl _ wr).drew |>.del f.pc 0)
        obtain ⟨ff, hff⟩ : ∃ ff, ff = f := ⟨_, rfl⟩
        have HFF := Lib.hid hff
        rw [← hff] at HBP
        obtain ⟨fst, fix, fsz, fsp, fnum, fden, fday⟩ := f
        unfold Tk.pc Pc.v at HDEL
        simp only at HDEL
        have hz6 := HZ6.out
        simp only at hz6
        have HZ := Lib.hid hz6
        have c0 : wr.cell? ⟨b, 0, none⟩ = some (.map (some m)) := cell_of_row wr _ 0 _ _ _ HWR.out.1
        have e0 := cell_of_row wr _ 0 _ _ _ hz6
        have e1 := cell_of_row wr _ 1 _ _ _ hz6
        obtain ⟨o', hrun, hq2⟩ := HDEL.out
        have HQ4 := Lib.hid hq2
        have hNm : M ≠ m := HNM.out.2.2.2.1
        have HZD4 := Lib.hid (bb (Below.refl _ wr).drew HZ4.out)
        have HZD6 := Lib.hid (bb (Below.refl _ wr).drew hz6)
        have HBD := Lib.hid HBEL.out.drew
        clear hq2 hz6 hff HDEL
        go_upto_region 10 with fail
        have HSB0 : ∀ w' : World, Below (wr).drew.heap.size (wr).drew w' → (w'.cell? ⟨b, 0, none⟩ = some (.map (some m)) ∧ w'.cell? ⟨M, 0, none⟩ = some (.string fst) ∧ w'.cell? ⟨M, 1, none⟩ = some (.int .i64 fix)) := fun w' hb => ⟨bc hb c0, bc hb e0, bc hb e1⟩
        refine wp_region_held_drew (S := fun w' => w'.cell? ⟨b, 0, none⟩ = some (.map (some m)) ∧ w'.cell? ⟨M, 0, none⟩ = some (.string fst) ∧ w'.cell? ⟨M, 1, none⟩ = some (.int .i64 fix)) (by kernel_rfl) (HSB0 _ (Below.refl _ _)) (fun hHeld => ?_)
        have HSB := Lib.hid HSB0
        clear HSB0
        generalize (wr).drew = We at *
        clear c0 e0 e1
        refine wpAnyH_take (i := 0) (v := ?_) rfl (by kernel_rfl) (by kernel_rfl) (by kernel_rfl) (fun _ _ _ h => h) (Or.inl ⟨by rfl, ?_⟩) (by assumption) ?_
        rotate_left; · (intro w hSw; (try dsimp only at hSw); go_simp; try with_reducible rfl)
        try simp only [Act.put, List.getElem_toArray, List.getElem_cons_zero, List.getElem_cons_succ, List.setIfInBounds_toArray, List.set_cons_zero, List.set_cons_succ]
        refine wpAnyH_take (i := 1) (v := ?_) rfl (by kernel_rfl) (by kernel_rfl) (by kernel_rfl) (fun _ _ _ h => h) (Or.inl ⟨by rfl, ?_⟩) (by assumption) ?_
        rotate_left; · (intro w hSw; (try dsimp only at hSw); go_simp; try with_reducible rfl)
        try simp only [Act.put, List.getElem_toArray, List.getElem_cons_zero, List.getElem_cons_succ, List.setIfInBounds_toArray, List.set_cons_zero, List.set_cons_succ]
        refine wpAnyH_take (i := 2) (v := ?_) rfl (by kernel_rfl) (by kernel_rfl) (by kernel_rfl) (fun _ _ _ h => h) (Or.inl ⟨by rfl, ?_⟩) (by assumption) ?_
        rotate_left; · (intro w hSw; (try dsimp only at hSw); go_simp; try with_reducible rfl)
        try simp only [Act.put, List.getElem_toArray, List.getElem_cons_zero, List.getElem_cons_succ, List.setIfInBounds_toArray, List.set_cons_zero, List.set_cons_succ]
        refine wpAnyH_take (i := 3) (v := ?_) rfl (by kernel_rfl) (by kernel_rfl) (by kernel_rfl) (fun _ _ _ h => h) (Or.inl ⟨by rfl, ?_⟩) (by assumption) ?_
        rotate_left; · (intro w hSw; (try dsimp only at hSw); go_simp; try with_reducible rfl)
        try simp only [Act.put, List.getElem_toArray, List.getElem_cons_zero, List.getElem_cons_succ, List.setIfInBounds_toArray, List.set_cons_zero, List.set_cons_succ]
        refine wpAnyH_take (i := 4) (v := ?_) rfl (by kernel_rfl) (by kernel_rfl) (by kernel_rfl) (fun _ _ _ h => h) (Or.inl ⟨by rfl, ?_⟩) (by assumption) ?_
        rotate_left; · (intro w hSw; (try dsimp only at hSw); go_simp; try with_reducible rfl)
        try simp only [Act.put, List.getElem_toArray, List.getElem_cons_zero, List.getElem_cons_succ, List.setIfInBounds_toArray, List.set_cons_zero, List.set_cons_succ]
        refine wpAnyH_take (i := 5) (v := ?_) rfl (by kernel_rfl) (by kernel_rfl) (by kernel_rfl) (fun _ _ _ h => h) (Or.inl ⟨by rfl, ?_⟩) (by assumption) ?_
        rotate_left; · (intro w hSw; (try dsimp only at hSw); go_simp; try with_reducible rfl)
        try simp only [Act.put, List.getElem_toArray, List.getElem_cons_zero, List.getElem_cons_succ, List.setIfInBounds_toArray, List.set_cons_zero, List.set_cons_succ]
        refine wpAnyH_ready (rs := [6]) (by kernel_rfl) (by simp) ?_
        refine AllReadyH.cons rfl (fun K hK => ?_) AllReadyH.nil
        go_simp
        refine hK.out _ _ (by obtain ⟨x, y, z⟩ := HSB.out _ (Below.refl _ _); exact ⟨(cell_setBlock hne _).trans x, (cell_setBlock hNm _).trans y, (cell_setBlock hNm _).trans z⟩) (fun hNew => ?_)
        clear hK K hHeld
        have hHeld := hNew
        clear hNew
        try simp only [Act.put, List.getElem_toArray, List.getElem_cons_zero, List.getElem_cons_succ, List.setIfInBounds_toArray, List.set_cons_zero, List.set_cons_succ]
        refine wpAnyH_done (by kernel_rfl) ?_ _
        clear hHeld HSB hrun
        have hz4 := (setBlock_off We o' (show N ≠ m from HNM.out.2.2.1)).trans HZD4.out
        have hz6 := (setBlock_off We o' hNm).trans HZD6.out
        have HB5 := Lib.hid (gb_set (gb_of HBD.out (some m)) o')
        generalize setBlock We m o' = w5 at *
        have e0 := cell_of_row w5 _ 0 _ _ _ hz6
        have e1 := cell_of_row w5 _ 1 _ _ _ hz6
        have e2 := cell_of_row w5 _ 2 _ _ _ hz6
        have e3 := cell_of_row w5 _ 3 _ _ _ hz6
        have e4 := cell_of_row w5 _ 4 _ _ _ hz6
        have e5 := cell_of_row w5 _ 5 _ _ _ hz6
        have e6 := cell_of_row w5 _ 6 _ _ _ hz6
        have g0 := frozen_of_row w5 _ 0 _ _ hz4
        have g1 := frozen_of_row w5 _ 1 _ _ hz4
        have g2 := frozen_of_row w5 _ 2 _ _ hz4
        have g3 := frozen_of_row w5 _ 3 _ _ hz4
        have g4 := frozen_of_row w5 _ 4 _ _ hz4
        have g5 := frozen_of_row w5 _ 5 _ _ hz4
        have g6 := frozen_of_row w5 _ 6 _ _ hz4
        have n0 := cell_of_row w5 _ 0 _ _ _ hz4
        have n1 := cell_of_row w5 _ 1 _ _ _ hz4
        have n2 := cell_of_row w5 _ 2 _ _ _ hz4
        have n3 := cell_of_row w5 _ 3 _ _ _ hz4
        have n4 := cell_of_row w5 _ 4 _ _ _ hz4
        have n5 := cell_of_row w5 _ 5 _ _ _ hz4
        have n6 := cell_of_row w5 _ 6 _ _ _ hz4
        have HC4 := Lib.hid (sv_set hz4 (.string fst) (.int .i64 fix) (.int .i64 fsz) (.int .i64 fsp) (.int .i64 fnum) (.int .i64 fden) (.int .i64 fday))
        have HG6 := Lib.hid (show w.grownBy (((((((w5.setCell ⟨N, 0, none⟩ (.string fst)).setCell ⟨N, 1, none⟩ (.int .i64 fix)).setCell ⟨N, 2, none⟩ (.int .i64 fsz)).setCell ⟨N, 3, none⟩ (.int .i64 fsp)).setCell ⟨N, 4, none⟩ (.int .i64 fnum)).setCell ⟨N, 5, none⟩ (.int .i64 fden)).setCell ⟨N, 6, none⟩ (.int .i64 fday)) (some m) from gb_seven HB5.out (by have := HN.out; omega) _ _ _ _ _ _ _)
        have HQ6 := Lib.hid (HQ4.out.kept (w' := (((((((w5.setCell ⟨N, 0, none⟩ (.string fst)).setCell ⟨N, 1, none⟩ (.int .i64 fix)).setCell ⟨N, 2, none⟩ (.int .i64 fsz)).setCell ⟨N, 3, none⟩ (.int .i64 fsp)).setCell ⟨N, 4, none⟩ (.int .i64 fnum)).setCell ⟨N, 5, none⟩ (.int .i64 fden)).setCell ⟨N, 6, none⟩ (.int .i64 fday))) (k := N) (fun e => by have := HNM.out; omega) HNM.out.2.2.1 fun j hj => sv_other _ _ _ _ _ _ _ _ hj)
        clear hz4 hz6
        go_wp2
        refine bodyPost_ret (results_row_tmp (P := Try.prog) Try.results30 _ _ N 27 _ (0, 0) _ (by rfl) HC4.out Try.underlying27 rfl (by kernel_rfl)) rfl ?_
        exact .inr ⟨ff, HBP.out, by rw [HFF.out]; rfl, by rw [HFF.out]; exact HQ6.out, HG6.out⟩
    · intro t w3 lt3 hrg3 hp3 hg3 hs3 hen3
      have hs := HRG.out.lt
      have nN : some N ≠ some r := fun e => by have := HNM.out; injection e; omega
      have nM : some M ≠ some r := fun e => by have := HNM.out; injection e; omega
      have hz4 := (hg3.block N (by have := HNM.out; omega) nN).trans HZ4.out
      have hz6 := (hg3.block M (by have := HNM.out; omega) nM).trans HZ6.out
      have hB3 : Below w.heap.size w w3 := HBEL.out.trans (gb_to_below hg3 (by have := HNM.out; have := HN.out; omega) HBEL.out.size)
      have hlen : lt.length = lt3.length + 1 := by have := hp3.length_eq; rw [List.length_cons] at this; exact this
      have HP6 := Lib.hid (show ((us ++ [t]) ++ lt3).Perm S by rw [List.append_assoc]; exact ((hp3.symm.append_left us)).trans HP.out)
      have HML2 := Lib.hid (show lt3.length < wr.rangeLeft m r by have := hrg.left; omega)
      have HOT := Lib.hid (HOK.out t (HP.out.mem_iff.1 (List.mem_append_right _ (hp3.mem_iff.2 List.mem_cons_self))))
      have HOU := Lib.hid (show AllOk us from fun u hu => HOK.out u (HP.out.mem_iff.1 (List.mem_append_left _ hu)))
      have HOF := Lib.hid (show fd = true → TOk f from fun h => by
        cases o with
        | none => rw [HFD.out] at h; exact absurd h (by decide)
        | some f' => obtain rfl : f' = f := HF.out; exact HOU.out _ HBEST.out.1)
      obtain ⟨tt, htt⟩ : ∃ tt, tt = t := ⟨_, rfl⟩
      have HTT := Lib.hid htt
      rw [← htt] at HP6 HOT
      clear htt hs hs3 nN nM hlen hp3 hg3 hrg
      obtain ⟨tst, tix, tsz, tsp, tnum, tden, tday⟩ := t
      obtain ⟨ff, hff⟩ : ∃ ff, ff = f := ⟨_, rfl⟩
      have HFF := Lib.hid hff
      rw [← hff] at HF HOF
      clear hff
      obtain ⟨fst, fix, fsz, fsp, fnum, fden, fday⟩ := f
      simp only at hz6
      unfold Tk.v Tk.pc Pc.v at hen3
      unfold Tk.v Tk.pc Pc.v
      simp only at hen3 ⊢
      go_upto_region 6 with fail
      have hA : Below w3.heap.size w3 (w3.alloc (.cells #[.string tst, .int .i64 tix, .int .i64 tsz, .int .i64 tsp, .int .i64 tnum, .int .i64 tden, .int .i64 tday] 27)) := sb0 _
      have hz9 := heap_alloc_new w3 (.cells #[.string tst, .int .i64 tix, .int .i64 tsz, .int .i64 tsp, .int .i64 tnum, .int .i64 tden, .int .i64 tday] 27)
      have hz4 := bb hA hz4
      have hz6 := bb hA hz6
      have HRG4 := Lib.hid (hrg3.below hA)
      have HB4 := Lib.hid (hB3.trans (hA.mono hB3.size))
      obtain ⟨p, hp⟩ : ∃ p, p = w3.heap.size := ⟨_, rfl⟩
      rw [← hp] at hz9 ⊢
      have HPM := Lib.hid (show M ≠ p ∧ N ≠ p ∧ b ≠ p ∧ m ≠ p ∧ r ≠ p by rw [hp]; have := HNM.out; have := hrg3.lt; omega)
      generalize w3.alloc (.cells #[.string tst, .int .i64 tix, .int .i64 tsz, .int .i64 tsp, .int .i64 tnum, .int .i64 tden, .int .i64 tday] 27) = w4 at *
      have d0 := cell_of_row w4 _ 0 _ _ _ hz9
      have d1 := cell_of_row w4 _ 1 _ _ _ hz9
      have d2 := cell_of_row w4 _ 2 _ _ _ hz9
      have d3 := cell_of_row w4 _ 3 _ _ _ hz9
      have d4 := cell_of_row w4 _ 4 _ _ _ hz9
      have d5 := cell_of_row w4 _ 5 _ _ _ hz9
      have d6 := cell_of_row w4 _ 6 _ _ _ hz9
      have e0 := cell_of_row w4 _ 0 _ _ _ hz6
      have e1 := cell_of_row w4 _ 1 _ _ _ hz6
      have e2 := cell_of_row w4 _ 2 _ _ _ hz6
      have e3 := cell_of_row w4 _ 3 _ _ _ hz6
      have e4 := cell_of_row w4 _ 4 _ _ _ hz6
      have e5 := cell_of_row w4 _ 5 _ _ _ hz6
      have e6 := cell_of_row w4 _ 6 _ _ _ hz6
      have g0 := frozen_of_row w4 _ 0 _ _ hz6
      have g1 := frozen_of_row w4 _ 1 _ _ hz6
      have g2 := frozen_of_row w4 _ 2 _ _ hz6
      have g3 := frozen_of_row w4 _ 3 _ _ hz6
      have g4 := frozen_of_row w4 _ 4 _ _ hz6
      have g5 := frozen_of_row w4 _ 5 _ _ hz6
      have g6 := frozen_of_row w4 _ 6 _ _ hz6
      have HW4 := Lib.hid hz4
      have HW6 := Lib.hid hz6
      have HW9 := Lib.hid hz9
      clear hz4 hz6 hz9 hA hB3 hp hrg3
      by_cases hsz : tsz ≤ room
      · have q1 : decide (tsz ≤ room) = true := decide_eq_true hsz
        have HSZ := Lib.hid hsz
        clear hsz
        cases fd with
        | false =>
          obtain rfl : o = none := by
            cases o with
            | none => rfl
            | some f' => exact absurd HFD.out (by simp)
          have HBN := Lib.hid (HBEST.out.one (t := tt) (by rw [HTT.out]; exact HSZ.out))
          have HR6 := Lib.hid (HRG4.out.kept (w' := (((((((w4.setCell ⟨M, 0, none⟩ (.string tst)).setCell ⟨M, 1, none⟩ (.int .i64 tix)).setCell ⟨M, 2, none⟩ (.int .i64 tsz)).setCell ⟨M, 3, none⟩ (.int .i64 tsp)).setCell ⟨M, 4, none⟩ (.int .i64 tnum)).setCell ⟨M, 5, none⟩ (.int .i64 tden)).setCell ⟨M, 6, none⟩ (.int .i64 tday))) (k := M) (fun e => by have := HNM.out; omega) HNM.out.2.2.2.1 (fun e => by have := HNM.out; omega) fun j _ hj => sv_other _ _ _ _ _ _ _ _ hj)
          have HB6 := Lib.hid (show Below w.heap.size w (((((((w4.setCell ⟨M, 0, none⟩ (.string tst)).setCell ⟨M, 1, none⟩ (.int .i64 tix)).setCell ⟨M, 2, none⟩ (.int .i64 tsz)).setCell ⟨M, 3, none⟩ (.int .i64 tsp)).setCell ⟨M, 4, none⟩ (.int .i64 tnum)).setCell ⟨M, 5, none⟩ (.int .i64 tden)).setCell ⟨M, 6, none⟩ (.int .i64 tday)) from sv_below HB4.out (by have := HM.out; omega) _ _ _ _ _ _ _)
          have HC4 := Lib.hid ((sv_other w4 (.string tst) (.int .i64 tix) (.int .i64 tsz) (.int .i64 tsp) (.int .i64 tnum) (.int .i64 tden) (.int .i64 tday) (show N ≠ M by have := HNM.out; omega)).trans HW4.out)
          have HC6 := Lib.hid (sv_set HW6.out (.string tst) (.int .i64 tix) (.int .i64 tsz) (.int .i64 tsp) (.int .i64 tnum) (.int .i64 tden) (.int .i64 tday))
          go_wp2
          go_roundw
          case rel => exact ⟨us ++ [tt], lt3, some tt, HR6.out, HP6.out, HB6.out, rfl, HBN.out, HC4.out, tt, rfl, by rw [HTT.out]; exact HC6.out⟩
          case measure => rw [HR6.out.left]; exact HML2.out
        | true =>
          obtain rfl : o = some ff := by
            cases o with
            | none => exact absurd HFD.out (by simp)
            | some f' => exact congrArg some HF.out
          have HCC := Lib.hid (fun W => compare_any tt ff W HOT.out (HOF.out rfl))
          obtain ⟨x, hx⟩ : ∃ x, x = cmpT tt ff := ⟨_, rfl⟩
          have HX := Lib.hid hx
          rw [← hx] at HCC
          clear hx
          rw [HTT.out, HFF.out] at HCC
          unfold Tk.v at HCC
          simp only at HCC
          go_wp2_with fail
          refine (HCC.out _).mono ?_
          rintro e w5 ⟨rfl, hb5⟩
          clear HCC
          have HRG5 := Lib.hid (HRG4.out.below hb5)
          have HB5 := Lib.hid (HB4.out.trans (hb5.mono HB4.out.size))
          have HV4 := Lib.hid (bb hb5 HW4.out)
          have hz6 := bb hb5 HW6.out
          have hz9 := bb hb5 HW9.out
          clear d0 d1 d2 d3 d4 d5 d6 e0 e1 e2 e3 e4 e5 e6 g0 g1 g2 g3 g4 g5 g6 hb5
          have d0 := cell_of_row w5 _ 0 _ _ _ hz9
          have d1 := cell_of_row w5 _ 1 _ _ _ hz9
          have d2 := cell_of_row w5 _ 2 _ _ _ hz9
          have d3 := cell_of_row w5 _ 3 _ _ _ hz9
          have d4 := cell_of_row w5 _ 4 _ _ _ hz9
          have d5 := cell_of_row w5 _ 5 _ _ _ hz9
          have d6 := cell_of_row w5 _ 6 _ _ _ hz9
          have g0 := frozen_of_row w5 _ 0 _ _ hz6
          have g1 := frozen_of_row w5 _ 1 _ _ hz6
          have g2 := frozen_of_row w5 _ 2 _ _ hz6
          have g3 := frozen_of_row w5 _ 3 _ _ hz6
          have g4 := frozen_of_row w5 _ 4 _ _ hz6
          have g5 := frozen_of_row w5 _ 5 _ _ hz6
          have g6 := frozen_of_row w5 _ 6 _ _ hz6
          have e0 := cell_of_row w5 _ 0 _ _ _ hz6
          have e1 := cell_of_row w5 _ 1 _ _ _ hz6
          have e2 := cell_of_row w5 _ 2 _ _ _ hz6
          have e3 := cell_of_row w5 _ 3 _ _ _ hz6
          have e4 := cell_of_row w5 _ 4 _ _ _ hz6
          have e5 := cell_of_row w5 _ 5 _ _ _ hz6
          have e6 := cell_of_row w5 _ 6 _ _ _ hz6
          have HV6 := Lib.hid hz6
          clear hz6 hz9
          by_cases hc : x < 0
          · have q2 : decide (x < 0) = true := decide_eq_true hc
            have HBN := Lib.hid (HBEST.out.less (t := tt) HOU.out HOT.out (by rw [HTT.out]; exact HSZ.out) (by rw [← HX.out]; exact hc))
            have HR6 := Lib.hid (HRG5.out.kept (w' := (((((((w5.setCell ⟨M, 0, none⟩ (.string tst)).setCell ⟨M, 1, none⟩ (.int .i64 tix)).setCell ⟨M, 2, none⟩ (.int .i64 tsz)).setCell ⟨M, 3, none⟩ (.int .i64 tsp)).setCell ⟨M, 4, none⟩ (.int .i64 tnum)).setCell ⟨M, 5, none⟩ (.int .i64 tden)).setCell ⟨M, 6, none⟩ (.int .i64 tday))) (k := M) (fun e => by have := HNM.out; omega) HNM.out.2.2.2.1 (fun e => by have := HNM.out; omega) fun j _ hj => sv_other _ _ _ _ _ _ _ _ hj)
            have HB6 := Lib.hid (show Below w.heap.size w (((((((w5.setCell ⟨M, 0, none⟩ (.string tst)).setCell ⟨M, 1, none⟩ (.int .i64 tix)).setCell ⟨M, 2, none⟩ (.int .i64 tsz)).setCell ⟨M, 3, none⟩ (.int .i64 tsp)).setCell ⟨M, 4, none⟩ (.int .i64 tnum)).setCell ⟨M, 5, none⟩ (.int .i64 tden)).setCell ⟨M, 6, none⟩ (.int .i64 tday)) from sv_below HB5.out (by have := HM.out; omega) _ _ _ _ _ _ _)
            have HC4 := Lib.hid ((sv_other w5 (.string tst) (.int .i64 tix) (.int .i64 tsz) (.int .i64 tsp) (.int .i64 tnum) (.int .i64 tden) (.int .i64 tday) (show N ≠ M by have := HNM.out; omega)).trans HV4.out)
            have HC6 := Lib.hid (sv_set HV6.out (.string tst) (.int .i64 tix) (.int .i64 tsz) (.int .i64 tsp) (.int .i64 tnum) (.int .i64 tden) (.int .i64 tday))
            clear hc
            go_wp2
            go_roundw
            case rel => exact ⟨us ++ [tt], lt3, some tt, HR6.out, HP6.out, HB6.out, rfl, HBN.out, HC4.out, tt, rfl, by rw [HTT.out]; exact HC6.out⟩
            case measure => rw [HR6.out.left]; exact HML2.out
          · have q2 : decide (x < 0) = false := decide_eq_false hc
            have HBN := Lib.hid (HBEST.out.more (t := tt) (by rw [← HX.out]; exact hc))
            clear hc
            go_wp2
            go_roundw
            case rel => exact ⟨us ++ [tt], lt3, some ff, HRG5.out, HP6.out, HB5.out, rfl, HBN.out, HV4.out, ff, rfl, by rw [HFF.out]; exact HV6.out⟩
            case measure => rw [HRG5.out.left]; exact HML2.out
      · have q1 : decide (tsz ≤ room) = false := decide_eq_false hsz
        have HBN := Lib.hid (HBEST.out.big (t := tt) (by rw [HTT.out]; exact hsz))
        clear hsz
        go_wp2
        go_roundw
        case rel => exact ⟨us ++ [tt], lt3, o, HRG4.out, HP6.out, HB4.out, by rw [HFD.out], HBN.out, HW4.out, ff, HF.out, by rw [HFF.out]; exact HW6.out⟩
        case measure => rw [HRG4.out.left]; exact HML2.out

end Go.Proofs.Ytcgilfnhbliadaa
