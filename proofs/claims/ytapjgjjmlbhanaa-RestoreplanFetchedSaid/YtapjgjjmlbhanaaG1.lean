/- sum: all that is lacking of a supply; suffices; all. -/
import Derived.Test.YtapjgjjmlbhanaaT1
import Derived.Test.YtapjgjjmlbhanaaC4
namespace Go.Proofs.Ytapjgjjmlbhanaa
open Go.RowKit Go.Lib

def lackTo (ns : List Nd) (s : Sup) : Nat → Int
  | 0 => 0
  | n + 1 => lackTo ns s n + lackN (ns.getD n default).d (s.pc n)
/-- All that is lacking. -/
def sumS (thr : Int) (ns : List Nd) (s : Sup) : Int := lackS thr s + lackTo ns s ns.length + if s.ix = true then 0 else 1

theorem lackN_bd (d : Int) (m : Nat) (h : d ≤ 8) : 0 ≤ lackN d m ∧ lackN d m ≤ 8 := by unfold lackN; omega
theorem lackS_bd (thr : Int) (s : Sup) (h : thr ≤ 255) : 0 ≤ lackS thr s ∧ lackS thr s ≤ 255 := by unfold lackS; omega
theorem lackTo_bd (ns : List Nd) (s : Sup) (h : ∀ n ∈ ns, NdOk n) : ∀ j, j ≤ ns.length → 0 ≤ lackTo ns s j ∧ lackTo ns s j ≤ 8 * j
  | 0, _ => by simp [lackTo]
  | j + 1, hj => by
    have ih := lackTo_bd ns s h j (by omega)
    have h1 := (h (ns.getD j default) (by rw [getD_at _ _ _ (by omega)]; exact List.getElem_mem _)).2
    have h2 := lackN_bd _ (s.pc j) h1
    unfold lackTo
    omega

theorem count_any (B : Nat) (t n : Int) (w : World) (hc : w.cell? ⟨B, 0, none⟩ = some (.int .i64 t)) (hf : w.frozen? ⟨B, 0, none⟩ = false) (h0 : 0 ≤ t) (h1 : t ≤ 100000) (h2 : 0 ≤ n) (h3 : n ≤ 100000) :
    Calls Try.prog 73 #[.int .i64 n, .pointer (some ⟨B, 0, none⟩)] w fun e w' => e = .returned (.tuple #[]) ∧ w' = w.setCell ⟨B, 0, none⟩ (.int .i64 (t + n)) := by
  go_enter Try.func73, Try.ntmps73
  go_wp2
  go_end0
  exact ⟨rfl, rfl⟩

/-- A block of one number. -/
def NumAt (w : World) (b : Nat) (t : Int) : Prop := w.heap[b]? = some (.cells #[.int .i64 t] 3 (0, 0))
theorem NumAt.cell {w : World} {b : Nat} {t : Int} (h : NumAt w b t) : w.cell? ⟨b, 0, none⟩ = some (.int .i64 t) := by rw [cell_of_row w b 0 _ _ _ h]; rfl
theorem NumAt.frozen {w : World} {b : Nat} {t : Int} (h : NumAt w b t) : w.frozen? ⟨b, 0, none⟩ = false := by
  unfold World.frozen?
  have h' : w.heap[b]? = some (.cells #[.int .i64 t] 3 (0, 0)) := h
  simp only [h']
  simp
theorem NumAt.below {w w' : World} {b : Nat} {t : Int} (h : NumAt w b t) (hb : Below w.heap.size w w') : NumAt w' b t := (hb.block b (Array.getElem?_eq_some_iff.1 h).1).trans h
theorem NumAt.set {w : World} {b : Nat} {t : Int} (h : NumAt w b t) (u : Int) : NumAt (w.setCell ⟨b, 0, none⟩ (.int .i64 u)) b u := by
  have := setCell_block (i := 0) h (.int .i64 u)
  exact this
theorem NumAt.new (w : World) (t : Int) : NumAt (w.alloc (.cells #[.int .i64 t] 3)) w.heap.size t := heap_alloc_last w _

set_option maxRecDepth 100000 in
set_option maxHeartbeats 4000000 in
theorem sum_any (p : Nat) (x : PlanV) (ns : List Nd) (s : Sup) (w : World) (hp : PlanAt w p x) (hn : ReadsN w x.nv ns) (h64 : ns.length ≤ 64) (hd : ∀ n ∈ ns, NdOk n) (hs : s.Wf) (h0 : 0 ≤ x.thr) (h1 : x.thr ≤ 255) :
    Calls Try.prog 54 #[.pointer (some ⟨p, 0, none⟩), s.v] w fun e w' => e = .returned (.int .i64 (sumS x.thr ns s)) ∧ Below w.heap.size w w' := by
  have n1 := SupAt.new w s
  have bw : Below w.heap.size w (w.alloc (.cells s.cells 99)) := (Below.refl _ _).alloc (Nat.le_refl _) _
  obtain ⟨X, hX⟩ : ∃ X, X = w.heap.size := ⟨_, rfl⟩
  have HX := Lib.hid hX
  rw [← hX] at n1
  have sz : (w.alloc (.cells s.cells 99)).heap.size = X + 1 := by rw [World.size_alloc, hX]
  have HP := Lib.hid hp
  have HN := Lib.hid hn
  have HS := Lib.hid hs
  have HD := Lib.hid hd
  have N1 := Lib.hid n1
  have hLb := lackS_bd x.thr s h1
  have hTb := lackTo_bd ns s hd
  have HTB := Lib.hid hTb
  have plt : p < w.heap.size := (Array.getElem?_eq_some_iff.1 hp).1
  obtain ⟨r, hr⟩ : ∃ r, r = sumS x.thr ns s := ⟨_, rfl⟩
  rw [← hr]
  have HR := Lib.hid hr
  unfold Sup.v
  clear hp hn hs hd n1 hX hTb hr
  go_enter Try.func54, Try.ntmps54
  go_upto_region 1 with fail
  rw [← HX.out]
  generalize w.alloc (Obj.cells s.cells 99) = W1 at bw N1 sz ⊢
  have p1 := HP.out.below bw
  have P1 := Lib.hid p1
  have C44 := Lib.hid (lackingShares_any p s x.thr W1 (p1.cell 1 (by omega)) HS.out h0 h1)
  clear p1
  go_wp2_with (refine wpList_load_sup (by rfl) (.tmp 3) (by rfl) X (by rfl) s N1.out ?_)
  refine C44.out.mono ?_
  rintro e w2 ⟨rfl, hb2⟩
  have P2 := Lib.hid (P1.out.below hb2)
  have N2 := Lib.hid (N1.out.below hb2)
  have z2 := hb2.size
  have b2 : Below w.heap.size w w2 := bw.trans (hb2.mono bw.size)
  obtain ⟨S, hS⟩ : ∃ S, S = w2.heap.size := ⟨_, rfl⟩
  have HSS := Lib.hid hS
  have t3 := NumAt.new w2 (lackS x.thr s)
  rw [← hS] at t3
  have b3 : Below w2.heap.size w2 (w2.alloc (.cells #[.int .i64 (lackS x.thr s)] 3)) := (Below.refl _ _).alloc (Nat.le_refl _) _
  have P3 := Lib.hid (P2.out.below b3)
  have N3 := Lib.hid (N2.out.below b3)
  have b03 := b2.trans (b3.mono b2.size)
  have wle := bw.size
  have xlt : X + 1 ≤ S := by omega
  have wX : w.heap.size ≤ S := by omega
  have T3 := Lib.hid t3
  clear t3 b3 hb2 hS bw b2 P1 P2 N1 N2 C44 z2
  go_upto_region 2 with fail
  rw [← HSS.out]
  generalize w2.alloc (Obj.cells #[Value.int .i64 (lackS x.thr s)] 3) = W3 at b03 P3 N3 T3 ⊢
  have hn3 := HN.out.below b03
  obtain ⟨na, nc, nb, noff, env, _, _, _⟩ := hn3.at
  have c0 := P3.out.cell 0 (by omega)
  have e0 : x.cell 0 = x.nv := rfl
  rw [e0, env] at c0
  have HN3 := Lib.hid hn3
  have ENV := Lib.hid env
  clear hn3 env e0
  go_wp2
  generalize hN : ns.length = N at *
  have HNN := Lib.hid hN
  clear hN
  go_loopw [7, 18] (fun _ v18 wr => ∃ j : Nat, j ≤ N ∧ v18 = .int .i64 j ∧ PlanAt wr p x ∧ SupAt wr X s ∧ NumAt wr S (lackS x.thr s + lackTo ns s j) ∧ Below w.heap.size w wr ∧ S + 1 ≤ wr.heap.size) (fun _ v18 _ => N - (intOf v18).toNat)
  case atStart => exact ⟨0, Nat.zero_le _, rfl, P3.out, N3.out, by (have := T3.out; simpa [lackTo] using this), b03, (Array.getElem?_eq_some_iff.1 T3.out).1⟩
  case round =>
    obtain ⟨j, hj, rfl, hpr, hsr, htr, hbr, hsz⟩ := hrel
    have HPR := Lib.hid hpr
    have HSR := Lib.hid hsr
    have HTR := Lib.hid htr
    clear hpr hsr htr c0
    by_cases hlt : j < N
    · have hst : lackTo ns s (j + 1) = lackTo ns s j + lackN (ns.getD j default).d (s.pc j) := rfl
      have hm : NdOk (ns.getD j default) := HD.out _ (by rw [getD_at _ _ _ (by rw [HNN.out]; exact hlt)]; exact List.getElem_mem _)
      have hbd := HTB.out j (by omega)
      have hln := lackN_bd _ (s.pc j) hm.2
      have C45 := Lib.hid (lacking_any p s x.nv ns j wr (by rw [HNN.out]; exact hlt) (by rw [HNN.out]; exact h64) (HPR.out.cell 0 (by omega)) (HN.out.below hbr) HS.out hm.1 hm.2)
      have HST := Lib.hid hst
      clear hst hm
      generalize lackTo ns s j = t at *
      generalize lackN (ns.getD j default).d (s.pc j) = n at *
      go_wp2_with (refine wpList_load_sup (by rfl) (.tmp 3) (by rfl) X (by rfl) s HSR.out ?_)
      refine C45.out.mono ?_
      rintro e w5 ⟨rfl, hb5⟩
      have T5 := Lib.hid (HTR.out.below hb5)
      have C73 := Lib.hid (count_any S (lackS x.thr s + t) n w5 T5.out.cell T5.out.frozen (by omega) (by omega) (by omega) (by omega))
      go_wp2_with fail
      refine C73.out.mono ?_
      rintro e w6 ⟨rfl, rfl⟩
      have zr := hbr.size
      have hb05 : Below w.heap.size w w5 := hbr.trans (hb5.mono zr)
      have hz5 := hb5.size
      have P6 := Lib.hid ((setCell_other w5 (b := S) (i := 0) (g := p) (.int .i64 (lackS x.thr s + t + n)) (by omega)).trans (HPR.out.below hb5))
      have N6 := Lib.hid ((setCell_other w5 (b := S) (i := 0) (g := X) (.int .i64 (lackS x.thr s + t + n)) (by omega)).trans (HSR.out.below hb5))
      have T6 := Lib.hid (T5.out.set (lackS x.thr s + t + n))
      have B6 : Hid (Below w.heap.size w (w5.setCell ⟨S, 0, none⟩ (.int .i64 (lackS x.thr s + t + n)))) := Lib.hid (hb05.setCell wX _)
      go_wp2_with fail
      go_roundw
      case rel => exact ⟨j + 1, by omega, by go_num, P6.out, N6.out, by (rw [HST.out, ← Int.add_assoc]; exact T6.out), B6.out, by rw [setCell_size]; omega⟩
      case measure => simp [intOf]; omega
    · obtain rfl : j = N := by omega
      have hbd := HTB.out j (by omega)
      have hr := HR.out
      unfold sumS at hr
      rw [HNN.out] at hr
      generalize lackTo ns s j = t at *
      have cx := HSR.out.ix
      have ct := HTR.out.cell
      have C73 := Lib.hid (count_any S (lackS x.thr s + t) 1 wr HTR.out.cell HTR.out.frozen (by omega) (by omega) (by omega) (by omega))
      have T6 := HTR.out.set (lackS x.thr s + t + 1)
      have ct6 := T6.cell
      have B6 : Below w.heap.size w (wr.setCell ⟨S, 0, none⟩ (.int .i64 (lackS x.thr s + t + 1))) := hbr.setCell wX _
      generalize s.ix = ix at *
      cases ix
      · obtain rfl : r = lackS x.thr s + t + 1 := by rw [hr]; simp
        clear hr T6
        go_wp2_with fail
        refine C73.out.mono ?_
        rintro e w6 ⟨rfl, rfl⟩
        go_wp2
        go_ret
        exact ⟨rfl, B6⟩
      · obtain rfl : r = lackS x.thr s + t := by rw [hr]; simp
        clear hr T6 B6 ct6 C73
        go_wp2
        go_ret
        exact ⟨rfl, hbr⟩

end Go.Proofs.Ytapjgjjmlbhanaa
