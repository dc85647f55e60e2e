/- goalOf. -/
import Derived.Test.YtapjgjjmlbhanaaB6
import Derived.Deep.RegionLaw
namespace Go.Proofs.Ytapjgjjmlbhanaa
open Go.RowKit Go.Lib

set_option maxRecDepth 100000 in
set_option maxHeartbeats 4000000 in
theorem goalOf_any (g : Gl) (w : World) (hg : GlAt w g) (hlen : g.ns.length ≤ 1000000) :
    Calls Try.prog 15 #[g.v] w fun e w' => ∃ u, e = .returned { g with nv := u }.v ∧ GlAt w' { g with nv := u } ∧ Below w.heap.size w w' := by
  obtain ⟨nv, thr, idx, pv, sv, ns, ps, ss⟩ := g
  obtain ⟨hN, hP, hS⟩ := hg
  simp only at hN hP hS hlen
  obtain ⟨ao, c, b, off, rfl, hl, hm, hcell⟩ := hN.at
  have HP := Lib.hid hP
  have HS := Lib.hid hS
  obtain ⟨pa, pc, _, _, rfl, _⟩ := hP.at
  obtain ⟨sa, sc, _, _, rfl, _⟩ := hS.at
  have HC := Lib.hid hcell
  clear hcell hN hP hS
  unfold Gl.v
  simp only
  generalize ps.length = pn at *
  generalize ss.length = sn at *
  go_enter Try.func15, Try.ntmps15
  go_wp2
  obtain ⟨G, hG⟩ : ∃ G, G = w.heap.size := ⟨_, rfl⟩
  have HG := Lib.hid hG
  generalize hW : ((w.alloc _).alloc _).alloc _ = W
  have bW : Below w.heap.size w W := by rw [← hW]; exact (((Below.refl _ _).alloc (Nat.le_refl _) _).alloc (by simp) _).alloc (by simp; omega) _
  have sW : W.heap.size = w.heap.size + 3 := by rw [← hW]; simp
  have g0 : W.heap[w.heap.size]? = some (.cells #[.slice ao ns.length c, .int .i64 thr, .bool idx, .slice pa pn pc, .slice sa sn sc] 26 (0, 0)) := by
    rw [← hW, Below.heap_alloc _ _ _ (by simp; omega), Below.heap_alloc _ _ _ (by simp)]; exact heap_alloc_new _ _
  have g1 : W.heap[w.heap.size + 1]? = some (.cells #[.slice none 0 0, .int .i64 0, .bool false, .slice none 0 0, .slice none 0 0] 37 (0, 0)) := by
    have := heap_alloc_new (w.alloc (Obj.cells #[.slice ao ns.length c, .int .i64 thr, .bool idx, .slice pa pn pc, .slice sa sn sc] 26)) (Obj.cells #[.slice none 0 0, .int .i64 0, .bool false, .slice none 0 0, .slice none 0 0] 37)
    rw [World.size_alloc] at this
    rw [← hW, Below.heap_alloc _ _ _ (by simp)]; exact this
  have g2 : W.heap[w.heap.size + 2]? = some (.cells #[.slice none 0 0, .int .i64 thr, .bool idx, .slice pa pn pc, .slice sa sn sc] 37 (0, 0)) := by
    have := heap_alloc_new ((w.alloc (Obj.cells #[.slice ao ns.length c, .int .i64 thr, .bool idx, .slice pa pn pc, .slice sa sn sc] 26)).alloc (Obj.cells #[.slice none 0 0, .int .i64 0, .bool false, .slice none 0 0, .slice none 0 0] 37)) (Obj.cells #[.slice none 0 0, .int .i64 thr, .bool idx, .slice pa pn pc, .slice sa sn sc] 37)
    rw [World.size_alloc, World.size_alloc] at this
    rw [← hW]; exact this
  rw [← hG] at g0 g1 g2 sW ⊢
  have SW := Lib.hid sW
  have G0 := Lib.hid g0
  have G1 := Lib.hid g1
  have G2 := Lib.hid g2
  clear hW hG g0 g1 g2 sW
  go_loopw [4] (fun v4 wr => ∃ (j : Nat) (v : Value), j ≤ ns.length ∧ v4 = .int .i64 j ∧ Below w.heap.size w wr ∧ Own wr (G + 3) 109 v 2 j (ndCell ns) ∧ G + 3 ≤ wr.heap.size ∧
      wr.heap[G]? = some (.cells #[.slice ao ns.length c, .int .i64 thr, .bool idx, .slice pa pn pc, .slice sa sn sc] 26 (0, 0)) ∧
      wr.heap[G + 1]? = some (.cells #[.slice none 0 0, .int .i64 0, .bool false, .slice none 0 0, .slice none 0 0] 37 (0, 0)) ∧
      wr.heap[G + 2]? = some (.cells #[v, .int .i64 thr, .bool idx, .slice pa pn pc, .slice sa sn sc] 37 (0, 0))) (fun v4 _ => ns.length - (intOf v4).toNat)
  case atStart => exact ⟨0, _, Nat.zero_le _, rfl, bW, Own.nil _ _ _ _ _, by rw [SW.out]; exact Nat.le_refl _, G0.out, G1.out, G2.out⟩
  case round =>
    obtain ⟨j, v, hj, rfl, hbel, hown, hsz, h0, h1, h2⟩ := hrel
    have d0 := cell_of_row wr _ 0 _ _ _ h0
    have HO := Lib.hid hown
    have H0 := Lib.hid h0
    have H1 := Lib.hid h1
    have H2 := Lib.hid h2
    have zr := hbel.size
    by_cases hlt : j < ns.length
    · obtain ⟨e1, e2, e3⟩ := HC.out j hlt
      subst e1
      have bne := cell_lt e2
      rw [← hbel.cell (p := ⟨b, _, none⟩) (cell_lt e2)] at e2
      rw [← hbel.cell (p := ⟨b, _, none⟩) (cell_lt e3)] at e3
      have c2 := cell_of_row wr _ 0 _ _ _ h2
      have hY : ∀ q, q < 2 → ([.string (ns.getD j default).st, .int .i64 (ns.getD j default).d] : List Value)[q]? = some (ndCell ns j q) := fun q hq => by
        match q, hq with
        | 0, _ => rfl
        | 1, _ => rfl
      obtain ⟨v3, w3, r3, o1, o2, o3, o4, o5⟩ := Own.append (V := wr.drew) (t := 35) (e := 109) Try.underlying35 info109 rfl (by omega) (by omega) (hown.same fun _ _ => rfl) 35 _ rfl hY (by
        intro u hu
        simp at hu
        rcases hu with rfl | rfl <;> rfl) (by omega) hsz
      clear hown h0 h1 h2 hY
      generalize (ns.getD j default).st = s at *
      generalize (ns.getD j default).d = d at *
      have hb2 : v.ownBlock ≠ some (G + 2) := own_ne HO.out H2.out (by decide)
      have hb1 : v.ownBlock ≠ some (G + 1) := own_ne HO.out H1.out (by decide)
      have hb0 : v.ownBlock ≠ some G := own_ne HO.out H0.out (by decide)
      have k0 := (o3 G (by show G < wr.heap.size; omega) hb0).trans H0.out
      have k1 := (o3 (G + 1) (by show G + 1 < wr.heap.size; omega) hb1).trans H1.out
      have k2 := (o3 (G + 2) (by show G + 2 < wr.heap.size; omega) hb2).trans H2.out
      have kb : Below w.heap.size w w3 := hbel.drew.trans (o2.mono (show w.heap.size ≤ G + 3 by have := HG.out; omega))
      have gge : w.heap.size ≤ G + 2 := by have := HG.out; omega
      obtain ⟨a3, l3, c3, rfl⟩ := o1.slice
      have hb3 : (Value.slice a3 l3 c3).ownBlock ≠ some (G + 2) := own_ne o1 k2 (by decide)
      have r3' : ∀ o, o = Obj.cells #[.string s, .int .i64 d] 109 → (Builtin.append_ #[35, 35] 35 #[v, .slice (some ⟨wr.heap.size, 0, none⟩) 1 1]).run Try.prog ((wr.alloc o).drew) = .ok (.slice a3 l3 c3) w3 := fun o ho => by subst ho; exact r3
      have R3 := Lib.hid (r3' _ rfl)
      have O1 := Lib.hid o1
      have c2' : ∀ o, (wr.alloc o).cell? ⟨G + 2, 0, none⟩ = some v := fun o => (World.cell?_of_block (Below.heap_alloc wr o (G + 2) (by omega))).trans c2
      have k20 := cell_of_row w3 _ 0 _ _ _ k2
      have K0 := Lib.hid k0
      have K1 := Lib.hid k1
      have K2 := Lib.hid k2
      have szw : G + 3 ≤ w3.heap.size := by have : wr.drew.heap.size = wr.heap.size := rfl; omega
      have fz : ∀ i, w3.frozen? ⟨G + 2, i, none⟩ = false := fun i => by unfold World.frozen?; simp only [K2.out]; simp
      clear o1 o2 o3 o4 o5 k0 k1 k2 r3 r3' hb0 hb1 hb2
      go_wp2_with fail
      go_region_law (refine step_append_run (by rfl) (.tmp 22) (.tmp 28) 35 (by rfl) v (.slice (some ⟨wr.heap.size, 0, none⟩) 1 1) (.slice a3 l3 c3) w3 (by rfl) (by rfl) R3.out ?_)
      all_goals
        go_wp2
        go_roundw
        case rel => exact ⟨j + 1, _, by omega, by go_num, kb.setCell gge _, O1.out.same (fun g hg => setCell_other _ _ (fun e => hb3 (by rw [← e]; exact hg))), by show G + 3 ≤ (w3.heap.modify _ _).size; rw [Array.size_modify]; exact szw, by rw [setCell_other _ _ (by omega)]; exact K0.out, by rw [setCell_other _ _ (by omega)]; exact K1.out, setCell_block K2.out _⟩
        case measure => simp [intOf]; omega
    · have hjl : j = ns.length := by omega
      subst hjl
      obtain ⟨a3, l3, c3, rfl⟩ := hown.slice
      have hb1 : (Value.slice a3 l3 c3).ownBlock ≠ some (G + 1) := own_ne hown h1 (by decide)
      have x0 := cell_of_row wr _ 0 _ _ _ h2
      have x1 := cell_of_row wr _ 1 _ _ _ h2
      have x2 := cell_of_row wr _ 2 _ _ _ h2
      have x3 := cell_of_row wr _ 3 _ _ _ h2
      have x4 := cell_of_row wr _ 4 _ _ _ h2
      have y0 := cell_of_row wr _ 0 _ _ _ h1
      have y1 := cell_of_row wr _ 1 _ _ _ h1
      have y2 := cell_of_row wr _ 2 _ _ _ h1
      have y3 := cell_of_row wr _ 3 _ _ _ h1
      have y4 := cell_of_row wr _ 4 _ _ _ h1
      have fz : ∀ i, wr.frozen? ⟨G + 1, i, none⟩ = false := fun i => by unfold World.frozen?; simp only [H1.out]; simp
      have gge : w.heap.size ≤ G + 1 := by have := HG.out; omega
      clear hown h0 h1 h2
      go_wp2
      generalize hWf : ((((wr.setCell _ _).setCell _ _).setCell _ _).setCell _ _).setCell _ _ = Wf
      have hfin : Wf.heap[G + 1]? = some (.cells #[.slice a3 l3 c3, .int .i64 thr, .bool idx, .slice pa pn pc, .slice sa sn sc] 37 (0, 0)) := by
        rw [← hWf]
        exact setCell_block (setCell_block (setCell_block (setCell_block (setCell_block H1.out _) _) _) _) _
      have hbf : Below w.heap.size w Wf := by
        rw [← hWf]
        exact ((((hbel.setCell gge _).setCell gge _).setCell gge _).setCell gge _).setCell gge _
      have hown : Own Wf (G + 3) 109 (.slice a3 l3 c3) 2 ns.length (ndCell ns) := HO.out.same fun g hg => by
        have hne : g ≠ G + 1 := fun e => hb1 (by rw [← e]; exact hg)
        rw [← hWf, setCell_other _ _ hne, setCell_other _ _ hne, setCell_other _ _ hne, setCell_other _ _ hne, setCell_other _ _ hne]
      clear hWf
      refine bodyPost_ret (results_cell_row (P := Try.prog) Try.results15 _ Wf (G + 1) 37 _ (0, 0) _ (by rfl) hfin Try.underlying37 rfl (by kernel_rfl)) rfl ?_
      exact ⟨_, rfl, ⟨hown.row hm, HP.out.below hbf, HS.out.below hbf⟩, hbf⟩

end Go.Proofs.Ytapjgjjmlbhanaa
