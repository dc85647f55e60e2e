/- read: a plan out of a goal and holdings. -/
import Derived.Test.YtapjgjjmlbhanaaS1
import Derived.Test.YtapjgjjmlbhanaaT1
import Derived.Deep.RegionHeld3
import Derived.Test.YtapjgjjmlbhanaaB3
import Derived.Test.YtapjgjjmlbhanaaB6
import Derived.Deep.RegionLaw
import Derived.StillTailTactics
namespace Go.Proofs.Ytapjgjjmlbhanaa
open Go.RowKit Go.Lib Go.ChangeMaps

set_option maxRecDepth 100000 in
set_option maxHeartbeats 2000000 in
theorem read_bad (g : Gl) (v : Value) (hs : List Hd) (w : World) (hg : GlAt w g) (hv : ReadsH w v hs) (hok : ¬ Ok g hs) :
    Calls Try.prog 41 #[g.v, v] w fun e w' => e = .returned (.tuple #[.pointer none, .int .i64 1]) ∧ Below w.heap.size w w' := by
  have cc := fun W h1 h2 => check_any g v hs W h1 h2
  rw [if_neg hok] at cc
  have CC := Lib.hid cc
  have HG := Lib.hid hg
  have HV := Lib.hid hv
  obtain ⟨ao, c, b, off, rfl, _⟩ := hv.at
  obtain ⟨nv, thr, idx, pv, sv, ns, ps, ss⟩ := g
  unfold Gl.v at CC ⊢
  simp only at CC ⊢
  obtain ⟨h1, h2, h3⟩ := hg
  simp only at h1 h2 h3
  obtain ⟨_, _, _, _, rfl, _⟩ := h1.at
  obtain ⟨_, _, _, _, rfl, _⟩ := h2.at
  obtain ⟨_, _, _, _, rfl, _⟩ := h3.at
  generalize ns.length = n1 at *
  generalize ps.length = n2 at *
  generalize ss.length = n3 at *
  generalize hs.length = n4 at *
  clear hv cc hok h1 h2 h3
  go_enter Try.func41, Try.ntmps41
  go_wp2_with fail
  refine (CC.out _ (HG.out.below (by (repeat' (first | (with_reducible exact Below.refl _ _) | (with_reducible assumption) | (with_reducible refine Below.alloc ?_ ?_ _) | (with_reducible refine Below.drew ?_) | (with_reducible refine below_drewN ?_ _) | (with_reducible refine Below.setCell ?_ ?_ _) | (with_reducible refine below_step ?_ (by with_reducible assumption) ?_) | go_size)))) (HV.out.below (by (repeat' (first | (with_reducible exact Below.refl _ _) | (with_reducible assumption) | (with_reducible refine Below.alloc ?_ ?_ _) | (with_reducible refine Below.drew ?_) | (with_reducible refine below_drewN ?_ _) | (with_reducible refine Below.setCell ?_ ?_ _) | (with_reducible refine below_step ?_ (by with_reducible assumption) ?_) | go_size))))).mono ?_
  rintro e w1 ⟨rfl, hb⟩
  go_wp2
  go_ret2
  exact ⟨rfl, by (repeat' (first | (with_reducible exact Below.refl _ _) | (with_reducible assumption) | (with_reducible refine Below.alloc ?_ ?_ _) | (with_reducible refine Below.drew ?_) | (with_reducible refine below_drewN ?_ _) | (with_reducible refine Below.setCell ?_ ?_ _) | (with_reducible refine below_step ?_ (by with_reducible assumption) ?_) | go_size))⟩

theorem needL_snoc (x : Nd) : ∀ (ns : List Nd) (c : Nat), needL (ns ++ [x]) c = needL ns c ++ [(x.st, Value.int .i64 ((c + ns.length : Nat)))]
  | [], c => by simp [needL]
  | n :: r, c => by simp [needL, needL_snoc x r (c + 1)]; omega
theorem needL_keys : ∀ (ns : List Nd) (c : Nat), (needL ns c).map (·.1) = ns.map Nd.st
  | [], _ => rfl
  | n :: r, c => by simp [needL, needL_keys r (c + 1)]

def plan0 (nv : Value) (thr : Int) (idx : Bool) (pv sv : Value) (m : Nat) : PlanV := ⟨nv, thr, idx, pv, sv, m, .slice none 0 0, .slice none 0 0, zeroS false, .slice none 0 0⟩

/-- What read keeps of the memory it was entered with: the boxes of its parameters. -/
structure Base (w0 : World) (gc : Array Value) (v : Value) (w : World) : Prop where
  below : Below w0.heap.size w0 w
  goal : w.heap[w0.heap.size]? = some (.cells gc 26 (0, 0))
  list : w.heap[w0.heap.size + 1]? = some (.cells #[v] 27 (0, 0))

theorem Base.below' {w0 w w' : World} {gc : Array Value} {v : Value} (h : Base w0 gc v w) (hb : Below (w0.heap.size + 2) w w') : Base w0 gc v w' :=
  ⟨h.below.trans (hb.mono (by omega)), (hb.block _ (by omega)).trans h.goal, (hb.block _ (by omega)).trans h.list⟩
theorem Base.size {w0 w : World} {gc : Array Value} {v : Value} (h : Base w0 gc v w) : w0.heap.size + 2 ≤ w.heap.size := by
  have := (Array.getElem?_eq_some_iff.1 h.list).1
  omega

theorem plan0_cells (nv : Value) (thr : Int) (idx : Bool) (pv sv : Value) (m : Nat) :
    ((((((Try.zeroCells107.setIfInBounds 0 nv).setIfInBounds 1 (.int .i64 thr)).setIfInBounds 2 (.bool idx)).setIfInBounds 3 pv).setIfInBounds 4 sv).setIfInBounds 5 (.map (some m))) = rowC 78 (plan0 nv thr idx pv sv m).cell := by
  kernel_rfl

theorem held_start' {w0 : World} {B : Nat} {t : Nat} {v2 : Value} {b o : Nat} {v3 v4 v5 : Value} (h2 : w0.cell? ⟨t, 0, none⟩ = some v2) (h3 : w0.cell? ⟨b, o + 1, none⟩ = some v3) (h4 : w0.cell? ⟨b, o + 2, none⟩ = some v4) (h5 : w0.cell? ⟨b, o + 3, none⟩ = some v5) :
    Below B w0 w0.drew ∧ w0.drew.cell? ⟨t, 0, none⟩ = some v2 ∧ w0.drew.cell? ⟨b, o + 1, none⟩ = some v3 ∧ w0.drew.cell? ⟨b, o + 2, none⟩ = some v4 ∧ w0.drew.cell? ⟨b, o + 3, none⟩ = some v5 :=
  ⟨(Below.refl _ w0).drew, h2, h3, h4, h5⟩
theorem held_step' {w0 w w' : World} {B : Nat} {t : Nat} {v2 : Value} {b o : Nat} {v3 v4 v5 : Value} (h : Below B w0 w ∧ w.cell? ⟨t, 0, none⟩ = some v2 ∧ w.cell? ⟨b, o + 1, none⟩ = some v3 ∧ w.cell? ⟨b, o + 2, none⟩ = some v4 ∧ w.cell? ⟨b, o + 3, none⟩ = some v5)
    (ht : t < B) (hb' : b < B) (hb : Below B w w') :
    Below B w0 w' ∧ w'.cell? ⟨t, 0, none⟩ = some v2 ∧ w'.cell? ⟨b, o + 1, none⟩ = some v3 ∧ w'.cell? ⟨b, o + 2, none⟩ = some v4 ∧ w'.cell? ⟨b, o + 3, none⟩ = some v5 := by
  obtain ⟨h0, h2, h3, h4, h5⟩ := h
  exact ⟨h0.trans hb, (hb.cell (p := ⟨t, _, none⟩) ht).trans h2, (hb.cell (p := ⟨b, _, none⟩) hb').trans h3, (hb.cell (p := ⟨b, _, none⟩) hb').trans h4, (hb.cell (p := ⟨b, _, none⟩) hb').trans h5⟩
set_option linter.unusedSimpArgs false

theorem own_apart {w : World} {b1 b2 : Nat} {e1 e2 : TypeId} {v1 v2 : Value} {k1 k2 n1 n2 : Nat} {f1 f2 : Nat → Nat → Value} (h1 : Own w b1 e1 v1 k1 n1 f1) (h2 : Own w b2 e2 v2 k2 n2 f2) (he : e1 ≠ e2) : ∀ g, v1.ownBlock = some g → v2.ownBlock ≠ some g := by
  intro g hg
  obtain ⟨xs, ⟨_, h3⟩, _⟩ := h1
  rcases h3 with ⟨rfl, _⟩ | ⟨g', cap, cur, rfl, _, h4, _⟩
  · cases hg
  · cases hg
    exact own_ne h2 h4 he

theorem grown_below2 {B : Nat} {row : Option Nat} {a w w' : World} (h : Below B a w) (g : w.grownBy w' row) (hrow : ∀ k, row = some k → B ≤ k) (hB : B ≤ w.heap.size) : Below B a w' :=
  ⟨g.os.trans h.os, g.tape.trans h.tape, g.output.trans h.output, Nat.le_trans h.size g.size, fun i hi => by
    rw [g.block i (by omega) (by intro e; have := hrow i e.symm; omega)]; exact h.block i hi⟩

/-- The memory of read in its last loop: j holdings are listed, i supplies are made. -/
structure Mid (w0 : World) (gc : Array Value) (v : Value) (M : Nat) (ns : List Nd) (u a q : Value) (pl : List Nat) (L : List Hd) (xs : List Sup) (x : PlanV) (n j i : Nat) (w : World) : Prop where
  base : Base w0 gc v w
  plan : PlanAt w (M + 1) { x with plv := u, lv := a, gv := q }
  map : NeedMap w M ns
  size : M + 2 ≤ w.heap.size
  places : Own w (M + 2) 3 u 1 n (fun i _ => .int .i64 (pl.getD i 0))
  list : Own w (M + 2) 88 a 4 j (hdCell L)
  given : Own w (M + 2) 99 q 69 i (fun i k => (xs.getD i (zeroS false)).cell k)

theorem Mid.below {w0 : World} {gc : Array Value} {v : Value} {M : Nat} {ns : List Nd} {u a q : Value} {pl : List Nat} {L : List Hd} {xs : List Sup} {x : PlanV} {n j i : Nat} {w w' : World}
    (h : Mid w0 gc v M ns u a q pl L xs x n j i w) (hb : Below w.heap.size w w') : Mid w0 gc v M ns u a q pl L xs x n j i w' :=
  ⟨h.base.below' (hb.mono h.base.size), h.plan.below hb, h.map.below hb, Nat.le_trans h.size hb.size, h.places.below hb, h.list.below hb, h.given.below hb⟩

/-- One supply more. -/
theorem Mid.give {w0 : World} {gc : Array Value} {v : Value} {M : Nat} {ns : List Nd} {u a q : Value} {pl : List Nat} {L : List Hd} {xs : List Sup} {x : PlanV} {n j i : Nat} {w6 : World}
    (h : Mid w0 gc v M ns u a q pl L xs x n j i w6) (hM : w0.heap.size + 2 ≤ M) (hi : i ≤ 1000) (fin : Sup) (hx : xs.getD i (zeroS false) = fin) :
    ∃ al ll cl w7, (Builtin.append_ #[105, 105] 105 #[q, .slice (some ⟨w6.heap.size, 0, none⟩) 1 1]).run Try.prog (w6.alloc (.cells fin.cells 99)) = .ok (.slice al ll cl) w7 ∧ Below (M + 1) w6 w7 ∧
      w7.cell? ⟨M + 1, 77, none⟩ = some q ∧ w7.frozen? ⟨M + 1, 77, none⟩ = false ∧ Mid w0 gc v M ns u a (.slice al ll cl) pl L xs x n j (i + 1) (w7.setCell ⟨M + 1, 77, none⟩ (.slice al ll cl)) := by
  have hs := h.size
  obtain ⟨v3, w3, r3, o1, o2, o3, o4, o5⟩ := Own.append (V := w6) (t := 105) (e := 99) Try.underlying105 info99' (by show (zeroS false).cells.size = 69; exact Sup.cells_size _) (by omega) (by omega) h.given 105 fin.list fin.list_length (fun k hk => by rw [hx]; exact fin.list_at k hk) (by
    intro u hu
    have := fin.cells_one
    exact (Array.all_eq_true_iff_forall_mem.1 this) u (by simpa [Sup.cells] using hu)) (by omega) hs
  have q1 : q.ownBlock ≠ some (M + 1) := own_ne h.given h.plan (by decide)
  have p3 : PlanAt w3 (M + 1) { x with plv := u, lv := a, gv := q } := (o3 (M + 1) (by omega) q1).trans h.plan
  have bs3 := h.base.below' (w' := w3) (o2.mono (by omega))
  have own3 : Own w3 (M + 2) 3 u 1 n (fun i _ => .int .i64 (pl.getD i 0)) := h.places.same fun g hg => o3 g (h.places.lt g hg).2 (own_apart h.places h.given (by decide) g hg)
  have lst3 : Own w3 (M + 2) 88 a 4 j (hdCell L) := h.list.same fun g hg => o3 g (h.list.lt g hg).2 (own_apart h.list h.given (by decide) g hg)
  have nm3 : NeedMap w3 M ns := (o2.block M (by omega)).trans h.map
  have q3 : v3.ownBlock ≠ some (M + 1) := own_ne o1 p3 (by decide)
  obtain ⟨al, ll, cl, rfl⟩ := o1.slice
  refine ⟨al, ll, cl, w3, r3, o2.mono (by omega), p3.cell 77 (by omega), p3.frozen 77, ?_⟩
  refine ⟨bs3.below' ((Below.refl _ _).setCell (by show _ ≤ M + 1; omega) _), ?_, (setCell_other _ _ (by omega)).trans nm3, by rw [setCell_size]; omega, own3.same fun g hg => setCell_other _ _ (fun e => by have := (own3.lt g hg).1; omega), lst3.same fun g hg => setCell_other _ _ (fun e => by have := (lst3.lt g hg).1; omega), o1.same fun g hg => setCell_other _ _ (fun e => q3 (by rw [← e]; exact hg))⟩
  exact p3.set _ 77 _ (by omega) rfl (fun k hk hne => by
    unfold PlanV.cell
    split
    all_goals first | rfl | skip
    rename_i k
    have hk69 : k < 69 := by omega
    rw [if_pos hk69, if_pos hk69])

set_option maxRecDepth 100000 in
set_option maxHeartbeats 16000000 in
theorem read_ok (g : Gl) (v : Value) (hs : List Hd) (w : World) (hg : GlAt w g) (hv : ReadsH w v hs) (hok : Ok g hs) :
    Calls Try.prog 41 #[g.v, v] w (ReadPost g hs w) := by
  have cc := fun W h1 h2 => check_any g v hs W h1 h2
  rw [if_pos hok] at cc
  have CC := Lib.hid cc
  have HG := Lib.hid hg
  have HV := Lib.hid hv
  have HOK := Lib.hid hok
  obtain ⟨ao, c, b, off, rfl, hlc, hm, hcell⟩ := hv.at
  obtain ⟨nv, thr, idx, pv, sv, ns, ps, ss⟩ := g
  unfold Gl.v at CC ⊢
  simp only at CC ⊢
  obtain ⟨h1, h2, h3⟩ := hg
  simp only at h1 h2 h3
  obtain ⟨na, nc, nb, noff, rfl, hnl, hnm, hncell⟩ := h1.at
  obtain ⟨pa, pc, _, _, rfl, _⟩ := h2.at
  obtain ⟨sa, sc, _, _, rfl, _⟩ := h3.at
  have HC := Lib.hid hcell
  have HNC := Lib.hid hncell
  have hmm := @run_makeMap Try.prog
  clear hv cc hok h1 h2 h3 hcell hncell
  generalize hpn : ps.length = pn at *
  generalize hsn : ss.length = sn at *
  have HPN := Lib.hid hpn
  have HSN := Lib.hid hsn
  clear hpn hsn
  go_enter Try.func41, Try.ntmps41
  go_wp2_with fail
  refine (CC.out _ (HG.out.below (by (repeat' (first | (with_reducible exact Below.refl _ _) | (with_reducible assumption) | (with_reducible refine Below.alloc ?_ ?_ _) | (with_reducible refine Below.drew ?_) | (with_reducible refine below_drewN ?_ _) | (with_reducible refine Below.setCell ?_ ?_ _) | (with_reducible refine below_step ?_ (by with_reducible assumption) ?_) | go_size)))) (HV.out.below (by (repeat' (first | (with_reducible exact Below.refl _ _) | (with_reducible assumption) | (with_reducible refine Below.alloc ?_ ?_ _) | (with_reducible refine Below.drew ?_) | (with_reducible refine below_drewN ?_ _) | (with_reducible refine Below.setCell ?_ ?_ _) | (with_reducible refine below_step ?_ (by with_reducible assumption) ?_) | go_size))))).mono ?_
  rintro e w1 ⟨rfl, hb⟩
  have z1 := hb.size
  simp only [World.size_alloc] at z1
  have g1 : w1.heap[w.heap.size]? = some (.cells #[.slice na ns.length nc, .int .i64 thr, .bool idx, .slice pa pn pc, .slice sa sn sc] 26 (0, 0)) := by
    rw [hb.block _ (by simp only [World.size_alloc]; omega), Below.heap_alloc _ _ _ (by rw [World.size_alloc]; omega)]; exact heap_alloc_last w _
  have l1 : w1.heap[w.heap.size + 1]? = some (.cells #[.slice ao hs.length c] 27 (0, 0)) := by
    rw [hb.block _ (by simp only [World.size_alloc]; omega)]
    have := heap_alloc_last (w.alloc (.cells #[.slice na ns.length nc, .int .i64 thr, .bool idx, .slice pa pn pc, .slice sa sn sc] 26)) (.cells #[.slice ao hs.length c] 27)
    rw [World.size_alloc] at this
    exact this
  have b1 : Below w.heap.size w w1 := by (repeat' (first | (with_reducible exact Below.refl _ _) | (with_reducible assumption) | (with_reducible refine Below.alloc ?_ ?_ _) | (with_reducible refine Below.drew ?_) | (with_reducible refine below_drewN ?_ _) | (with_reducible refine Below.setCell ?_ ?_ _) | (with_reducible refine below_step ?_ (by with_reducible assumption) ?_) | go_size))
  have BS := Lib.hid (Base.mk (w0 := w) (gc := #[.slice na ns.length nc, .int .i64 thr, .bool idx, .slice pa pn pc, .slice sa sn sc]) (v := .slice ao hs.length c) b1 g1 l1)
  have c0 := cell_of_row _ _ 0 _ _ _ g1
  have c1 := cell_of_row _ _ 1 _ _ _ g1
  have c2 := cell_of_row _ _ 2 _ _ _ g1
  have c3 := cell_of_row _ _ 3 _ _ _ g1
  have c4 := cell_of_row _ _ 4 _ _ _ g1
  clear g1 l1 hb
  go_upto_region 5 with fail
  rw [plan0_cells]
  obtain ⟨M, hM⟩ : ∃ M, M = w1.heap.size := ⟨_, rfl⟩
  have hMM := Lib.hid hM
  have e1 : Below (w.heap.size + 2) w1 ((w1.alloc (Obj.map #[] 0)).alloc (.cells (rowC 78 (plan0 (.slice na ns.length nc) thr idx (.slice pa pn pc) (.slice sa sn sc) w1.heap.size).cell) 107)) := ((Below.refl _ _).alloc (by omega) _).alloc (by rw [World.size_alloc]; omega) _
  have BS2 := Lib.hid (BS.out.below' e1)
  have p2 : PlanAt ((w1.alloc (Obj.map #[] 0)).alloc (.cells (rowC 78 (plan0 (.slice na ns.length nc) thr idx (.slice pa pn pc) (.slice sa sn sc) w1.heap.size).cell) 107)) (w1.heap.size + 1) (plan0 (.slice na ns.length nc) thr idx (.slice pa pn pc) (.slice sa sn sc) w1.heap.size) := by
    have := heap_alloc_last (w1.alloc (Obj.map #[] 0)) (.cells (rowC 78 (plan0 (.slice na ns.length nc) thr idx (.slice pa pn pc) (.slice sa sn sc) w1.heap.size).cell) 107)
    rw [World.size_alloc] at this
    exact this
  have m2 : ((w1.alloc (Obj.map #[] 0)).alloc (.cells (rowC 78 (plan0 (.slice na ns.length nc) thr idx (.slice pa pn pc) (.slice sa sn sc) w1.heap.size).cell) 107)).heap[w1.heap.size]? = some (mapObj (fun s : ByteArray => Value.string s) (needL (ns.take 0) 0)) := by
    rw [Below.heap_alloc _ _ _ (by rw [World.size_alloc]; omega)]; exact heap_alloc_last w1 _
  have s2 : ((w1.alloc (Obj.map #[] 0)).alloc (.cells (rowC 78 (plan0 (.slice na ns.length nc) thr idx (.slice pa pn pc) (.slice sa sn sc) w1.heap.size).cell) 107)).heap.size = w1.heap.size + 2 := by rw [World.size_alloc, World.size_alloc]
  rw [← hM] at p2 m2 s2 BS2 ⊢
  generalize (w1.alloc (Obj.map #[] 0)).alloc (.cells (rowC 78 (plan0 (.slice na ns.length nc) thr idx (.slice pa pn pc) (.slice sa sn sc) M).cell) 107) = W at p2 m2 s2 BS2 ⊢
  have P2 := Lib.hid p2
  have M2 := Lib.hid m2
  have hMge : w.heap.size + 2 ≤ M := by rw [hM]; exact z1
  have gW := BS2.out.goal
  have lW := BS2.out.list
  have c0' := cell_of_row _ _ 0 _ _ _ gW
  have hs64 : ns.length ≤ 64 := HOK.out.1.1
  have sW : M + 2 ≤ W.heap.size := by omega
  clear hM e1 p2 m2 gW lW hmm c0 c1 c2 c3 c4 BS CC b1
  go_wp2
  obtain ⟨gc, hgc⟩ : ∃ gc : Array Value, gc = #[.slice na ns.length nc, .int .i64 thr, .bool idx, .slice pa pn pc, .slice sa sn sc] := ⟨_, rfl⟩
  rw [← hgc] at BS2
  have HGC := Lib.hid hgc
  obtain ⟨x0, hx0⟩ : ∃ x0, x0 = plan0 (.slice na ns.length nc) thr idx (.slice pa pn pc) (.slice sa sn sc) M := ⟨_, rfl⟩
  rw [← hx0] at P2
  have HX0 := Lib.hid hx0
  clear hgc hx0
  go_loopw [8, 9, 26] (fun _ _ v26 wr => ∃ j : Nat, j ≤ ns.length ∧ v26 = .int .i64 j ∧ Base w gc (.slice ao hs.length c) wr ∧ PlanAt wr (M + 1) x0 ∧ wr.heap[M]? = some (mapObj (fun s : ByteArray => Value.string s) (needL (ns.take j) 0)) ∧ M + 2 ≤ wr.heap.size) (fun _ _ v26 _ => ns.length - (intOf v26).toNat)
  case atStart => exact ⟨0, Nat.zero_le _, rfl, BS2.out, P2.out, M2.out, sW⟩
  case round =>
    obtain ⟨j, hj, rfl, hbs, hp, hmap, hsz⟩ := hrel
    have HBS := Lib.hid hbs
    have HP := Lib.hid hp
    have HM := Lib.hid hmap
    have hbel := hbs.below
    clear hbs hp hmap
    by_cases hlt : j < ns.length
    · obtain ⟨e1, e2, e3⟩ := HNC.out j hlt
      subst e1
      have hg := getD_at ns j default hlt
      rw [hg] at e2 e3
      have happ : ns.take (j + 1) = ns.take j ++ [ns[j]] := List.take_succ_eq_append_getElem hlt
      have hnot := ((ndsOk_snoc ns j hlt).1 (ndsOk_take HOK.out.2.1 (j + 1))).2.2
      have htl : (ns.take j).length = j := by rw [List.length_take]; omega
      rw [← hbel.cell (p := ⟨nb, _, none⟩) (cell_lt e2)] at e2
      rw [← hbel.cell (p := ⟨nb, _, none⟩) (cell_lt e3)] at e3
      have HA := Lib.hid happ
      have HNT := Lib.hid hnot
      have HTL := Lib.hid htl
      clear hg happ hnot htl
      generalize ns[j] = y at e2 e3 HA HNT
      obtain ⟨s, d⟩ := y
      simp only at e2 e3
      have ba : Below wr.heap.size wr (wr.alloc (.cells #[.string s, .int .i64 d] 80)) := (Below.refl _ _).alloc (Nat.le_refl _) _
      have bs2 := HBS.out.below' (ba.mono HBS.out.size)
      have p2 := HP.out.below ba
      have m2 := (ba.block M (by omega)).trans HM.out
      have s2 : M + 2 ≤ (wr.alloc (.cells #[.string s, .int .i64 d] 80)).heap.size := by rw [World.size_alloc]; omega
      have x0' := cell_of_row _ _ 0 _ _ _ (heap_alloc_last wr (.cells #[.string s, .int .i64 d] 80))
      have hxne : wr.heap.size ≠ M := by omega
      go_wp2_with fail
      generalize wr.heap.size = X at *
      generalize wr.alloc (Obj.cells #[Value.string s, Value.int IntKind.i64 d] 80) = V at bs2 p2 m2 s2 x0' ⊢
      have c5 : V.cell? ⟨M + 1, 5, none⟩ = some (.map (some M)) := by rw [p2.cell 5 (by omega), HX0.out]; rfl
      have BV := Lib.hid bs2
      have PV := Lib.hid p2
      have MV := Lib.hid m2
      clear bs2 p2 m2 HM HP HBS ba
      go_still_tail 7, (by kernel_rfl)
      change wpList _ _ _ _ _ V.drew
      have hup := key_str.update (tm := 104) (te := 3) Try.underlying104 (w := V.drew) (r := M) (L := needL (ns.take j) 0) MV.out s (.int .i64 j) (by rw [needL_keys]; exact HNT.out)
      have hnx : needL (ns.take j) 0 ++ [(s, Value.int .i64 j)] = needL (ns.take (j + 1)) 0 := by rw [HA.out, needL_snoc, HTL.out]; simp
      rw [hnx] at hup
      have bs3 := BV.out.below' (w' := setBlock V.drew M (mapObj (fun s : ByteArray => Value.string s) (needL (ns.take (j + 1)) 0))) (below_setBlock (Below.refl _ _).drew (by omega) _)
      have p3 : PlanAt (setBlock V.drew M (mapObj (fun s : ByteArray => Value.string s) (needL (ns.take (j + 1)) 0))) (M + 1) x0 := (setBlock_off _ _ (by omega)).trans PV.out
      have m3 : (setBlock V.drew M (mapObj (fun s : ByteArray => Value.string s) (needL (ns.take (j + 1)) 0))).heap[M]? = some (mapObj (fun s : ByteArray => Value.string s) (needL (ns.take (j + 1)) 0)) := setBlock_at (by show M < V.heap.size; omega) _
      have s3 : M + 2 ≤ (setBlock V.drew M (mapObj (fun s : ByteArray => Value.string s) (needL (ns.take (j + 1)) 0))).heap.size := by rw [setBlock_size]; exact s2
      generalize setBlock V.drew M (mapObj (fun s : ByteArray => Value.string s) (needL (ns.take (j + 1)) 0)) = V3 at hup bs3 p3 m3 s3
      have BV3 := Lib.hid bs3
      have PV3 := Lib.hid p3
      have MV3 := Lib.hid m3
      clear hnx bs3 p3 m3
      generalize V.drew = V2 at hup ⊢
      go_wp2
      go_roundw
      case rel => exact ⟨j + 1, by omega, by go_num, BV3.out, PV3.out, MV3.out, s3⟩
      case measure => simp [intOf]; omega
    · have hjl : j = ns.length := by omega
      subst hjl
      have hnm : NeedMap wr M ns := by have := HM.out; rw [List.take_length] at this; exact this
      have t0 := cell_of_row _ _ 0 _ _ _ HBS.out.list
      have HNM := Lib.hid hnm
      have hl12 : hs.length ≤ 12 := HOK.out.1.2.2
      clear hnm HM
      go_wp2
      go_loopw [10, 41] (fun _ v41 wr => ∃ (j : Nat) (u : Value), j ≤ hs.length ∧ v41 = .int .i64 j ∧ Base w gc (.slice ao hs.length c) wr ∧ PlanAt wr (M + 1) { x0 with plv := u } ∧ NeedMap wr M ns ∧ M + 2 ≤ wr.heap.size ∧ Own wr (M + 2) 3 u 1 j (fun i _ => .int .i64 i)) (fun _ v41 _ => hs.length - (intOf v41).toNat)
      case atStart => exact ⟨0, .slice none 0 0, Nat.zero_le _, rfl, HBS.out, by have := HP.out; rw [HX0.out] at this ⊢; exact this, HNM.out, hsz, Own.nil _ _ _ _ _⟩
      case round =>
        obtain ⟨j, u, hj, rfl, hbs, hp, hnm, hsz, hown⟩ := hrel
        by_cases hlt : j < hs.length
        · have c7 : wr.cell? ⟨M + 1, 7, none⟩ = some u := hp.cell 7 (by omega)
          obtain ⟨v3, w3, r3, o1, o2, o3, o4, o5⟩ := Own.append (V := wr) (t := 24) (e := 3) (z := .int .i64 0) (k := 1) (bytes := 8) Try.underlying24 (by kernel_rfl) rfl (by omega) (by omega) hown 24 [.int .i64 j] rfl (fun q hq => by
            obtain rfl : q = 0 := by omega
            rfl) (by
            intro x hx
            simp at hx
            subst hx
            rfl) (by omega) hsz
          have hb1 : u.ownBlock ≠ some (M + 1) := own_ne hown hp (by decide)
          have p3 : PlanAt w3 (M + 1) { x0 with plv := u } := (o3 _ (by omega) hb1).trans hp
          have bs3 := hbs.below' (o2.mono (by omega))
          have nm3 : NeedMap w3 M ns := (o2.block M (by omega)).trans hnm
          have hb3 : v3.ownBlock ≠ some (M + 1) := own_ne o1 p3 (by decide)
          obtain ⟨a3, l3, c3, rfl⟩ := o1.slice
          have c7' : w3.cell? ⟨M + 1, 7, none⟩ = some u := p3.cell 7 (by omega)
          have fz := p3.frozen 7
          have p4 : PlanAt (w3.setCell ⟨M + 1, 7, none⟩ (.slice a3 l3 c3)) (M + 1) { x0 with plv := .slice a3 l3 c3 } := p3.set _ 7 _ (by omega) rfl (fun k hk hne => by
            unfold PlanV.cell
            split
            all_goals first | rfl | exact absurd rfl hne)
          have bs4 := bs3.below' (w' := w3.setCell ⟨M + 1, 7, none⟩ (.slice a3 l3 c3)) ((Below.refl _ _).setCell (by show _ ≤ M + 1; omega) _)
          have nm4 : NeedMap (w3.setCell ⟨M + 1, 7, none⟩ (.slice a3 l3 c3)) M ns := (setCell_other _ _ (by omega)).trans nm3
          have own4 : Own (w3.setCell ⟨M + 1, 7, none⟩ (.slice a3 l3 c3)) (M + 2) 3 (.slice a3 l3 c3) 1 (j + 1) (fun i _ => .int .i64 i) := o1.same (fun g hg => setCell_other _ _ (fun e => hb3 (by rw [← e]; exact hg)))
          have P4 := Lib.hid p4
          have B4 := Lib.hid bs4
          have N4 := Lib.hid nm4
          have O4 := Lib.hid own4
          clear p4 bs4 nm4 own4 o1 o2 o3 o4 hb1 hb3 p3 bs3 nm3 hbs hp hnm hown
          go_wp2_with (at_builtin; refine wpList_append_run (by rfl) (.tmp 48) (.tmp 50) 24 (by rfl) _ (.slice (some ⟨wr.heap.size, 0, none⟩) 1 1) (.slice a3 l3 c3) w3 (by rfl) (by rfl) r3 ?_)
          go_roundw
          case rel => exact ⟨j + 1, _, by omega, by go_num, B4.out, P4.out, N4.out, by rw [setCell_size]; omega, O4.out⟩
          case measure => simp [intOf]; omega
        · have hjl : j = hs.length := by omega
          subst hjl
          obtain ⟨ua, ul, uc, rfl⟩ := hown.slice
          have hut : (Value.slice ua ul uc).ownBlock ≠ some (w.heap.size + 1) := fun e => by have := (hown.lt _ e).1; omega
          have hub : b < w.heap.size → (Value.slice ua ul uc).ownBlock ≠ some b := fun h e => by have := (hown.lt _ e).1; omega
          have hcl : ∀ i, i < hs.length → ao = some ⟨b, off, none⟩ ∧ wr.cell? ⟨b, off + i * 4, none⟩ = some (.int .i64 (hs.getD i default).dev) := fun i hi => by
            obtain ⟨h1, h2, _⟩ := HC.out i hi
            exact ⟨h1, (hbs.below.cell (p := ⟨b, _, none⟩) (cell_lt h2)).trans h2⟩
          have hbl : 0 < hs.length → (Value.slice ua ul uc).ownBlock ≠ some b := fun h0 => hub (cell_lt (HC.out 0 h0).2.1)
          have hinj : ∀ i j, i < hs.length → j < hs.length → (hs.getD i default).dev = (hs.getD j default).dev → i = j := fun i j hi hj e => by
            have hnd := HOK.out.2.2.2.1
            rw [getD_at _ _ _ hi, getD_at _ _ _ hj] at e
            have hpw := List.pairwise_iff_getElem.1 hnd
            rcases Nat.lt_trichotomy i j with h | h | h
            · exact absurd (by rw [List.getElem_map, List.getElem_map]; exact e) (hpw i j (by rw [List.length_map]; exact hi) (by rw [List.length_map]; exact hj) h)
            · exact h
            · exact absurd (by rw [List.getElem_map, List.getElem_map]; exact e.symm) (hpw j i (by rw [List.length_map]; exact hj) (by rw [List.length_map]; exact hi) h)
          have cs := sortPlaces_any hs.length (w.heap.size + 1) b off c (M + 2) ao (.slice ua ul uc) (fun i => (hs.getD i default).dev) wr hl12 hown (cell_of_row _ _ 0 _ _ _ hbs.list) hcl hinj hut hbl
          have CS := Lib.hid cs
          have hb1 : (Value.slice ua ul uc).ownBlock ≠ some (M + 1) := own_ne hown hp (by decide)
          have c7 : wr.cell? ⟨M + 1, 7, none⟩ = some (.slice ua ul uc) := hp.cell 7 (by omega)
          have P4 := Lib.hid hp
          have B4 := Lib.hid hbs
          have N4 := Lib.hid hnm
          have O4 := Lib.hid hown
          clear cs hcl hp hbs hnm hown hinj
          go_wp2_with fail
          refine CS.out.mono ?_
          rintro e w5 ⟨rfl, pl, hperm, hsort, hown5, hg5⟩
          have hrow : ∀ k, (Value.slice ua ul uc).ownBlock = some k → M + 2 ≤ k := fun k e => (O4.out.lt k e).1
          have p5 : PlanAt w5 (M + 1) { x0 with plv := .slice ua ul uc } := (hg5.block _ (by omega) (fun e => hb1 e.symm)).trans P4.out
          have bs5 := B4.out.below' (grown_below2 (Below.refl _ _) hg5 (fun k e => by have := hrow k e; omega) B4.out.size)
          have nm5 : NeedMap w5 M ns := (hg5.block _ (by omega) (fun e => by have := hrow M e.symm; omega)).trans N4.out
          have s5 : M + 2 ≤ w5.heap.size := Nat.le_trans hsz hg5.size
          have hplen : pl.length = hs.length := by have := hperm.length_eq; rw [List.length_range] at this; exact this
          have hpr : ∀ k, k < hs.length → pl.getD k 0 < hs.length := fun k hk => by
            rw [getD_at _ _ _ (by omega)]
            exact List.mem_range.1 (hperm.mem_iff.1 (List.getElem_mem _))
          have c7' : w5.cell? ⟨M + 1, 7, none⟩ = some (.slice ua ul uc) := p5.cell 7 (by omega)
          obtain ⟨_, _, hul⟩ : True ∧ True ∧ ul = hs.length := by
            obtain ⟨xs, ⟨_, h3⟩, _⟩ := hown5
            rcases h3 with ⟨e, h0⟩ | ⟨_, _, _, e, _⟩
            · cases e; exact ⟨trivial, trivial, h0.symm⟩
            · cases e; exact ⟨trivial, trivial, rfl⟩
          subst hul
          have hprow := hown5.row hm
          obtain ⟨_, _, ub, uoff, hue, _, _, hucell⟩ := hprow.at
          cases hue
          have PL := Lib.hid hpr
          have PE := Lib.hid hperm
          have PS := Lib.hid hsort
          have P5 := Lib.hid p5
          have B5 := Lib.hid bs5
          have N5 := Lib.hid nm5
          have O5 := Lib.hid hown5
          clear hperm hsort hg5 p5 bs5 nm5 hown5 hpr hrow hprow hucell CS P4 B4 N4 O4 hut hub hbl hb1
          go_wp2
          obtain ⟨L, hL⟩ : ∃ L : List Hd, L = pl.map fun i => hs.getD i default := ⟨_, rfl⟩
          obtain ⟨xs, hxs⟩ : ∃ xs : List Sup, xs = L.map fun x => supOf ns x.ps x.ss x.idx := ⟨_, rfl⟩
          have LL := Lib.hid hL
          have XX := Lib.hid hxs
          clear hL hxs
          go_loopw [12, 66] (fun _ v66 wr => ∃ (j : Nat) (a q : Value), j ≤ hs.length ∧ v66 = .int .i64 j ∧ Base w gc (.slice ao hs.length c) wr ∧ PlanAt wr (M + 1) { x0 with plv := .slice ua hs.length uc, lv := a, gv := q } ∧ NeedMap wr M ns ∧ M + 2 ≤ wr.heap.size ∧
              Own wr (M + 2) 3 (.slice ua hs.length uc) 1 hs.length (fun i _ => .int .i64 (pl.getD i 0)) ∧ Own wr (M + 2) 88 a 4 j (hdCell L) ∧ Own wr (M + 2) 99 q 69 j (fun i k => (xs.getD i (zeroS false)).cell k)) (fun _ v66 _ => hs.length - (intOf v66).toNat)
          case atStart => exact ⟨0, .slice none 0 0, .slice none 0 0, Nat.zero_le _, rfl, B5.out, by have := P5.out; rw [HX0.out] at this ⊢; exact this, N5.out, s5, O5.out, Own.nil _ _ _ _ _, Own.nil _ _ _ _ _⟩
          case round =>
            obtain ⟨j, a, q, hj, rfl, hbs, hp, hnm, hsz, hown, hlist, hgiv⟩ := hrel
            by_cases hlt : j < hs.length
            · obtain ⟨_, _, ub, uoff, hue, _, _, hucell⟩ := (hown.row hm).at
              cases hue
              obtain ⟨hua, hu0⟩ := hucell j hlt
              subst hua
              have ui := hu0 0 (by omega)
              simp only [Nat.mul_one, Nat.add_zero] at ui
              have hi := PL.out j hlt
              obtain ⟨i, hij⟩ : ∃ i, i = pl.getD j 0 := ⟨_, rfl⟩
              rw [← hij] at ui hi
              obtain ⟨e1, e2, e3, e4, e5, hat⟩ := HC.out i hi
              subst e1
              have hpj : pl[j]'(by omega) = i := by rw [hij, getD_at _ _ _ (by omega)]
              have hLj : L.getD j default = hs.getD i default := by
                rw [LL.out, getD_at _ _ _ (by rw [List.length_map]; omega), List.getElem_map, hpj]
              have hXj : xs.getD j (zeroS false) = supOf ns (hs.getD i default).ps (hs.getD i default).ss (hs.getD i default).idx := by
                rw [XX.out, getD_at _ _ _ (by rw [List.length_map, LL.out, List.length_map]; omega), List.getElem_map, ← hLj, getD_at L _ _ (by rw [LL.out, List.length_map]; omega)]
              have hyok := HOK.out.2.2.2.2 (hs.getD i default) (by rw [getD_at _ _ _ hi]; exact List.getElem_mem hi)
              have hY : ∀ k, k < 4 → ([.int .i64 (hs.getD i default).dev, (hs.getD i default).pv, (hs.getD i default).sv, .bool (hs.getD i default).idx] : List Value)[k]? = some (hdCell L j k) := fun k hk => by
                unfold hdCell
                rw [hLj]
                match k, hk with
                | 0, _ => rfl
                | 1, _ => rfl
                | 2, _ => rfl
                | 3, _ => rfl
              have hone := hat.one
              obtain ⟨v3, w3, r3, o1, o2, o3, o4, o5⟩ := Own.append (V := wr.drew) (t := 27) (e := 88) Try.underlying27 info88 rfl (by omega) (by omega) (hlist.same fun _ _ => rfl) 27 _ rfl hY (by
                intro u hu
                simp at hu
                rcases hu with rfl | rfl | rfl | rfl
                · rfl
                · exact hone.1
                · exact hone.2
                · rfl) (by omega) hsz
              have szd : wr.drew.heap.size = wr.heap.size := rfl
              have q1 : a.ownBlock ≠ some (M + 1) := own_ne hlist hp (by decide)
              have p3 := (o3 (M + 1) (by omega) q1).trans hp
              have nm3 : NeedMap w3 M ns := (o2.block M (by omega)).trans hnm
              have bs3 := hbs.below' (w' := w3) ((Below.refl _ _).drew.trans (o2.mono (by omega)))
              have own3 : Own w3 (M + 2) 3 (.slice (some ⟨ub, uoff, none⟩) hs.length uc) 1 hs.length (fun i _ => .int .i64 (pl.getD i 0)) := hown.same fun g hg => o3 g (by have := (hown.lt g hg).2; omega) (own_apart hown hlist (by decide) g hg)
              have giv3 : Own w3 (M + 2) 99 q 69 j (fun i k => (xs.getD i (zeroS false)).cell k) := hgiv.same fun g hg => o3 g (by have := (hgiv.lt g hg).2; omega) (own_apart hgiv hlist (by decide) g hg)
              have q3 : v3.ownBlock ≠ some (M + 1) := own_ne o1 p3 (by decide)
              obtain ⟨a3, l3, c3, rfl⟩ := o1.slice
              have p4 : PlanAt (w3.setCell ⟨M + 1, 6, none⟩ (.slice a3 l3 c3)) (M + 1) { x0 with plv := .slice (some ⟨ub, uoff, none⟩) hs.length uc, lv := .slice a3 l3 c3, gv := q } := PlanAt.set p3 _ 6 _ (by omega) rfl (fun k hk hne => by
                unfold PlanV.cell
                split
                all_goals first | rfl | exact absurd rfl hne)
              have bs4 := bs3.below' (w' := w3.setCell ⟨M + 1, 6, none⟩ (.slice a3 l3 c3)) ((Below.refl _ _).setCell (by show _ ≤ M + 1; omega) _)
              have nm4 : NeedMap (w3.setCell ⟨M + 1, 6, none⟩ (.slice a3 l3 c3)) M ns := (setCell_other _ _ (by omega)).trans nm3
              have own4 : Own (w3.setCell ⟨M + 1, 6, none⟩ (.slice a3 l3 c3)) (M + 2) 3 (.slice (some ⟨ub, uoff, none⟩) hs.length uc) 1 hs.length (fun i _ => .int .i64 (pl.getD i 0)) := own3.same fun g hg => setCell_other _ _ (fun e => by have := (own3.lt g hg).1; omega)
              have giv4 : Own (w3.setCell ⟨M + 1, 6, none⟩ (.slice a3 l3 c3)) (M + 2) 99 q 69 j (fun i k => (xs.getD i (zeroS false)).cell k) := giv3.same fun g hg => setCell_other _ _ (fun e => by have := (giv3.lt g hg).1; omega)
              have lst4 : Own (w3.setCell ⟨M + 1, 6, none⟩ (.slice a3 l3 c3)) (M + 2) 88 (.slice a3 l3 c3) 4 (j + 1) (hdCell L) := o1.same fun g hg => setCell_other _ _ (fun e => q3 (by rw [← e]; exact hg))
              have s4 : M + 2 ≤ (w3.setCell ⟨M + 1, 6, none⟩ (.slice a3 l3 c3)).heap.size := by rw [setCell_size]; omega
              have fz := PlanAt.frozen p3 6
              have c6 : wr.cell? ⟨M + 1, 6, none⟩ = some a := hp.cell 6 (by omega)
              have c6' : ∀ o, (wr.alloc o).cell? ⟨M + 1, 6, none⟩ = some a := fun o => (World.cell?_of_block (Below.heap_alloc wr o (M + 1) (by omega))).trans c6
              have c6w : w3.cell? ⟨M + 1, 6, none⟩ = some a := PlanAt.cell p3 6 (by omega)
              have t0 := cell_of_row _ _ 0 _ _ _ hbs.list
              have r3' : ∀ o, o = Obj.cells #[.int .i64 (hs.getD i default).dev, (hs.getD i default).pv, (hs.getD i default).sv, .bool (hs.getD i default).idx] 88 → (Builtin.append_ #[27, 27] 27 #[a, .slice (some ⟨wr.heap.size, 0, none⟩) 1 1]).run Try.prog ((wr.alloc o).drew) = .ok (.slice a3 l3 c3) w3 := fun o ho => by subst ho; exact r3
              have R3 := Lib.hid (r3' _ rfl)
              have d2 := (hbs.below.cell (p := ⟨b, _, none⟩) (cell_lt e2)).trans e2
              have d3 := (hbs.below.cell (p := ⟨b, _, none⟩) (cell_lt e3)).trans e3
              have d4 := (hbs.below.cell (p := ⟨b, _, none⟩) (cell_lt e4)).trans e4
              have d5 := (hbs.below.cell (p := ⟨b, _, none⟩) (cell_lt e5)).trans e5
              have f3 := (bs4.below.cell (p := ⟨b, _, none⟩) (cell_lt e3)).trans e3
              have f4 := (bs4.below.cell (p := ⟨b, _, none⟩) (cell_lt e4)).trans e4
              have f5 := (bs4.below.cell (p := ⟨b, _, none⟩) (cell_lt e5)).trans e5
              have g77 : (w3.setCell ⟨M + 1, 6, none⟩ (.slice a3 l3 c3)).cell? ⟨M + 1, 77, none⟩ = some q := p4.cell 77 (by omega)
              have gT := cell_of_row _ _ 0 _ _ _ bs4.list
              have hats := hat.below bs4.below
              have P4 := Lib.hid p4
              have B4 := Lib.hid bs4
              have N4 := Lib.hid nm4
              have O4 := Lib.hid own4
              have G4 := Lib.hid giv4
              have L4 := Lib.hid lst4
              have HS4 := Lib.hid hats
              have HYK := Lib.hid hyok
              have HXJ := Lib.hid hXj
              clear p4 bs4 nm4 own4 giv4 lst4 hats hyok hXj p3 bs3 nm3 own3 giv3 o1 o2 o3 o4 q1 q3 r3 r3' hY hone hat hpj hLj hij hbs hp hnm hown hlist hgiv e2 e3 e4 e5 hu0
              generalize (hs.getD i default).dev = dev at *
              generalize hpv : (hs.getD i default).pv = ypv at *
              generalize hsv : (hs.getD i default).sv = ysv at *
              generalize (hs.getD i default).idx = yix at *
              have HPV := Lib.hid hpv
              have HSV := Lib.hid hsv
              clear hpv hsv
              generalize hW4 : w3.setCell ⟨M + 1, 6, none⟩ (.slice a3 l3 c3) = W4 at P4 B4 N4 O4 G4 L4 HS4 s4 f3 f4 f5 g77 gT
              have HW4 := Lib.hid hW4
              clear hW4
              go_upto_region 19 with fail
              go_cut [80] (fun _ wx => wx = W4)
              case first =>
                go_region_law (refine step_append_run (by rfl) (.tmp 74) (.tmp 79) 27 (by rfl) a (.slice (some ⟨wr.heap.size, 0, none⟩) 1 1) (.slice a3 l3 c3) w3 (by rfl) (by rfl) R3.out ?_)
                all_goals
                  go_wp2_with fail
                  go_meet
                  exact HW4.out
              case rest =>
                obtain rfl : W4 = wc := hcut.symm
                obtain ⟨fin, hfin⟩ : ∃ fin, fin = supOf ns (hs.getD i default).ps (hs.getD i default).ss yix := ⟨_, rfl⟩
                have hsup := fun W (h : Below W4.heap.size W4 W) => supplyOf_any (M + 1) M ns ypv ysv (hs.getD i default).ps (hs.getD i default).ss yix W ((h.cell (p := ⟨M + 1, 5, none⟩) (by show M + 1 < _; omega)).trans (by rw [P4.out.cell 5 (by omega)]; show some (Value.map (some x0.m)) = _; rw [HX0.out]; rfl)) (N4.out.below h)
                  (by rw [← HPV.out]; exact HS4.out.1.below h) (by rw [← HSV.out]; exact HS4.out.2.below h) HYK.out.2.1 HYK.out.2.2 hs64
                rw [← hfin] at hsup
                have HXF := Lib.hid (HXJ.out.trans hfin.symm)
                have CSU := Lib.hid hsup
                have HMD := Lib.hid (Mid.mk (w0 := w) (gc := gc) (v := .slice (some ⟨b, off, none⟩) hs.length c) (M := M) (ns := ns) (u := .slice (some ⟨ub, uoff, none⟩) hs.length uc) (a := .slice a3 l3 c3) (q := q) (pl := pl) (L := L) (xs := xs) (x := x0) (n := hs.length) (j := j + 1) (i := j) B4.out P4.out N4.out s4 O4.out L4.out G4.out)
                have hHS := held_start' (B := M + 1) gT f3 f4 f5
                have G77 := Lib.hid g77
                have hbM : b < M + 1 := by have := cell_lt (HC.out i hi).2.1; omega
                have htM : w.heap.size + 1 < M + 1 := by omega
                have hM4 : M + 1 ≤ W4.heap.size := by omega
                have hj1000 : j ≤ 1000 := by omega
                clear hfin hsup d2 d3 d4 d5 c6 c6' c6w t0 fz R3 HW4 g77 gT f3 f4 f5 ui P4 B4 N4 O4 G4 L4 HS4
                go_upto_region 20 with fail
                refine wp_region_held_drew (S := fun w' => Below (M + 1) W4 w' ∧ w'.cell? ⟨w.heap.size + 1, 0, none⟩ = some (.slice (some ⟨b, off, none⟩) hs.length c) ∧ w'.cell? ⟨b, off + i * 4 + 1, none⟩ = some ypv ∧ w'.cell? ⟨b, off + i * 4 + 2, none⟩ = some ysv ∧ w'.cell? ⟨b, off + i * 4 + 3, none⟩ = some (.bool yix)) (by kernel_rfl) hHS (fun hHeld => ?_)
                refine wpAnyH_take (i := 0) (v := ?_) rfl (by kernel_rfl) (by kernel_rfl) (by kernel_rfl) (fun _ _ _ h => h) (Or.inl ⟨by rfl, ?_⟩) (by assumption) ?_
                rotate_left; · (intro w hSw; (try dsimp only at hSw); go_simp; try with_reducible rfl)
                try simp only [Act.put, List.getElem_toArray, List.getElem_cons_zero, List.getElem_cons_succ, List.setIfInBounds_toArray, List.set_cons_zero, List.set_cons_succ]
                refine wpAnyH_take (i := 1) (v := ?_) rfl (by kernel_rfl) (by kernel_rfl) (by kernel_rfl) (fun _ _ _ h => h) (Or.inl ⟨by rfl, ?_⟩) (by assumption) ?_
                rotate_left; · (intro w hSw; (try dsimp only at hSw); go_simp; try with_reducible rfl)
                try simp only [Act.put, List.getElem_toArray, List.getElem_cons_zero, List.getElem_cons_succ, List.setIfInBounds_toArray, List.set_cons_zero, List.set_cons_succ]
                refine wpAnyH_take (i := 2) (v := ?_) rfl (by kernel_rfl) (by kernel_rfl) (by kernel_rfl) (fun _ _ _ h => h) (Or.inl ⟨by rfl, ?_⟩) (by assumption) ?_
                rotate_left; · (intro w hSw; (try dsimp only at hSw); go_simp; try with_reducible rfl)
                try simp only [Act.put, List.getElem_toArray, List.getElem_cons_zero, List.getElem_cons_succ, List.setIfInBounds_toArray, List.set_cons_zero, List.set_cons_succ]
                refine wpAnyH_take (i := 3) (v := ?_) rfl (by kernel_rfl) (by kernel_rfl) (by kernel_rfl) (fun _ _ _ h => h) (Or.inl ⟨by rfl, ?_⟩) (by assumption) ?_
                rotate_left; · (intro w hSw; (try dsimp only at hSw); go_simp; try with_reducible rfl)
                try simp only [Act.put, List.getElem_toArray, List.getElem_cons_zero, List.getElem_cons_succ, List.setIfInBounds_toArray, List.set_cons_zero, List.set_cons_succ]
                refine wpAnyH_take (i := 5) (v := ?_) rfl (by kernel_rfl) (by kernel_rfl) (by kernel_rfl) (fun _ _ _ h => h) (Or.inl ⟨by rfl, ?_⟩) (by assumption) ?_
                rotate_left; · (intro w hSw; (try dsimp only at hSw); go_simp; try with_reducible rfl)
                try simp only [Act.put, List.getElem_toArray, List.getElem_cons_zero, List.getElem_cons_succ, List.setIfInBounds_toArray, List.set_cons_zero, List.set_cons_succ]
                refine wpAnyH_take (i := 6) (v := ?_) rfl (by kernel_rfl) (by kernel_rfl) (by kernel_rfl) (fun _ _ _ h => h) (Or.inl ⟨by rfl, ?_⟩) (by assumption) ?_
                rotate_left; · (intro w hSw; (try dsimp only at hSw); go_simp; try with_reducible rfl)
                try simp only [Act.put, List.getElem_toArray, List.getElem_cons_zero, List.getElem_cons_succ, List.setIfInBounds_toArray, List.set_cons_zero, List.set_cons_succ]
                refine wpAnyH_take (i := 7) (v := ?_) rfl (by kernel_rfl) (by kernel_rfl) (by kernel_rfl) (fun _ _ _ h => h) (Or.inl ⟨by rfl, ?_⟩) (by assumption) ?_
                rotate_left; · (intro w hSw; (try dsimp only at hSw); go_simp; try with_reducible rfl)
                try simp only [Act.put, List.getElem_toArray, List.getElem_cons_zero, List.getElem_cons_succ, List.setIfInBounds_toArray, List.set_cons_zero, List.set_cons_succ]
                refine wpAnyH_take (i := 8) (v := ?_) rfl (by kernel_rfl) (by kernel_rfl) (by kernel_rfl) (fun _ _ _ h => h) (Or.inl ⟨by rfl, ?_⟩) (by assumption) ?_
                rotate_left; · (intro w hSw; (try dsimp only at hSw); go_simp; try with_reducible rfl)
                try simp only [Act.put, List.getElem_toArray, List.getElem_cons_zero, List.getElem_cons_succ, List.setIfInBounds_toArray, List.set_cons_zero, List.set_cons_succ]
                refine wpAnyH_take (i := 9) (v := ?_) rfl (by kernel_rfl) (by kernel_rfl) (by kernel_rfl) (fun _ _ _ h => h) (Or.inl ⟨by rfl, ?_⟩) (by assumption) ?_
                rotate_left; · (intro w hSw; (try dsimp only at hSw); go_simp; try with_reducible rfl)
                try simp only [Act.put, List.getElem_toArray, List.getElem_cons_zero, List.getElem_cons_succ, List.setIfInBounds_toArray, List.set_cons_zero, List.set_cons_succ]
                refine wpAnyH_take (i := 10) (v := ?_) rfl (by kernel_rfl) (by kernel_rfl) (by kernel_rfl) (fun _ _ _ h => h) (Or.inl ⟨by rfl, ?_⟩) (by assumption) ?_
                rotate_left; · (intro w hSw; (try dsimp only at hSw); go_simp; try with_reducible rfl)
                try simp only [Act.put, List.getElem_toArray, List.getElem_cons_zero, List.getElem_cons_succ, List.setIfInBounds_toArray, List.set_cons_zero, List.set_cons_succ]
                refine wpAnyH_take (i := 11) (v := ?_) rfl (by kernel_rfl) (by kernel_rfl) (by kernel_rfl) (fun _ _ _ h => h) (Or.inl ⟨by rfl, ?_⟩) (by assumption) ?_
                rotate_left; · (intro w hSw; (try dsimp only at hSw); go_simp; try with_reducible rfl)
                try simp only [Act.put, List.getElem_toArray, List.getElem_cons_zero, List.getElem_cons_succ, List.setIfInBounds_toArray, List.set_cons_zero, List.set_cons_succ]
                refine wpAnyH_take (i := 12) (v := ?_) rfl (by kernel_rfl) (by kernel_rfl) (by kernel_rfl) (fun _ _ _ h => h) (Or.inl ⟨by rfl, ?_⟩) (by assumption) ?_
                rotate_left; · (intro w hSw; (try dsimp only at hSw); go_simp; try with_reducible rfl)
                try simp only [Act.put, List.getElem_toArray, List.getElem_cons_zero, List.getElem_cons_succ, List.setIfInBounds_toArray, List.set_cons_zero, List.set_cons_succ]
                refine wpAnyH_take (i := 13) (v := ?_) rfl (by kernel_rfl) (by kernel_rfl) (by kernel_rfl) (fun _ _ _ h => h) (Or.inl ⟨by rfl, ?_⟩) (by assumption) ?_
                rotate_left; · (intro w hSw; (try dsimp only at hSw); go_simp; try with_reducible rfl)
                try simp only [Act.put, List.getElem_toArray, List.getElem_cons_zero, List.getElem_cons_succ, List.setIfInBounds_toArray, List.set_cons_zero, List.set_cons_succ]
                refine wpAnyH_take (i := 14) (v := ?_) rfl (by kernel_rfl) (by kernel_rfl) (by kernel_rfl) (fun _ _ _ h => h) (Or.inl ⟨by rfl, ?_⟩) (by assumption) ?_
                rotate_left; · (intro w hSw; (try dsimp only at hSw); go_simp; try with_reducible rfl)
                try simp only [Act.put, List.getElem_toArray, List.getElem_cons_zero, List.getElem_cons_succ, List.setIfInBounds_toArray, List.set_cons_zero, List.set_cons_succ]
                refine wpAnyH_take (i := 15) (v := ?_) rfl (by kernel_rfl) (by kernel_rfl) (by kernel_rfl) (fun _ _ _ h => h) (Or.inl ⟨by rfl, ?_⟩) (by assumption) ?_
                rotate_left; · (intro w hSw; (try dsimp only at hSw); go_simp; try with_reducible rfl)
                try simp only [Act.put, List.getElem_toArray, List.getElem_cons_zero, List.getElem_cons_succ, List.setIfInBounds_toArray, List.set_cons_zero, List.set_cons_succ]
                refine wpAnyH_take (i := 16) (v := ?_) rfl (by kernel_rfl) (by kernel_rfl) (by kernel_rfl) (fun _ _ _ h => h) (Or.inl ⟨by rfl, ?_⟩) (by assumption) ?_
                rotate_left; · (intro w hSw; (try dsimp only at hSw); go_simp; try with_reducible rfl)
                try simp only [Act.put, List.getElem_toArray, List.getElem_cons_zero, List.getElem_cons_succ, List.setIfInBounds_toArray, List.set_cons_zero, List.set_cons_succ]
                refine wpAnyH_take (i := 17) (v := ?_) rfl (by kernel_rfl) (by kernel_rfl) (by kernel_rfl) (fun _ _ _ h => h) (Or.inl ⟨by rfl, ?_⟩) (by assumption) ?_
                rotate_left; · (intro w hSw; (try dsimp only at hSw); go_simp; try with_reducible rfl)
                try simp only [Act.put, List.getElem_toArray, List.getElem_cons_zero, List.getElem_cons_succ, List.setIfInBounds_toArray, List.set_cons_zero, List.set_cons_succ]
                refine wpAnyH_take (i := 18) (v := ?_) rfl (by kernel_rfl) (by kernel_rfl) (by kernel_rfl) (fun _ _ _ h => h) (Or.inl ⟨by rfl, ?_⟩) (by assumption) ?_
                rotate_left; · (intro w hSw; (try dsimp only at hSw); go_simp; try with_reducible rfl)
                try simp only [Act.put, List.getElem_toArray, List.getElem_cons_zero, List.getElem_cons_succ, List.setIfInBounds_toArray, List.set_cons_zero, List.set_cons_succ]
                refine wpAnyH_take (i := 19) (v := ?_) rfl (by kernel_rfl) (by kernel_rfl) (by kernel_rfl) (fun _ _ _ h => h) (Or.inl ⟨by rfl, ?_⟩) (by assumption) ?_
                rotate_left; · (intro w hSw; (try dsimp only at hSw); go_simp; try with_reducible rfl)
                try simp only [Act.put, List.getElem_toArray, List.getElem_cons_zero, List.getElem_cons_succ, List.setIfInBounds_toArray, List.set_cons_zero, List.set_cons_succ]
                refine wpAnyH_take (i := 20) (v := ?_) rfl (by kernel_rfl) (by kernel_rfl) (by kernel_rfl) (fun _ _ _ h => h) (Or.inl ⟨by rfl, ?_⟩) (by assumption) ?_
                rotate_left; · (intro w hSw; (try dsimp only at hSw); go_simp; try with_reducible rfl)
                try simp only [Act.put, List.getElem_toArray, List.getElem_cons_zero, List.getElem_cons_succ, List.setIfInBounds_toArray, List.set_cons_zero, List.set_cons_succ]
                refine wpAnyH_ready (rs := [4, 21]) (by kernel_rfl) (by simp) ?_
                refine AllReadyH.cons rfl (fun K hK => ?_) (AllReadyH.cons rfl (fun K hK => ?_) AllReadyH.nil)
                · skip
                  have c77 := (show W4.drew.cell? ⟨M + 1, 77, none⟩ = some q from G77.out)
                  go_simp
                  refine hK.out _ _ hHeld (fun hNew => ?_)
                  clear hK K hHeld
                  have hHeld := hNew
                  clear hNew
                  try simp only [Act.put, List.getElem_toArray, List.getElem_cons_zero, List.getElem_cons_succ, List.setIfInBounds_toArray, List.set_cons_zero, List.set_cons_succ]
                  refine wpAnyH_ready (rs := [21]) (by kernel_rfl) (by simp) ?_
                  refine AllReadyH.cons rfl (fun K hK => ?_) AllReadyH.nil
                  go_simp
                  go_at_call 67
                  refine (CSU.out _ (Below.refl _ W4).drew).mono ?_
                  rintro e w6 ⟨rfl, hb6⟩
                  go_wp2_with fail
                  refine hK.out _ _ (held_step' hHeld htM hbM (hb6.mono hM4)) (fun hNew => ?_)
                  clear hK K hHeld
                  have hHeld := hNew
                  clear hNew
                  try simp only [Act.put, List.getElem_toArray, List.getElem_cons_zero, List.getElem_cons_succ, List.setIfInBounds_toArray, List.set_cons_zero, List.set_cons_succ]
                  have hm6 := (HMD.out.below (Below.refl _ W4).drew).below hb6
                  obtain ⟨al, ll, cl, w7, r7, b7, c7, f7, hm7⟩ := hm6.give hMge hj1000 fin HXF.out
                  have hbu : (Instr.buildSlice 105 1 #[(0, fin.v)]).run Try.prog w6 = _ := run_buildSup fin w6
                  have hM6 : M + 1 ≤ w6.heap.size := Nat.le_trans (Nat.le_succ _) hm6.size
                  have c6q := PlanAt.cell hm6.plan 77 (by decide)
                  have C6Q := Lib.hid c6q
                  have HM7 := Lib.hid hm7
                  have hS6 := hHeld
                  have HS6 := Lib.hid hS6
                  clear hm6 hm7 hS6 c6q
                  refine wpAnyH_ready (rs := [22]) (by kernel_rfl) (by simp) ?_
                  refine AllReadyH.cons rfl (fun K hK => ?_) AllReadyH.nil
                  refine step_build_sup (by rfl) (.tmp 104) (by rfl) fin (by rfl) ?_
                  refine hK.out _ _ (held_step' HS6.out htM hbM ((Below.refl _ w6).alloc hM6 _)) (fun hNew => ?_)
                  clear hK K hHeld
                  have hHeld := hNew
                  clear hNew
                  try simp only [Act.put, List.getElem_toArray, List.getElem_cons_zero, List.getElem_cons_succ, List.setIfInBounds_toArray, List.set_cons_zero, List.set_cons_succ]
                  refine wpAnyH_ready (rs := [23]) (by kernel_rfl) (by simp) ?_
                  refine AllReadyH.cons rfl (fun K hK => ?_) AllReadyH.nil
                  refine step_append_run (by rfl) (.tmp 87) (.tmp 105) 105 (by rfl) q (.slice (some ⟨w6.heap.size, 0, none⟩) 1 1) (.slice al ll cl) w7 (by rfl) (by rfl) r7 ?_
                  refine hK.out _ _ (held_step' HS6.out htM hbM b7) (fun hNew => ?_)
                  clear hK K hHeld
                  have hHeld := hNew
                  clear hNew
                  try simp only [Act.put, List.getElem_toArray, List.getElem_cons_zero, List.getElem_cons_succ, List.setIfInBounds_toArray, List.set_cons_zero, List.set_cons_succ]
                  refine wpAnyH_take (i := 24) (v := ?_) rfl (by kernel_rfl) (by kernel_rfl) (by kernel_rfl) (fun _ _ _ h => h) (Or.inl ⟨by rfl, ?_⟩) (by assumption) ?_
                  rotate_left; · (intro w hSw; (try dsimp only at hSw); go_simp; try with_reducible rfl)
                  try simp only [Act.put, List.getElem_toArray, List.getElem_cons_zero, List.getElem_cons_succ, List.setIfInBounds_toArray, List.set_cons_zero, List.set_cons_succ]
                  refine wpAnyH_take (i := 25) (v := ?_) rfl (by kernel_rfl) (by kernel_rfl) (by kernel_rfl) (fun _ _ _ h => h) (Or.inl ⟨by rfl, ?_⟩) (by assumption) ?_
                  rotate_left; · (intro w hSw; (try dsimp only at hSw); go_simp; try with_reducible rfl)
                  try simp only [Act.put, List.getElem_toArray, List.getElem_cons_zero, List.getElem_cons_succ, List.setIfInBounds_toArray, List.set_cons_zero, List.set_cons_succ]
                  refine wpAnyH_ready (rs := [26]) (by kernel_rfl) (by simp) ?_
                  refine AllReadyH.cons rfl (fun K hK => ?_) AllReadyH.nil
                  go_simp
                  refine hK.out _ _ (held_step' hHeld htM hbM ((Below.refl _ w7).setCell (Nat.le_refl (M + 1)) _)) (fun hNew => ?_)
                  clear hK K hHeld
                  have hHeld := hNew
                  clear hNew
                  try simp only [Act.put, List.getElem_toArray, List.getElem_cons_zero, List.getElem_cons_succ, List.setIfInBounds_toArray, List.set_cons_zero, List.set_cons_succ]
                  refine wpAnyH_done (by kernel_rfl) ?_ _
                  go_wp2_with fail
                  go_roundw
                  case rel => exact ⟨j + 1, _, _, by omega, by go_num, HM7.out.base, HM7.out.plan, HM7.out.map, HM7.out.size, HM7.out.places, HM7.out.list, HM7.out.given⟩
                  case measure => simp [intOf]; omega
                · skip
                  go_simp
                  go_at_call 67
                  refine (CSU.out _ (Below.refl _ W4).drew).mono ?_
                  rintro e w6 ⟨rfl, hb6⟩
                  go_wp2_with fail
                  refine hK.out _ _ (held_step' hHeld htM hbM (hb6.mono hM4)) (fun hNew => ?_)
                  clear hK K hHeld
                  have hHeld := hNew
                  clear hNew
                  try simp only [Act.put, List.getElem_toArray, List.getElem_cons_zero, List.getElem_cons_succ, List.setIfInBounds_toArray, List.set_cons_zero, List.set_cons_succ]
                  have hm6 := (HMD.out.below (Below.refl _ W4).drew).below hb6
                  obtain ⟨al, ll, cl, w7, r7, b7, c7, f7, hm7⟩ := hm6.give hMge hj1000 fin HXF.out
                  have hbu : (Instr.buildSlice 105 1 #[(0, fin.v)]).run Try.prog w6 = _ := run_buildSup fin w6
                  have hM6 : M + 1 ≤ w6.heap.size := Nat.le_trans (Nat.le_succ _) hm6.size
                  have c6q := PlanAt.cell hm6.plan 77 (by decide)
                  have C6Q := Lib.hid c6q
                  have HM7 := Lib.hid hm7
                  have hS6 := hHeld
                  have HS6 := Lib.hid hS6
                  clear hm6 hm7 hS6 c6q
                  refine wpAnyH_ready (rs := [4, 22]) (by kernel_rfl) (by simp) ?_
                  refine AllReadyH.cons rfl (fun K hK => ?_) (AllReadyH.cons rfl (fun K hK => ?_) AllReadyH.nil)
                  · skip
                    have c6q : w6.cell? ⟨M + 1, 77, none⟩ = some q := C6Q.out
                    go_simp
                    refine hK.out _ _ hHeld (fun hNew => ?_)
                    clear hK K hHeld
                    have hHeld := hNew
                    clear hNew
                    try simp only [Act.put, List.getElem_toArray, List.getElem_cons_zero, List.getElem_cons_succ, List.setIfInBounds_toArray, List.set_cons_zero, List.set_cons_succ]
                    refine wpAnyH_ready (rs := [22]) (by kernel_rfl) (by simp) ?_
                    refine AllReadyH.cons rfl (fun K hK => ?_) AllReadyH.nil
                    refine step_build_sup (by rfl) (.tmp 104) (by rfl) fin (by rfl) ?_
                    refine hK.out _ _ (held_step' HS6.out htM hbM ((Below.refl _ w6).alloc hM6 _)) (fun hNew => ?_)
                    clear hK K hHeld
                    have hHeld := hNew
                    clear hNew
                    try simp only [Act.put, List.getElem_toArray, List.getElem_cons_zero, List.getElem_cons_succ, List.setIfInBounds_toArray, List.set_cons_zero, List.set_cons_succ]
                    refine wpAnyH_ready (rs := [23]) (by kernel_rfl) (by simp) ?_
                    refine AllReadyH.cons rfl (fun K hK => ?_) AllReadyH.nil
                    refine step_append_run (by rfl) (.tmp 87) (.tmp 105) 105 (by rfl) q (.slice (some ⟨w6.heap.size, 0, none⟩) 1 1) (.slice al ll cl) w7 (by rfl) (by rfl) r7 ?_
                    refine hK.out _ _ (held_step' HS6.out htM hbM b7) (fun hNew => ?_)
                    clear hK K hHeld
                    have hHeld := hNew
                    clear hNew
                    try simp only [Act.put, List.getElem_toArray, List.getElem_cons_zero, List.getElem_cons_succ, List.setIfInBounds_toArray, List.set_cons_zero, List.set_cons_succ]
                    refine wpAnyH_take (i := 24) (v := ?_) rfl (by kernel_rfl) (by kernel_rfl) (by kernel_rfl) (fun _ _ _ h => h) (Or.inl ⟨by rfl, ?_⟩) (by assumption) ?_
                    rotate_left; · (intro w hSw; (try dsimp only at hSw); go_simp; try with_reducible rfl)
                    try simp only [Act.put, List.getElem_toArray, List.getElem_cons_zero, List.getElem_cons_succ, List.setIfInBounds_toArray, List.set_cons_zero, List.set_cons_succ]
                    refine wpAnyH_take (i := 25) (v := ?_) rfl (by kernel_rfl) (by kernel_rfl) (by kernel_rfl) (fun _ _ _ h => h) (Or.inl ⟨by rfl, ?_⟩) (by assumption) ?_
                    rotate_left; · (intro w hSw; (try dsimp only at hSw); go_simp; try with_reducible rfl)
                    try simp only [Act.put, List.getElem_toArray, List.getElem_cons_zero, List.getElem_cons_succ, List.setIfInBounds_toArray, List.set_cons_zero, List.set_cons_succ]
                    refine wpAnyH_ready (rs := [26]) (by kernel_rfl) (by simp) ?_
                    refine AllReadyH.cons rfl (fun K hK => ?_) AllReadyH.nil
                    go_simp
                    refine hK.out _ _ (held_step' hHeld htM hbM ((Below.refl _ w7).setCell (Nat.le_refl (M + 1)) _)) (fun hNew => ?_)
                    clear hK K hHeld
                    have hHeld := hNew
                    clear hNew
                    try simp only [Act.put, List.getElem_toArray, List.getElem_cons_zero, List.getElem_cons_succ, List.setIfInBounds_toArray, List.set_cons_zero, List.set_cons_succ]
                    refine wpAnyH_done (by kernel_rfl) ?_ _
                    go_wp2_with fail
                    go_roundw
                    case rel => exact ⟨j + 1, _, _, by omega, by go_num, HM7.out.base, HM7.out.plan, HM7.out.map, HM7.out.size, HM7.out.places, HM7.out.list, HM7.out.given⟩
                    case measure => simp [intOf]; omega
                  · skip
                    have c6q : (w6.alloc (.cells fin.cells 99)).cell? ⟨M + 1, 77, none⟩ = some q := (World.cell?_of_block (Below.heap_alloc w6 _ (M + 1) (cell_lt C6Q.out))).trans C6Q.out
                    refine step_build_sup (by rfl) (.tmp 104) (by rfl) fin (by rfl) ?_
                    refine hK.out _ _ (held_step' HS6.out htM hbM ((Below.refl _ w6).alloc hM6 _)) (fun hNew => ?_)
                    clear hK K hHeld
                    have hHeld := hNew
                    clear hNew
                    try simp only [Act.put, List.getElem_toArray, List.getElem_cons_zero, List.getElem_cons_succ, List.setIfInBounds_toArray, List.set_cons_zero, List.set_cons_succ]
                    refine wpAnyH_ready (rs := [4]) (by kernel_rfl) (by simp) ?_
                    refine AllReadyH.cons rfl (fun K hK => ?_) AllReadyH.nil
                    go_simp
                    refine hK.out _ _ hHeld (fun hNew => ?_)
                    clear hK K hHeld
                    have hHeld := hNew
                    clear hNew
                    try simp only [Act.put, List.getElem_toArray, List.getElem_cons_zero, List.getElem_cons_succ, List.setIfInBounds_toArray, List.set_cons_zero, List.set_cons_succ]
                    refine wpAnyH_ready (rs := [23]) (by kernel_rfl) (by simp) ?_
                    refine AllReadyH.cons rfl (fun K hK => ?_) AllReadyH.nil
                    refine step_append_run (by rfl) (.tmp 87) (.tmp 105) 105 (by rfl) q (.slice (some ⟨w6.heap.size, 0, none⟩) 1 1) (.slice al ll cl) w7 (by rfl) (by rfl) r7 ?_
                    refine hK.out _ _ (held_step' HS6.out htM hbM b7) (fun hNew => ?_)
                    clear hK K hHeld
                    have hHeld := hNew
                    clear hNew
                    try simp only [Act.put, List.getElem_toArray, List.getElem_cons_zero, List.getElem_cons_succ, List.setIfInBounds_toArray, List.set_cons_zero, List.set_cons_succ]
                    refine wpAnyH_take (i := 24) (v := ?_) rfl (by kernel_rfl) (by kernel_rfl) (by kernel_rfl) (fun _ _ _ h => h) (Or.inl ⟨by rfl, ?_⟩) (by assumption) ?_
                    rotate_left; · (intro w hSw; (try dsimp only at hSw); go_simp; try with_reducible rfl)
                    try simp only [Act.put, List.getElem_toArray, List.getElem_cons_zero, List.getElem_cons_succ, List.setIfInBounds_toArray, List.set_cons_zero, List.set_cons_succ]
                    refine wpAnyH_take (i := 25) (v := ?_) rfl (by kernel_rfl) (by kernel_rfl) (by kernel_rfl) (fun _ _ _ h => h) (Or.inl ⟨by rfl, ?_⟩) (by assumption) ?_
                    rotate_left; · (intro w hSw; (try dsimp only at hSw); go_simp; try with_reducible rfl)
                    try simp only [Act.put, List.getElem_toArray, List.getElem_cons_zero, List.getElem_cons_succ, List.setIfInBounds_toArray, List.set_cons_zero, List.set_cons_succ]
                    refine wpAnyH_ready (rs := [26]) (by kernel_rfl) (by simp) ?_
                    refine AllReadyH.cons rfl (fun K hK => ?_) AllReadyH.nil
                    go_simp
                    refine hK.out _ _ (held_step' hHeld htM hbM ((Below.refl _ w7).setCell (Nat.le_refl (M + 1)) _)) (fun hNew => ?_)
                    clear hK K hHeld
                    have hHeld := hNew
                    clear hNew
                    try simp only [Act.put, List.getElem_toArray, List.getElem_cons_zero, List.getElem_cons_succ, List.setIfInBounds_toArray, List.set_cons_zero, List.set_cons_succ]
                    refine wpAnyH_done (by kernel_rfl) ?_ _
                    go_wp2_with fail
                    go_roundw
                    case rel => exact ⟨j + 1, _, _, by omega, by go_num, HM7.out.base, HM7.out.plan, HM7.out.map, HM7.out.size, HM7.out.places, HM7.out.list, HM7.out.given⟩
                    case measure => simp [intOf]; omega
            · have hjl : j = hs.length := by omega
              subst hjl
              obtain ⟨k1, k2, k3⟩ := HG.out.below hbs.below
              have e0 := hbs.goal
              rw [HGC.out] at e0
              have e2 := cell_of_row _ _ 2 _ _ _ e0
              have e3 := cell_of_row _ _ 3 _ _ _ e0
              have e4 := cell_of_row _ _ 4 _ _ _ e0
              have hxm : x0.m = M := by rw [HX0.out]; rfl
              have hp5 : wr.cell? ⟨M + 1, 5, none⟩ = some (.map (some M)) := by have h5 := hp.cell 5 (by omega); rw [show some (Value.map (some M)) = some (Value.map (some x0.m)) by rw [hxm]]; exact h5
              have CSU := Lib.hid (supplyOf_any (M + 1) M ns _ _ ps ss (!idx) wr hp5 hnm k2 k3 HOK.out.2.2.1.1 HOK.out.2.2.1.2 HOK.out.1.1)
              obtain ⟨fin, hfin⟩ : ∃ fin, fin = supOf ns ps ss (!idx) := ⟨_, rfl⟩
              rw [← hfin] at CSU
              have HFIN := Lib.hid hfin
              have hlen : pl.length = hs.length := by have := PE.out.length_eq; rw [List.length_range] at this; exact this
              have hLlen : L.length = hs.length := by rw [LL.out, List.length_map]; exact hlen
              have hxlen : xs.length = hs.length := by rw [XX.out, List.length_map]; exact hLlen
              have LH := Lib.hid hlist
              have LS := Lib.hid hgiv
              have LP := Lib.hid hown
              have sd : (L.map Hd.dev).Pairwise (· < ·) := by rw [LL.out, List.map_map]; exact PS.out
              have SD := Lib.hid sd
              have HB := Lib.hid hbs.below
              have HNM := Lib.hid hnm
              have HP := Lib.hid hp
              clear hfin sd k1 k2 k3 hbs hnm hp hp5 hown hlist hgiv e0 hxm
              generalize hhn : hs.length = hn at *
              have HHN := Lib.hid hhn
              clear hhn
              go_wp2_with fail
              refine CSU.out.mono ?_
              rintro e w6 ⟨rfl, hb6⟩
              have p6 := HP.out.below hb6
              have P6 := Lib.hid p6
              clear p6
              go_wp2_with (refine wpList_store_mid (by rfl) 99 (.tmp 121) (.tmp 119) (by rfl) (M + 1) 8 fin.cells (by rfl) (by rfl) (P6.out.there fin) (by rw [fin.cells_size]; exact info99) fin.cells_one ?_)
              go_ret2
              have hfl : fin.cells.toList = fin.list := by simp [Sup.cells]
              rw [hfl]
              have hsame : ∀ g, g ≠ M + 1 → (w6.setCells (M + 1) 8 fin.list).heap[g]? = w6.heap[g]? := fun g hg => setCells_other hg _ _ _
              have bw6 : Below w.heap.size w w6 := HB.out.trans (hb6.mono HB.out.size)
              have bwf : Below w.heap.size w (w6.setCells (M + 1) 8 fin.list) := below_setCells (by omega) _ _ _ bw6
              have oL : Own (w6.setCells (M + 1) 8 fin.list) (M + 2) 88 a 4 hn (hdCell L) := (LH.out.below hb6).same fun g hg => hsame g (by have := (LH.out.lt g hg).1; omega)
              have oG : Own (w6.setCells (M + 1) 8 fin.list) (M + 2) 99 q 69 hn (fun i k => (xs.getD i (zeroS false)).cell k) := (LS.out.below hb6).same fun g hg => hsame g (by have := (LS.out.lt g hg).1; omega)
              have oP : Own (w6.setCells (M + 1) 8 fin.list) (M + 2) 3 (.slice ua hn uc) 1 hn (fun i _ => .int .i64 (pl.getD i 0)) := (LP.out.below hb6).same fun g hg => hsame g (by have := (LP.out.lt g hg).1; omega)
              refine ⟨M + 1, { x0 with plv := .slice ua hn uc, lv := a, gv := q, s := fin }, pl, L, rfl, ⟨P6.out.setThere fin, by rw [HX0.out]; rfl, by rw [HX0.out]; rfl, ?_, ?_, ⟨?_, ?_⟩, ?_, HFIN.out, ?_, ?_, LL.out, SD.out⟩, bwf⟩
              · rw [show ({ x0 with plv := .slice ua hn uc, lv := a, gv := q, s := fin } : PlanV).m = M by show x0.m = M; rw [HX0.out]; rfl]
                exact (hsame M (by omega)).trans (HNM.out.below hb6)
              · rw [show ({ x0 with plv := .slice ua hn uc, lv := a, gv := q, s := fin } : PlanV).nv = .slice na ns.length nc by show x0.nv = _; rw [HX0.out]; rfl]
                exact HG.out.1.below bwf
              · rw [hLlen]; exact oL.row hm
              · intro y hy
                rw [LL.out] at hy
                obtain ⟨i, hi, rfl⟩ := List.mem_map.1 hy
                have hi' : i < hs.length := by have := List.mem_range.1 (PE.out.mem_iff.1 hi); rw [HHN.out]; exact this
                rw [getD_at _ _ _ hi']
                exact (HV.out.below bwf).2 _ (List.getElem_mem hi')
              · have := oG.row hm
                unfold ReadsS
                rw [← XX.out, hxlen]; exact this
              · rw [hlen]; exact oP.row hm
              · rw [HHN.out]; exact PE.out

end Go.Proofs.Ytapjgjjmlbhanaa
