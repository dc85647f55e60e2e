/- Lacking. -/
import Derived.Test.YtapjgjjmlbhanaaN1
namespace Go.Proofs.Ytapjgjjmlbhanaa
open Go.RowKit Go.Lib
set_option linter.unusedSimpArgs false

/-- A row of needs of the call's own. -/
def OwnN (w : World) (base : Nat) (v : Value) (ns : List Nd) : Prop := Own w base 80 v 2 ns.length (ndCell ns)
theorem OwnN.append {V : World} {base : Nat} {v : Value} {ns : List Nd} (h : OwnN V base v ns) (y : Nd) (hn : ns.length ≤ 1000000000) (hbase : base ≤ V.heap.size) :
    ∃ v' w', (Builtin.append_ #[22, 22] 22 #[v, .slice (some ⟨V.heap.size, 0, none⟩) 1 1]).run Try.prog (V.alloc (.cells #[.string y.st, .int .i64 y.d] 80)) = .ok v' w' ∧ OwnN w' base v' (ns ++ [y]) ∧ Below base V w' ∧
      (∀ b, b < V.heap.size → v.ownBlock ≠ some b → w'.heap[b]? = V.heap[b]?) := by
  have hg : ∀ i, i < ns.length → (ns ++ [y]).getD i default = ns.getD i default := fun i hi => by
    rw [getD_at _ _ _ hi, getD_at _ _ _ (by rw [List.length_append]; omega), List.getElem_append_left hi]
  have h' : Own V base 80 v 2 ns.length (ndCell (ns ++ [y])) := Own.congr h fun i j hi hj => by unfold ndCell; rw [hg i hi]
  have hl : (ns ++ [y]).getD ns.length default = y := by
    rw [getD_at _ _ _ (by rw [List.length_append]; simp), List.getElem_append_right (by omega)]; simp
  obtain ⟨v3, w3, r3, o1, o2, o3, _⟩ := Own.append (V := V) (t := 22) (e := 80) (z := .agg #[.string ⟨#[]⟩, .int .i64 0]) (k := 2) (bytes := 24) Try.underlying22 (by kernel_rfl) rfl (by omega) (by omega) h' 22 [.string y.st, .int .i64 y.d] rfl (fun q hq => by
    unfold ndCell
    rw [hl]
    match q, hq with
    | 0, _ => rfl
    | 1, _ => rfl) (by intro u hu; simp at hu; rcases hu with rfl | rfl <;> rfl) hn hbase
  refine ⟨v3, w3, r3, ?_, o2, o3⟩
  unfold OwnN
  rw [List.length_append]
  exact o1
theorem OwnN.slice {w : World} {base : Nat} {v : Value} {ns : List Nd} (h : OwnN w base v ns) : ∃ a c, v = .slice a ns.length c := by
  obtain ⟨xs, ⟨h0, h2⟩, _⟩ := h
  rcases h2 with ⟨rfl, h⟩ | ⟨g, cap, cur, rfl, _⟩
  · rw [h]; exact ⟨_, _, rfl⟩
  · exact ⟨_, _, rfl⟩

theorem ndR_at (g : Gl) (hs : List Hd) (devs : List Int) {j : Nat} (h : j < g.ns.length) : (ndR g hs devs).getD j 0 = down (g.ns.getD j default).d (thereP g hs devs j) 16 := by
  simp [ndR, List.getD, h]

/-- The needs that lack something, of the first n, with what they lack. -/
def lackTo' (g : Gl) (hs : List Hd) (devs : List Int) : Nat → List Nd
  | 0 => []
  | n + 1 => lackTo' g hs devs n ++ if 0 < (ndR g hs devs).getD n 0 then [⟨(g.ns.getD n default).st, (ndR g hs devs).getD n 0⟩] else []
def lackL (g : Gl) (hs : List Hd) (devs : List Int) : List Nd := lackTo' g hs devs g.ns.length
theorem lackTo'_len (g : Gl) (hs : List Hd) (devs : List Int) : ∀ n, (lackTo' g hs devs n).length ≤ n
  | 0 => Nat.le_refl _
  | n + 1 => by
    have := lackTo'_len g hs devs n
    unfold lackTo'
    rw [List.length_append]
    split <;> simp <;> omega

set_option maxRecDepth 100000 in
set_option maxHeartbeats 2000000 in
theorem lacking_bad (g : Gl) (v dv : Value) (hs : List Hd) (w : World) (hg : GlAt w g) (hv : ReadsH w v hs) (hok : ¬ Ok g hs) :
    Calls Try.prog 34 #[g.v, v, dv] w fun e w' => e = .returned (.tuple #[.slice none 0 0, .int .i64 0, .bool false, .int .i64 1]) ∧ Below w.heap.size w w' := by
  have cc := fun W h1 h2 => read_bad g v hs W h1 h2 hok
  obtain ⟨na, n1, nc, pa, n2, pc, sa, n3, sc, e1⟩ := hg.val
  obtain ⟨ao, n4, c4, rfl⟩ := hv.val
  rw [e1] at cc ⊢
  have CC := Lib.hid cc
  have HG := Lib.hid hg
  have HV := Lib.hid hv
  clear hg hv hok cc e1
  go_enter Try.func34, Try.ntmps34
  go_wp2_with fail
  refine (CC.out _ (HG.out.below (by (repeat' (first | (with_reducible exact Below.refl _ _) | (with_reducible assumption) | (with_reducible refine Below.alloc ?_ ?_ _) | (with_reducible refine Below.drew ?_) | (with_reducible refine below_drewN ?_ _) | (with_reducible refine Below.setCell ?_ ?_ _) | (with_reducible refine below_step ?_ (by with_reducible assumption) ?_) | go_size)))) (HV.out.below (by (repeat' (first | (with_reducible exact Below.refl _ _) | (with_reducible assumption) | (with_reducible refine Below.alloc ?_ ?_ _) | (with_reducible refine Below.drew ?_) | (with_reducible refine below_drewN ?_ _) | (with_reducible refine Below.setCell ?_ ?_ _) | (with_reducible refine below_step ?_ (by with_reducible assumption) ?_) | go_size))))).mono ?_
  rintro e w1 ⟨rfl, hb⟩
  go_wp2
  refine bodyPost_ret (v := .tuple #[.slice none 0 0, .int .i64 0, .bool false, .int .i64 1]) (by simp [results, Try.results34, go_sem]) rfl ⟨rfl, by (repeat' (first | (with_reducible exact Below.refl _ _) | (with_reducible assumption) | (with_reducible refine Below.alloc ?_ ?_ _) | (with_reducible refine Below.drew ?_) | (with_reducible refine below_drewN ?_ _) | (with_reducible refine Below.setCell ?_ ?_ _) | (with_reducible refine below_step ?_ (by with_reducible assumption) ?_) | go_size))⟩

/-- What Lacking answers. -/
def LackingPost (g : Gl) (hs : List Hd) (devs : List Int) (w : World) (e : Ending) (w' : World) : Prop :=
  ∃ v, e = .returned (.tuple #[v, .int .i64 (shR g hs devs), .bool (!thereI g hs devs), .int .i64 0]) ∧ ReadsN w' v (lackL g hs devs) ∧ Below w.heap.size w w'

set_option maxRecDepth 100000 in
set_option maxHeartbeats 8000000 in
theorem lacking_ok (g : Gl) (v dv : Value) (hs : List Hd) (devs : List Int) (w : World) (hg : GlAt w g) (hv : ReadsH w v hs) (hd : ReadsI w dv devs) (hok : Ok g hs) :
    Calls Try.prog 34 #[g.v, v, dv] w (LackingPost g hs devs w) := by
  have cc := fun W h1 h2 => read_ok g v hs W h1 h2 hok
  obtain ⟨nao, nnc, nnb, nno, env, hnl, hnm, hncell⟩ := hg.1.at
  obtain ⟨na, n1, nc, pa, n2, pc, sa, n3, sc, e1⟩ := hg.val
  have env2 : g.nv = .slice na n1 nc := by
    have := e1
    unfold Gl.v at this
    simp at this
    exact this.1
  rw [env] at env2
  cases env2
  obtain ⟨ao, n4, c4, rfl⟩ := hv.val
  obtain ⟨dao, dn, dc, rfl⟩ := hd.val
  rw [e1] at cc ⊢
  have CC := Lib.hid cc
  have HG := Lib.hid hg
  have HV := Lib.hid hv
  have HD := Lib.hid hd
  have HOK := Lib.hid hok
  have HNC := Lib.hid hncell
  have hz := zero99
  obtain ⟨zc, hzc⟩ : ∃ zc, zc = (zeroS false).cells := ⟨_, rfl⟩
  rw [← hzc] at hz
  have HZ := Lib.hid hzc
  clear hg hv hd hok cc e1 hncell env hzc
  have b0 : Below w.heap.size w (w.alloc (.cells #[.slice nao g.ns.length nnc, .int .i64 g.thr, .bool g.idx, .slice pa n2 pc, .slice sa n3 sc] 26)) := (Below.refl _ _).alloc (Nat.le_refl _) _
  have g0 := heap_alloc_last w (.cells #[.slice nao g.ns.length nnc, .int .i64 g.thr, .bool g.idx, .slice pa n2 pc, .slice sa n3 sc] 26)
  obtain ⟨G, hG⟩ : ∃ G, G = w.heap.size := ⟨_, rfl⟩
  have HGG := Lib.hid hG
  rw [← hG] at g0
  have G0 := Lib.hid g0
  clear g0 hG
  go_enter Try.func34, Try.ntmps34
  go_upto_region 1 with fail
  rw [← HGG.out]
  generalize w.alloc (Obj.cells #[.slice nao g.ns.length nnc, .int .i64 g.thr, .bool g.idx, .slice pa n2 pc, .slice sa n3 sc] 26) = W0 at b0 G0 ⊢
  have a0 := cell_of_row _ _ 0 _ _ _ G0.out
  have a1 := cell_of_row _ _ 1 _ _ _ G0.out
  have a2 := cell_of_row _ _ 2 _ _ _ G0.out
  have a3 := cell_of_row _ _ 3 _ _ _ G0.out
  have a4 := cell_of_row _ _ 4 _ _ _ G0.out
  go_wp2_with fail
  refine (CC.out _ (HG.out.below b0) (HV.out.below b0)).mono ?_
  rintro e w1 ⟨b, x, pl, L, rfl, hpo, hb⟩
  have hw1 := b0.trans (hb.mono b0.size)
  have z1 := hw1.size
  have G1 := Lib.hid ((hb.block G (Array.getElem?_eq_some_iff.1 G0.out).1).trans G0.out)
  have hl12 : L.length ≤ 12 := by have := hpo.len; have := HOK.out.1.2.2; omega
  have C43 := Lib.hid (set_plan HOK.out hpo _ devs (HD.out.below hw1))
  have C42 := Lib.hid (fun W (hW : Below w1.heap.size w1 W) => of_plan (w := W) HOK.out (hpo.below hW) (setN devs L L.length) (setN_lt12 devs hl12))
  have PO := Lib.hid hpo
  have HPL := Lib.hid hpo.permL
  have hswf := ofL_wf HOK.out hpo.permL (setN devs L L.length)
  obtain ⟨s, hs'⟩ : ∃ s, s = ofL g L (setN devs L L.length) := ⟨_, rfl⟩
  rw [← hs'] at C42 hswf
  have HS := Lib.hid (show s = supD g L devs from hs')
  have HSW := Lib.hid hswf
  clear a0 a1 a2 a3 a4 hb b0 G0 hpo hs' hswf
  generalize setN devs L L.length = k at *
  go_wp2_with fail
  refine C43.out.mono ?_
  rintro e w2 ⟨rfl, hb2⟩
  go_wp2_with fail
  refine (C42.out _ hb2).mono ?_
  rintro e w3 ⟨rfl, hb3⟩
  have b13 := hb2.trans (hb3.mono hb2.size)
  obtain ⟨R, hR⟩ : ∃ R, R = w3.heap.size := ⟨_, rfl⟩
  have HR := Lib.hid hR
  have m1 : SupAt (w3.alloc (.cells zc 99)) R (zeroS false) := by rw [HZ.out, hR]; exact SupAt.new w3 _
  have M1 := Lib.hid m1
  have g1 : w3.grownBy ((w3.alloc (.cells zc 99)).setRow R s.cells) (some R) := grown_setRow (grown_alloc (grown_refl w3 _) _) _
  have m2 : SupAt ((w3.alloc (.cells zc 99)).setRow R s.cells) R s := M1.out.setRow s
  have b34 : Below w3.heap.size w3 ((w3.alloc (.cells zc 99)).setRow R s.cells) := grown_below (Below.refl _ _) g1 (by omega) (Nat.le_refl _)
  have b14 := b13.trans (b34.mono b13.size)
  have M2 := Lib.hid m2
  have P4 := Lib.hid (PO.out.below b14)
  have G4 := Lib.hid ((b14.block G (Array.getElem?_eq_some_iff.1 G1.out).1).trans G1.out)
  have w4b := hw1.trans (b14.mono z1)
  clear m1 g1 m2 b34 b13 hb2 hb3 hR G1
  go_upto_region 5 with (refine wpList_store_sup (by rfl) (.tmp 12) (.tmp 30) (by rfl) w3.heap.size (by rfl) s (zeroS false) (by rfl) (by rw [← HR.out]; exact M1.out) ?_)
  rw [← HR.out]
  generalize (w3.alloc (Obj.cells zc 99)).setRow R s.cells = W at w4b M2 P4 G4 b14 ⊢
  clear M1
  have a0 := cell_of_row _ _ 0 _ _ _ G4.out
  simp only [List.getElem?_toArray, List.getElem?_cons_zero] at a0
  have zW := w4b.size
  generalize hnn : g.ns.length = nn at *
  have HNN := Lib.hid hnn
  clear hnn
  go_wp2
  go_loopg [13, 34] nn (fun gk v13 v34 wx => ∃ j : Nat, j + gk = nn ∧ v34 = .int .i64 j ∧ Below W.heap.size W wx ∧ OwnN wx W.heap.size v13 (lackTo' g hs devs j))
  case atStart => exact ⟨0, by omega, rfl, Below.refl _ _, Own.nil _ _ _ _ _⟩
  case round =>
    obtain ⟨j, hj, rfl, hbj, hown⟩ := hrel
    have zj := hbj.size
    have HO := Lib.hid hown
    clear hown a0
    have pj := P4.out.below hbj
    have hthr : x.thr = g.thr := pj.thr
    cases gk with
    | zero =>
      obtain rfl : j = nn := by omega
      have hol := HO.out
      obtain ⟨oa, oc, rfl⟩ := hol.slice
      have hrd : ReadsN wr (.slice oa (lackTo' g hs devs j).length oc) (lackTo' g hs devs j) := Own.row hol (by have := lackTo'_len g hs devs j; omega)
      have HRD := Lib.hid hrd
      have MS := Lib.hid (M2.out.below hbj)
      have C44 := fun (w6 : World) (h : Below wr.heap.size wr w6) => lackingShares_any b s x.thr w6 ((pj.plan.below h).cell 1 (by omega)) HSW.out (by rw [hthr]; exact HOK.out.1.2.1.1) (by rw [hthr]; exact HOK.out.1.2.1.2)
      rw [hthr] at C44
      have hsh : lackS g.thr s = shR g hs devs := by rw [HS.out]; exact lackS_eq HOK.out HPL.out
      have hixx : s.ix = thereI g hs devs := by rw [HS.out]; exact supD_ix HPL.out
      have cix := MS.out.ix
      rw [hixx] at cix
      rw [hsh] at C44
      have C44 := Lib.hid C44
      have hHS : Below wr.heap.size wr wr.drew ∧ wr.drew.cell? ⟨R, 68, none⟩ = some (.bool (thereI g hs devs)) := ⟨(Below.refl _ _).drew, cix⟩
      have HHS := Lib.hid hHS
      have rlt := cell_lt cix
      have HKEEP := Lib.hid (fun (w8 : World) (hb : Below wr.heap.size wr w8) => (⟨hb, (hb.cell (p := ⟨R, 68, none⟩) rlt).trans cix⟩ : Below wr.heap.size wr w8 ∧ w8.cell? ⟨R, 68, none⟩ = some (.bool (thereI g hs devs))))
      have HSUP := Lib.hid (fun (w6 : World) (h : Below wr.heap.size wr w6 ∧ w6.cell? ⟨R, 68, none⟩ = some (.bool (thereI g hs devs))) => MS.out.below h.1)
      have hall := w4b.trans (hbj.mono zW)
      clear hol hrd pj hthr hsh hixx cix hHS
      generalize hti : thereI g hs devs = ti at *
      generalize htsh : shR g hs devs = tsh at *
      have HTI := Lib.hid hti
      have HTS := Lib.hid htsh
      clear hti htsh
      go_wp2
      refine wp_region_held_drew (S := fun w' => Below wr.heap.size wr w' ∧ w'.cell? ⟨R, 68, none⟩ = some (.bool ti)) (by kernel_rfl) HHS.out (fun hHeld => ?_)
      refine wpAnyH_take (i := 0) (v := ?_) rfl (by kernel_rfl) (by kernel_rfl) (by kernel_rfl) (fun _ _ _ h => h) (Or.inl ⟨by rfl, ?_⟩) (by assumption) ?_
      rotate_left; · (intro w hSw; (try dsimp only at hSw); go_simp; try with_reducible rfl)
      try simp only [Act.put, List.getElem_toArray, List.getElem_cons_zero, List.getElem_cons_succ, List.setIfInBounds_toArray, List.set_cons_zero, List.set_cons_succ]
      refine wpAnyH_take (i := 1) (v := ?_) rfl (by kernel_rfl) (by kernel_rfl) (by kernel_rfl) (fun _ _ _ h => h) (Or.inl ⟨by rfl, ?_⟩) (by assumption) ?_
      rotate_left; · (intro w hSw; (try dsimp only at hSw); go_simp; try with_reducible rfl)
      try simp only [Act.put, List.getElem_toArray, List.getElem_cons_zero, List.getElem_cons_succ, List.setIfInBounds_toArray, List.set_cons_zero, List.set_cons_succ]
      refine wpAnyH_take (i := 2) (v := .agg s.cells) rfl (by kernel_rfl) (by kernel_rfl) (by kernel_rfl) (fun _ _ _ h => h) (yieldsIf_load_sup (by rfl) (.tmp 12) (by rfl) R (by rfl) s HSUP.out) (by assumption) ?_
      try simp only [Act.put, List.getElem_toArray, List.getElem_cons_zero, List.getElem_cons_succ, List.setIfInBounds_toArray, List.set_cons_zero, List.set_cons_succ]
      refine wpAnyH_take (i := 4) (v := ?_) rfl (by kernel_rfl) (by kernel_rfl) (by kernel_rfl) (fun _ _ _ h => h) (Or.inl ⟨by rfl, ?_⟩) (by assumption) ?_
      rotate_left; · (intro w hSw; (try dsimp only at hSw); go_simp; try with_reducible rfl)
      try simp only [Act.put, List.getElem_toArray, List.getElem_cons_zero, List.getElem_cons_succ, List.setIfInBounds_toArray, List.set_cons_zero, List.set_cons_succ]
      refine wpAnyH_take (i := 5) (v := ?_) rfl (by kernel_rfl) (by kernel_rfl) (by kernel_rfl) (fun _ _ _ h => h) (Or.inl ⟨by rfl, ?_⟩) (by assumption) ?_
      rotate_left; · (intro w hSw; (try dsimp only at hSw); go_simp; try with_reducible rfl)
      try simp only [Act.put, List.getElem_toArray, List.getElem_cons_zero, List.getElem_cons_succ, List.setIfInBounds_toArray, List.set_cons_zero, List.set_cons_succ]
      refine wpAnyH_take (i := 6) (v := ?_) rfl (by kernel_rfl) (by kernel_rfl) (by kernel_rfl) (fun _ _ _ h => h) (Or.inl ⟨by rfl, ?_⟩) (by assumption) ?_
      rotate_left; · (intro w hSw; (try dsimp only at hSw); go_simp; try with_reducible rfl)
      try simp only [Act.put, List.getElem_toArray, List.getElem_cons_zero, List.getElem_cons_succ, List.setIfInBounds_toArray, List.set_cons_zero, List.set_cons_succ]
      refine wpAnyH_ready (rs := [3]) (by kernel_rfl) (by simp) ?_
      refine AllReadyH.cons rfl (fun K hK => ?_) AllReadyH.nil
      go_simp
      go_at_call 44
      refine (C44.out _ hHeld.1).mono ?_
      rintro e w8 ⟨rfl, hb8⟩
      go_wp2_with fail
      refine hK.out _ _ (HKEEP.out _ (hHeld.1.trans (hb8.mono hHeld.1.size))) (fun hNew => ?_)
      clear hK K hHeld hb8
      have hHeld := hNew
      clear hNew
      try simp only [Act.put, List.getElem_toArray, List.getElem_cons_zero, List.getElem_cons_succ, List.setIfInBounds_toArray, List.set_cons_zero, List.set_cons_succ]
      refine wpAnyH_take (i := 7) (v := ?_) rfl (by kernel_rfl) (by kernel_rfl) (by kernel_rfl) (fun _ _ _ h => h) (Or.inl ⟨by rfl, ?_⟩) (by assumption) ?_
      rotate_left; · (intro w hSw; (try dsimp only at hSw); go_simp; try with_reducible rfl)
      try simp only [Act.put, List.getElem_toArray, List.getElem_cons_zero, List.getElem_cons_succ, List.setIfInBounds_toArray, List.set_cons_zero, List.set_cons_succ]
      refine wpAnyH_take (i := 8) (v := ?_) rfl (by kernel_rfl) (by kernel_rfl) (by kernel_rfl) (fun _ _ _ h => h) (Or.inl ⟨by rfl, ?_⟩) (by assumption) ?_
      rotate_left; · (intro w hSw; (try dsimp only at hSw); go_simp; try with_reducible rfl)
      try simp only [Act.put, List.getElem_toArray, List.getElem_cons_zero, List.getElem_cons_succ, List.setIfInBounds_toArray, List.set_cons_zero, List.set_cons_succ]
      refine wpAnyH_take (i := 9) (v := ?_) rfl (by kernel_rfl) (by kernel_rfl) (by kernel_rfl) (fun _ _ _ h => h) (Or.inl ⟨by rfl, ?_⟩) (by assumption) ?_
      rotate_left; · (intro w hSw; (try dsimp only at hSw); go_simp; try with_reducible rfl)
      try simp only [Act.put, List.getElem_toArray, List.getElem_cons_zero, List.getElem_cons_succ, List.setIfInBounds_toArray, List.set_cons_zero, List.set_cons_succ]
      refine wpAnyH_take (i := 10) (v := ?_) rfl (by kernel_rfl) (by kernel_rfl) (by kernel_rfl) (fun _ _ _ h => h) (Or.inl ⟨by rfl, ?_⟩) (by assumption) ?_
      rotate_left; · (intro w hSw; (try dsimp only at hSw); go_simp; try with_reducible rfl)
      try simp only [Act.put, List.getElem_toArray, List.getElem_cons_zero, List.getElem_cons_succ, List.setIfInBounds_toArray, List.set_cons_zero, List.set_cons_succ]
      refine wpAnyH_done (by kernel_rfl) ?_ _
      have hb8 := hHeld.1
      clear hHeld
      go_wp2
      refine bodyPost_ret (v := .tuple #[.slice oa (lackTo' g hs devs j).length oc, .int .i64 tsh, .bool (!ti), .int .i64 0]) (by simp [results, Try.results34, go_sem]) rfl ⟨_, by rw [HTI.out, HTS.out], ?_, hall.trans (hb8.mono hall.size)⟩
      unfold lackL
      rw [HNN.out]
      exact HRD.out.below hb8
    | succ go =>
      have hlt : j < nn := by omega
      have hjn : j < g.ns.length := by rw [HNN.out]; exact hlt
      have hall := w4b.trans (hbj.mono zW)
      obtain ⟨e1, e2, e3⟩ := HNC.out j hlt
      subst e1
      rw [← hall.cell (p := ⟨nnb, _, none⟩) (cell_lt e2)] at e2
      rw [← hall.cell (p := ⟨nnb, _, none⟩) (cell_lt e3)] at e3
      have hst : lackTo' g hs devs (j + 1) = lackTo' g hs devs j ++ if 0 < (ndR g hs devs).getD j 0 then [⟨(g.ns.getD j default).st, (ndR g hs devs).getD j 0⟩] else [] := rfl
      have hln := lackTo'_len g hs devs j
      have hlk : lackN (g.ns.getD j default).d (s.pc j) = (ndR g hs devs).getD j 0 := by
        rw [HS.out, lackN_eq HOK.out HPL.out j hjn, ndR_at g hs devs hjn]
      have hnd := HOK.out.2.1.2 (g.ns.getD j default) (by rw [getD_at _ _ _ hjn]; exact List.getElem_mem _)
      have hbd := lackN_bd (g.ns.getD j default).d (s.pc j) hnd.2
      have hgy : g.ns.getD j default = g.ns[j] := getD_at _ _ _ hjn
      have C45' := fun (U : World) (h1 : PlanAt U b x) (h2 : ReadsN U x.nv g.ns) => lacking_any b s x.nv g.ns j U hjn HOK.out.1.1 (h1.cell 0 (by omega)) h2 HSW.out hnd.1 hnd.2
      rw [hgy] at e2 e3 hst hlk hnd hbd C45'
      clear hgy
      generalize g.ns[j] = nd at *
      obtain ⟨X, hX⟩ : ∃ X, X = wr.heap.size := ⟨_, rfl⟩
      have HX := Lib.hid hX
      have bx : Below wr.heap.size wr (wr.alloc (.cells #[.string nd.st, .int .i64 nd.d] 80)) := (Below.refl _ _).alloc (Nat.le_refl _) _
      have xX := heap_alloc_last wr (.cells #[.string nd.st, .int .i64 nd.d] 80)
      rw [← hX] at xX
      have XX := Lib.hid xX
      have OX := Lib.hid (Own.below HO.out bx)
      have bjx := hbj.trans (bx.mono zj)
      have PX := Lib.hid (pj.below bx)
      have MX := Lib.hid ((M2.out.below hbj).below bx)
      have HST := Lib.hid hst
      have HLK := Lib.hid hlk
      have HND := Lib.hid hnd
      clear xX bx hX hst hlk hnd pj hthr
      go_upto_region 9 with fail
      rw [← HX.out]
      clear e2 e3
      generalize wr.alloc (Obj.cells #[Value.string nd.st, Value.int .i64 nd.d] 80) = U at XX OX bjx PX MX ⊢
      have C45 := C45' U PX.out.plan PX.out.needs
      clear C45'
      rw [HLK.out] at C45 hbd
      have C45 := Lib.hid C45
      clear HLK HND
      generalize (ndR g hs devs).getD j 0 = z at *
      generalize nd.st = st at *
      go_wp2_with (refine wpList_load_sup (by rfl) (.tmp 12) (by rfl) R (by rfl) s MX.out ?_)
      refine C45.out.mono ?_
      rintro e w8 ⟨rfl, hb8⟩
      have b8 := bjx.trans (hb8.mono bjx.size)
      have O8 := Lib.hid (Own.below OX.out hb8)
      have x8 := (hb8.cell (p := ⟨X, 0, none⟩) (Array.getElem?_eq_some_iff.1 XX.out).1).trans (cell_of_row _ _ 0 _ _ _ XX.out)
      simp only [List.getElem?_toArray, List.getElem?_cons_zero] at x8
      by_cases hz : 0 < z
      · have k1 : decide (z > 0) = true := decide_eq_true hz
        have hst := HST.out
        rw [if_pos hz] at hst
        have HST2 := Lib.hid hst
        obtain ⟨v9, w9, r9, o9, b9, _⟩ := OwnN.append (V := w8) O8.out ⟨st, z⟩ (by have := HOK.out.1.1; omega) b8.size
        have O9 := Lib.hid o9
        have B9 := Lib.hid (b8.trans b9)
        clear hst hz o9 b9 hb8
        go_wp2_with (at_builtin; refine wpList_append_run (by rfl) (.tmp 45) (.tmp 50) 22 (by rfl) _ (.slice (some ⟨w8.heap.size, 0, none⟩) 1 1) v9 w9 (by rfl) (by rfl) r9 ?_)
        go_roundg go
        case measure => omega
        case rel => exact ⟨j + 1, by omega, by go_num, B9.out, by rw [HST2.out]; exact O9.out⟩
      · have k1 : decide (z > 0) = false := decide_eq_false hz
        have hst := HST.out
        rw [if_neg hz, List.append_nil] at hst
        have HST2 := Lib.hid hst
        clear hst hz x8
        go_wp2
        go_roundg go
        case measure => omega
        case rel => exact ⟨j + 1, by omega, by go_num, b8, by rw [HST2.out]; exact O8.out⟩

end Go.Proofs.Ytapjgjjmlbhanaa
