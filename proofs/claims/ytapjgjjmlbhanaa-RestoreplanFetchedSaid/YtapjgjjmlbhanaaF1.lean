/- Files: the paths of the files for which devices suffice. -/
import Derived.Test.YtapjgjjmlbhanaaD2
import Derived.Test.YtapjgjjmlbhanaaE1
import Derived.Test.YtapjgjjmlbhanaaE2
import Derived.Test.YtapjgjjmlbhanaaP1
import Derived.Test.YtapjgjjmlbhanaaH2
namespace Go.Proofs.Ytapjgjjmlbhanaa
open Go.RowKit Go.Lib Go.ChangeMaps

/-- A file. -/
structure Fl where
  path : ByteArray
  sv : Value
  ss : List ByteArray
instance : Inhabited Fl := ⟨⟨ByteArray.empty, undef, []⟩⟩
def flCell (fs : List Fl) (i j : Nat) : Value := match j with | 0 => .string (fs.getD i default).path | _ => (fs.getD i default).sv
def ReadsFl (w : World) (v : Value) (fs : List Fl) : Prop := RowAt w v 2 fs.length (flCell fs) ∧ ∀ x ∈ fs, ReadsStr w x.sv x.ss
theorem ReadsFl.below {w w' : World} {v : Value} {fs : List Fl} (h : ReadsFl w v fs) (hb : Below w.heap.size w w') : ReadsFl w' v fs := ⟨RowAt.below h.1 hb, fun x hx => (h.2 x hx).below hb⟩
theorem ReadsFl.at {w : World} {v : Value} {fs : List Fl} (h : ReadsFl w v fs) : ∃ ao c b off, v = .slice ao fs.length c ∧ fs.length ≤ c ∧ fs.length ≤ 4611686018427387904 ∧
    ∀ i, i < fs.length → ao = some ⟨b, off, none⟩ ∧ w.cell? ⟨b, off + i * 2, none⟩ = some (.string (fs.getD i default).path) ∧ w.cell? ⟨b, off + i * 2 + 1, none⟩ = some (fs.getD i default).sv ∧ ReadsStr w (fs.getD i default).sv (fs.getD i default).ss := by
  obtain ⟨ao, c, b, off, e, h1, h2, h3⟩ := RowAt.at h.1
  refine ⟨ao, c, b, off, e, h1, h2, fun i hi => ?_⟩
  obtain ⟨h4, h5⟩ := h3 i hi
  exact ⟨h4, h5 0 (by omega), h5 1 (by omega), h.2 _ (by rw [getD_at _ _ _ hi]; exact List.getElem_mem hi)⟩

/-- A stripe is a need that lacks nothing. -/
def okS (ns : List Nd) (s : Sup) (id : ByteArray) : Bool := match ndIx id ns with
  | some i => decide (lackN (ns.getD i default).d (s.pc i) = 0)
  | none => false
def okF (ns : List Nd) (s : Sup) (f : Fl) : Bool := f.ss.all (okS ns s)
def selP (ns : List Nd) (s : Sup) (fs : List Fl) : List ByteArray := (fs.filter (okF ns s)).map Fl.path
def filesP (g : Gl) (s : Sup) (fs : List Fl) : List ByteArray := if 0 < lackS g.thr s ∨ s.ix = false then [] else selP g.ns s fs

theorem supD_len {ns : List Nd} {s : Sup} {fs : List Fl} : (selP ns s fs).length ≤ fs.length := by
  unfold selP
  rw [List.length_map]
  exact List.length_filter_le _ _
theorem selP_take (ns : List Nd) (s : Sup) (fs : List Fl) (j : Nat) (h : j < fs.length) : selP ns s (fs.take (j + 1)) = selP ns s (fs.take j) ++ if okF ns s fs[j] = true then [fs[j].path] else [] := by
  unfold selP
  rw [List.take_succ_eq_append_getElem h, List.filter_append, List.map_append]
  congr 1
  by_cases q : okF ns s fs[j] = true
  · simp [q]
  · simp [q]

theorem okAll_false {α : Type} {p : α → Bool} {xs : List α} {j : Nat} (h : j < xs.length) (hf : p xs[j] = false) : xs.all p = false := by
  rw [List.all_eq_false]
  exact ⟨xs[j], List.getElem_mem h, by simp [hf]⟩

theorem supD_wf {g : Gl} {hs L : List Hd} {devs : List Int} (hok : Ok g hs) (hp : L.Perm hs) : (supD g L devs).Wf := by
  unfold supD
  refine ofP_wf (supOf_wf hok.2.2.1.1) (fun y hy => ?_) _
  obtain ⟨x, hx, rfl⟩ := List.mem_map.1 hy
  exact supOf_wf (hok.2.2.2.2 x (hp.mem_iff.1 hx)).2.1

set_option maxRecDepth 100000 in
set_option maxHeartbeats 2000000 in
theorem files_bad (g : Gl) (v dv fv : Value) (hs : List Hd) (w : World) (hg : GlAt w g) (hv : ReadsH w v hs) (hok : ¬ Ok g hs) :
    Calls Try.prog 14 #[g.v, v, dv, fv] w fun e w' => e = .returned (.tuple #[.slice none 0 0, .int .i64 1]) ∧ Below w.heap.size w w' := by
  have cc := fun W h1 h2 => read_bad g v hs W h1 h2 hok
  obtain ⟨na, n1, nc, pa, n2, pc, sa, n3, sc, e1⟩ := hg.val
  obtain ⟨ao, n4, c4, rfl⟩ := hv.val
  rw [e1] at cc ⊢
  have CC := Lib.hid cc
  have HG := Lib.hid hg
  have HV := Lib.hid hv
  clear hg hv hok cc e1
  go_enter Try.func14, Try.ntmps14
  go_wp2_with fail
  go_step3
  go_wp2_with fail
  refine (CC.out _ (HG.out.below (by (repeat' (first | (with_reducible exact Below.refl _ _) | (with_reducible assumption) | (with_reducible refine Below.alloc ?_ ?_ _) | (with_reducible refine Below.drew ?_) | (with_reducible refine below_drewN ?_ _) | (with_reducible refine Below.setCell ?_ ?_ _) | (with_reducible refine below_step ?_ (by with_reducible assumption) ?_) | go_size)))) (HV.out.below (by (repeat' (first | (with_reducible exact Below.refl _ _) | (with_reducible assumption) | (with_reducible refine Below.alloc ?_ ?_ _) | (with_reducible refine Below.drew ?_) | (with_reducible refine below_drewN ?_ _) | (with_reducible refine Below.setCell ?_ ?_ _) | (with_reducible refine below_step ?_ (by with_reducible assumption) ?_) | go_size))))).mono ?_
  rintro e w1 ⟨rfl, hb⟩
  go_wp2
  rw [Exit.noGoto_ret]
  go_ret2
  exact ⟨rfl, by (repeat' (first | (with_reducible exact Below.refl _ _) | (with_reducible assumption) | (with_reducible refine Below.alloc ?_ ?_ _) | (with_reducible refine Below.drew ?_) | (with_reducible refine below_drewN ?_ _) | (with_reducible refine Below.setCell ?_ ?_ _) | (with_reducible refine below_step ?_ (by with_reducible assumption) ?_) | go_size))⟩

/-- A supply loaded where a guard lets it. -/
theorem wpList_load_supG {w : World} {ops : Array Oper} {rest : List Oper} {o : Oper} {a : Act} {Q : Exit → Act → World → Prop} (hw : Region.wanted o (yielded ops a.tmps) = true) (x : Operand) (ho : o.op = .load 99 x)
    (b : Nat) (hx : a.eval x = .pointer (some ⟨b, 0, none⟩)) (s : Sup) (hs : SupAt w b s) (h : wpList Try.prog ops Q rest (a.put o.dst (.agg s.cells)) w) : wpList Try.prog ops Q (o :: rest) a w := by
  show if Region.wanted o (yielded ops a.tmps) = true then _ else _
  rw [if_pos hw]
  exact .inl (wp_load_row 99 x ho b hx 99 s.cells (0, 0) _ hs Try.underlying99 rfl (by rw [s.cells_size]; exact info99) h)

/-- A row of strings of the call's own. -/
def OwnS (w : World) (base : Nat) (v : Value) (ps : List ByteArray) : Prop := Own w base 9 v 1 ps.length fun i _ => .string (ps.getD i ByteArray.empty)
theorem OwnS.append {V : World} {base : Nat} {v : Value} {ps : List ByteArray} (h : OwnS V base v ps) (y : ByteArray) (hn : ps.length ≤ 1000000000) (hbase : base ≤ V.heap.size) :
    ∃ v' w', (Builtin.append_ #[31, 31] 31 #[v, .slice (some ⟨V.heap.size, 0, none⟩) 1 1]).run Try.prog (V.alloc (.cells #[.string y] 9)) = .ok v' w' ∧ OwnS w' base v' (ps ++ [y]) ∧ Below base V w' := by
  have h' : Own V base 9 v 1 ps.length fun i _ => .string ((ps ++ [y]).getD i ByteArray.empty) := Own.congr h fun i j hi hj => by rw [getD_at _ _ _ hi, getD_at _ _ _ (by rw [List.length_append]; omega), List.getElem_append_left hi]
  obtain ⟨v3, w3, r3, o1, o2, _⟩ := Own.append (V := V) (t := 31) (e := 9) (z := .string ⟨#[]⟩) (k := 1) (bytes := 16) Try.underlying31 (by kernel_rfl) rfl (by omega) (by omega) h' 31 [.string y] rfl (fun q hq => by
    obtain rfl : q = 0 := by omega
    simp [List.getD]) (by intro u hu; simp at hu; subst hu; rfl) hn hbase
  refine ⟨v3, w3, r3, ?_, o2⟩
  unfold OwnS
  rw [List.length_append]
  exact o1
theorem OwnS.slice {w : World} {base : Nat} {v : Value} {ps : List ByteArray} (h : OwnS w base v ps) : ∃ a c, v = .slice a ps.length c := by
  obtain ⟨xs, ⟨h0, h2⟩, _⟩ := h
  rcases h2 with ⟨rfl, h⟩ | ⟨g, cap, cur, rfl, _⟩
  · rw [h]; exact ⟨_, _, rfl⟩
  · exact ⟨_, _, rfl⟩
theorem readsStr_nil (w : World) : ReadsStr w (.slice none 0 0) [] := ⟨none, 0, rfl, Nat.le_refl _, by show 0 ≤ _; omega, fun h => absurd h (by show ¬ 0 < 0; omega)⟩

/-- What Files answers. -/
def FilesPost (g : Gl) (s : Sup) (fs : List Fl) (w : World) (e : Ending) (w' : World) : Prop :=
  ∃ v, e = .returned (.tuple #[v, .int .i64 0]) ∧ ReadsStr w' v (filesP g s fs) ∧ Below w.heap.size w w'

set_option maxRecDepth 100000 in
set_option maxHeartbeats 4000000 in
theorem files_ok (g : Gl) (v dv fv : Value) (hs : List Hd) (devs : List Int) (fs : List Fl) (w : World) (hg : GlAt w g) (hv : ReadsH w v hs) (hd : ReadsI w dv devs) (hf : ReadsFl w fv fs) (hok : Ok g hs) (hlen : fs.length ≤ 1000000) :
    Calls Try.prog 14 #[g.v, v, dv, fv] w fun e w' => ∃ L : List Hd, L.Perm hs ∧ FilesPost g (supD g L devs) fs w e w' := by
  have cc := fun W h1 h2 => read_ok g v hs W h1 h2 hok
  obtain ⟨na, n1, nc, pa, n2, pc, sa, n3, sc, e1⟩ := hg.val
  obtain ⟨ao, n4, c4, rfl⟩ := hv.val
  obtain ⟨dao, dn, dc, rfl⟩ := hd.val
  obtain ⟨fao, fc, fb, foff, rfl, hfl, hfm, hfcell⟩ := hf.at
  rw [e1] at cc ⊢
  have CC := Lib.hid cc
  have HG := Lib.hid hg
  have HV := Lib.hid hv
  have HD := Lib.hid hd
  have HF := Lib.hid hf
  have HFC := Lib.hid hfcell
  have HOK := Lib.hid hok
  have hz := zero99
  obtain ⟨zc, hzc⟩ : ∃ zc, zc = (zeroS false).cells := ⟨_, rfl⟩
  rw [← hzc] at hz
  have HZ := Lib.hid hzc
  clear hg hv hd hf hfcell hok cc e1 hzc
  go_enter Try.func14, Try.ntmps14
  go_wp2_with fail
  go_step3
  go_wp2_with fail
  refine (CC.out _ (HG.out.below (by (repeat' (first | (with_reducible exact Below.refl _ _) | (with_reducible assumption) | (with_reducible refine Below.alloc ?_ ?_ _) | (with_reducible refine Below.drew ?_) | (with_reducible refine below_drewN ?_ _) | (with_reducible refine Below.setCell ?_ ?_ _) | (with_reducible refine below_step ?_ (by with_reducible assumption) ?_) | go_size)))) (HV.out.below (by (repeat' (first | (with_reducible exact Below.refl _ _) | (with_reducible assumption) | (with_reducible refine Below.alloc ?_ ?_ _) | (with_reducible refine Below.drew ?_) | (with_reducible refine below_drewN ?_ _) | (with_reducible refine Below.setCell ?_ ?_ _) | (with_reducible refine below_step ?_ (by with_reducible assumption) ?_) | go_size))))).mono ?_
  rintro e w1 ⟨b, x, pl, L, rfl, hpo, hb⟩
  have hw1 : Below w.heap.size w w1 := by (repeat' (first | (with_reducible exact Below.refl _ _) | (with_reducible assumption) | (with_reducible refine Below.alloc ?_ ?_ _) | (with_reducible refine Below.drew ?_) | (with_reducible refine below_drewN ?_ _) | (with_reducible refine Below.setCell ?_ ?_ _) | (with_reducible refine below_step ?_ (by with_reducible assumption) ?_) | go_size))
  have hlL : L.length = hs.length := hpo.len
  have hl12 : hs.length ≤ 12 := HOK.out.1.2.2
  have hpL := hpo.permL
  have c6 : w1.cell? ⟨b, 6, none⟩ = some x.lv := hpo.plan.cell 6 (by omega)
  have hxw : x.s.Wf := by rw [hpo.there]; exact supOf_wf HOK.out.2.2.1.1
  have hgw : ∀ y ∈ L.map fun h => supOf g.ns h.ps h.ss h.idx, y.Wf := fun y hy => by
    obtain ⟨z, hz', rfl⟩ := List.mem_map.1 hy
    exact supOf_wf (HOK.out.2.2.2.2 z (hpL.mem_iff.1 hz')).2.1
  have C43 := Lib.hid (set_any b x.lv (.slice dao dn dc) L devs w1 c6 hpo.list (by omega) (HD.out.below hw1))
  have hset := setN_lt devs L L.length
  have hset' : setN devs L L.length < 4096 := by
    have : 2 ^ L.length ≤ 2 ^ 12 := Nat.pow_le_pow_right (by omega) (by omega)
    omega
  have C42 := Lib.hid (fun W (hW : Below w1.heap.size w1 W) => of_any b x (L.map fun h => supOf g.ns h.ps h.ss h.idx) (setN devs L L.length) W (hpo.plan.below hW) (hpo.given.below hW) (by rw [List.length_map]; omega) hxw hgw hset')
  have hsup : ofP x.s (L.map fun h => supOf g.ns h.ps h.ss h.idx) (setN devs L L.length) (L.map fun h => supOf g.ns h.ps h.ss h.idx).length = supD g L devs := by
    unfold supD
    rw [hpo.there, List.length_map]
  rw [hsup] at C42
  have hswf := supD_wf (devs := devs) HOK.out hpL
  obtain ⟨s, hs'⟩ : ∃ s, s = supD g L devs := ⟨_, rfl⟩
  rw [← hs'] at C42 hswf
  have HS := Lib.hid hs'
  have PO := Lib.hid hpo
  have HPL := Lib.hid hpL
  have HSW := Lib.hid hswf
  have HB := Lib.hid hb
  obtain ⟨k, hk⟩ : ∃ k, k = setN devs L L.length := ⟨_, rfl⟩
  rw [← hk] at C42 C43
  clear hpo hb hsup hs' hset hset' hpL c6 hxw hgw hswf hlL hl12 hk
  have z1 := hw1.size
  go_wp2_with fail
  refine C43.out.mono ?_
  rintro e w2 ⟨rfl, hb2⟩
  go_wp2_with fail
  refine (C42.out _ hb2).mono ?_
  rintro e w3 ⟨rfl, hb3⟩
  have hw3 : Below w.heap.size w w3 := hw1.trans ((hb2.mono z1).trans (hb3.mono (Nat.le_trans z1 hb2.size)))
  have PO3 := Lib.hid ((PO.out.below hb2).below hb3)
  obtain ⟨R, hR⟩ : ∃ R, R = w3.heap.size := ⟨_, rfl⟩
  have HR := Lib.hid hR
  have m1 : SupAt (w3.alloc (.cells zc 99)) R (zeroS false) := by rw [HZ.out, hR]; exact SupAt.new w3 _
  have M1 := Lib.hid m1
  have g1 : w3.grownBy ((w3.alloc (.cells zc 99)).setRow R s.cells) (some R) := grown_setRow (grown_alloc (grown_refl w3 _) _) _
  have m2 : SupAt ((w3.alloc (.cells zc 99)).setRow R s.cells) R s := M1.out.setRow s
  have b4 := grown_below hw3 g1 (by have := hw3.size; omega) hw3.size
  have b34 : Below w3.heap.size w3 ((w3.alloc (.cells zc 99)).setRow R s.cells) := grown_below (Below.refl _ _) g1 (by omega) (Nat.le_refl _)
  have po4 := PO3.out.below b34
  have M2 := Lib.hid m2
  have PO4 := Lib.hid po4
  clear m1 g1 m2 b34 po4 PO PO3 hR
  go_upto_region 5 with (refine wpList_store_sup (by rfl) (.tmp 12) (.tmp 33) (by rfl) w3.heap.size (by rfl) s (zeroS false) (by rfl) (by rw [← HR.out]; exact M1.out) ?_)
  rw [← HR.out]
  generalize (w3.alloc (Obj.cells zc 99)).setRow R s.cells = W at b4 M2 PO4 ⊢
  clear M1
  have hthr : x.thr = g.thr := PO4.out.thr
  have hC44 := lackingShares_any b s x.thr W (PO4.out.plan.cell 1 (by omega)) HSW.out (by rw [hthr]; exact HOK.out.1.2.1.1) (by rw [hthr]; exact HOK.out.1.2.1.2)
  rw [hthr] at hC44
  have hlb := lackS_bd g.thr s HOK.out.1.2.1.2
  have C44 := Lib.hid hC44
  have zW := b4.size
  obtain ⟨t, ht⟩ : ∃ t, t = lackS g.thr s := ⟨_, rfl⟩
  rw [← ht] at C44 hlb
  have HT := Lib.hid ht
  clear hthr hC44 ht
  by_cases ht0 : 0 < t
  · have hfp : filesP g s fs = [] := by unfold filesP; rw [← HT.out, if_pos (.inl ht0)]
    have HFP := Lib.hid hfp
    have k1 : decide (t > 0) = true := decide_eq_true ht0
    clear hfp
    go_wp2_with (refine wpList_load_sup (by rfl) (.tmp 12) (by rfl) R (by rfl) s M2.out ?_)
    refine C44.out.mono ?_
    rintro e w4 ⟨rfl, hb4'⟩
    go_wp2
    try rw [Exit.noGoto_ret]
    go_ret2
    exact ⟨L, HPL.out, _, rfl, by rw [← HS.out, HFP.out]; exact readsStr_nil _, b4.trans (hb4'.mono zW)⟩
  · have k1 : decide (t > 0) = false := decide_eq_false ht0
    have HT0 := Lib.hid ht0
    by_cases hix : s.ix = false
    · have hfp : filesP g s fs = [] := by unfold filesP; rw [if_pos (.inr hix)]
      have HFP := Lib.hid hfp
      have HIX := Lib.hid hix
      clear hfp ht0 hix
      go_wp2_with (refine wpList_load_sup (by rfl) (.tmp 12) (by rfl) R (by rfl) s M2.out ?_)
      refine C44.out.mono ?_
      rintro e w4 ⟨rfl, hb4'⟩
      have cx := (M2.out.below hb4').ix
      rw [HIX.out] at cx
      go_wp2
      try rw [Exit.noGoto_ret]
      go_ret2
      exact ⟨L, HPL.out, _, rfl, by rw [← HS.out, HFP.out]; exact readsStr_nil _, b4.trans (hb4'.mono zW)⟩
    · have hix1 : s.ix = true := by simpa using hix
      have hfp : filesP g s fs = selP g.ns s fs := by
        unfold filesP
        rw [← HT.out, if_neg (fun h => h.elim HT0.out hix)]
      have HFP := Lib.hid hfp
      have HIX := Lib.hid hix1
      clear hfp ht0 hix hix1
      go_wp2_with (refine wpList_load_sup (by rfl) (.tmp 12) (by rfl) R (by rfl) s M2.out ?_)
      refine C44.out.mono ?_
      rintro e w4 ⟨rfl, hb4'⟩
      have cx := (M2.out.below hb4').ix
      rw [HIX.out] at cx
      have b44 := b4.trans (hb4'.mono zW)
      have M4 := Lib.hid (M2.out.below hb4')
      have P4 := Lib.hid (PO4.out.below hb4')
      have z4 := b44.size
      clear M2 PO4 hb4' b4 zW C44
      go_wp2
      go_step3
      go_wp2
      generalize hfn : fs.length = fn at *
      have HFN := Lib.hid hfn
      clear hfn cx
      go_loopg [13, 45] fn (fun gk v13 v45 wx => ∃ j : Nat, j + gk = fn ∧ v45 = .int .i64 j ∧ Below w4.heap.size w4 wx ∧ OwnS wx w4.heap.size v13 (selP g.ns s (fs.take j)))
      case atStart => exact ⟨0, by omega, rfl, Below.refl _ _, Own.nil _ _ _ _ _⟩
      case round =>
        obtain ⟨j, hj, rfl, hbj, hown⟩ := hrel
        have zj := hbj.size
        have hwj := b44.trans (hbj.mono z4)
        cases gk with
        | zero =>
          obtain rfl : j = fn := by omega
          rw [List.take_of_length_le (by rw [HFN.out]; exact Nat.le_refl _)] at hown
          obtain ⟨pa, pc, rfl⟩ := hown.slice
          have hl := supD_len (ns := g.ns) (s := s) (fs := fs)
          rw [HFN.out] at hl
          have hrd : ReadsStr wr (.slice pa (selP g.ns s fs).length pc) (selP g.ns s fs) := Own.row hown (by omega)
          have HRD := Lib.hid hrd
          clear hown hrd hl
          go_wp2
          try rw [Exit.noGoto_ret]
          go_ret2
          exact ⟨L, HPL.out, _, rfl, by rw [← HS.out, HFP.out]; exact HRD.out, hwj⟩
        | succ go =>
          have hlt : j < fn := by omega
          have hjf : j < fs.length := by rw [HFN.out]; exact hlt
          have hst := selP_take g.ns s fs j hjf
          obtain ⟨e1, e2, e3, e4⟩ := HFC.out j hlt
          subst e1
          rw [getD_at _ _ _ hjf] at e2 e3 e4
          rw [← hwj.cell (p := ⟨fb, _, none⟩) (cell_lt e2)] at e2
          rw [← hwj.cell (p := ⟨fb, _, none⟩) (cell_lt e3)] at e3
          obtain ⟨sao, scp, sb, soff, esv, hsl, hsm, hscell⟩ := e4.at
          rw [esv] at e3
          have hsl2 : (selP g.ns s (fs.take j)).length ≤ 1000000 := by
            have := supD_len (ns := g.ns) (s := s) (fs := fs.take j)
            rw [List.length_take] at this
            omega
          have HST := Lib.hid hst
          have HSC := Lib.hid hscell
          have hok : okF g.ns s fs[j] = fs[j].ss.all (okS g.ns s) := rfl
          have HOKF := Lib.hid hok
          clear hst hscell e4 esv hok
          generalize fs[j] = f at *
          obtain ⟨path, sv, ss⟩ := f
          simp only at e2 e3 HST HSC HOKF hsl hsm
          generalize hsn : ss.length = sn at *
          have HSN := Lib.hid hsn
          clear hsn
          obtain ⟨X, hX⟩ : ∃ X, X = wr.heap.size := ⟨_, rfl⟩
          have HX := Lib.hid hX
          have bx : Below wr.heap.size wr (wr.alloc (.cells #[.string path, .slice sao sn scp] 45)) := (Below.refl _ _).alloc (Nat.le_refl _) _
          have xX := heap_alloc_last wr (.cells #[.string path, .slice sao sn scp] 45)
          rw [← hX] at xX
          have XX := Lib.hid xX
          have bjx := hbj.trans (bx.mono zj)
          have OX := Lib.hid (Own.below hown bx)
          clear xX bx hX hown
          go_upto_region 11 with fail
          rw [← HX.out]
          generalize wr.alloc (Obj.cells #[Value.string path, Value.slice sao sn scp] 45) = U at XX OX bjx ⊢
          have x1 := cell_of_row _ _ 1 _ _ _ XX.out
          simp only [List.getElem?_toArray, List.getElem?_cons_zero, List.getElem?_cons_succ] at x1
          clear e2 e3
          go_wp2
          clear x1
          have zU := bjx.size
          go_loopg [52] sn (fun g2 v52 wy => ∃ i : Nat, i + g2 = sn ∧ v52 = .int .i64 i ∧ Below U.heap.size U wy ∧ (ss.take i).all (okS g.ns s) = true)
          case atStart => exact ⟨0, by omega, rfl, Below.refl _ _, by simp⟩
          case round =>
            obtain ⟨i, hi, rfl, hby, hall⟩ := hrel
            have HALL := Lib.hid hall
            have zy := hby.size
            have b4y := bjx.trans (hby.mono zU)
            clear hall
            cases gk with
            | zero =>
              obtain rfl : i = sn := by omega
              have hall := HALL.out
              rw [List.take_of_length_le (by rw [HSN.out]; exact Nat.le_refl _), ← HOKF.out] at hall
              have hst := HST.out
              rw [if_pos hall] at hst
              have HST2 := Lib.hid hst
              have x0 := (hby.cell (p := ⟨X, 0, none⟩) (Array.getElem?_eq_some_iff.1 XX.out).1).trans (cell_of_row _ _ 0 _ _ _ XX.out)
              simp only [List.getElem?_toArray, List.getElem?_cons_zero] at x0
              obtain ⟨v9, w9, r9, o9, b9⟩ := OwnS.append (V := wr) (Own.below OX.out hby) path (by omega) b4y.size
              have O9 := Lib.hid o9
              have B9 := Lib.hid (b4y.trans b9)
              clear hall hst o9 b9 hby
              go_wp2_with (at_builtin; refine wpList_append_run (by rfl) (.tmp 75) (.tmp 78) 31 (by rfl) _ (.slice (some ⟨wr.heap.size, 0, none⟩) 1 1) v9 w9 (by rfl) (by rfl) r9 ?_)
              go_roundg go
              case measure => omega
              case rel => exact ⟨j + 1, by omega, by go_num, B9.out, by rw [HST2.out]; exact O9.out⟩
            | succ g2 =>
              have hly : i < sn := by omega
              have hyl : i < ss.length := by rw [HSN.out]; exact hly
              obtain ⟨p1, p2⟩ := HSC.out i hly
              subst p1
              have hwy := b44.trans (b4y.mono z4)
              rw [← hwy.cell (p := ⟨sb, _, none⟩) (cell_lt p2)] at p2
              rw [getD_at _ _ _ hyl] at p2
              have hal : (ss.take (i + 1)).all (okS g.ns s) = okS g.ns s ss[i] := by
                rw [List.take_succ_eq_append_getElem hyl, List.all_append, HALL.out]; simp
              have hbad : okS g.ns s ss[i] = false → okF g.ns s ⟨path, sv, ss⟩ = false := fun h => by rw [HOKF.out]; exact okAll_false hyl h
              have HAL := Lib.hid hal
              have HBAD := Lib.hid hbad
              clear hal hbad
              generalize ss[i] = id at p2 HAL HBAD
              have py := P4.out.below b4y
              have c5 : wr.cell? ⟨b, 5, none⟩ = some (.map (some x.m)) := py.plan.cell 5 (by omega)
              have hlk := NeedMap.look py.map id
              have PY := Lib.hid py
              have MY := Lib.hid (M4.out.below b4y)
              have OY := Lib.hid (Own.below OX.out hby)
              clear py
              cases hix : ndIx id g.ns with
              | none =>
                have hok0 : okS g.ns s id = false := by unfold okS; rw [hix]
                have hst := HST.out
                rw [if_neg (by rw [HBAD.out hok0]; simp), List.append_nil] at hst
                have HST2 := Lib.hid hst
                rw [hix] at hlk
                simp only at hlk
                clear hix hok0 hst
                go_wp2
                go_roundg go
                case measure => omega
                case rel => exact ⟨j + 1, by omega, by go_num, b4y, by rw [HST2.out]; exact OY.out⟩
              | some n =>
                have hn := ndIx_lt hix
                have hok0 : okS g.ns s id = decide (lackN (g.ns.getD n default).d (s.pc n) = 0) := by unfold okS; rw [hix]
                have hnd := HOK.out.2.1.2 (g.ns.getD n default) (by rw [getD_at _ _ _ hn]; exact List.getElem_mem _)
                have hbd := lackN_bd (g.ns.getD n default).d (s.pc n) hnd.2
                have C45 := Lib.hid (lacking_any b s x.nv g.ns n wr hn HOK.out.1.1 (PY.out.plan.cell 0 (by omega)) PY.out.needs HSW.out hnd.1 hnd.2)
                have HOK0 := Lib.hid hok0
                rw [hix] at hlk
                simp only at hlk
                clear hix hok0 hnd
                generalize lackN (g.ns.getD n default).d (s.pc n) = z at *
                by_cases hz0 : z = 0
                · have k2 : decide (z > 0) = false := by simp; omega
                  have hal := HAL.out
                  rw [HOK0.out, decide_eq_true hz0] at hal
                  have HAL2 := Lib.hid hal
                  clear hal hz0
                  go_wp2_with (refine wpList_load_supG (by rfl) (.tmp 12) (by rfl) R (by rfl) s MY.out ?_)
                  refine C45.out.mono ?_
                  rintro e w8 ⟨rfl, hb8⟩
                  go_wp2_with fail
                  go_roundg g2
                  case measure => omega
                  case rel => exact ⟨i + 1, by omega, by go_num, hby.trans (hb8.mono zy), HAL2.out⟩
                · have k2 : decide (z > 0) = true := by simp; omega
                  have hst := HST.out
                  rw [if_neg (by rw [HBAD.out (by rw [HOK0.out]; exact decide_eq_false hz0)]; simp), List.append_nil] at hst
                  have HST2 := Lib.hid hst
                  clear hst hz0
                  go_wp2_with (refine wpList_load_supG (by rfl) (.tmp 12) (by rfl) R (by rfl) s MY.out ?_)
                  refine C45.out.mono ?_
                  rintro e w8 ⟨rfl, hb8⟩
                  go_wp2_with fail
                  go_roundg go
                  case measure => omega
                  case rel => exact ⟨j + 1, by omega, by go_num, b4y.trans (hb8.mono b4y.size), by rw [HST2.out]; exact Own.below OY.out hb8⟩

end Go.Proofs.Ytapjgjjmlbhanaa
