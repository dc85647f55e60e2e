/- ref.Fetches. -/
import Derived.Test.YtapjgjjmlbhanaaQ1
import Derived.Test.YtapjgjjmlbhanaaN5
namespace Go.Proofs.Ytapjgjjmlbhanaa
open Go.RowKit Go.Lib
set_option linter.unusedSimpArgs false

def pcCell (ps : List Pc) (i j : Nat) : Value := match j with | 0 => .string (ps.getD i default).st | _ => .int .i64 (ps.getD i default).ix
/-- A row of pieces of the call's own. -/
def OwnP (w : World) (base : Nat) (v : Value) (ps : List Pc) : Prop := Own w base 68 v 2 ps.length (pcCell ps)
theorem OwnP.reads {w : World} {base : Nat} {v : Value} {ps : List Pc} (h : OwnP w base v ps) (hn : ps.length ≤ 4611686018427387904) : ReadsP w v ps := Own.row h hn
theorem below_row {B g : Nat} {w0 w : World} (hb : Below B w0 w) (hBg : B ≤ g) (cs : Array Value) : Below B w0 (w.setRow g cs) :=
  ⟨hb.os, hb.tape, hb.output, by
    have e : (w.setRow g cs).heap.size = w.heap.size := by simp [World.setRow]
    rw [e]
    exact hb.size, fun i hi => (setRow_other _ _ _ _ (by omega)).trans (hb.block i hi)⟩
theorem OwnP.slice {w : World} {base : Nat} {v : Value} {ps : List Pc} (h : OwnP w base v ps) : ∃ a c, v = .slice a ps.length c := by
  obtain ⟨xs, ⟨h0, h2⟩, _⟩ := h
  rcases h2 with ⟨rfl, h⟩ | ⟨g, cap, cur, rfl, _⟩
  · rw [h]; exact ⟨_, _, rfl⟩
  · exact ⟨_, _, rfl⟩
theorem pcCell_app (ps qs : List Pc) (i j : Nat) (hi : i < ps.length) : pcCell (ps ++ qs) i j = pcCell ps i j := by
  unfold pcCell
  rw [getD_at (ps ++ qs) _ _ (by rw [List.length_append]; omega), List.getElem_append_left hi, getD_at ps _ _ hi]
theorem pcCell_one (ps : List Pc) (i j : Nat) : (pcCell ps i j).oneCell' = true := by unfold pcCell; split <;> rfl
theorem OwnP.appendR {V : World} {base : Nat} {v u : Value} {ps qs : List Pc} (h : OwnP V base v ps) (hu : ReadsP V u qs) (hn : ps.length ≤ 1000000000) (hm : qs.length ≤ 1000000000) (hbase : base ≤ V.heap.size) :
    ∃ v' w', (Builtin.append_ #[23, 23] 23 #[v, u]).run Try.prog V = .ok v' w' ∧ OwnP w' base v' (ps ++ qs) ∧ Below base V w' ∧ (∀ b, b < V.heap.size → v.ownBlock ≠ some b → w'.heap[b]? = V.heap[b]?) := by
  have h' : Own V base 68 v 2 ps.length (pcCell (ps ++ qs)) := Own.congr h fun i j hi hj => (pcCell_app ps qs i j hi).symm
  obtain ⟨v', w', r, o1, o2, o3⟩ := Own.appendR (t := 23) (e := 68) (z := .agg #[.string ⟨#[]⟩, .int .i64 0]) (k := 2) (bytes := 24) Try.underlying23 (by kernel_rfl) rfl (by omega) (by omega) h' 23 hu (fun i j hi hj => by
    unfold pcCell
    rw [getD_at _ _ _ (by rw [List.length_append]; omega), List.getElem_append_right (by omega), getD_at _ _ _ hi]
    rcases (show j = 0 ∨ j = 1 by omega) with rfl | rfl <;> simp) (fun i j => pcCell_one qs i j) hn hm hbase
  refine ⟨v', w', r, ?_, o2, o3⟩
  unfold OwnP
  rw [List.length_append]
  exact o1
theorem OwnP.append {V : World} {base : Nat} {v : Value} {ps : List Pc} (h : OwnP V base v ps) (p : Pc) (hn : ps.length ≤ 1000000000) (hbase : base ≤ V.heap.size) :
    ∃ v' w', (Builtin.append_ #[23, 23] 23 #[v, .slice (some ⟨V.heap.size, 0, none⟩) 1 1]).run Try.prog (V.alloc (.cells #[.string p.st, .int .i64 p.ix] 68)) = .ok v' w' ∧ OwnP w' base v' (ps ++ [p]) ∧ Below base V w' ∧
      (∀ b, b < V.heap.size → v.ownBlock ≠ some b → w'.heap[b]? = V.heap[b]?) ∧ V.heap.size + 1 ≤ w'.heap.size := by
  have h' : Own V base 68 v 2 ps.length (pcCell (ps ++ [p])) := Own.congr h fun i j hi hj => (pcCell_app ps [p] i j hi).symm
  have hl : (ps ++ [p]).getD ps.length default = p := by
    rw [getD_at _ _ _ (by rw [List.length_append]; simp), List.getElem_append_right (by omega)]; simp
  obtain ⟨v3, w3, r3, o1, o2, o3, o4, o5⟩ := Own.append (V := V) (t := 23) (e := 68) (z := .agg #[.string ⟨#[]⟩, .int .i64 0]) (k := 2) (bytes := 24) Try.underlying23 (by kernel_rfl) rfl (by omega) (by omega) h' 23 [.string p.st, .int .i64 p.ix] rfl (fun q hq => by
    unfold pcCell
    rw [hl]
    match q, hq with
    | 0, _ => rfl
    | 1, _ => rfl) (by intro u hu; simp at hu; rcases hu with rfl | rfl <;> rfl) hn hbase
  refine ⟨v3, w3, r3, ?_, o2, o3, o5⟩
  unfold OwnP
  rw [List.length_append]
  exact o1
/-- A row of the reference's fetches. -/
def OwnFR (w : World) (base : Nat) (v : Value) (fs : List (Int × Pc)) : Prop := Own w base 70 v 3 fs.length (ftCell fs)
theorem OwnFR.append {V : World} {base : Nat} {v : Value} {fs : List (Int × Pc)} (h : OwnFR V base v fs) (d : Int) (p : Pc) (hn : fs.length ≤ 1000000000) (hbase : base ≤ V.heap.size) :
    ∃ v' w', (Builtin.append_ #[65, 65] 65 #[v, .slice (some ⟨V.heap.size, 0, none⟩) 1 1]).run Try.prog (V.alloc (.cells #[.int .i64 d, .string p.st, .int .i64 p.ix] 70)) = .ok v' w' ∧ OwnFR w' base v' (fs ++ [(d, p)]) ∧ Below base V w' ∧
      (∀ b, b < V.heap.size → v.ownBlock ≠ some b → w'.heap[b]? = V.heap[b]?) ∧ V.heap.size + 1 ≤ w'.heap.size := by
  have hg : ∀ i, i < fs.length → (fs ++ [(d, p)]).getD i (0, default) = fs.getD i (0, default) := fun i hi => by
    rw [getD_at _ _ _ hi, getD_at _ _ _ (by rw [List.length_append]; omega), List.getElem_append_left hi]
  have h' : Own V base 70 v 3 fs.length (ftCell (fs ++ [(d, p)])) := Own.congr h fun i j hi hj => by unfold ftCell; rw [hg i hi]
  have hl : (fs ++ [(d, p)]).getD fs.length (0, default) = (d, p) := by
    rw [getD_at _ _ _ (by rw [List.length_append]; simp), List.getElem_append_right (by omega)]; simp
  obtain ⟨v3, w3, r3, o1, o2, o3, o4, o5⟩ := Own.append (V := V) (t := 65) (e := 70) (z := .agg #[.int .i64 0, .string ⟨#[]⟩, .int .i64 0]) (k := 3) (bytes := 32) Try.underlying65 (by kernel_rfl) rfl (by omega) (by omega) h' 65 [.int .i64 d, .string p.st, .int .i64 p.ix] rfl (fun q hq => by
    unfold ftCell
    rw [hl]
    match q, hq with
    | 0, _ => rfl
    | 1, _ => rfl
    | 2, _ => rfl) (by intro u hu; simp at hu; rcases hu with rfl | rfl | rfl <;> rfl) hn hbase
  refine ⟨v3, w3, r3, ?_, o2, o3, o5⟩
  unfold OwnFR
  rw [List.length_append]
  exact o1

/-- The reference's memory of Fetches. -/
structure FRef (W : World) (B H : Nat) (nv : Value) (h : List Pc) (o : List (Int × Pc)) (ov : Value) (w : World) : Prop where
  below : Below B W w
  size : B ≤ w.heap.size
  hb : B ≤ H
  have' : ∃ pv, w.heap[H]? = some (.cells #[nv, .int .i64 0, .bool false, pv, .slice none 0 0] 37 (0, 0)) ∧ OwnP w B pv h
  out : OwnFR w B ov o
section
variable {W w w' : World} {B H : Nat} {nv ov : Value} {h : List Pc} {o : List (Int × Pc)}
theorem FRef.step (k : FRef W B H nv h o ov w) (hb : Below w.heap.size w w') : FRef W B H nv h o ov w' := by
  obtain ⟨pv, h1, h2⟩ := k.have'
  exact ⟨k.below.trans (hb.mono k.size), Nat.le_trans k.size hb.size, k.hb, ⟨pv, (hb.block H (Array.getElem?_eq_some_iff.1 h1).1).trans h1, Own.below h2 hb⟩, Own.below k.out hb⟩
theorem FRef.appO (k : FRef W B H nv h o ov w) (d : Int) (p : Pc) (hn : o.length ≤ 1000000000) :
    ∃ v' w', (Builtin.append_ #[65, 65] 65 #[ov, .slice (some ⟨w.heap.size, 0, none⟩) 1 1]).run Try.prog (w.alloc (.cells #[.int .i64 d, .string p.st, .int .i64 p.ix] 70)) = .ok v' w' ∧ FRef W B H nv h (o ++ [(d, p)]) v' w' ∧
      (∀ b, b < w.heap.size → ov.ownBlock ≠ some b → w'.heap[b]? = w.heap[b]?) ∧ w.heap.size + 1 ≤ w'.heap.size ∧ w'.heap[H]? = w.heap[H]? := by
  obtain ⟨v', w', r, o1, o2, o3, o4⟩ := k.out.append d p hn k.size
  obtain ⟨pv, h1, h2⟩ := k.have'
  have k1 := o3 H (Array.getElem?_eq_some_iff.1 h1).1 (own_ne k.out h1 (by decide))
  exact ⟨v', w', r, ⟨k.below.trans o2, by have := k.size; omega, k.hb, ⟨pv, k1.trans h1, Own.same h2 fun g hg => o3 g (Own.lt h2 g hg).2 (own_apart' h2 k.out (by decide) g hg)⟩, o1⟩, o3, o4, k1⟩
theorem FRef.addP (k : FRef W B H nv h o ov w) {pv : Value} (hH : w.heap[H]? = some (.cells #[nv, .int .i64 0, .bool false, pv, .slice none 0 0] 37 (0, 0))) (p : Pc) (hn : h.length ≤ 1000000000) :
    ∃ v' w', (Builtin.append_ #[23, 23] 23 #[pv, .slice (some ⟨w.heap.size, 0, none⟩) 1 1]).run Try.prog (w.alloc (.cells #[.string p.st, .int .i64 p.ix] 68)) = .ok v' w' ∧ FRef W B H nv (h ++ [p]) o ov (w'.setCell ⟨H, 3, none⟩ v') ∧
      w'.heap[H]? = some (.cells #[nv, .int .i64 0, .bool false, pv, .slice none 0 0] 37 (0, 0)) ∧ (∀ b, b < w.heap.size → pv.ownBlock ≠ some b → w'.heap[b]? = w.heap[b]?) ∧ (∃ (a : Option Addr) (l c : Nat), v' = .slice a l c) := by
  obtain ⟨pv', h1, h2⟩ := k.have'
  obtain rfl : pv' = pv := by
    rw [hH] at h1
    injection h1 with h1
    injection h1 with h1
    have := congrArg (fun a => a[3]?) h1
    simpa using this.symm
  obtain ⟨v', w', r, o1, o2, o3, o4⟩ := h2.append p hn k.size
  have k1 := (o3 H (Array.getElem?_eq_some_iff.1 h1).1 (own_ne h2 h1 (by decide))).trans h1
  have ko := Own.same k.out (w' := w') fun g hg => o3 g (Own.lt k.out g hg).2 (own_apart' k.out h2 (by decide) g hg)
  have hs := setCell_block (i := 3) k1 v'
  refine ⟨v', w', r, ⟨(k.below.trans o2).setCell k.hb _, by rw [setCell_size]; have := k.size; omega, k.hb, ⟨v', ?_, ?_⟩, ?_⟩, k1, o3, (by obtain ⟨a, c, e⟩ := OwnP.slice o1; exact ⟨a, _, c, e⟩)⟩
  · rw [hs]; rfl
  · exact Own.same o1 fun g hg => setCell_other w' v' (fun e => own_ne o1 k1 (by decide) (e ▸ hg))
  · exact Own.same ko fun g hg => setCell_other w' v' (fun e => own_ne ko k1 (by decide) (e ▸ hg))
end

theorem stepPR_len (g : Gl) (d : Int) (t : List Pc × List (Int × Pc)) (p : Pc) : (stepPR g d t p).1.length ≤ t.1.length + 1 ∧ (stepPR g d t p).2.length ≤ t.2.length + 1 := by
  unfold stepPR
  split
  · exact ⟨by rw [List.length_append]; exact Nat.le_refl _, by rw [List.length_append]; exact Nat.le_refl _⟩
  · exact ⟨Nat.le_succ _, Nat.le_succ _⟩
theorem foldR_len (g : Gl) (d : Int) : ∀ (ps : List Pc) (t : List Pc × List (Int × Pc)), (ps.foldl (stepPR g d) t).1.length ≤ t.1.length + ps.length ∧ (ps.foldl (stepPR g d) t).2.length ≤ t.2.length + ps.length
  | [], t => by simp
  | p :: r, t => by
    have h1 := foldR_len g d r (stepPR g d t p)
    have h2 := stepPR_len g d t p
    rw [List.foldl_cons, List.length_cons]
    omega
theorem fetR_len {g : Gl} {hs : List Hd} (hps : ∀ y ∈ hs, y.ps.length ≤ 1000) (devs : List Int) : ∀ n, (fetR g hs devs n).1.length ≤ g.ps.length + n * 1000 ∧ (fetR g hs devs n).2.length ≤ n * 1000
  | 0 => by simp [fetR]
  | n + 1 => by
    have ih := fetR_len (g := g) hps devs n
    rw [fetR_succ]
    generalize fetR g hs devs n = t at *
    unfold stepDR
    rw [Nat.succ_mul]
    split
    · exact ⟨Nat.le_trans ih.1 (by rw [← Nat.add_assoc]; exact Nat.le_add_right _ _), Nat.le_trans ih.2 (Nat.le_add_right _ _)⟩
    · have h2 := foldR_len g (devs.getD n 0) (hs.getD (findI (devs.getD n 0) (hs.map Hd.dev)).toNat default).ps t
      have h3 : (hs.getD (findI (devs.getD n 0) (hs.map Hd.dev)).toNat default).ps.length ≤ 1000 := by
        rename_i hne
        obtain ⟨q, hq⟩ : ∃ q : Nat, findI (devs.getD n 0) (hs.map Hd.dev) = q := ⟨_, (Int.toNat_of_nonneg (by omega)).symm⟩
        obtain ⟨hql, _⟩ := findI_dev hq
        rw [hq, Int.toNat_natCast]
        exact hps _ (by rw [getD_at _ _ _ hql]; exact List.getElem_mem hql)
      exact ⟨Nat.le_trans h2.1 (Nat.le_trans (Nat.add_le_add ih.1 h3) (by rw [Nat.add_assoc]; exact Nat.le_refl _)), Nat.le_trans h2.2 (Nat.add_le_add ih.2 h3)⟩
theorem stepPR_ok {g : Gl} {d : Int} {t : List Pc × List (Int × Pc)} {p : Pc} (h : PcsOk t.1) (hp : 0 ≤ p.ix ∧ p.ix < 16) : PcsOk (stepPR g d t p).1 := by
  unfold stepPR
  split
  · rename_i hw
    exact pcsOk_add h hp (wants_new hw)
  · exact h
theorem foldR_ok {g : Gl} {d : Int} : ∀ (ps : List Pc) (t : List Pc × List (Int × Pc)), PcsOk t.1 → (∀ p ∈ ps, 0 ≤ p.ix ∧ p.ix < 16) → PcsOk (ps.foldl (stepPR g d) t).1
  | [], _, h, _ => h
  | p :: r, t, h, hp => by
    rw [List.foldl_cons]
    exact foldR_ok r _ (stepPR_ok h (hp p (by simp))) fun q hq => hp q (by simp [hq])
theorem fetS_ok {g : Gl} {hs : List Hd} (hok : Ok g hs) (devs : List Int) : ∀ n, PcsOk (fetR g hs devs n).1
  | 0 => hok.2.2.1.1
  | n + 1 => by
    rw [fetR_succ]
    unfold stepDR
    split
    · exact fetS_ok hok devs n
    · rename_i hne
      obtain ⟨q, hq⟩ : ∃ q : Nat, findI (devs.getD n 0) (hs.map Hd.dev) = q := ⟨_, (Int.toNat_of_nonneg (by omega)).symm⟩
      obtain ⟨hql, _⟩ := findI_dev hq
      rw [hq, Int.toNat_natCast]
      exact foldR_ok _ _ (fetS_ok hok devs n) (hok.2.2.2.2 _ (by rw [getD_at _ _ _ hql]; exact List.getElem_mem hql)).2.1.2

theorem ReadsI.takeQ {w : World} {ao : Option Addr} {n c : Nat} {zs : List Int} (h : ReadsI w (.slice ao n c) zs) (i : Nat) (hi : i ≤ zs.length) : ReadsI w (.slice ao i c) (zs.take i) := by
  obtain ⟨ao', c', e, h1, h2, h3⟩ := h
  cases e
  refine ⟨ao, c, by rw [List.length_take, Nat.min_eq_left hi], by rw [List.length_take]; omega, by rw [List.length_take]; omega, fun hp => ?_⟩
  rw [List.length_take] at hp
  obtain ⟨b, off, rfl, hc⟩ := h3 (by omega)
  refine ⟨b, off, rfl, fun k j hk hj => ?_⟩
  rw [List.length_take] at hk
  rw [hc k j (by omega) hj]
  dsimp only
  rw [getD_at _ _ _ (show k < zs.length by omega), getD_at _ _ _ (show k < (zs.take i).length by rw [List.length_take]; omega), List.getElem_take]

theorem merge4 {goal : Prop} {M : Value → Value → Nat → World → Prop} {F : Value → Value → Nat → World → Prop} (hb : (∀ a b c d, F a b c d → M a b c d) → goal) (hk : ∀ a b c d, F a b c d → M a b c d) : goal := hb hk

set_option maxRecDepth 100000 in
set_option maxHeartbeats 16000000 in
theorem fetches_ref (g : Gl) (v dv : Value) (hs : List Hd) (devs : List Int) (w : World) (hg : GlAt w g) (hv : ReadsH w v hs) (hd : ReadsI w dv devs) (hok : Ok g hs) (hlen : devs.length ≤ 1000) (hps : ∀ y ∈ hs, y.ps.length ≤ 1000) (hgp : g.ps.length ≤ 1000) :
    Calls Try.prog 30 #[g.v, v, dv] w fun e w' => ∃ u, e = .returned u ∧ ReadsF w' u (fetR g hs devs devs.length).2 ∧ Below w.heap.size w w' := by
  have c48 := fun (x : Int) (W : World) (hb : Below w.heap.size w W) => find_any v hs.length (hdCell hs) (hs.map Hd.dev) x W (hv.below hb).1 (by simp) (fun i hi => by
    unfold hdCell
    simp only
    rw [getD_at hs i _ hi, getD_at (hs.map Hd.dev) i _ (by rw [List.length_map]; exact hi), List.getElem_map])
  have hgp1 := hg.2.1
  have hgn := hg.1
  obtain ⟨na, n1, nc, pa, n2, pc, sa, n3, sc, e1⟩ := hg.val
  have en : g.nv = .slice na n1 nc := by
    have := e1
    unfold Gl.v at this
    injection this with this
    have := congrArg (fun a => a[0]?) this
    simpa using this
  have ep : g.pv = .slice pa n2 pc := by
    have := e1
    unfold Gl.v at this
    injection this with this
    have := congrArg (fun a => a[3]?) this
    simpa using this
  obtain ⟨ao, n4, c4, rfl⟩ := hv.val
  obtain ⟨dao, dc, db, doff, rfl, hdl, hdm, hdcell⟩ := hd.at
  rw [e1]
  rw [ep] at hgp1
  rw [en] at hgn
  have hns : ∃ nb no, ∀ n, n < g.ns.length → na = some ⟨nb, no, none⟩ ∧ w.cell? ⟨nb, no + n * 2, none⟩ = some (.string (g.ns.getD n default).st) := by
    obtain ⟨a', c', nb, no, hne, _, _, hcell⟩ := hgn.at
    injection hne with h1 h2 h3
    exact ⟨nb, no, fun n hn => ⟨h1.trans (hcell n hn).1, (hcell n hn).2.1⟩⟩
  have hn1 : n1 = g.ns.length := by
    obtain ⟨a', c', nb, no, hne, _, _, hcell⟩ := hgn.at
    injection hne
  obtain ⟨nb, no, hns⟩ := hns
  have HNS := Lib.hid hns
  have HN1 := Lib.hid hn1
  clear hns hn1
  have HG := Lib.hid hg
  have HV := Lib.hid hv
  have HD := Lib.hid hd
  have HDC := Lib.hid hdcell
  have C48 := Lib.hid c48
  have HGP := Lib.hid hgp1
  have HGN := Lib.hid hgn
  have HOK := Lib.hid hok
  have HPS := Lib.hid hps
  have EN := Lib.hid en
  obtain ⟨r, hr⟩ : ∃ r, r = (fetR g hs devs devs.length).2 := ⟨_, rfl⟩
  rw [← hr]
  have HR := Lib.hid hr
  have b0 : Below w.heap.size w (w.alloc (.cells #[.slice na n1 nc, .int .i64 g.thr, .bool g.idx, .slice pa n2 pc, .slice sa n3 sc] 37)) := (Below.refl _ _).alloc (Nat.le_refl _) _
  have g0 := heap_alloc_last w (.cells #[.slice na n1 nc, .int .i64 g.thr, .bool g.idx, .slice pa n2 pc, .slice sa n3 sc] 37)
  have s0 : (w.alloc (.cells #[.slice na n1 nc, .int .i64 g.thr, .bool g.idx, .slice pa n2 pc, .slice sa n3 sc] 37)).heap.size = w.heap.size + 1 := World.size_alloc ..
  obtain ⟨G, hG⟩ : ∃ G, G = w.heap.size := ⟨_, rfl⟩
  have HGG := Lib.hid hG
  rw [← hG] at g0 s0
  have G0 := Lib.hid g0
  have S0 := Lib.hid s0
  clear hg hv hd hdcell c48 e1 hr g0 hG s0 hok hps hgp1 hgn en ep
  go_enter Try.func30, Try.ntmps30
  go_upto_region 1 with fail
  rw [← HGG.out]
  generalize w.alloc (Obj.cells #[.slice na n1 nc, .int .i64 g.thr, .bool g.idx, .slice pa n2 pc, .slice sa n3 sc] 37) = W at b0 G0 S0 ⊢
  have bO : Below W.heap.size W (W.alloc (.cells #[] 70)) := (Below.refl _ _).alloc (Nat.le_refl _) _
  have hGW := (bO.block G (by have := S0.out; omega)).trans G0.out
  have hsw : (W.alloc (.cells #[] 70)).heap.size = W.heap.size + 1 := World.size_alloc ..
  have o0 : OwnFR (W.alloc (.cells #[] 70)) W.heap.size (.slice (some ⟨W.heap.size, 0, none⟩) 0 0) [] := Own.lit0 _ _ _ _ _ (Nat.le_refl _)
  have O0 := Lib.hid o0
  have HSW := Lib.hid hsw
  clear o0 hsw
  have a0 := cell_of_row _ _ 0 _ _ _ hGW
  have a3 := cell_of_row _ _ 3 _ _ _ hGW
  simp only [List.getElem?_toArray, List.getElem?_cons_zero, List.getElem?_cons_succ] at a0 a3
  -- REGION 2
  go_wp2_with fail
  have bD : Below (W.alloc (.cells #[] 70)).heap.size (W.alloc (.cells #[] 70)) (W.alloc (.cells #[] 70)).drew := (Below.refl _ _).drew
  have q0 := (bD.cell (cell_lt a0)).trans a0
  have q3 := (bD.cell (cell_lt a3)).trans a3
  have hkeep : ∀ w8 : World, Below (W.alloc (.cells #[] 70)).drew.heap.size (W.alloc (.cells #[] 70)).drew w8 → w8.cell? ⟨G, 0, none⟩ = some (.slice na n1 nc) ∧ w8.cell? ⟨G, 3, none⟩ = some (.slice pa n2 pc) := fun w8 hb =>
    ⟨(hb.cell (p := ⟨G, 0, none⟩) (cell_lt q0)).trans q0, (hb.cell (p := ⟨G, 3, none⟩) (cell_lt q3)).trans q3⟩
  have hgp0 := HGP.out.below (b0.trans ((bO.trans (bD.mono bO.size)).mono b0.size))
  obtain ⟨WD, hWD⟩ : ∃ WD, WD = (W.alloc (.cells #[] 70)).drew := ⟨_, rfl⟩
  rw [← hWD] at hkeep hgp0 q0 q3
  have HKEEP := Lib.hid hkeep
  have HHS := Lib.hid (hkeep WD (Below.refl _ _))
  have HGP0 := Lib.hid hgp0
  have bWD : Below W.heap.size W WD := by rw [hWD]; exact bO.drew
  have hOD := O0.out.below (by rw [← hWD] at bD; exact bD)
  have HOD := Lib.hid hOD
  have HWD := Lib.hid hWD
  clear a0 a3 hGW bD q0 q3 hkeep hgp0 bO hOD hWD
  obtain ⟨NB, hNB⟩ : ∃ NB, NB = WD.heap.size := ⟨_, rfl⟩
  have HNB := Lib.hid hNB
  clear hNB
  have HHS9 := Lib.hid (show (W.alloc (.cells #[] 70)).drew.cell? ⟨G, 0, none⟩ = some (.slice na n1 nc) ∧ (W.alloc (.cells #[] 70)).drew.cell? ⟨G, 3, none⟩ = some (.slice pa n2 pc) by rw [← HWD.out]; exact HHS.out)
  apply merge4 (F := fun x20 pv' h wz => Below NB WD wz ∧ OwnP wz NB pv' g.ps ∧ NB ≤ h ∧ wz.heap[h]? = some (.cells #[.slice na n1 nc, .int .i64 0, .bool false, pv', .slice none 0 0] 37 (0, 0))) 
  intro key
  all_goals (try rw [← HWD.out])
  · refine wp_region_held_drew (S := fun w' => w'.cell? ⟨G, 0, none⟩ = some (.slice na n1 nc) ∧ w'.cell? ⟨G, 3, none⟩ = some (.slice pa n2 pc)) (by kernel_rfl) HHS9.out (fun hHeld => ?_)
    refine wpAnyH_take (i := 0) (v := ?_) rfl (by kernel_rfl) (by kernel_rfl) (by kernel_rfl) (fun _ _ _ h => h) (Or.inl ⟨by rfl, ?_⟩) (by assumption) ?_
    rotate_left; · (intro w hSw; (try dsimp only at hSw); go_simp; try with_reducible rfl)
    try simp only [Act.put, List.getElem_toArray, List.getElem_cons_zero, List.getElem_cons_succ, List.setIfInBounds_toArray, List.set_cons_zero, List.set_cons_succ]
    refine wpAnyH_take (i := 1) (v := ?_) rfl (by kernel_rfl) (by kernel_rfl) (by kernel_rfl) (fun _ _ _ h => h) (Or.inl ⟨by rfl, ?_⟩) (by assumption) ?_
    rotate_left; · (intro w hSw; (try dsimp only at hSw); go_simp; try with_reducible rfl)
    try simp only [Act.put, List.getElem_toArray, List.getElem_cons_zero, List.getElem_cons_succ, List.setIfInBounds_toArray, List.set_cons_zero, List.set_cons_succ]
    refine wpAnyH_take (i := 3) (v := ?_) rfl (by kernel_rfl) (by kernel_rfl) (by kernel_rfl) (fun _ _ _ h => h) (Or.inl ⟨by rfl, ?_⟩) (by assumption) ?_
    rotate_left; · (intro w hSw; (try dsimp only at hSw); go_simp; try with_reducible rfl)
    try simp only [Act.put, List.getElem_toArray, List.getElem_cons_zero, List.getElem_cons_succ, List.setIfInBounds_toArray, List.set_cons_zero, List.set_cons_succ]
    refine wpAnyH_take (i := 4) (v := ?_) rfl (by kernel_rfl) (by kernel_rfl) (by kernel_rfl) (fun _ _ _ h => h) (Or.inl ⟨by rfl, ?_⟩) (by assumption) ?_
    rotate_left; · (intro w hSw; (try dsimp only at hSw); go_simp; try with_reducible rfl)
    try simp only [Act.put, List.getElem_toArray, List.getElem_cons_zero, List.getElem_cons_succ, List.setIfInBounds_toArray, List.set_cons_zero, List.set_cons_succ]
    rw [← HWD.out] at hHeld ⊢
    have hWA : ∃ WA, WA = WD.alloc (.cells #[] 68) := ⟨_, rfl⟩
    obtain ⟨WA, hWA⟩ := hWA
    have bA : Below WD.heap.size WD WA := by rw [hWA]; exact (Below.refl _ _).alloc (Nat.le_refl _) _
    have oA : OwnP WA WD.heap.size (.slice (some ⟨WD.heap.size, 0, none⟩) 0 0) [] := by rw [hWA]; exact Own.lit0 _ _ _ _ _ (Nat.le_refl _)
    obtain ⟨v5, w5, r5, o5, B5, k5⟩ := oA.appendR (HGP0.out.below bA) (by simp) (by omega) bA.size
    rw [List.nil_append] at o5
    obtain ⟨h1, hh1⟩ : ∃ h1, h1 = w5.heap.size := ⟨_, rfl⟩
    obtain ⟨w6, hw6⟩ : ∃ w6, w6 = w5.alloc (.cells #[.slice none 0 0, .int .i64 0, .bool false, .slice none 0 0, .slice none 0 0] 37) := ⟨_, rfl⟩
    have B6 : Below WD.heap.size WD w6 := by rw [hw6]; exact (bA.trans B5).alloc (bA.trans B5).size _
    have o6 : OwnP w6 WD.heap.size v5 g.ps := by rw [hw6]; exact Own.below o5 ((Below.refl _ _).alloc (Nat.le_refl _) _)
    have c6 : w6.heap[h1]? = some (.cells #[.slice none 0 0, .int .i64 0, .bool false, .slice none 0 0, .slice none 0 0] 37) := by rw [hw6, hh1]; exact heap_alloc_last _ _
    have g6 : WD.heap.size ≤ h1 := by rw [hh1]; exact (bA.trans B5).size
    obtain ⟨WB, hWB⟩ : ∃ WB, WB = WA.alloc (.cells #[.slice none 0 0, .int .i64 0, .bool false, .slice none 0 0, .slice none 0 0] 37) := ⟨_, rfl⟩
    have bB : Below WA.heap.size WA WB := by rw [hWB]; exact (Below.refl _ _).alloc (Nat.le_refl _) _
    have cB : WB.heap[WA.heap.size]? = some (.cells #[.slice none 0 0, .int .i64 0, .bool false, .slice none 0 0, .slice none 0 0] 37) := by rw [hWB]; exact heap_alloc_last _ _
    have bB2 := bA.trans (bB.mono bA.size)
    have oB : OwnP WB WD.heap.size (.slice (some ⟨WD.heap.size, 0, none⟩) 0 0) [] := Own.below oA bB
    obtain ⟨v7, w7, r7, o7, B7, k7⟩ := oB.appendR (HGP0.out.below bB2) (by simp) (by omega) bB2.size
    rw [List.nil_append] at o7
    have c7 := (k7 _ (Array.getElem?_eq_some_iff.1 cB).1 (own_ne oB cB (by decide))).trans cB
    have B72 := bB2.trans B7
    obtain ⟨WC, hWC⟩ : ∃ WC, WC = WD.alloc (.cells #[.slice none 0 0, .int .i64 0, .bool false, .slice none 0 0, .slice none 0 0] 37) := ⟨_, rfl⟩
    have bC : Below WD.heap.size WD WC := by rw [hWC]; exact (Below.refl _ _).alloc (Nat.le_refl _) _
    have cC : WC.heap[WD.heap.size]? = some (.cells #[.slice none 0 0, .int .i64 0, .bool false, .slice none 0 0, .slice none 0 0] 37) := by rw [hWC]; exact heap_alloc_last _ _
    obtain ⟨WE, hWE⟩ : ∃ WE, WE = WC.alloc (.cells #[] 68) := ⟨_, rfl⟩
    have bE : Below WC.heap.size WC WE := by rw [hWE]; exact (Below.refl _ _).alloc (Nat.le_refl _) _
    have oE : OwnP WE WD.heap.size (.slice (some ⟨WC.heap.size, 0, none⟩) 0 0) [] := by rw [hWE]; exact Own.base (Own.lit0 _ _ _ _ _ (Nat.le_refl _)) bC.size
    have cE := (bE.block _ (Array.getElem?_eq_some_iff.1 cC).1).trans cC
    have bE2 := bC.trans (bE.mono bC.size)
    obtain ⟨v8, w8, r8, o8, B8, k8⟩ := oE.appendR (HGP0.out.below bE2) (by simp) (by omega) bE2.size
    rw [List.nil_append] at o8
    have c8 := (k8 _ (Array.getElem?_eq_some_iff.1 cE).1 (own_ne oE cE (by decide))).trans cE
    have B82 := bE2.trans B8
    obtain ⟨ea5, ec5, rfl⟩ := OwnP.slice o5
    obtain ⟨ea7, ec7, rfl⟩ := OwnP.slice o7
    obtain ⟨ea8, ec8, rfl⟩ := OwnP.slice o8
    have HWA := Lib.hid hWA
    have HWB := Lib.hid hWB
    have HWC := Lib.hid hWC
    have HWE := Lib.hid hWE
    have HW6 := Lib.hid hw6
    clear hWA hWB hWC hWE hw6
    refine wpAnyH_ready (rs := [2, 7]) (by kernel_rfl) (by simp) ?_
    refine AllReadyH.cons rfl (fun K hK => ?_) (AllReadyH.cons rfl (fun K hK => ?_) AllReadyH.nil)
    · go_simp
      rw [← HWA.out]
      refine hK.out _ _ (HKEEP.out _ bA) (fun hNew => ?_)
      clear hK K hHeld
      have hHeld := hNew
      clear hNew
      try simp only [Act.put, List.getElem_toArray, List.getElem_cons_zero, List.getElem_cons_succ, List.setIfInBounds_toArray, List.set_cons_zero, List.set_cons_succ]
      refine wpAnyH_ready (rs := [5, 7]) (by kernel_rfl) (by simp) ?_
      refine AllReadyH.cons rfl (fun K hK => ?_) (AllReadyH.cons rfl (fun K hK => ?_) AllReadyH.nil)
      · refine wp_app (.tmp 20) (.tmp 22) 23 rfl _ _ (Value.slice ea5 g.ps.length ec5) w5 rfl rfl r5 ?_
        refine hK.out _ _ (HKEEP.out _ (bA.trans B5)) (fun hNew => ?_)
        clear hK K hHeld
        have hHeld := hNew
        clear hNew
        try simp only [Act.put, List.getElem_toArray, List.getElem_cons_zero, List.getElem_cons_succ, List.setIfInBounds_toArray, List.set_cons_zero, List.set_cons_succ]
        refine wpAnyH_take (i := 6) (v := ?_) rfl (by kernel_rfl) (by kernel_rfl) (by kernel_rfl) (fun _ _ _ h => h) (Or.inl ⟨by rfl, ?_⟩) (by assumption) ?_
        rotate_left; · (intro w hSw; (try dsimp only at hSw); go_simp; try with_reducible rfl)
        try simp only [Act.put, List.getElem_toArray, List.getElem_cons_zero, List.getElem_cons_succ, List.setIfInBounds_toArray, List.set_cons_zero, List.set_cons_succ]
        refine wpAnyH_ready (rs := [7]) (by kernel_rfl) (by simp) ?_
        refine AllReadyH.cons rfl (fun K hK => ?_) AllReadyH.nil
        go_simp
        rw [← hh1, ← HW6.out]
        refine hK.out _ _ (HKEEP.out _ B6) (fun hNew => ?_)
        clear hK K hHeld
        have hHeld := hNew
        clear hNew
        try simp only [Act.put, List.getElem_toArray, List.getElem_cons_zero, List.getElem_cons_succ, List.setIfInBounds_toArray, List.set_cons_zero, List.set_cons_succ]
        refine wpAnyH_ready (rs := [8]) (by kernel_rfl) (by simp) ?_
        refine AllReadyH.cons rfl (fun K hK => ?_) AllReadyH.nil
        refine wp_store_row 37 (.tmp 8) (.tmp 24) rfl h1 #[.slice na n1 nc, .int .i64 0, .bool false, (Value.slice ea5 g.ps.length ec5), .slice none 0 0] rfl rfl 37 #[.slice none 0 0, .int .i64 0, .bool false, .slice none 0 0, .slice none 0 0] c6 (by kernel_rfl) rfl (by kernel_rfl) ?_
        refine hK.out _ _ (HKEEP.out _ (below_row B6 g6 _)) (fun hNew => ?_)
        clear hK K hHeld
        have hHeld := hNew
        clear hNew
        try simp only [Act.put, List.getElem_toArray, List.getElem_cons_zero, List.getElem_cons_succ, List.setIfInBounds_toArray, List.set_cons_zero, List.set_cons_succ]
        refine wpAnyH_done (by kernel_rfl) ?_ _
        have hF : Below NB WD (w6.setRow h1 #[.slice na n1 nc, .int .i64 0, .bool false, (Value.slice ea5 g.ps.length ec5), .slice none 0 0]) ∧ OwnP (w6.setRow h1 #[.slice na n1 nc, .int .i64 0, .bool false, (Value.slice ea5 g.ps.length ec5), .slice none 0 0]) NB (Value.slice ea5 g.ps.length ec5) g.ps ∧ NB ≤ h1 ∧ (w6.setRow h1 #[.slice na n1 nc, .int .i64 0, .bool false, (Value.slice ea5 g.ps.length ec5), .slice none 0 0]).heap[h1]? = some (.cells #[.slice na n1 nc, .int .i64 0, .bool false, (Value.slice ea5 g.ps.length ec5), .slice none 0 0] 37 (0, 0)) := by
          rw [HNB.out]
          refine ⟨below_row B6 g6 _, ?_, g6, setRow_heap _ _ _ _ _ _ c6⟩
          exact Own.same o6 fun g hg => setRow_other _ _ _ _ (fun e => own_ne o6 c6 (by decide) (e ▸ hg))
        generalize (w6.setRow h1 #[.slice na n1 nc, .int .i64 0, .bool false, (Value.slice ea5 g.ps.length ec5), .slice none 0 0]) = wz at hF ⊢
        generalize (Value.slice ea5 g.ps.length ec5) = pv' at hF ⊢
        generalize (Value.slice (some ⟨WD.heap.size, 0, none⟩) 0 0) = x20 at hF ⊢
        generalize h1 = H at hF ⊢
        exact key x20 pv' H wz hF
      · go_simp
        try rw [← HWB.out]
        refine hK.out _ _ (HKEEP.out _ bB2) (fun hNew => ?_)
        clear hK K hHeld
        have hHeld := hNew
        clear hNew
        try simp only [Act.put, List.getElem_toArray, List.getElem_cons_zero, List.getElem_cons_succ, List.setIfInBounds_toArray, List.set_cons_zero, List.set_cons_succ]
        refine wpAnyH_ready (rs := [5]) (by kernel_rfl) (by simp) ?_
        refine AllReadyH.cons rfl (fun K hK => ?_) AllReadyH.nil
        refine wp_app (.tmp 20) (.tmp 22) 23 rfl _ _ (Value.slice ea7 g.ps.length ec7) w7 rfl rfl r7 ?_
        refine hK.out _ _ (HKEEP.out _ B72) (fun hNew => ?_)
        clear hK K hHeld
        have hHeld := hNew
        clear hNew
        try simp only [Act.put, List.getElem_toArray, List.getElem_cons_zero, List.getElem_cons_succ, List.setIfInBounds_toArray, List.set_cons_zero, List.set_cons_succ]
        refine wpAnyH_take (i := 6) (v := ?_) rfl (by kernel_rfl) (by kernel_rfl) (by kernel_rfl) (fun _ _ _ h => h) (Or.inl ⟨by rfl, ?_⟩) (by assumption) ?_
        rotate_left; · (intro w hSw; (try dsimp only at hSw); go_simp; try with_reducible rfl)
        try simp only [Act.put, List.getElem_toArray, List.getElem_cons_zero, List.getElem_cons_succ, List.setIfInBounds_toArray, List.set_cons_zero, List.set_cons_succ]
        refine wpAnyH_ready (rs := [8]) (by kernel_rfl) (by simp) ?_
        refine AllReadyH.cons rfl (fun K hK => ?_) AllReadyH.nil
        refine wp_store_row 37 (.tmp 8) (.tmp 24) rfl WA.heap.size #[.slice na n1 nc, .int .i64 0, .bool false, (Value.slice ea7 g.ps.length ec7), .slice none 0 0] rfl rfl 37 #[.slice none 0 0, .int .i64 0, .bool false, .slice none 0 0, .slice none 0 0] c7 (by kernel_rfl) rfl (by kernel_rfl) ?_
        refine hK.out _ _ (HKEEP.out _ (below_row B72 bA.size _)) (fun hNew => ?_)
        clear hK K hHeld
        have hHeld := hNew
        clear hNew
        try simp only [Act.put, List.getElem_toArray, List.getElem_cons_zero, List.getElem_cons_succ, List.setIfInBounds_toArray, List.set_cons_zero, List.set_cons_succ]
        refine wpAnyH_done (by kernel_rfl) ?_ _
        have hF : Below NB WD (w7.setRow WA.heap.size #[.slice na n1 nc, .int .i64 0, .bool false, (Value.slice ea7 g.ps.length ec7), .slice none 0 0]) ∧ OwnP (w7.setRow WA.heap.size #[.slice na n1 nc, .int .i64 0, .bool false, (Value.slice ea7 g.ps.length ec7), .slice none 0 0]) NB (Value.slice ea7 g.ps.length ec7) g.ps ∧ NB ≤ WA.heap.size ∧ (w7.setRow WA.heap.size #[.slice na n1 nc, .int .i64 0, .bool false, (Value.slice ea7 g.ps.length ec7), .slice none 0 0]).heap[WA.heap.size]? = some (.cells #[.slice na n1 nc, .int .i64 0, .bool false, (Value.slice ea7 g.ps.length ec7), .slice none 0 0] 37 (0, 0)) := by
          rw [HNB.out]
          refine ⟨below_row B72 bA.size _, ?_, bA.size, setRow_heap _ _ _ _ _ _ c7⟩
          exact Own.same o7 fun g hg => setRow_other _ _ _ _ (fun e => own_ne o7 c7 (by decide) (e ▸ hg))
        generalize (w7.setRow WA.heap.size #[.slice na n1 nc, .int .i64 0, .bool false, (Value.slice ea7 g.ps.length ec7), .slice none 0 0]) = wz at hF ⊢
        generalize (Value.slice ea7 g.ps.length ec7) = pv' at hF ⊢
        generalize (Value.slice (some ⟨WD.heap.size, 0, none⟩) 0 0) = x20 at hF ⊢
        generalize WA.heap.size = H at hF ⊢
        exact key x20 pv' H wz hF
    · go_simp
      rw [← HWC.out]
      refine hK.out _ _ (HKEEP.out _ bC) (fun hNew => ?_)
      clear hK K hHeld
      have hHeld := hNew
      clear hNew
      try simp only [Act.put, List.getElem_toArray, List.getElem_cons_zero, List.getElem_cons_succ, List.setIfInBounds_toArray, List.set_cons_zero, List.set_cons_succ]
      refine wpAnyH_ready (rs := [2]) (by kernel_rfl) (by simp) ?_
      refine AllReadyH.cons rfl (fun K hK => ?_) AllReadyH.nil
      go_simp
      rw [← HWE.out]
      refine hK.out _ _ (HKEEP.out _ bE2) (fun hNew => ?_)
      clear hK K hHeld
      have hHeld := hNew
      clear hNew
      try simp only [Act.put, List.getElem_toArray, List.getElem_cons_zero, List.getElem_cons_succ, List.setIfInBounds_toArray, List.set_cons_zero, List.set_cons_succ]
      refine wpAnyH_ready (rs := [5]) (by kernel_rfl) (by simp) ?_
      refine AllReadyH.cons rfl (fun K hK => ?_) AllReadyH.nil
      refine wp_app (.tmp 20) (.tmp 22) 23 rfl _ _ (Value.slice ea8 g.ps.length ec8) w8 rfl rfl r8 ?_
      refine hK.out _ _ (HKEEP.out _ B82) (fun hNew => ?_)
      clear hK K hHeld
      have hHeld := hNew
      clear hNew
      try simp only [Act.put, List.getElem_toArray, List.getElem_cons_zero, List.getElem_cons_succ, List.setIfInBounds_toArray, List.set_cons_zero, List.set_cons_succ]
      refine wpAnyH_take (i := 6) (v := ?_) rfl (by kernel_rfl) (by kernel_rfl) (by kernel_rfl) (fun _ _ _ h => h) (Or.inl ⟨by rfl, ?_⟩) (by assumption) ?_
      rotate_left; · (intro w hSw; (try dsimp only at hSw); go_simp; try with_reducible rfl)
      try simp only [Act.put, List.getElem_toArray, List.getElem_cons_zero, List.getElem_cons_succ, List.setIfInBounds_toArray, List.set_cons_zero, List.set_cons_succ]
      refine wpAnyH_ready (rs := [8]) (by kernel_rfl) (by simp) ?_
      refine AllReadyH.cons rfl (fun K hK => ?_) AllReadyH.nil
      refine wp_store_row 37 (.tmp 8) (.tmp 24) rfl WD.heap.size #[.slice na n1 nc, .int .i64 0, .bool false, (Value.slice ea8 g.ps.length ec8), .slice none 0 0] rfl rfl 37 #[.slice none 0 0, .int .i64 0, .bool false, .slice none 0 0, .slice none 0 0] c8 (by kernel_rfl) rfl (by kernel_rfl) ?_
      refine hK.out _ _ (HKEEP.out _ (below_row B82 (Nat.le_refl _) _)) (fun hNew => ?_)
      clear hK K hHeld
      have hHeld := hNew
      clear hNew
      try simp only [Act.put, List.getElem_toArray, List.getElem_cons_zero, List.getElem_cons_succ, List.setIfInBounds_toArray, List.set_cons_zero, List.set_cons_succ]
      refine wpAnyH_done (by kernel_rfl) ?_ _
      have hF : Below NB WD (w8.setRow WD.heap.size #[.slice na n1 nc, .int .i64 0, .bool false, (Value.slice ea8 g.ps.length ec8), .slice none 0 0]) ∧ OwnP (w8.setRow WD.heap.size #[.slice na n1 nc, .int .i64 0, .bool false, (Value.slice ea8 g.ps.length ec8), .slice none 0 0]) NB (Value.slice ea8 g.ps.length ec8) g.ps ∧ NB ≤ WD.heap.size ∧ (w8.setRow WD.heap.size #[.slice na n1 nc, .int .i64 0, .bool false, (Value.slice ea8 g.ps.length ec8), .slice none 0 0]).heap[WD.heap.size]? = some (.cells #[.slice na n1 nc, .int .i64 0, .bool false, (Value.slice ea8 g.ps.length ec8), .slice none 0 0] 37 (0, 0)) := by
        rw [HNB.out]
        refine ⟨below_row B82 (Nat.le_refl _) _, ?_, (Nat.le_refl _), setRow_heap _ _ _ _ _ _ c8⟩
        exact Own.same o8 fun g hg => setRow_other _ _ _ _ (fun e => own_ne o8 c8 (by decide) (e ▸ hg))
      generalize (w8.setRow WD.heap.size #[.slice na n1 nc, .int .i64 0, .bool false, (Value.slice ea8 g.ps.length ec8), .slice none 0 0]) = wz at hF ⊢
      generalize (Value.slice ea8 g.ps.length ec8) = pv' at hF ⊢
      generalize (Value.slice (some ⟨WC.heap.size, 0, none⟩) 0 0) = x20 at hF ⊢
      generalize WD.heap.size = H at hF ⊢
      exact key x20 pv' H wz hF
  · intro x20 pv' H wz ⟨hb, ho, hH, hc⟩
    rw [HNB.out] at hb ho hH
    have hf0 : FRef W W.heap.size H (.slice na n1 nc) g.ps [] (.slice (some ⟨W.heap.size, 0, none⟩) 0 0) wz := ⟨bWD.trans (hb.mono bWD.size), Nat.le_trans bWD.size hb.size, Nat.le_trans bWD.size hH, ⟨pv', hc, Own.base ho bWD.size⟩, Own.below HOD.out hb⟩
    have F0 := Lib.hid hf0
    have hB0 := b0.size
    have H0 := Lib.hid hH
    clear hf0 hb ho hH hc HKEEP HHS HHS9 HOD HGP0 HGP HNB HWD O0 HSW
    generalize hdlen : devs.length = dl at *
    have HDL := Lib.hid hdlen
    clear hdlen
    go_wp2
    go_loopg [7, 9, 10, 11, 12, 13, 14, 15, 16] dl (fun gk v7 v9 v10 v11 v12 v13 v14 v15 v16 wx => ∃ i : Nat, i + gk = dl ∧ v9 = .int .i64 i ∧ FRef W W.heap.size H (.slice na n1 nc) (fetR g hs devs i).1 (fetR g hs devs i).2 v7 wx)
    case atStart => exact ⟨0, by omega, rfl, F0.out⟩
    case round =>
      obtain ⟨i, hi, rfl, hf⟩ := hrel
      have FI := Lib.hid hf
      have hbel := b0.trans (hf.below.mono b0.size)
      have zr := hf.size
      clear hf
      cases gk with
      | zero =>
        obtain rfl : i = dl := by omega
        have hln := (fetR_len (g := g) HPS.out devs i).2
        have hrd := Own.row FI.out.out (by have := Nat.mul_le_mul hlen (Nat.le_refl 1000); omega)
        have HRD := Lib.hid hrd
        clear hrd hln
        go_wp2
        go_ret
        exact ⟨_, rfl, by rw [HR.out]; exact HRD.out, hbel⟩
      | succ go =>
        have hlt : i < dl := by omega
        obtain ⟨rfl, hdc⟩ := HDC.out i hlt
        have hdc0 := (hbel.cell (cell_lt hdc)).trans hdc
        have hst := fetR_succ g hs devs i
        have hdt := HD.out.below hbel
        have hln1 := (fetR_len (g := g) HPS.out devs i).1
        have hln2 := (fetR_len (g := g) HPS.out devs i).2
        have hmul := Nat.mul_le_mul (show i ≤ 1000 by omega) (Nat.le_refl 1000)
        have HST := Lib.hid hst
        have CF := Lib.hid (C48.out (devs.getD i 0) wr hbel)
        have CT := Lib.hid (fun (x : Int) => contains_any (.slice (some ⟨db, doff, none⟩) i dc) (devs.take i) x)
        have HTK := Lib.hid (ReadsI.takeQ hdt i (by rw [HDL.out]; omega))
        have hok3 := (fetS_ok HOK.out devs i)
        have HOK3 := Lib.hid hok3
        clear hst hdt hdc hok3
        by_cases hneg : findI (devs.getD i 0) (hs.map Hd.dev) < 0
        · have HNX := Lib.hid (show fetR g hs devs (i + 1) = fetR g hs devs i by rw [HST.out]; unfold stepDR; rw [if_pos (.inl hneg)])
          have k1 : decide (findI (devs.getD i 0) (hs.map Hd.dev) < 0) = true := decide_eq_true hneg
          clear hneg
          generalize findI (devs.getD i 0) (hs.map Hd.dev) = fi at *
          generalize devs.getD i 0 = d at *
          go_wp2_with fail
          refine CF.out.mono ?_
          rintro e w5 ⟨rfl, rfl⟩
          go_wp2
          go_quiet (fail)
          go_wp2
          go_roundg go
          case measure => omega
          case rel => exact ⟨i + 1, by omega, by go_num, by rw [HNX.out]; exact FI.out.step (below_drewN (Below.refl _ _) _)⟩
        · obtain ⟨q, hq⟩ : ∃ q : Nat, findI (devs.getD i 0) (hs.map Hd.dev) = q := ⟨_, (Int.toNat_of_nonneg (by omega)).symm⟩
          obtain ⟨hql, hqd⟩ := findI_dev hq
          have k1 : decide (findI (devs.getD i 0) (hs.map Hd.dev) < 0) = false := decide_eq_false hneg
          have hst2 : fetR g hs devs (i + 1) = if devs.getD i 0 ∈ devs.take i then fetR g hs devs i else (hs.getD q default).ps.foldl (stepPR g (devs.getD i 0)) (fetR g hs devs i) := by
            rw [HST.out]
            unfold stepDR
            rw [hq, Int.toNat_natCast]
            by_cases hm : devs.getD i 0 ∈ devs.take i
            · rw [if_pos (.inr hm), if_pos hm]
            · rw [if_neg (by rintro (e | e); omega; exact hm e), if_neg hm]
          have HS2 := Lib.hid hst2
          rw [hq] at CF k1
          clear hst2 hneg hqd hq HST
          obtain ⟨lao, lc, lb, lo, hle, _, _, hlc⟩ := HV.out.at
          obtain ⟨l1, l2, l3, l4, l5, hat⟩ := hlc q hql
          have hmem : hs.getD q default ∈ hs := by rw [getD_at _ _ _ hql]; exact List.getElem_mem hql
          have hpl := HPS.out _ hmem
          have hpok := (HOK.out.2.2.2.2 _ hmem).2.1
          injection hle with hle1 hle2 hle3
          subst hle1 hle2 hle3
          subst l1
          obtain ⟨ppa, ppc, pb, po, hpe, hpc0, hpm, hpcell⟩ := hat.1.at
          rw [hpe] at l3
          have HPC := Lib.hid hpcell
          have HPOK := Lib.hid hpok
          generalize hqs : (hs.getD q default).ps = qs at *
          generalize hdd : devs.getD i 0 = d at *
          have HDD := Lib.hid hdd
          clear hdd
          clear l2 l4 l5 hat hlc hmem hpe hpcell hpok hqs
          generalize hqn : qs.length = qn at *
          have HQN := Lib.hid hqn
          clear hqn
          by_cases hm : d ∈ devs.take i
          · have HNX := Lib.hid (show fetR g hs devs (i + 1) = fetR g hs devs i by rw [HS2.out, if_pos hm])
            have hct := fun W h => CT.out d W h
            rw [decide_eq_true hm] at hct
            have CT2 := Lib.hid hct
            clear hm hct CT HS2
            go_wp2_with fail
            refine CF.out.mono ?_
            rintro e w5 ⟨rfl, rfl⟩
            go_wp2
            go_quiet ((go_at_call 37; exact quiet_same (CT2.out _ (HTK.out.below (below_drewN (Below.refl _ _) _)))))
            go_wp2
            go_roundg go
            case measure => omega
            case rel => exact ⟨i + 1, by omega, by go_num, by rw [HNX.out]; exact FI.out.step (below_drewN (Below.refl _ _) _)⟩
          · have HNX := Lib.hid (show fetR g hs devs (i + 1) = qs.foldl (stepPR g d) (fetR g hs devs i) by rw [HS2.out, if_neg hm])
            have hct := fun W h => CT.out d W h
            rw [decide_eq_false hm] at hct
            have CT2 := Lib.hid hct
            clear hm hct CT HS2
            go_wp2_with fail
            refine CF.out.mono ?_
            rintro e w5 ⟨rfl, rfl⟩
            go_wp2
            go_quiet ((go_at_call 37; exact quiet_same (CT2.out _ (HTK.out.below (below_drewN (Below.refl _ _) _)))))
            obtain ⟨wo, hwo⟩ : ∃ wo : World, wo = wr := ⟨_, rfl⟩
            subst hwo
            have FW := Lib.hid (FI.out.step (below_drewN (Below.refl _ _) nq))
            have HKC := Lib.hid (fun (w8 : World) (hb : Below W.heap.size W w8) => show w8.cell? ⟨lb, lo + q * 4 + 1, none⟩ = some (.slice ppa qn ppc) from ((b0.trans (hb.mono b0.size)).cell (cell_lt l3)).trans l3)
            generalize ht0 : fetR g hs devs i = t0 at *
            have HT0 := Lib.hid ht0
            clear ht0 l3 hdc0 CF HTK CT2
            generalize wo.drewN nq = wn at *
            go_wp2
            go_loopg [7, 11, 12, 13, 14, 15, 16] qn (fun g2 v7 v11 v12 v13 v14 v15 v16 wy => ∃ k : Nat, k + g2 = qn ∧ v11 = .int .i64 k ∧ FRef W W.heap.size H (.slice na n1 nc) ((qs.take k).foldl (stepPR g d) t0).1 ((qs.take k).foldl (stepPR g d) t0).2 v7 wy)
            case atStart => exact ⟨0, by omega, rfl, by rw [List.take_zero]; exact FW.out⟩
            case round =>
              obtain ⟨k, hk, rfl, hfk⟩ := hrel
              have FK := Lib.hid hfk
              have hl1 := HKC.out wr hfk.below
              clear hfk
              cases gk with
              | zero =>
                obtain rfl : k = qn := by omega
                have hfl := FK.out
                rw [← HQN.out, List.take_length] at hfl
                have FL := Lib.hid hfl
                clear hfl
                go_wp2
                go_roundg go
                case measure => omega
                case rel => exact ⟨i + 1, by omega, by go_num, by rw [HNX.out]; exact FL.out⟩
              | succ g2 =>
                have hkl : k < qn := by omega
                obtain ⟨rfl, hpc1, hpc2⟩ := HPC.out k hkl
                have hk1 := ((b0.trans (FK.out.below.mono b0.size)).cell (cell_lt hpc1)).trans hpc1
                have hk2 := ((b0.trans (FK.out.below.mono b0.size)).cell (cell_lt hpc2)).trans hpc2
                have hkq : k < qs.length := by rw [HQN.out]; exact hkl
                have htk : (qs.take (k + 1)).foldl (stepPR g d) t0 = stepPR g d ((qs.take k).foldl (stepPR g d) t0) (qs.getD k default) := by
                  rw [List.take_succ_eq_append_getElem hkq, List.foldl_append, getD_at _ _ _ hkq]
                  rfl
                have hfl := foldR_len g d (qs.take k) t0
                rw [List.length_take] at hfl
                have hfl1 : ((qs.take k).foldl (stepPR g d) t0).1.length ≤ 10000000 := by omega
                have hfl2 : ((qs.take k).foldl (stepPR g d) t0).2.length ≤ 10000000 := by omega
                have hfo := foldR_ok (g := g) (d := d) (qs.take k) t0 HOK3.out (fun p hp => HPOK.out.2 p (List.mem_of_mem_take hp))
                have HTKS := Lib.hid htk
                have HFO := Lib.hid hfo
                clear htk hfo hfl hpc1 hpc2
                generalize (qs.take k).foldl (stepPR g d) t0 = tk at *
                generalize qs.getD k default = p at *
                obtain ⟨R, hR⟩ : ∃ R, R = wr.heap.size := ⟨_, rfl⟩
                have bS : Below wr.heap.size wr (wr.alloc (.cells #[.string p.st, .int .i64 p.ix] 68)) := (Below.refl _ _).alloc (Nat.le_refl _) _
                have cS : (wr.alloc (.cells #[.string p.st, .int .i64 p.ix] 68)).heap[R]? = some (.cells #[.string p.st, .int .i64 p.ix] 68) := by rw [hR]; exact heap_alloc_last wr _
                have sS : R < (wr.alloc (.cells #[.string p.st, .int .i64 p.ix] 68)).heap.size := (Array.getElem?_eq_some_iff.1 cS).1
                have HRR := Lib.hid hR
                have HCS := Lib.hid cS
                have HSS := Lib.hid sS
                clear hR cS sS
                go_upto_region 12 with fail
                clear hk1 hk2 hl1
                have cS := HCS.out
                have sS := HSS.out
                rw [← HRR.out]
                have FS := FK.out.step bS
                obtain ⟨pv, hHv, hoP⟩ := FS.have'
                obtain ⟨pva, pvc, rfl⟩ := OwnP.slice hoP
                have hpvR : ∀ g', (Value.slice pva tk.1.length pvc).ownBlock = some g' → g' ≠ R := fun g' hg' e => by
                  obtain ⟨pv2, hHv2, hoP2⟩ := FK.out.have'
                  have e2 := (bS.block H (Array.getElem?_eq_some_iff.1 hHv2).1).trans hHv2
                  rw [hHv] at e2
                  injection e2 with e2
                  injection e2 with e2
                  have e3 : (some (Value.slice pva tk.1.length pvc) : Option Value) = some pv2 := congrArg (fun a : Array Value => a[3]?) e2
                  injection e3 with e3
                  have := (Own.lt hoP2 g' (e3 ▸ hg')).2
                  have := HRR.out
                  omega
                have C18 : Calls Try.prog 18 #[.agg #[.slice na n1 nc, .int .i64 0, .bool false, .slice pva tk.1.length pvc, .slice none 0 0], .slice none 0 0, .slice none 0 0] (wr.alloc (.cells #[.string p.st, .int .i64 p.ix] 68)) fun e w' => ∃ u sh ix, e = .returned (.tuple #[u, .int .i64 sh, .int .i64 ix]) ∧ ReadsI w' u (ndH g tk.1) ∧ Below (wr.alloc (.cells #[.string p.st, .int .i64 p.ix] 68)).heap.size (wr.alloc (.cells #[.string p.st, .int .i64 p.ix] 68)) w' := by
                  have hN : ReadsN (wr.alloc (.cells #[.string p.st, .int .i64 p.ix] 68)) g.nv g.ns := by
                    rw [EN.out]
                    exact HGN.out.below (b0.trans (FS.below.mono b0.size))
                  have := lacks_any (hvG g (.slice pva tk.1.length pvc) tk.1) (.slice none 0 0) (.slice none 0 0) [] [] (wr.alloc (.cells #[.string p.st, .int .i64 p.ix] 68)) ⟨hN, hoP.reads (by omega), (OwnI.nil _ 0).reads (by simp)⟩ ⟨(Own.nil _ 0 0 4 _).row (by simp), fun x hx => by simp at hx⟩ ((OwnI.nil _ 0).reads (by simp)) HOK.out.1.1 HOK.out.2.1.2 (by show (0 : Int) ≤ 0; omega) (by show (0 : Int) ≤ 255; omega) rfl
                  unfold Gl.v hvG at this
                  rw [EN.out] at this
                  refine this.mono ?_
                  rintro e w' ⟨u, rfl, h1, h2⟩
                  exact ⟨u, _, _, rfl, h1, h2⟩
                have C18' := Lib.hid C18
                have FSS := Lib.hid FS
                have HHV := Lib.hid hHv
                have HPVR := Lib.hid hpvR
                have HOP := Lib.hid hoP
                have CS := Lib.hid cS
                clear C18 hpvR hoP cS FS HCS HSS
                generalize wr.alloc (.cells #[.string p.st, .int .i64 p.ix] 68) = wS at *
                have m0 := cell_of_row _ _ 0 _ _ _ HHV.out
                have m1 := cell_of_row _ _ 1 _ _ _ HHV.out
                have m2 := cell_of_row _ _ 2 _ _ _ HHV.out
                have m3 := cell_of_row _ _ 3 _ _ _ HHV.out
                have m4 := cell_of_row _ _ 4 _ _ _ HHV.out
                clear hHv
                generalize htl : tk.1.length = tl at *
                have HTL := Lib.hid htl
                clear htl
                go_wp2_with fail
                refine C18'.out.mono ?_
                rintro e wL ⟨u, sh, ix, rfl, hu, hbL⟩
                obtain ⟨ua, uc, zb, zo', rfl, hzl, hzm, hzcell⟩ := hu.at
                have hndl : (ndH g tk.1).length = g.ns.length := by unfold ndH ndR; rw [List.length_map, List.length_range]; rfl
                rw [hndl] at hzl hzm hzcell ⊢
                have HZC := Lib.hid hzcell
                have FL := Lib.hid (FSS.out.step hbL)
                have bSL := bS.trans (hbL.mono bS.size)
                have zL := hbL.size
                have RL := Lib.hid ((hbL.block R sS).trans CS.out)
                have HL' := Lib.hid ((hbL.block H (Array.getElem?_eq_some_iff.1 HHV.out).1).trans HHV.out)
                have OL := Lib.hid (Own.below HOP.out hbL)
                have sL : R < wL.heap.size := by omega
                clear m0 m1 m2 m3 m4 hu hndl hzcell C18' FSS HHV HOP CS
                obtain ⟨wq, hwq⟩ : ∃ wq : World, wq = wr := ⟨_, rfl⟩
                subst hwq
                have hn64 : g.ns.length ≤ 64 := HOK.out.1.1
                generalize hnn : g.ns.length = nn at *
                have HNNN := Lib.hid hnn
                clear hnn
                go_wp2
                go_loopg [7, 16] nn (fun g3 v7 v16 wz => ∃ n : Nat, n + g3 = nn ∧ v16 = .int .i64 n ∧ FRef W W.heap.size H (.slice na n1 nc) tk.1 tk.2 v7 wz ∧ Below wL.heap.size wL wz ∧ ∀ m, m < n → wantN g tk.1 p m = false)
                case atStart => exact ⟨0, by omega, rfl, FL.out, Below.refl _ _, fun m hm => by omega⟩
                case round =>
                  obtain ⟨n, hn, rfl, hfn, hbn, hno⟩ := hrel
                  have FN := Lib.hid hfn
                  clear hfn
                  have HNO := Lib.hid hno
                  have zn := hbn.size
                  clear hno
                  cases gk with
                  | zero =>
                    obtain rfl : n = nn := by omega
                    have hw0 : stepPR g d tk p = tk := by
                      unfold stepPR
                      rw [if_neg]
                      intro hw
                      unfold wants at hw
                      obtain ⟨m, hm, hm2⟩ := List.any_eq_true.1 hw
                      rw [HNNN.out] at hm
                      rw [HNO.out m (List.mem_range.1 hm)] at hm2
                      cases hm2
                    have HW0 := Lib.hid hw0
                    clear hw0
                    go_wp2
                    go_roundg g2
                    case measure => omega
                    case rel => exact ⟨k + 1, by omega, by go_num, by rw [HTKS.out, HW0.out]; exact FN.out⟩
                  | succ g3 =>
                    have hnl : n < nn := by omega
                    obtain ⟨hna, hnc⟩ := HNS.out n hnl
                    obtain ⟨rfl, hzc⟩ := HZC.out n hnl
                    have hbw : Below w.heap.size w wr := b0.trans (FN.out.below.mono b0.size)
                    have hw := (show wantN g tk.1 p n = (decide ((g.ns.getD n default).st = p.st) && (decide (0 < (ndH g tk.1).getD n 0) && !decide (p ∈ tk.1))) from rfl)
                    have HW := Lib.hid hw
                    clear hw
                    generalize (g.ns.getD n default).st = s1 at *
                    generalize (ndH g tk.1).getD n 0 = nd at *
                    have hn1 := HN1.out
                    subst hna hn1
                    have hg0 := (FN.out.below.block G (by have := S0.out; omega)).trans G0.out
                    have c0 := cell_of_row _ _ 0 _ _ _ hg0
                    have c1 := (hbw.cell (cell_lt hnc)).trans hnc
                    have hRn := (hbn.block R sL).trans RL.out
                    have hHn := (hbn.block H (Array.getElem?_eq_some_iff.1 HL'.out).1).trans HL'.out
                    have c2 := cell_of_row _ _ 0 _ _ _ hRn
                    have c3 := cell_of_row _ _ 1 _ _ _ hRn
                    have c4' := (hbn.cell (cell_lt hzc)).trans hzc
                    have c5 := cell_of_row _ _ 3 _ _ _ hHn
                    simp only [List.getElem?_toArray, List.getElem?_cons_zero, List.getElem?_cons_succ] at c0 c2 c3 c5
                    clear hg0 hRn hHn hnc hzc
                    by_cases hs1 : s1 = p.st
                    · by_cases hnd : 0 < nd
                      · have k1 : decide (nd > 0) = true := decide_eq_true hnd
                        have k2 := str_eq s1 p.st
                        rw [decide_eq_true hs1] at k2
                        have CHS := Lib.hid (fun (W : World) (h : Below wr.heap.size wr W) => has_any (.slice pva tl pvc) tk.1 p W (OwnP.reads (Own.below OL.out (hbn.trans (h.mono zn))) (by rw [HTL.out]; omega)))
                        have hk16 : ∀ w8 : World, Below wr.heap.size wr w8 → Below wr.heap.size wr w8 ∧ w8.cell? ⟨G, 0, none⟩ = some (.slice (some ⟨nb, no, none⟩) n1 nc) ∧ w8.cell? ⟨nb, no + n * 2, none⟩ = some (.string s1) ∧ w8.cell? ⟨R, 0, none⟩ = some (.string p.st) ∧ w8.cell? ⟨R, 1, none⟩ = some (.int .i64 p.ix) ∧ w8.cell? ⟨zb, zo' + n, none⟩ = some (.int .i64 nd) ∧ w8.cell? ⟨H, 3, none⟩ = some (.slice pva tl pvc) := fun w8 hb =>
                          ⟨hb, (hb.cell (p := ⟨G, 0, none⟩) (cell_lt c0)).trans c0, (hb.cell (cell_lt c1)).trans c1, (hb.cell (p := ⟨R, 0, none⟩) (cell_lt c2)).trans c2, (hb.cell (p := ⟨R, 1, none⟩) (cell_lt c3)).trans c3, (hb.cell (cell_lt c4')).trans c4', (hb.cell (p := ⟨H, 3, none⟩) (cell_lt c5)).trans c5⟩
                        have HK16 := Lib.hid hk16
                        have HH16 := Lib.hid (hk16 wr.drew (Below.refl _ _).drew)
                        clear hk16 c0 c1 c2 c3 c4' c5
                        by_cases hin : p ∈ tk.1
                        · have hch := fun W h => CHS.out W h
                          rw [decide_eq_true hin] at hch
                          have CH2 := Lib.hid hch
                          have HWN := Lib.hid (show wantN g tk.1 p n = false by rw [HW.out, decide_eq_true hs1, decide_eq_true hnd, decide_eq_true hin]; rfl)
                          clear hch CHS
                          go_wp2
                          refine wp_region_held_drew (S := fun w' => Below wr.heap.size wr w' ∧ w'.cell? ⟨G, 0, none⟩ = some (.slice (some ⟨nb, no, none⟩) n1 nc) ∧ w'.cell? ⟨nb, no + n * 2, none⟩ = some (.string s1) ∧ w'.cell? ⟨R, 0, none⟩ = some (.string p.st) ∧ w'.cell? ⟨R, 1, none⟩ = some (.int .i64 p.ix) ∧ w'.cell? ⟨zb, zo' + n, none⟩ = some (.int .i64 nd) ∧ w'.cell? ⟨H, 3, none⟩ = some (.slice pva tl pvc)) (by kernel_rfl) HH16.out (fun hHeld => ?_)
                          refine wpAnyH_take (i := 0) (v := ?_) rfl (by kernel_rfl) (by kernel_rfl) (by kernel_rfl) (fun _ _ _ h => h) (Or.inl ⟨by rfl, ?_⟩) (by assumption) ?_
                          rotate_left; · (intro w hSw; (try dsimp only at hSw); go_simp; try with_reducible rfl)
                          try simp only [Act.put, List.getElem_toArray, List.getElem_cons_zero, List.getElem_cons_succ, List.setIfInBounds_toArray, List.set_cons_zero, List.set_cons_succ]
                          refine wpAnyH_take (i := 1) (v := ?_) rfl (by kernel_rfl) (by kernel_rfl) (by kernel_rfl) (fun _ _ _ h => h) (Or.inl ⟨by rfl, ?_⟩) (by assumption) ?_
                          rotate_left; · (intro w hSw; (try dsimp only at hSw); go_simp; try with_reducible rfl)
                          try simp only [Act.put, List.getElem_toArray, List.getElem_cons_zero, List.getElem_cons_succ, List.setIfInBounds_toArray, List.set_cons_zero, List.set_cons_succ]
                          refine wpAnyH_take (i := 2) (v := ?_) rfl (by kernel_rfl) (by kernel_rfl) (by kernel_rfl) (fun _ _ _ h => h) (Or.inl ⟨by rfl, ?_⟩) (by assumption) ?_
                          rotate_left; · (intro w hSw; (try dsimp only at hSw); go_simp; try with_reducible rfl)
                          try simp only [Act.put, List.getElem_toArray, List.getElem_cons_zero, List.getElem_cons_succ, List.setIfInBounds_toArray, List.set_cons_zero, List.set_cons_succ]
                          refine wpAnyH_take (i := 3) (v := ?_) rfl (by kernel_rfl) (by kernel_rfl) (by kernel_rfl) (fun _ _ _ h => h) (Or.inl ⟨by rfl, ?_⟩) (by assumption) ?_
                          rotate_left; · (intro w hSw; (try dsimp only at hSw); go_simp; try with_reducible rfl)
                          try simp only [Act.put, List.getElem_toArray, List.getElem_cons_zero, List.getElem_cons_succ, List.setIfInBounds_toArray, List.set_cons_zero, List.set_cons_succ]
                          refine wpAnyH_take (i := 4) (v := ?_) rfl (by kernel_rfl) (by kernel_rfl) (by kernel_rfl) (fun _ _ _ h => h) (Or.inl ⟨by rfl, ?_⟩) (by assumption) ?_
                          rotate_left; · (intro w hSw; (try dsimp only at hSw); go_simp; try with_reducible rfl)
                          try simp only [Act.put, List.getElem_toArray, List.getElem_cons_zero, List.getElem_cons_succ, List.setIfInBounds_toArray, List.set_cons_zero, List.set_cons_succ]
                          refine wpAnyH_take (i := 5) (v := ?_) rfl (by kernel_rfl) (by kernel_rfl) (by kernel_rfl) (fun _ _ _ h => h) (Or.inl ⟨by rfl, ?_⟩) (by assumption) ?_
                          rotate_left; · (intro w hSw; (try dsimp only at hSw); go_simp; try with_reducible rfl)
                          try simp only [Act.put, List.getElem_toArray, List.getElem_cons_zero, List.getElem_cons_succ, List.setIfInBounds_toArray, List.set_cons_zero, List.set_cons_succ]
                          refine wpAnyH_take (i := 6) (v := ?_) rfl (by kernel_rfl) (by kernel_rfl) (by kernel_rfl) (fun _ _ _ h => h) (Or.inl ⟨by rfl, ?_⟩) (by assumption) ?_
                          rotate_left; · (intro w hSw; (try dsimp only at hSw); go_simp; try with_reducible rfl)
                          try simp only [Act.put, List.getElem_toArray, List.getElem_cons_zero, List.getElem_cons_succ, List.setIfInBounds_toArray, List.set_cons_zero, List.set_cons_succ]
                          refine wpAnyH_take (i := 7) (v := ?_) rfl (by kernel_rfl) (by kernel_rfl) (by kernel_rfl) (fun _ _ _ h => h) (Or.inl ⟨by rfl, ?_⟩) (by assumption) ?_
                          rotate_left; · (intro w hSw; (try dsimp only at hSw); go_simp; try with_reducible rfl)
                          try simp only [Act.put, List.getElem_toArray, List.getElem_cons_zero, List.getElem_cons_succ, List.setIfInBounds_toArray, List.set_cons_zero, List.set_cons_succ]
                          refine wpAnyH_take (i := 8) (v := ?_) rfl (by kernel_rfl) (by kernel_rfl) (by kernel_rfl) (fun _ _ _ h => h) (Or.inl ⟨by rfl, ?_⟩) (by assumption) ?_
                          rotate_left; · (intro w hSw; (try dsimp only at hSw); go_simp; try with_reducible rfl)
                          try simp only [Act.put, List.getElem_toArray, List.getElem_cons_zero, List.getElem_cons_succ, List.setIfInBounds_toArray, List.set_cons_zero, List.set_cons_succ]
                          refine wpAnyH_take (i := 9) (v := ?_) rfl (by kernel_rfl) (by kernel_rfl) (by kernel_rfl) (fun _ _ _ h => h) (Or.inl ⟨by rfl, ?_⟩) (by assumption) ?_
                          rotate_left; · (intro w hSw; (try dsimp only at hSw); go_simp; try with_reducible rfl)
                          try simp only [Act.put, List.getElem_toArray, List.getElem_cons_zero, List.getElem_cons_succ, List.setIfInBounds_toArray, List.set_cons_zero, List.set_cons_succ]
                          refine wpAnyH_take (i := 10) (v := ?_) rfl (by kernel_rfl) (by kernel_rfl) (by kernel_rfl) (fun _ _ _ h => h) (Or.inl ⟨by rfl, ?_⟩) (by assumption) ?_
                          rotate_left; · (intro w hSw; (try dsimp only at hSw); go_simp; try with_reducible rfl)
                          try simp only [Act.put, List.getElem_toArray, List.getElem_cons_zero, List.getElem_cons_succ, List.setIfInBounds_toArray, List.set_cons_zero, List.set_cons_succ]
                          refine wpAnyH_take (i := 11) (v := ?_) rfl (by kernel_rfl) (by kernel_rfl) (by kernel_rfl) (fun _ _ _ h => h) (Or.inl ⟨by rfl, ?_⟩) (by assumption) ?_
                          rotate_left; · (intro w hSw; (try dsimp only at hSw); go_simp; try with_reducible rfl)
                          try simp only [Act.put, List.getElem_toArray, List.getElem_cons_zero, List.getElem_cons_succ, List.setIfInBounds_toArray, List.set_cons_zero, List.set_cons_succ]
                          refine wpAnyH_take (i := 12) (v := ?_) rfl (by kernel_rfl) (by kernel_rfl) (by kernel_rfl) (fun _ _ _ h => h) (Or.inl ⟨by rfl, ?_⟩) (by assumption) ?_
                          rotate_left; · (intro w hSw; (try dsimp only at hSw); go_simp; try with_reducible rfl)
                          try simp only [Act.put, List.getElem_toArray, List.getElem_cons_zero, List.getElem_cons_succ, List.setIfInBounds_toArray, List.set_cons_zero, List.set_cons_succ]
                          refine wpAnyH_take (i := 13) (v := ?_) rfl (by kernel_rfl) (by kernel_rfl) (by kernel_rfl) (fun _ _ _ h => h) (Or.inl ⟨by rfl, ?_⟩) (by assumption) ?_
                          rotate_left; · (intro w hSw; (try dsimp only at hSw); go_simp; try with_reducible rfl)
                          try simp only [Act.put, List.getElem_toArray, List.getElem_cons_zero, List.getElem_cons_succ, List.setIfInBounds_toArray, List.set_cons_zero, List.set_cons_succ]
                          refine wpAnyH_take (i := 14) (v := ?_) rfl (by kernel_rfl) (by kernel_rfl) (by kernel_rfl) (fun _ _ _ h => h) (Or.inl ⟨by rfl, ?_⟩) (by assumption) ?_
                          rotate_left; · (intro w hSw; (try dsimp only at hSw); go_simp; try with_reducible rfl)
                          try simp only [Act.put, List.getElem_toArray, List.getElem_cons_zero, List.getElem_cons_succ, List.setIfInBounds_toArray, List.set_cons_zero, List.set_cons_succ]
                          refine wpAnyH_take (i := 15) (v := ?_) rfl (by kernel_rfl) (by kernel_rfl) (by kernel_rfl) (fun _ _ _ h => h) (Or.inl ⟨by rfl, ?_⟩) (by assumption) ?_
                          rotate_left; · (intro w hSw; (try dsimp only at hSw); go_simp; try with_reducible rfl)
                          try simp only [Act.put, List.getElem_toArray, List.getElem_cons_zero, List.getElem_cons_succ, List.setIfInBounds_toArray, List.set_cons_zero, List.set_cons_succ]
                          refine wpAnyH_take (i := 16) (v := ?_) rfl (by kernel_rfl) (by kernel_rfl) (by kernel_rfl) (fun _ _ _ h => h) (Or.inl ⟨by rfl, ?_⟩) (by assumption) ?_
                          rotate_left; · (intro w hSw; (try dsimp only at hSw); go_simp; try with_reducible rfl)
                          try simp only [Act.put, List.getElem_toArray, List.getElem_cons_zero, List.getElem_cons_succ, List.setIfInBounds_toArray, List.set_cons_zero, List.set_cons_succ]
                          refine wpAnyH_take (i := 17) (v := ?_) rfl (by kernel_rfl) (by kernel_rfl) (by kernel_rfl) (fun _ _ _ h => h) (Or.inl ⟨by rfl, ?_⟩) (by assumption) ?_
                          rotate_left; · (intro w hSw; (try dsimp only at hSw); go_simp; try with_reducible rfl)
                          try simp only [Act.put, List.getElem_toArray, List.getElem_cons_zero, List.getElem_cons_succ, List.setIfInBounds_toArray, List.set_cons_zero, List.set_cons_succ]
                          refine wpAnyH_take (i := 18) (v := ?_) rfl (by kernel_rfl) (by kernel_rfl) (by kernel_rfl) (fun _ _ _ h => h) (Or.inl ⟨by rfl, ?_⟩) (by assumption) ?_
                          rotate_left; · (intro w hSw; (try dsimp only at hSw); go_simp; try with_reducible rfl)
                          try simp only [Act.put, List.getElem_toArray, List.getElem_cons_zero, List.getElem_cons_succ, List.setIfInBounds_toArray, List.set_cons_zero, List.set_cons_succ]
                          refine wpAnyH_take (i := 19) (v := ?_) rfl (by kernel_rfl) (by kernel_rfl) (by kernel_rfl) (fun _ _ _ h => h) (Or.inl ⟨by rfl, ?_⟩) (by assumption) ?_
                          rotate_left; · (intro w hSw; (try dsimp only at hSw); go_simp; try with_reducible rfl)
                          try simp only [Act.put, List.getElem_toArray, List.getElem_cons_zero, List.getElem_cons_succ, List.setIfInBounds_toArray, List.set_cons_zero, List.set_cons_succ]
                          refine wpAnyH_ready (rs := [20]) (by kernel_rfl) (by simp) ?_
                          refine AllReadyH.cons rfl (fun K hK => ?_) AllReadyH.nil
                          go_simp
                          go_at_call 49
                          refine (CH2.out _ hHeld.1).mono ?_
                          rintro e w9 ⟨rfl, hb9⟩
                          go_wp2_with fail
                          refine hK.out _ _ (HK16.out _ (hHeld.1.trans (hb9.mono hHeld.1.size))) (fun hNew => ?_)
                          clear hb9
                          clear hK K hHeld
                          have hHeld := hNew
                          clear hNew
                          try simp only [Act.put, List.getElem_toArray, List.getElem_cons_zero, List.getElem_cons_succ, List.setIfInBounds_toArray, List.set_cons_zero, List.set_cons_succ]
                          refine wpAnyH_take (i := 21) (v := ?_) rfl (by kernel_rfl) (by kernel_rfl) (by kernel_rfl) (fun _ _ _ h => h) (Or.inl ⟨by rfl, ?_⟩) (by assumption) ?_
                          rotate_left; · (intro w hSw; (try dsimp only at hSw); go_simp; try with_reducible rfl)
                          try simp only [Act.put, List.getElem_toArray, List.getElem_cons_zero, List.getElem_cons_succ, List.setIfInBounds_toArray, List.set_cons_zero, List.set_cons_succ]
                          refine wpAnyH_take (i := 22) (v := ?_) rfl (by kernel_rfl) (by kernel_rfl) (by kernel_rfl) (fun _ _ _ h => h) (Or.inl ⟨by rfl, ?_⟩) (by assumption) ?_
                          rotate_left; · (intro w hSw; (try dsimp only at hSw); go_simp; try with_reducible rfl)
                          try simp only [Act.put, List.getElem_toArray, List.getElem_cons_zero, List.getElem_cons_succ, List.setIfInBounds_toArray, List.set_cons_zero, List.set_cons_succ]
                          refine wpAnyH_done (by kernel_rfl) ?_ _
                          obtain ⟨wv, hwv⟩ : ∃ wv : World, wv = w9 := ⟨_, rfl⟩
                          subst hwv
                          have hbv := hHeld.1
                          clear hHeld
                          have FV := FN.out.step hbv
                          have hbLv := hbn.trans (hbv.mono zn)
                          go_wp2
                          go_roundg g3
                          case measure => omega
                          case rel => exact ⟨n + 1, by omega, by go_num, FV, hbLv, fun m hm => by
                            by_cases e : m = n
                            · rw [e]; exact HWN.out
                            · exact HNO.out m (by omega)⟩
                        · have hch := fun W h => CHS.out W h
                          rw [decide_eq_false hin] at hch
                          have CH2 := Lib.hid hch
                          have HWN := Lib.hid (show wantN g tk.1 p n = true by rw [HW.out, decide_eq_true hs1, decide_eq_true hnd, decide_eq_false hin]; rfl)
                          clear hch CHS
                          go_wp2
                          refine wp_region_held_drew (S := fun w' => Below wr.heap.size wr w' ∧ w'.cell? ⟨G, 0, none⟩ = some (.slice (some ⟨nb, no, none⟩) n1 nc) ∧ w'.cell? ⟨nb, no + n * 2, none⟩ = some (.string s1) ∧ w'.cell? ⟨R, 0, none⟩ = some (.string p.st) ∧ w'.cell? ⟨R, 1, none⟩ = some (.int .i64 p.ix) ∧ w'.cell? ⟨zb, zo' + n, none⟩ = some (.int .i64 nd) ∧ w'.cell? ⟨H, 3, none⟩ = some (.slice pva tl pvc)) (by kernel_rfl) HH16.out (fun hHeld => ?_)
                          refine wpAnyH_take (i := 0) (v := ?_) rfl (by kernel_rfl) (by kernel_rfl) (by kernel_rfl) (fun _ _ _ h => h) (Or.inl ⟨by rfl, ?_⟩) (by assumption) ?_
                          rotate_left; · (intro w hSw; (try dsimp only at hSw); go_simp; try with_reducible rfl)
                          try simp only [Act.put, List.getElem_toArray, List.getElem_cons_zero, List.getElem_cons_succ, List.setIfInBounds_toArray, List.set_cons_zero, List.set_cons_succ]
                          refine wpAnyH_take (i := 1) (v := ?_) rfl (by kernel_rfl) (by kernel_rfl) (by kernel_rfl) (fun _ _ _ h => h) (Or.inl ⟨by rfl, ?_⟩) (by assumption) ?_
                          rotate_left; · (intro w hSw; (try dsimp only at hSw); go_simp; try with_reducible rfl)
                          try simp only [Act.put, List.getElem_toArray, List.getElem_cons_zero, List.getElem_cons_succ, List.setIfInBounds_toArray, List.set_cons_zero, List.set_cons_succ]
                          refine wpAnyH_take (i := 2) (v := ?_) rfl (by kernel_rfl) (by kernel_rfl) (by kernel_rfl) (fun _ _ _ h => h) (Or.inl ⟨by rfl, ?_⟩) (by assumption) ?_
                          rotate_left; · (intro w hSw; (try dsimp only at hSw); go_simp; try with_reducible rfl)
                          try simp only [Act.put, List.getElem_toArray, List.getElem_cons_zero, List.getElem_cons_succ, List.setIfInBounds_toArray, List.set_cons_zero, List.set_cons_succ]
                          refine wpAnyH_take (i := 3) (v := ?_) rfl (by kernel_rfl) (by kernel_rfl) (by kernel_rfl) (fun _ _ _ h => h) (Or.inl ⟨by rfl, ?_⟩) (by assumption) ?_
                          rotate_left; · (intro w hSw; (try dsimp only at hSw); go_simp; try with_reducible rfl)
                          try simp only [Act.put, List.getElem_toArray, List.getElem_cons_zero, List.getElem_cons_succ, List.setIfInBounds_toArray, List.set_cons_zero, List.set_cons_succ]
                          refine wpAnyH_take (i := 4) (v := ?_) rfl (by kernel_rfl) (by kernel_rfl) (by kernel_rfl) (fun _ _ _ h => h) (Or.inl ⟨by rfl, ?_⟩) (by assumption) ?_
                          rotate_left; · (intro w hSw; (try dsimp only at hSw); go_simp; try with_reducible rfl)
                          try simp only [Act.put, List.getElem_toArray, List.getElem_cons_zero, List.getElem_cons_succ, List.setIfInBounds_toArray, List.set_cons_zero, List.set_cons_succ]
                          refine wpAnyH_take (i := 5) (v := ?_) rfl (by kernel_rfl) (by kernel_rfl) (by kernel_rfl) (fun _ _ _ h => h) (Or.inl ⟨by rfl, ?_⟩) (by assumption) ?_
                          rotate_left; · (intro w hSw; (try dsimp only at hSw); go_simp; try with_reducible rfl)
                          try simp only [Act.put, List.getElem_toArray, List.getElem_cons_zero, List.getElem_cons_succ, List.setIfInBounds_toArray, List.set_cons_zero, List.set_cons_succ]
                          refine wpAnyH_take (i := 6) (v := ?_) rfl (by kernel_rfl) (by kernel_rfl) (by kernel_rfl) (fun _ _ _ h => h) (Or.inl ⟨by rfl, ?_⟩) (by assumption) ?_
                          rotate_left; · (intro w hSw; (try dsimp only at hSw); go_simp; try with_reducible rfl)
                          try simp only [Act.put, List.getElem_toArray, List.getElem_cons_zero, List.getElem_cons_succ, List.setIfInBounds_toArray, List.set_cons_zero, List.set_cons_succ]
                          refine wpAnyH_take (i := 7) (v := ?_) rfl (by kernel_rfl) (by kernel_rfl) (by kernel_rfl) (fun _ _ _ h => h) (Or.inl ⟨by rfl, ?_⟩) (by assumption) ?_
                          rotate_left; · (intro w hSw; (try dsimp only at hSw); go_simp; try with_reducible rfl)
                          try simp only [Act.put, List.getElem_toArray, List.getElem_cons_zero, List.getElem_cons_succ, List.setIfInBounds_toArray, List.set_cons_zero, List.set_cons_succ]
                          refine wpAnyH_take (i := 8) (v := ?_) rfl (by kernel_rfl) (by kernel_rfl) (by kernel_rfl) (fun _ _ _ h => h) (Or.inl ⟨by rfl, ?_⟩) (by assumption) ?_
                          rotate_left; · (intro w hSw; (try dsimp only at hSw); go_simp; try with_reducible rfl)
                          try simp only [Act.put, List.getElem_toArray, List.getElem_cons_zero, List.getElem_cons_succ, List.setIfInBounds_toArray, List.set_cons_zero, List.set_cons_succ]
                          refine wpAnyH_take (i := 9) (v := ?_) rfl (by kernel_rfl) (by kernel_rfl) (by kernel_rfl) (fun _ _ _ h => h) (Or.inl ⟨by rfl, ?_⟩) (by assumption) ?_
                          rotate_left; · (intro w hSw; (try dsimp only at hSw); go_simp; try with_reducible rfl)
                          try simp only [Act.put, List.getElem_toArray, List.getElem_cons_zero, List.getElem_cons_succ, List.setIfInBounds_toArray, List.set_cons_zero, List.set_cons_succ]
                          refine wpAnyH_take (i := 10) (v := ?_) rfl (by kernel_rfl) (by kernel_rfl) (by kernel_rfl) (fun _ _ _ h => h) (Or.inl ⟨by rfl, ?_⟩) (by assumption) ?_
                          rotate_left; · (intro w hSw; (try dsimp only at hSw); go_simp; try with_reducible rfl)
                          try simp only [Act.put, List.getElem_toArray, List.getElem_cons_zero, List.getElem_cons_succ, List.setIfInBounds_toArray, List.set_cons_zero, List.set_cons_succ]
                          refine wpAnyH_take (i := 11) (v := ?_) rfl (by kernel_rfl) (by kernel_rfl) (by kernel_rfl) (fun _ _ _ h => h) (Or.inl ⟨by rfl, ?_⟩) (by assumption) ?_
                          rotate_left; · (intro w hSw; (try dsimp only at hSw); go_simp; try with_reducible rfl)
                          try simp only [Act.put, List.getElem_toArray, List.getElem_cons_zero, List.getElem_cons_succ, List.setIfInBounds_toArray, List.set_cons_zero, List.set_cons_succ]
                          refine wpAnyH_take (i := 12) (v := ?_) rfl (by kernel_rfl) (by kernel_rfl) (by kernel_rfl) (fun _ _ _ h => h) (Or.inl ⟨by rfl, ?_⟩) (by assumption) ?_
                          rotate_left; · (intro w hSw; (try dsimp only at hSw); go_simp; try with_reducible rfl)
                          try simp only [Act.put, List.getElem_toArray, List.getElem_cons_zero, List.getElem_cons_succ, List.setIfInBounds_toArray, List.set_cons_zero, List.set_cons_succ]
                          refine wpAnyH_take (i := 13) (v := ?_) rfl (by kernel_rfl) (by kernel_rfl) (by kernel_rfl) (fun _ _ _ h => h) (Or.inl ⟨by rfl, ?_⟩) (by assumption) ?_
                          rotate_left; · (intro w hSw; (try dsimp only at hSw); go_simp; try with_reducible rfl)
                          try simp only [Act.put, List.getElem_toArray, List.getElem_cons_zero, List.getElem_cons_succ, List.setIfInBounds_toArray, List.set_cons_zero, List.set_cons_succ]
                          refine wpAnyH_take (i := 14) (v := ?_) rfl (by kernel_rfl) (by kernel_rfl) (by kernel_rfl) (fun _ _ _ h => h) (Or.inl ⟨by rfl, ?_⟩) (by assumption) ?_
                          rotate_left; · (intro w hSw; (try dsimp only at hSw); go_simp; try with_reducible rfl)
                          try simp only [Act.put, List.getElem_toArray, List.getElem_cons_zero, List.getElem_cons_succ, List.setIfInBounds_toArray, List.set_cons_zero, List.set_cons_succ]
                          refine wpAnyH_take (i := 15) (v := ?_) rfl (by kernel_rfl) (by kernel_rfl) (by kernel_rfl) (fun _ _ _ h => h) (Or.inl ⟨by rfl, ?_⟩) (by assumption) ?_
                          rotate_left; · (intro w hSw; (try dsimp only at hSw); go_simp; try with_reducible rfl)
                          try simp only [Act.put, List.getElem_toArray, List.getElem_cons_zero, List.getElem_cons_succ, List.setIfInBounds_toArray, List.set_cons_zero, List.set_cons_succ]
                          refine wpAnyH_take (i := 16) (v := ?_) rfl (by kernel_rfl) (by kernel_rfl) (by kernel_rfl) (fun _ _ _ h => h) (Or.inl ⟨by rfl, ?_⟩) (by assumption) ?_
                          rotate_left; · (intro w hSw; (try dsimp only at hSw); go_simp; try with_reducible rfl)
                          try simp only [Act.put, List.getElem_toArray, List.getElem_cons_zero, List.getElem_cons_succ, List.setIfInBounds_toArray, List.set_cons_zero, List.set_cons_succ]
                          refine wpAnyH_take (i := 17) (v := ?_) rfl (by kernel_rfl) (by kernel_rfl) (by kernel_rfl) (fun _ _ _ h => h) (Or.inl ⟨by rfl, ?_⟩) (by assumption) ?_
                          rotate_left; · (intro w hSw; (try dsimp only at hSw); go_simp; try with_reducible rfl)
                          try simp only [Act.put, List.getElem_toArray, List.getElem_cons_zero, List.getElem_cons_succ, List.setIfInBounds_toArray, List.set_cons_zero, List.set_cons_succ]
                          refine wpAnyH_take (i := 18) (v := ?_) rfl (by kernel_rfl) (by kernel_rfl) (by kernel_rfl) (fun _ _ _ h => h) (Or.inl ⟨by rfl, ?_⟩) (by assumption) ?_
                          rotate_left; · (intro w hSw; (try dsimp only at hSw); go_simp; try with_reducible rfl)
                          try simp only [Act.put, List.getElem_toArray, List.getElem_cons_zero, List.getElem_cons_succ, List.setIfInBounds_toArray, List.set_cons_zero, List.set_cons_succ]
                          refine wpAnyH_take (i := 19) (v := ?_) rfl (by kernel_rfl) (by kernel_rfl) (by kernel_rfl) (fun _ _ _ h => h) (Or.inl ⟨by rfl, ?_⟩) (by assumption) ?_
                          rotate_left; · (intro w hSw; (try dsimp only at hSw); go_simp; try with_reducible rfl)
                          try simp only [Act.put, List.getElem_toArray, List.getElem_cons_zero, List.getElem_cons_succ, List.setIfInBounds_toArray, List.set_cons_zero, List.set_cons_succ]
                          refine wpAnyH_ready (rs := [20]) (by kernel_rfl) (by simp) ?_
                          refine AllReadyH.cons rfl (fun K hK => ?_) AllReadyH.nil
                          go_simp
                          go_at_call 49
                          refine (CH2.out _ hHeld.1).mono ?_
                          rintro e w9 ⟨rfl, hb9⟩
                          go_wp2_with fail
                          refine hK.out _ _ (HK16.out _ (hHeld.1.trans (hb9.mono hHeld.1.size))) (fun hNew => ?_)
                          clear hb9
                          clear hK K hHeld
                          have hHeld := hNew
                          clear hNew
                          try simp only [Act.put, List.getElem_toArray, List.getElem_cons_zero, List.getElem_cons_succ, List.setIfInBounds_toArray, List.set_cons_zero, List.set_cons_succ]
                          refine wpAnyH_take (i := 21) (v := ?_) rfl (by kernel_rfl) (by kernel_rfl) (by kernel_rfl) (fun _ _ _ h => h) (Or.inl ⟨by rfl, ?_⟩) (by assumption) ?_
                          rotate_left; · (intro w hSw; (try dsimp only at hSw); go_simp; try with_reducible rfl)
                          try simp only [Act.put, List.getElem_toArray, List.getElem_cons_zero, List.getElem_cons_succ, List.setIfInBounds_toArray, List.set_cons_zero, List.set_cons_succ]
                          refine wpAnyH_take (i := 22) (v := ?_) rfl (by kernel_rfl) (by kernel_rfl) (by kernel_rfl) (fun _ _ _ h => h) (Or.inl ⟨by rfl, ?_⟩) (by assumption) ?_
                          rotate_left; · (intro w hSw; (try dsimp only at hSw); go_simp; try with_reducible rfl)
                          try simp only [Act.put, List.getElem_toArray, List.getElem_cons_zero, List.getElem_cons_succ, List.setIfInBounds_toArray, List.set_cons_zero, List.set_cons_succ]
                          refine wpAnyH_done (by kernel_rfl) ?_ _
                          obtain ⟨wv, hwv⟩ : ∃ wv : World, wv = w9 := ⟨_, rfl⟩
                          subst hwv
                          have hbv := hHeld.1
                          clear hHeld
                          have FV := FN.out.step hbv
                          have hbLv := hbn.trans (hbv.mono zn)
                          have hwt : wants g tk.1 p = true := by
                            unfold wants
                            rw [List.any_eq_true]
                            exact ⟨n, List.mem_range.2 (by rw [HNNN.out]; exact hnl), HWN.out⟩
                          have HNEW := Lib.hid (show stepPR g d tk p = (tk.1 ++ [p], tk.2 ++ [(d, p)]) by unfold stepPR; rw [if_pos hwt])
                          have hRv := (hbLv.block R sL).trans RL.out
                          have hHv := (hbLv.block H (Array.getElem?_eq_some_iff.1 HL'.out).1).trans HL'.out
                          have FD := FV.step (Below.refl wv.heap.size wv).drew
                          have bD : Below wv.heap.size wv wv.drew := (Below.refl _ _).drew
                          have hRd := (bD.block R (Array.getElem?_eq_some_iff.1 hRv).1).trans hRv
                          have hHd := (bD.block H (Array.getElem?_eq_some_iff.1 hHv).1).trans hHv
                          obtain ⟨v9, w9, r9, F9, o39, z9, hH9⟩ := FD.appO d p (by omega)
                          have hH9' := hH9.trans hHd
                          have hR9 := (o39 R (Array.getElem?_eq_some_iff.1 hRd).1 (own_ne FD.out hRd (by decide))).trans hRd
                          have hdw := (HDC.out i hlt).2
                          have hcd : ∀ w8, Below W.heap.size W w8 → w8.cell? ⟨db, doff + i, none⟩ = some (.int .i64 d) := fun w8 hb => by
                            have hq := ((b0.trans (hb.mono b0.size)).cell (cell_lt hdw)).trans hdw
                            rw [HDD.out] at hq
                            exact hq
                          have r0 := cell_of_row _ _ 0 _ _ _ hRd
                          have r1 := cell_of_row _ _ 1 _ _ _ hRd
                          simp only [List.getElem?_toArray, List.getElem?_cons_zero, List.getElem?_cons_succ] at r0 r1
                          have hk0 : ∀ w8 : World, Below wv.drew.heap.size wv.drew w8 → w8.cell? ⟨R, 0, none⟩ = some (.string p.st) ∧ w8.cell? ⟨R, 1, none⟩ = some (.int .i64 p.ix) := fun w8 hb =>
                            ⟨(hb.cell (p := ⟨R, 0, none⟩) (cell_lt r0)).trans r0, (hb.cell (p := ⟨R, 1, none⟩) (cell_lt r1)).trans r1⟩
                          have s90 := cell_of_row _ _ 0 _ _ _ hR9
                          have s91 := cell_of_row _ _ 1 _ _ _ hR9
                          simp only [List.getElem?_toArray, List.getElem?_cons_zero, List.getElem?_cons_succ] at s90 s91
                          have HS0 := Lib.hid (And.intro (hcd _ FD.below) (hk0 _ (Below.refl _ _)))
                          have hba : Below wv.drew.heap.size wv.drew (wv.drew.alloc (.cells #[.int .i64 d, .string p.st, .int .i64 p.ix] 70)) := (Below.refl _ _).alloc (Nat.le_refl _) _
                          have HS1 := Lib.hid (And.intro (hcd _ (FD.below.trans (hba.mono FD.size))) (hk0 _ hba))
                          have HS2' := Lib.hid (And.intro (hcd _ F9.below) (And.intro s90 s91))
                          have FE := F9
                          have hRe := hR9
                          have hHe := hH9'
                          obtain ⟨v8, w8, r8, F8, hH8, o38, ea8, el8, ec8, rfl⟩ := FE.addP hHe p (by rw [HTL.out]; omega)
                          have hR8 := (o38 R (Array.getElem?_eq_some_iff.1 hRe).1 (fun e => HPVR.out R e rfl)).trans hRe
                          have hk3 : ∀ w7 : World, w7.heap[H]? = some (.cells #[.slice (some ⟨nb, no, none⟩) n1 nc, .int .i64 0, .bool false, .slice pva tl pvc, .slice none 0 0] 37) → w7.heap[R]? = some (.cells #[.string p.st, .int .i64 p.ix] 68) → w7.cell? ⟨H, 3, none⟩ = some (.slice pva tl pvc) ∧ w7.cell? ⟨R, 0, none⟩ = some (.string p.st) ∧ w7.cell? ⟨R, 1, none⟩ = some (.int .i64 p.ix) := fun w7 h1 h2 => by
                            have x3 := cell_of_row _ _ 3 _ _ _ h1
                            have x0 := cell_of_row _ _ 0 _ _ _ h2
                            have x1 := cell_of_row _ _ 1 _ _ _ h2
                            simp only [List.getElem?_toArray, List.getElem?_cons_zero, List.getElem?_cons_succ] at x3 x0 x1
                            exact ⟨x3, x0, x1⟩
                          have hbe2 : Below w9.heap.size w9 (w9.alloc (.cells #[.string p.st, .int .i64 p.ix] 68)) := (Below.refl _ _).alloc (Nat.le_refl _) _
                          have HT1 := Lib.hid (hk3 _ hHe hRe)
                          have HT2 := Lib.hid (hk3 _ ((hbe2.block H (Array.getElem?_eq_some_iff.1 hHe).1).trans hHe) ((hbe2.block R (Array.getElem?_eq_some_iff.1 hRe).1).trans hRe))
                          have HT3 := Lib.hid (hk3 _ hH8 hR8)
                          have hRH : R ≠ H := fun e => by rw [e, hHe] at hRe; cases hRe
                          have hRs := (setCell_other w8 (b := H) (i := 3) (.slice ea8 el8 ec8) hRH).trans hR8
                          have hHs := setCell_block (i := 3) hH8 (.slice ea8 el8 ec8)
                          have F8' := Lib.hid F8
                          have hf3 : w8.frozen? ⟨H, 3, none⟩ = false := by
                            unfold World.frozen?
                            simp only [hH8]
                            simp
                          have hbz := F8.below
                          clear hRv hHv hRd hHd hH9 hH9' hR9 hcd r0 r1 hk0 s90 s91 hba F9 FE hRe hHe F8 hH8 o38 hR8 hk3 hbe2 FD bD o39 hdw
                          go_wp2
                          refine wp_region_held_drew (S := fun w' => w'.cell? ⟨db, doff + i, none⟩ = some (.int .i64 d) ∧ w'.cell? ⟨R, 0, none⟩ = some (.string p.st) ∧ w'.cell? ⟨R, 1, none⟩ = some (.int .i64 p.ix)) (by kernel_rfl) HS0.out (fun hHeld => ?_)
                          refine wpAnyH_take (i := 0) (v := ?_) rfl (by kernel_rfl) (by kernel_rfl) (by kernel_rfl) (fun _ _ _ h => h) (Or.inl ⟨by rfl, ?_⟩) (by assumption) ?_
                          rotate_left; · (intro w hSw; (try dsimp only at hSw); go_simp; try with_reducible rfl)
                          try simp only [Act.put, List.getElem_toArray, List.getElem_cons_zero, List.getElem_cons_succ, List.setIfInBounds_toArray, List.set_cons_zero, List.set_cons_succ]
                          refine wpAnyH_take (i := 1) (v := ?_) rfl (by kernel_rfl) (by kernel_rfl) (by kernel_rfl) (fun _ _ _ h => h) (Or.inl ⟨by rfl, ?_⟩) (by assumption) ?_
                          rotate_left; · (intro w hSw; (try dsimp only at hSw); go_simp; try with_reducible rfl)
                          try simp only [Act.put, List.getElem_toArray, List.getElem_cons_zero, List.getElem_cons_succ, List.setIfInBounds_toArray, List.set_cons_zero, List.set_cons_succ]
                          refine wpAnyH_take (i := 2) (v := ?_) rfl (by kernel_rfl) (by kernel_rfl) (by kernel_rfl) (fun _ _ _ h => h) (Or.inl ⟨by rfl, ?_⟩) (by assumption) ?_
                          rotate_left; · (intro w hSw; (try dsimp only at hSw); go_simp; try with_reducible rfl)
                          try simp only [Act.put, List.getElem_toArray, List.getElem_cons_zero, List.getElem_cons_succ, List.setIfInBounds_toArray, List.set_cons_zero, List.set_cons_succ]
                          refine wpAnyH_take (i := 3) (v := ?_) rfl (by kernel_rfl) (by kernel_rfl) (by kernel_rfl) (fun _ _ _ h => h) (Or.inl ⟨by rfl, ?_⟩) (by assumption) ?_
                          rotate_left; · (intro w hSw; (try dsimp only at hSw); go_simp; try with_reducible rfl)
                          try simp only [Act.put, List.getElem_toArray, List.getElem_cons_zero, List.getElem_cons_succ, List.setIfInBounds_toArray, List.set_cons_zero, List.set_cons_succ]
                          refine wpAnyH_take (i := 4) (v := ?_) rfl (by kernel_rfl) (by kernel_rfl) (by kernel_rfl) (fun _ _ _ h => h) (Or.inl ⟨by rfl, ?_⟩) (by assumption) ?_
                          rotate_left; · (intro w hSw; (try dsimp only at hSw); go_simp; try with_reducible rfl)
                          try simp only [Act.put, List.getElem_toArray, List.getElem_cons_zero, List.getElem_cons_succ, List.setIfInBounds_toArray, List.set_cons_zero, List.set_cons_succ]
                          refine wpAnyH_take (i := 5) (v := ?_) rfl (by kernel_rfl) (by kernel_rfl) (by kernel_rfl) (fun _ _ _ h => h) (Or.inl ⟨by rfl, ?_⟩) (by assumption) ?_
                          rotate_left; · (intro w hSw; (try dsimp only at hSw); go_simp; try with_reducible rfl)
                          try simp only [Act.put, List.getElem_toArray, List.getElem_cons_zero, List.getElem_cons_succ, List.setIfInBounds_toArray, List.set_cons_zero, List.set_cons_succ]
                          refine wpAnyH_take (i := 6) (v := ?_) rfl (by kernel_rfl) (by kernel_rfl) (by kernel_rfl) (fun _ _ _ h => h) (Or.inl ⟨by rfl, ?_⟩) (by assumption) ?_
                          rotate_left; · (intro w hSw; (try dsimp only at hSw); go_simp; try with_reducible rfl)
                          try simp only [Act.put, List.getElem_toArray, List.getElem_cons_zero, List.getElem_cons_succ, List.setIfInBounds_toArray, List.set_cons_zero, List.set_cons_succ]
                          refine wpAnyH_ready (rs := [7]) (by kernel_rfl) (by simp) ?_
                          refine AllReadyH.cons rfl (fun K hK => ?_) AllReadyH.nil
                          go_simp
                          refine hK.out _ _ HS1.out (fun hNew => ?_)
                          clear hK K hHeld
                          have hHeld := hNew
                          clear hNew
                          try simp only [Act.put, List.getElem_toArray, List.getElem_cons_zero, List.getElem_cons_succ, List.setIfInBounds_toArray, List.set_cons_zero, List.set_cons_succ]
                          refine wpAnyH_ready (rs := [8]) (by kernel_rfl) (by simp) ?_
                          refine AllReadyH.cons rfl (fun K hK => ?_) AllReadyH.nil
                          refine wp_app (.tmp 102) (.tmp 109) 65 rfl _ _ v9 w9 rfl rfl r9 ?_
                          refine hK.out _ _ HS2'.out (fun hNew => ?_)
                          clear hK K hHeld
                          have hHeld := hNew
                          clear hNew
                          try simp only [Act.put, List.getElem_toArray, List.getElem_cons_zero, List.getElem_cons_succ, List.setIfInBounds_toArray, List.set_cons_zero, List.set_cons_succ]
                          refine wpAnyH_take (i := 9) (v := ?_) rfl (by kernel_rfl) (by kernel_rfl) (by kernel_rfl) (fun _ _ _ h => h) (Or.inl ⟨by rfl, ?_⟩) (by assumption) ?_
                          rotate_left; · (intro w hSw; (try dsimp only at hSw); go_simp; try with_reducible rfl)
                          try simp only [Act.put, List.getElem_toArray, List.getElem_cons_zero, List.getElem_cons_succ, List.setIfInBounds_toArray, List.set_cons_zero, List.set_cons_succ]
                          refine wpAnyH_done (by kernel_rfl) ?_ _
                          obtain ⟨t13, t10, t11⟩ := HT1.out
                          obtain ⟨t33, t30, t31⟩ := HT3.out
                          go_wp2_with (at_builtin; refine wpList_append_run (by rfl) (.tmp 112) (.tmp 114) 23 (by rfl) _ (.slice (some ⟨w9.heap.size, 0, none⟩) 1 1) (.slice ea8 el8 ec8) w8 (by rfl) (by rfl) r8 ?_)
                          go_roundg g2
                          case measure => omega
                          case rel => exact ⟨k + 1, by omega, by go_num, by rw [HTKS.out, HNEW.out]; exact F8'.out⟩
                      · have k1 : decide (nd > 0) = false := decide_eq_false hnd
                        have k2 := str_eq s1 p.st
                        rw [decide_eq_true hs1] at k2
                        have HWN := Lib.hid (show wantN g tk.1 p n = false by rw [HW.out]; rw [show decide (0 < nd) = false from decide_eq_false hnd]; simp)
                        clear hnd
                        go_wp2
                        go_quiet (fail)
                        go_wp2
                        go_roundg g3
                        case measure => omega
                        case rel => exact ⟨n + 1, by omega, by go_num, FN.out.step (below_drewN (Below.refl _ _) _), hbn.trans ((below_drewN (Below.refl _ _) _).mono zn), fun m hm => by
                          by_cases e : m = n
                          · rw [e]; exact HWN.out
                          · exact HNO.out m (by omega)⟩
                    · have k2 := str_eq s1 p.st
                      rw [decide_eq_false hs1] at k2
                      have HWN := Lib.hid (show wantN g tk.1 p n = false by rw [HW.out, decide_eq_false hs1]; rfl)
                      clear hs1
                      go_wp2
                      go_quiet (fail)
                      go_wp2
                      go_roundg g3
                      case measure => omega
                      case rel => exact ⟨n + 1, by omega, by go_num, FN.out.step (below_drewN (Below.refl _ _) _), hbn.trans ((below_drewN (Below.refl _ _) _).mono zn), fun m hm => by
                        by_cases e : m = n
                        · rw [e]; exact HWN.out
                        · exact HNO.out m (by omega)⟩

end Go.Proofs.Ytapjgjjmlbhanaa
