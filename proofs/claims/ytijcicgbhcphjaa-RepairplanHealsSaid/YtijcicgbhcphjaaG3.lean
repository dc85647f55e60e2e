/- Plan, walked. -/
import Derived.Test.YtijcicgbhcphjaaG1
namespace Go.Proofs.Ytijcicgbhcphjaa
open Go.RowKit Go.Lib Go.ChangeMaps
set_option linter.unusedSimpArgs false

theorem mk_from (w : World) (n : Nat) (hn : n ≤ 256) : ∃ w', (Instr.makeSlice 92 (.int .i64 n) (.int .i64 n)).run Try.prog w = .ok (.slice (some ⟨w.heap.size, 0, none⟩) n n) w' ∧
    Own w' w.heap.size 24 (.slice (some ⟨w.heap.size, 0, none⟩) n n) 1 n (fun _ _ => .slice none 0 0) ∧ Below w.heap.size w w' := by
  have hi : (Try.prog.info? 24).map (fun i => (i.zero, i.size, i.bytes)) = some (some (.slice none 0 0), 1, 24) := by kernel_rfl
  obtain ⟨i, h1, h2, h3, h4⟩ := info_parts hi
  obtain ⟨w', r, o, g⟩ := run_makeSlice_full (P := Try.prog) w w.heap.size 92 24 i (.slice none 0 0) 1 Try.underlying92 h1 h2 h3 .i64 .i64 n (by omega) (by rw [h4]; omega) (by unfold maxLen; omega) (Nat.le_refl _)
  refine ⟨w', r, ⟨_, o, fun i j hi hj => ?_⟩, ⟨g.os, g.tape, g.output, g.size, fun b hb => g.block b hb (by simp)⟩⟩
  have hj0 : j = 0 := by omega
  subst hj0
  rw [Nat.mul_one, Nat.add_zero]
  simp [madeCells, Value.cells, hi]
  rw [Nat.mod_one]
  rfl

/-- The rows from which the plan computes, the first j of them. -/
structure FromAt (w : World) (B : Nat) (v : Value) (vs : List Value) (V : Vp) (gone : Nat → Bool) (j : Nat) : Prop where
  own : Own w B 24 v 1 V.held.length (fun i _ => vs.getD i undef)
  len : vs.length = V.held.length
  done : ∀ k, k < j → k < V.held.length → OwnI w B (vs.getD k undef) (fromL V gone k)
  rest : ∀ k, j ≤ k → k < V.held.length → vs.getD k undef = .slice none 0 0
theorem FromAt.below {w w' : World} {B : Nat} {v : Value} {vs : List Value} {V : Vp} {gone : Nat → Bool} {j : Nat} (h : FromAt w B v vs V gone j) (hb : Below w.heap.size w w') : FromAt w' B v vs V gone j :=
  ⟨h.own.below hb, h.len, fun k h1 h2 => OwnI.below (h.done k h1 h2) hb, h.rest⟩
theorem FromAt.keep {w w' : World} {lo hi B : Nat} {v : Value} {vs : List Value} {V : Vp} {gone : Nat → Bool} {j : Nat} (h : FromAt w B v vs V gone j) (hk : Keep lo hi w w') (hb : hi ≤ B) : FromAt w' B v vs V gone j :=
  ⟨h.own.keep hk hb, h.len, fun k h1 h2 => Own.keep (h.done k h1 h2) hk hb, h.rest⟩
theorem FromAt.skip {w : World} {B : Nat} {v : Value} {vs : List Value} {V : Vp} {gone : Nat → Bool} {j : Nat} (h : FromAt w B v vs V gone j) (hj : j < V.held.length) (hf : fromL V gone j = []) : FromAt w B v vs V gone (j + 1) := by
  refine ⟨h.own, h.len, fun k h1 h2 => ?_, fun k h1 h2 => h.rest k (by omega) h2⟩
  by_cases e : k = j
  · subst e
    rw [h.rest k (Nat.le_refl _) hj, hf]
    exact OwnI.nil _ _
  · exact h.done k (by omega) h2
theorem FromAt.set {w : World} {B : Nat} {v : Value} {vs : List Value} {V : Vp} {gone : Nat → Bool} {j : Nat} (h : FromAt w B v vs V gone j) (hj : j < V.held.length) (u : Value) (hu : OwnI w B u (fromL V gone j)) :
    ∃ g c, v = .slice (some ⟨g, 0, none⟩) V.held.length c ∧ V.held.length ≤ c ∧ B ≤ g ∧ g < w.heap.size ∧ w.frozen? ⟨g, j, none⟩ = false ∧ w.cell? ⟨g, j, none⟩ = some (.slice none 0 0) ∧ FromAt (w.setCell ⟨g, j, none⟩ u) B v (vs.set j u) V gone (j + 1) := by
  have hjl : j < vs.length := by rw [h.len]; exact hj
  obtain ⟨g, c, e, h1, h2, h3, h4, h5, h6⟩ := h.own.set (i := j) (j := 0) hj (by omega) u (fun i _ => (vs.set j u).getD i undef) (fun i' j' _ hj' => by
    have : j' = 0 := by omega
    subst this
    by_cases e : i' = j
    · subst e; rw [getD_set_self _ _ _ _ hjl]; simp
    · rw [getD_set_ne _ _ _ e]; simp [e])
  simp only [Nat.mul_one, Nat.add_zero] at h4 h5 h6
  rw [h.rest j (Nat.le_refl _) hj] at h5
  subst e
  have hk : ∀ {y : Value} {ds : List Int}, OwnI w B y ds → OwnI (w.setCell ⟨g, j, none⟩ u) B y ds := fun o => Own.same o fun q hq => setCell_other w u (fun e => by
    subst e
    exact own_apart' h.own o (by decide) q rfl hq)
  refine ⟨g, c, rfl, h3, h1, h2, h4, h5, h6, by rw [List.length_set]; exact h.len, fun k hk1 hk2 => ?_, fun k hk1 hk2 => ?_⟩
  · by_cases e : k = j
    · subst e; rw [getD_set_self _ _ _ _ hjl]; exact hk hu
    · rw [getD_set_ne _ _ _ e]; exact hk (h.done k (by omega) hk2)
  · rw [getD_set_ne _ _ _ (by omega)]; exact h.rest k (by omega) hk2

theorem merge3 {goal : Prop} {M : Option Addr → Nat → Nat → World → Prop} {F : Option Addr → Nat → Nat → World → Prop} (hb : (∀ a b c d, F a b c d → M a b c d) → goal) (hk : ∀ a b c d, F a b c d → M a b c d) : goal := hb hk
theorem five_set {w : World} {g : Nat} {z0 z1 z2 z3 z4 : Value} {t : TypeId} (h : w.heap[g]? = some (.cells #[z0, z1, z2, z3, z4] t (0, 0))) (a b c d e : Value) :
    (((((w.setCell ⟨g, 0, none⟩ a).setCell ⟨g, 1, none⟩ b).setCell ⟨g, 2, none⟩ c).setCell ⟨g, 3, none⟩ d).setCell ⟨g, 4, none⟩ e).heap[g]? = some (.cells #[a, b, c, d, e] t (0, 0)) ∧
    (∀ q, q ≠ g → (((((w.setCell ⟨g, 0, none⟩ a).setCell ⟨g, 1, none⟩ b).setCell ⟨g, 2, none⟩ c).setCell ⟨g, 3, none⟩ d).setCell ⟨g, 4, none⟩ e).heap[q]? = w.heap[q]?) ∧
    ∀ B w0, B ≤ g → Below B w0 w → Below B w0 (((((w.setCell ⟨g, 0, none⟩ a).setCell ⟨g, 1, none⟩ b).setCell ⟨g, 2, none⟩ c).setCell ⟨g, 3, none⟩ d).setCell ⟨g, 4, none⟩ e) := by
  refine ⟨setCell_block (setCell_block (setCell_block (setCell_block (setCell_block h a) b) c) d) e, fun q hq => ?_, fun B w0 hB hb => ?_⟩
  · rw [setCell_other _ _ hq, setCell_other _ _ hq, setCell_other _ _ hq, setCell_other _ _ hq, setCell_other _ _ hq]
  · exact ((((hb.setCell hB _).setCell hB _).setCell hB _).setCell hB _).setCell hB _

theorem FromAt.same47 {w w' : World} {B : Nat} {v v14 : Value} {vs : List Value} {V : Vp} {gone : Nat → Bool} {j n : Nat} {f : Nat → Nat → Value} (h : FromAt w B v vs V gone j) (ho : Own w B 47 v14 5 n f)
    (hs : ∀ b, b < w.heap.size → v14.ownBlock ≠ some b → w'.heap[b]? = w.heap[b]?) : FromAt w' B v vs V gone j := by
  have hk : ∀ {e : TypeId} {y : Value} {k m : Nat} {q : Nat → Nat → Value}, Own w B e y k m q → 47 ≠ e → Own w' B e y k m q := fun o he => o.same fun g hg => hs g (o.lt g hg).2 (fun e => own_apart' ho o he g e hg)
  exact ⟨hk h.own (by decide), h.len, fun k h1 h2 => hk (h.done k h1 h2) (by decide), h.rest⟩

theorem StAt.same47 {w w' : World} {lo hi p B : Nat} {V : Vp} {gone : Nat → Bool} {v14 : Value} {n : Nat} {f : Nat → Nat → Value} (h : StAt w lo hi p V gone) (ho : Own w B 47 v14 5 n f)
    (hs : ∀ b, b < w.heap.size → v14.ownBlock ≠ some b → w'.heap[b]? = w.heap[b]?) : StAt w' lo hi p V gone := by
  obtain ⟨⟨mv, hv, rv, wv, gv, mp, xs, h1, h2, h3⟩, h4⟩ := h
  have hk : ∀ {b : Nat} {e : TypeId} {y : Value} {k m : Nat} {q : Nat → Nat → Value}, Own w b e y k m q → 47 ≠ e → Own w' b e y k m q := fun o he => o.same fun g hg => hs g (o.lt g hg).2 (fun e => own_apart' ho o he g e hg)
  refine ⟨⟨mv, hv, rv, wv, gv, mp, xs, ⟨?_, ⟨hk h1.vw.m (by decide), hk h1.vw.h (by decide), hk h1.vw.r (by decide), hk h1.vw.wt (by decide), h1.vw.len, h1.vw.jn, fun k hkk => hk (h1.vw.rf k hkk) (by decide), fun k hkk => hk (h1.vw.at_ k hkk) (by decide), h1.vw.apRW, h1.vw.apRA, h1.vw.apWA, h1.vw.apAA⟩, hk h1.gn (by decide), ?_, h1.lop, h1.lom⟩, h2, h3⟩, h4⟩
  · exact (hs p (Array.getElem?_eq_some_iff.1 h1.blk).1 (own_ne ho h1.blk (by decide))).trans h1.blk
  · exact (hs mp (Array.getElem?_eq_some_iff.1 h1.mpb).1 (own_ne_map ho h1.mpb)).trans h1.mpb

set_option maxRecDepth 100000 in
set_option maxHeartbeats 8000000 in
theorem plan_any (v lv : Value) (V : Vp) (ls : List Int) (w : World) (hv : VwAt w v V) (hl : ReadsI w lv ls) (hrf : ∀ h ∈ V.held, h.refs.length ≤ 1000) :
    Calls Try.prog 17 #[v, lv] w fun e w' => Below w.heap.size w w' ∧ ((¬ Fits V ls ∧ e = .returned (.tuple #[.slice none 0 0, .int .i64 1])) ∨
      (Fits V ls ∧ ∃ u, e = .returned (.tuple #[u, .int .i64 0]) ∧ OwnJ w' w.heap.size u (planR V (goneB V.mem ls)).2)) := by
  have hA := fun o => (Below.refl w.heap.size w).alloc (Nat.le_refl _) o
  have CR := Lib.hid (fun o => read_any v lv V ls (w.alloc o) (hv.below (hA o)) (hl.below (hA o)) hrf)
  have HA := Lib.hid hA
  obtain ⟨ma, mc, ha, hc, ra, rl, rc, wa, wl, wc, rfl⟩ := hv.val
  obtain ⟨la, lc, _, _, rfl, -⟩ := hl.at
  clear hA hv hl
  obtain ⟨nh, hnh⟩ : ∃ nh, nh = V.held.length := ⟨_, rfl⟩
  have HNH := Lib.hid hnh
  rw [← hnh] at CR ⊢
  clear hnh
  generalize goneB V.mem ls = gone at *
  generalize V.mem.length = ml at *
  generalize ls.length = ll at *
  go_enter Try.func17, Try.ntmps17
  go_wp2_with fail
  refine (CR.out _).mono ?_
  rintro e w3 ⟨hb3, hcase⟩
  have hb1 := HA.out (.cells #[.slice ma ml mc, .slice ha nh hc, .slice ra rl rc, .slice wa wl wc] 26)
  have hbw := hb1.trans (hb3.mono hb1.size)
  obtain ⟨lo, hlo⟩ : ∃ lo, lo = (w.alloc (.cells #[.slice ma ml mc, .slice ha nh hc, .slice ra rl rc, .slice wa wl wc] 26)).heap.size := ⟨_, rfl⟩
  have hlw : w.heap.size ≤ lo := by rw [hlo, World.size_alloc]; omega
  rw [← hlo] at hcase hb3
  have hl3 := hb3.size
  rw [← hlo] at hl3
  have HB3 := Lib.hid hb3
  clear hb3 hb1
  rcases hcase with ⟨hno, rfl⟩ | ⟨hfit, p, rfl, hp, hst⟩
  · have HNO := Lib.hid hno
    clear hno hlo
    go_wp2
    refine bodyPost_ret (results_tmp2 Try.results17 _ _ _) rfl ?_
    exact ⟨by (repeat' (first | (with_reducible exact Below.refl _ _) | (with_reducible assumption) | (with_reducible refine Below.alloc ?_ ?_ _) | (with_reducible refine Below.drew ?_) | (with_reducible refine below_drewN ?_ _) | (with_reducible refine Below.setCell ?_ ?_ _) | (with_reducible refine below_step ?_ (by with_reducible assumption) ?_) | go_size)), .inl ⟨HNO.out, rfl⟩⟩
  · have HFIT := Lib.hid hfit
    have h256 : nh ≤ 256 := by rw [HNH.out]; exact hfit.1.1.2
    have HST := Lib.hid hst
    have HLO := Lib.hid hlo
    have plt := cell_lt hst.at.choose_spec.choose_spec.choose_spec.choose_spec.choose_spec.choose_spec.1
    clear hlo hfit
    have hA4 : Below w3.heap.size w3 (w3.alloc (.cells #[.pointer (some ⟨p, 0, none⟩)] 89)) := (Below.refl _ _).alloc (Nat.le_refl _) _
    obtain ⟨w5, r5, o5, b5⟩ := mk_from (w3.alloc (.cells #[.pointer (some ⟨p, 0, none⟩)] 89)) nh h256
    have hz4 : (w3.alloc (.cells #[.pointer (some ⟨p, 0, none⟩)] 89)).heap.size = w3.heap.size + 1 := World.size_alloc _ _
    have s4 : (w3.alloc (.cells #[.pointer (some ⟨p, 0, none⟩)] 89)).cell? ⟨w3.heap.size, 0, none⟩ = some (.pointer (some ⟨p, 0, none⟩)) := cell_of_row _ _ 0 _ _ _ (heap_alloc_new _ _)
    rw [hz4] at r5 o5
    have hb35 := hA4.trans (b5.mono hA4.size)
    have hs5 := (b5.cell (p := ⟨w3.heap.size, 0, none⟩) (cell_lt s4)).trans s4
    have hst5 := hst.below hb35
    obtain ⟨mv, hv, rv, wv, gv, mp, c0, c1, c2, c3, c4, c5, hM, hH, hR, hW, hG, hmp⟩ := hst.at
    obtain ⟨xa, xc, xb, xo, rfl, xl, xm, xcell⟩ := hH.at
    have XC := Lib.hid xcell
    clear xcell
    have c1' := (hA4.cell (p := ⟨p, 1, none⟩) plt).trans c1
    have c1'' := (hb35.cell (p := ⟨p, 1, none⟩) plt).trans c1
    rw [← HNH.out] at c1' c1'' xl
    have hfr0 : FromAt w5 (w3.heap.size + 1) (.slice (some ⟨w3.heap.size + 1, 0, none⟩) nh nh) (List.replicate nh (.slice none 0 0)) V gone 0 := by
      refine ⟨by rw [← HNH.out]; exact o5.congr fun i j hi _ => by simp [List.getD, hi], by rw [List.length_replicate, HNH.out], fun k hk => by omega, fun k _ hk => ?_⟩
      rw [← HNH.out] at hk
      simp [List.getD, hk]
    have HFR0 := Lib.hid hfr0
    have HST5 := Lib.hid hst5
    clear hst hst5 hfr0 o5 hM hH hR hW hG hmp c0 c1 c2 c3 c4 c5 hA4 b5 s4
    go_wp2
    generalize hB : w3.heap.size + 1 = B at *
    have HBE := Lib.hid hB
    have hB3 : w3.heap.size ≤ B := by omega
    have hS3 : w3.heap.size < B := by omega
    clear hB
    go_loopw [42, 9, 10, 11, 12] (fun v42 _ _ _ _ wr => ∃ (j : Nat) (vs : List Value), j ≤ nh ∧ v42 = .int .i64 j ∧ Below w3.heap.size w3 wr ∧ wr.cell? ⟨w3.heap.size, 0, none⟩ = some (.pointer (some ⟨p, 0, none⟩)) ∧ B ≤ wr.heap.size ∧
      FromAt wr B (.slice (some ⟨B, 0, none⟩) nh nh) vs V gone j) (fun v42 _ _ _ _ _ => nh - (intOf v42).toNat)
    case atStart => exact ⟨0, _, Nat.zero_le _, rfl, hb35, hs5, by have := cell_lt hs5; have := HBE.out; omega, HFR0.out⟩
    case round =>
      obtain ⟨j, vs, hj, rfl, hbel, hs, hBw, hfr⟩ := hrel
      have HFR := Lib.hid hfr
      have hsl := cell_lt hs
      have hbwr := hbw.trans (HB3.out.trans (hbel.mono hl3) |>.mono hlw |> fun h => (hbel.mono (Nat.le_trans hlw hl3)))
      clear hfr hs5 hb35
      by_cases hlt : j < nh
      · have hjl : j < V.held.length := by rw [← HNH.out]; exact hlt
        obtain ⟨e1, e2, e3, e4, e5, e6, xr, av, e7, e8, hrr, hra⟩ := XC.out j hjl
        subst e1
        obtain ⟨qa, qc, _, _, rfl, -⟩ := hrr.at
        obtain ⟨aa, ac, _, _, rfl, -⟩ := hra.at
        clear hrr hra
        have HOK := Lib.hid (HFIT.out.1.small.2.2.2.2 j hjl)
        have hdt : 1 ≤ (V.held.getD j default).data ∧ (V.held.getD j default).data ≤ 8 := HOK.out.2.1
        have h16 : (leftI gone (V.held.getD j default).at_).length ≤ 16 := Nat.le_trans (leftI_len _ _) HOK.out.at_small.1
        have hfl : fromL V gone j = if (V.held.getD j default).data ≤ (leftI gone (V.held.getD j default).at_).length then (leftI gone (V.held.getD j default).at_).take (V.held.getD j default).data.toNat else [] := rfl
        have HFL := Lib.hid hfl
        have hA := fun o => (Below.refl wr.heap.size wr).alloc (Nat.le_refl _) o
        have CL := Lib.hid (fun o => left_any j (wr.alloc o) (HST.out.below (hbel.trans ((hA o).mono hbel.size))) hjl)
        have HA := Lib.hid hA
        have HKB := Lib.hid (fun o => heap_alloc_new wr o)
        clear hfl hA
        rw [← hbel.cell (p := ⟨xb, _, none⟩) (cell_lt e2)] at e2
        rw [← hbel.cell (p := ⟨xb, _, none⟩) (cell_lt e3)] at e3
        rw [← hbel.cell (p := ⟨xb, _, none⟩) (cell_lt e4)] at e4
        rw [← hbel.cell (p := ⟨xb, _, none⟩) (cell_lt e5)] at e5
        rw [← hbel.cell (p := ⟨xb, _, none⟩) (cell_lt e6)] at e6
        rw [← hbel.cell (p := ⟨xb, _, none⟩) (cell_lt e7)] at e7
        rw [← hbel.cell (p := ⟨xb, _, none⟩) (cell_lt e8)] at e8
        generalize (V.held.getD j default).refs.length = ql at *
        generalize (V.held.getD j default).at_.length = al at *
        generalize (V.held.getD j default).vault = vault at *
        generalize (V.held.getD j default).block = block at *
        generalize (V.held.getD j default).total = total at *
        generalize (V.held.getD j default).id = id at *
        generalize (V.held.getD j default).data = data at *
        generalize (V.held.getD j default).at_ = zs at *
        go_wp2_with fail
        refine (CL.out _).mono ?_
        rintro e w6 ⟨u1, u2, rfl, o1, o2, hb6⟩
        have hAo := HA.out (.cells #[.string id, .int .i64 vault, .int .i64 block, .int .i64 data, .int .i64 total, .slice qa ql qc, .slice aa al ac] 52)
        have k3 := cell_of_row _ _ 3 _ _ _ ((hb6.block wr.heap.size (by rw [World.size_alloc]; omega)).trans (HKB.out (.cells #[.string id, .int .i64 vault, .int .i64 block, .int .i64 data, .int .i64 total, .slice qa ql qc, .slice aa al ac] 52)))
        have hwr6 := hAo.trans (hb6.mono hAo.size)
        have hs6 := (hwr6.cell (p := ⟨w3.heap.size, 0, none⟩) (cell_lt hs)).trans hs
        have HF6 := Lib.hid (HFR.out.below hwr6)
        have hb36 := hbel.trans (hwr6.mono hbel.size)
        have ou := Own.base o1 (show B ≤ (wr.alloc (.cells #[.string id, .int .i64 vault, .int .i64 block, .int .i64 data, .int .i64 total, .slice qa ql qc, .slice aa al ac] 52)).heap.size by rw [World.size_alloc]; omega)
        have hz6 := hwr6.size
        obtain ⟨u1a, u1c, rfl⟩ := OwnI.slice o1
        obtain ⟨u2a, u2c, rfl⟩ := OwnI.slice o2
        have HOU := Lib.hid (show OwnI w6 B (.slice u1a (leftI gone zs).length u1c) (leftI gone zs) from ou)
        obtain ⟨_, _, e, hcap, _⟩ := Own.row o1 (by omega)
        cases e
        clear o1 o2 ou hb6 hAo CL HA HKB e2 e3 e4 e5 e6 e7 e8 hs HFR
        obtain ⟨ll, hll⟩ : ∃ ll, ll = (leftI gone zs).length := ⟨_, rfl⟩
        rw [← hll] at h16 hcap ⊢
        have HLL := Lib.hid hll
        clear hll
        generalize (otherI gone zs).length = ol at *
        by_cases k1 : data ≤ ll
        · have q1 : decide (data ≤ (ll : Int)) = true := decide_eq_true k1
          rw [if_pos (by rw [← HLL.out]; exact k1)] at HFL
          obtain ⟨d, rfl⟩ : ∃ d : Nat, data = d := ⟨data.toNat, by omega⟩
          rw [Int.toNat_natCast] at HFL
          have hdl : d ≤ ll := by omega
          have hdc : d ≤ u1c := by omega
          have ht := HOU.out.take d (by rw [← HLL.out]; exact hdl)
          rw [← HFL.out] at ht
          obtain ⟨g8, c8, e8', hc8, hg8, hz8, fz8, cc8, hF8⟩ := HF6.out.set hjl (.slice u1a d u1c) ht
          cases e8'
          have HF8 := Lib.hid hF8
          have hk8 : (w6.setCell ⟨B, j, none⟩ (.slice u1a d u1c)).cell? ⟨w3.heap.size, 0, none⟩ = some (.pointer (some ⟨p, 0, none⟩)) := (world_off (by omega) _ _).trans hs6
          have HK8 := Lib.hid hk8
          clear hF8 ht hk8 k1
          go_wp2
          go_roundw
          case rel => exact ⟨j + 1, _, by omega, by go_num, Below.setCell hb36 hB3 _, HK8.out, by rw [setCell_size]; omega, HF8.out⟩
          case measure => simp [intOf]; omega
        · have q1 : decide (data ≤ (ll : Int)) = false := decide_eq_false k1
          rw [if_neg (by rw [← HLL.out]; exact k1)] at HFL
          have HF8 := Lib.hid (HF6.out.skip hjl HFL.out)
          clear k1
          go_wp2
          go_roundw
          case rel => exact ⟨j + 1, _, by omega, by go_num, hb36, hs6, by omega, HF8.out⟩
          case measure => simp [intOf]; omega
      · have hjl : j = nh := by omega
        subst hjl
        have HFR9 := Lib.hid (show FromAt wr B (.slice (some ⟨B, 0, none⟩) j j) vs V gone V.held.length by rw [← HNH.out]; exact HFR.out)
        clear HFR HFR0 XC HST5 hj hlt
        have hst9 := HST.out.below hbel
        have HST9 := Lib.hid hst9
        have hmiss : missN gone V.held ≤ 4096 := by
          have h1 := missN_le gone V.held fun h hh => by
            obtain ⟨k, hk, rfl⟩ := List.getElem_of_mem hh
            rw [← getD_at V.held k default hk]
            exact (HFIT.out.1.small.2.2.2.2 k hk).at_small.1
          rw [← HNH.out] at h1
          omega
        have HMISS := Lib.hid hmiss
        clear hst9 hmiss
        have hsr := hs
        go_wp2
        go_loopw [14, 15] (fun v14 _ wr => ∃ (Vi : Vp) (js : List Jp) (fu : Nat), Below w.heap.size w wr ∧ B ≤ wr.heap.size ∧ StAt wr lo w3.heap.size p Vi gone ∧ Grow V gone Vi ∧ OwnJ wr B v14 js ∧ FromAt wr B (.slice (some ⟨B, 0, none⟩) j j) vs V gone V.held.length ∧
          wr.cell? ⟨w3.heap.size, 0, none⟩ = some (.pointer (some ⟨p, 0, none⟩)) ∧ js.length + missN gone Vi.held = missN gone V.held ∧ missN gone Vi.held + 1 ≤ fu ∧ planF V gone fu Vi js = planR V gone) (fun v14 _ _ => 5000 - lenV v14)
        case atStart => exact ⟨V, [], missN gone V.held + 1, hbwr, hBw, HST9.out, Grow.refl _ _, OwnJ.nil _ _, HFR9.out, hsr, by simp, Nat.le_refl _, rfl⟩
        case round =>
          obtain ⟨Vi, js, fu, hbwi, hBi, hsti, hgr, hoj, hfri, hsi, hjm, hfu, hpl⟩ := hrel
          clear hbel hs hBw hbwr hsr hsl HST9
          have HSTI := Lib.hid hsti
          have hlen : Vi.held.length = j := hgr.len.trans HNH.out.symm
          obtain ⟨mv, hv, rv, wv, gv, mp, c0, c1, c2, c3, c4, c5, hM, hH, hR, hW, hG, hmp⟩ := hsti.at
          obtain ⟨ya, yc, yb, yo, rfl, yl, ym, ycell⟩ := hH.at
          rw [hlen] at c1 yl ym ycell
          have YC := Lib.hid ycell
          have hpl1 := cell_lt c1
          have hsl := cell_lt hsi
          have HB := Lib.hid (best42_any j (openB Vi gone) (btS Vi gone) w3.heap.size wr (by omega)
            (fun i hi W hW => open42_any i w3.heap.size W (HSTI.out.below hW) (by rw [hlen]; exact hi) ((hW.cell (cell_lt hsi)).trans hsi))
            (fun i k hi hk W hW => less46_any i k w3.heap.size W (HSTI.out.below hW) (by rw [hlen]; exact hi) (by rw [hlen]; exact hk) ((hW.cell (cell_lt hsi)).trans hsi)))
          have hpi : bestTo (openB Vi gone) (btS Vi gone) j = placeI Vi gone := by unfold placeI; rw [hlen]
          rw [hpi] at HB
          have hrange := bestTo_range (openB Vi gone) (btS Vi gone) j
          have hallow := bestTo_allowed (openB Vi gone) (btS Vi gone) j
          rw [hpi] at hrange hallow
          have hnext : nextJ V gone Vi = if placeI Vi gone < 0 then none else some (jobK V gone Vi (placeI Vi gone).toNat) := rfl
          have HNX := Lib.hid hnext
          have HAL := Lib.hid hallow
          have HPL := Lib.hid hpl
          have HJM := Lib.hid hjm
          have HFU := Lib.hid hfu
          have HGR := Lib.hid hgr
          have HOJ := Lib.hid hoj
          have HFI := Lib.hid hfri
          have HLEN := Lib.hid hlen
          have hjs : js.length ≤ 4096 := by have := HMISS.out; omega
          obtain ⟨ja, jc, rfl⟩ := hoj.slice (by omega)
          clear hM hH hR hW hG hmp c0 c2 c3 c4 c5 ycell hsti hnext hallow hpl hjm hfu hgr hoj hfri hpi hlen
          generalize placeI Vi gone = pi at *
          go_wp2_with fail
          refine HB.out.mono ?_
          rintro e w6 ⟨rfl, hb6⟩
          by_cases k1 : pi < 0
          · have q1 : decide (pi < 0) = true := decide_eq_true k1
            have hfin : (planR V gone).2 = js := by
              rw [← HPL.out]
              rw [if_pos k1] at HNX
              cases fu with
              | zero => rfl
              | succ n => unfold planF; rw [HNX.out]
            have HFIN := Lib.hid hfin
            clear k1 hfin
            go_wp2
            refine bodyPost_ret (results_tmp2 Try.results17 _ _ _) rfl ?_
            exact ⟨hbwi.trans (hb6.mono hbwi.size), .inr ⟨HFIT.out, _, rfl, by rw [HFIN.out]; exact (HOJ.out.below hb6).lower (by omega)⟩⟩
          · obtain ⟨k, rfl⟩ : ∃ k : Nat, pi = k := ⟨pi.toNat, by omega⟩
            have hkj : k < j := by omega
            have hop : openB Vi gone k = true := HAL.out (by omega)
            rw [if_neg k1, Int.toNat_natCast] at HNX
            have q1 : decide ((k : Int) < 0) = false := decide_eq_false k1
            have hkl : k < Vi.held.length := by rw [HLEN.out]; exact hkj
            have hposs := (jobK_poss HSTI.out.2.1 HGR.out hkl hop).1
            have hgstep := HGR.out.step HSTI.out.2.1 hkl hop
            have HPO := Lib.hid hposs
            have HGS := Lib.hid hgstep
            have HOP := Lib.hid (openB_true hop)
            obtain ⟨e1, e2, e3, e4, e5, e6, xr, av, e7, e8, hrr, hra⟩ := YC.out k hkj
            subst e1
            obtain ⟨qa, qc, _, _, rfl, -⟩ := hrr.at
            have hsm := (HSTI.out.2.1.small.2.2.2.2 k hkl).at_small.1
            clear hrr hra hposs hgstep hop hrange HAL e8
            have hbw6 := hbwi.trans (hb6.mono hbwi.size)
            have c1 := (hb6.cell (p := ⟨p, 1, none⟩) hpl1).trans c1
            have hs6 := (hb6.cell (p := ⟨w3.heap.size, 0, none⟩) hsl).trans hsi
            have e2 := (hb6.cell (p := ⟨yb, _, none⟩) (cell_lt e2)).trans e2
            have e3 := (hb6.cell (p := ⟨yb, _, none⟩) (cell_lt e3)).trans e3
            have e4 := (hb6.cell (p := ⟨yb, _, none⟩) (cell_lt e4)).trans e4
            have e5 := (hb6.cell (p := ⟨yb, _, none⟩) (cell_lt e5)).trans e5
            have e6 := (hb6.cell (p := ⟨yb, _, none⟩) (cell_lt e6)).trans e6
            have e7 := (hb6.cell (p := ⟨yb, _, none⟩) (cell_lt e7)).trans e7
            have z6 := hb6.size
            have hpl6 := cell_lt c1
            have hsl6 := cell_lt hs6
            have HST6 := Lib.hid (HSTI.out.below hb6)
            have HOJ6 := Lib.hid (HOJ.out.below hb6)
            have HFI6 := Lib.hid (HFI.out.below hb6)
            have hA := fun o => (Below.refl w6.heap.size w6).alloc (Nat.le_refl _) o
            have HA6 := Lib.hid hA
            have CL := Lib.hid (fun o => left_any k (w6.alloc o) (HST6.out.below (hA o)) hkl)
            have HKB := Lib.hid (fun o => heap_alloc_new w6 o)
            have HJB := Lib.hid (show jobK V gone Vi k = ⟨⟨(Vi.held.getD k default).id, (otherI gone (Vi.held.getD k default).at_).getD 0 0⟩, fromL V gone k, targetI Vi gone k, (Vi.held.getD k default).block⟩ from rfl)
            have hol := HOP.out.2.1
            have hol16 : (otherI gone (Vi.held.getD k default).at_).length ≤ 16 := Nat.le_trans (otherTo_len _ _ _) hsm
            clear hb6 hA hsi
            generalize (Vi.held.getD k default).refs.length = ql at *
            generalize (Vi.held.getD k default).vault = vault at *
            generalize (Vi.held.getD k default).block = block at *
            generalize (Vi.held.getD k default).total = total at *
            generalize (Vi.held.getD k default).id = id at *
            generalize (Vi.held.getD k default).data = data at *
            generalize (Vi.held.getD k default).at_ = zs at *
            go_wp2_with fail
            refine (CL.out _).mono ?_
            rintro e w7 ⟨u1, u2, rfl, o1, o2, hb7⟩
            have hAo := HA6.out (.cells #[.string id, .int .i64 vault, .int .i64 block, .int .i64 data, .int .i64 total, .slice qa ql qc] 50)
            have hz7 := hb7.size
            rw [World.size_alloc] at hz7
            have hkb7 := (hb7.block w6.heap.size (by rw [World.size_alloc]; omega)).trans (HKB.out (.cells #[.string id, .int .i64 vault, .int .i64 block, .int .i64 data, .int .i64 total, .slice qa ql qc] 50))
            have hw67 := hAo.trans (hb7.mono hAo.size)
            have hs7 := (hw67.cell (p := ⟨w3.heap.size, 0, none⟩) (cell_lt hs6)).trans hs6
            have hbw7 := hbw6.trans (hw67.mono hbw6.size)
            have HST7 := Lib.hid (HST6.out.below hw67)
            have HOJ7 := Lib.hid (HOJ6.out.below hw67)
            have HFI7 := Lib.hid (HFI6.out.below hw67)
            obtain ⟨u1a, u1c, rfl⟩ := OwnI.slice o1
            have ho2 := OwnI.reads o2 (by omega)
            obtain ⟨u2a, u2c, u2b, u2o, rfl, -, -, ocell⟩ := ho2.at
            obtain ⟨e9, o9⟩ := ocell 0 hol
            subst e9
            rw [Nat.add_zero] at o9
            have m0 : w7.drew.cell? ⟨w6.heap.size, 0, none⟩ = some (.string id) := cell_of_row w7 _ 0 _ _ _ hkb7
            have m2 : w7.drew.cell? ⟨w6.heap.size, 2, none⟩ = some (.int .i64 block) := cell_of_row w7 _ 2 _ _ _ hkb7
            have m3 : w7.drew.cell? ⟨u2b, u2o, none⟩ = some (.int .i64 ((otherI gone zs).getD 0 0)) := o9
            have m4 : w7.drew.cell? ⟨w3.heap.size, 0, none⟩ = some (.pointer (some ⟨p, 0, none⟩)) := hs7
            have hfo := HFI7.out.done k (by rw [← HNH.out]; exact hkj) (by rw [← HNH.out]; exact hkj)
            have hfl8 : (fromL V gone k).length ≤ 1000 := by
              have h1 : (leftI gone (V.held.getD k default).at_).length ≤ 16 := Nat.le_trans (leftI_len _ _) ((HFIT.out.1.small.2.2.2.2 k (by rw [← HNH.out]; exact hkj)).at_small.1)
              unfold fromL
              split
              · rw [List.length_take]; omega
              · simp
            have hfr7 : ReadsI w7.drew (vs.getD k undef) (fromL V gone k) := ReadsI.below (OwnI.reads hfo (by omega)) (Below.refl _ _).drew
            have m5 : w7.drew.cell? ⟨B, k, none⟩ = some (vs.getD k undef) := by
              obtain ⟨g, c, e, _, _, _, _, h5, _⟩ := HFI7.out.own.set (i := k) (j := 0) (by rw [← HNH.out]; exact hkj) (by omega) undef (fun i' j' => if i' = k ∧ j' = 0 then undef else vs.getD i' undef) (fun _ _ _ _ => rfl)
              cases e
              simp only [Nat.mul_one, Nat.add_zero] at h5
              exact h5
            obtain ⟨fa, fc, _, _, e10, -⟩ := hfr7.at
            rw [e10] at m5 hfr7
            have CC := Lib.hid (fun W hW => cloneI (.slice fa (fromL V gone k).length fc) _ _ W (RowAt.below hfr7 (w' := W) hW) (fun i j _ _ => rfl) (by omega))
            have CT := Lib.hid (fun W (hW : Below w7.drew.heap.size w7.drew W) => target_any k W ((HST7.out.below (Below.refl _ _).drew).below hW) hkl)
            generalize hol2 : (otherI gone zs).length = ol at *
            generalize (otherI gone zs).getD 0 0 = ix at *
            obtain ⟨fl, hfle⟩ : ∃ fl, fl = (fromL V gone k).length := ⟨_, rfl⟩
            rw [← hfle] at m5 CC hfl8
            have HFLE := Lib.hid hfle
            obtain ⟨tg, htg⟩ : ∃ tg, tg = targetI Vi gone k := ⟨_, rfl⟩
            rw [← htg] at CT HJB
            have HTG := Lib.hid htg
            clear o1 o2 hb7 hAo CL HA6 HKB e2 e3 e4 e5 e6 e7 c1 hs6 ho2 o9 hfo hfr7 hfle htg e10 ocell hkb7
            have hlt0 := cell_lt m0
            have hlt3 := cell_lt m3
            have hlt4 := cell_lt m4
            have hlt5 := cell_lt m5
            have hHS : w7.drew.cell? ⟨w6.heap.size, 0, none⟩ = some (.string id) ∧ w7.drew.cell? ⟨w6.heap.size, 2, none⟩ = some (.int .i64 block) ∧ w7.drew.cell? ⟨u2b, u2o, none⟩ = some (.int .i64 ix) ∧ w7.drew.cell? ⟨w3.heap.size, 0, none⟩ = some (.pointer (some ⟨p, 0, none⟩)) ∧ w7.drew.cell? ⟨B, k, none⟩ = some (.slice fa fl fc) := ⟨m0, m2, m3, m4, m5⟩
            clear m0 m2 m3 m4 m5
            go_upto_region 19 with fail
            refine wp_region_held_drew (S := fun w' => w'.cell? ⟨w6.heap.size, 0, none⟩ = some (.string id) ∧ w'.cell? ⟨w6.heap.size, 2, none⟩ = some (.int .i64 block) ∧ w'.cell? ⟨u2b, u2o, none⟩ = some (.int .i64 ix) ∧ w'.cell? ⟨w3.heap.size, 0, none⟩ = some (.pointer (some ⟨p, 0, none⟩)) ∧ w'.cell? ⟨B, k, none⟩ = some (.slice fa fl fc)) (by kernel_rfl) hHS (fun hHeld => ?_)
            refine wpAnyH_take (i := 0) (v := ?_) rfl (by kernel_rfl) (by kernel_rfl) (by kernel_rfl) (fun _ _ _ h => h) (Or.inl ⟨by rfl, ?_⟩) (by assumption) ?_
            rotate_left; · (intro w hSw; (try dsimp only at hSw); go_simp; try with_reducible rfl)
            try simp only [Act.put, List.getElem_toArray, List.getElem_cons_zero, List.getElem_cons_succ, List.setIfInBounds_toArray, List.set_cons_zero, List.set_cons_succ]
            refine wpAnyH_take (i := 1) (v := ?_) rfl (by kernel_rfl) (by kernel_rfl) (by kernel_rfl) (fun _ _ _ h => h) (Or.inl ⟨by rfl, ?_⟩) (by assumption) ?_
            rotate_left; · (intro w hSw; (try dsimp only at hSw); go_simp; try with_reducible rfl)
            try simp only [Act.put, List.getElem_toArray, List.getElem_cons_zero, List.getElem_cons_succ, List.setIfInBounds_toArray, List.set_cons_zero, List.set_cons_succ]
            refine wpAnyH_take (i := 2) (v := ?_) rfl (by kernel_rfl) (by kernel_rfl) (by kernel_rfl) (fun _ _ _ h => h) (Or.inl ⟨by rfl, ?_⟩) (by assumption) ?_
            rotate_left; · (intro w hSw; (try dsimp only at hSw); go_simp; try with_reducible rfl)
            try simp only [Act.put, List.getElem_toArray, List.getElem_cons_zero, List.getElem_cons_succ, List.setIfInBounds_toArray, List.set_cons_zero, List.set_cons_succ]
            refine wpAnyH_take (i := 3) (v := ?_) rfl (by kernel_rfl) (by kernel_rfl) (by kernel_rfl) (fun _ _ _ h => h) (Or.inl ⟨by rfl, ?_⟩) (by assumption) ?_
            rotate_left; · (intro w hSw; (try dsimp only at hSw); go_simp; try with_reducible rfl)
            try simp only [Act.put, List.getElem_toArray, List.getElem_cons_zero, List.getElem_cons_succ, List.setIfInBounds_toArray, List.set_cons_zero, List.set_cons_succ]
            refine wpAnyH_take (i := 4) (v := ?_) rfl (by kernel_rfl) (by kernel_rfl) (by kernel_rfl) (fun _ _ _ h => h) (Or.inl ⟨by rfl, ?_⟩) (by assumption) ?_
            rotate_left; · (intro w hSw; (try dsimp only at hSw); go_simp; try with_reducible rfl)
            try simp only [Act.put, List.getElem_toArray, List.getElem_cons_zero, List.getElem_cons_succ, List.setIfInBounds_toArray, List.set_cons_zero, List.set_cons_succ]
            refine wpAnyH_take (i := 5) (v := ?_) rfl (by kernel_rfl) (by kernel_rfl) (by kernel_rfl) (fun _ _ _ h => h) (Or.inl ⟨by rfl, ?_⟩) (by assumption) ?_
            rotate_left; · (intro w hSw; (try dsimp only at hSw); go_simp; try with_reducible rfl)
            try simp only [Act.put, List.getElem_toArray, List.getElem_cons_zero, List.getElem_cons_succ, List.setIfInBounds_toArray, List.set_cons_zero, List.set_cons_succ]
            refine wpAnyH_take (i := 6) (v := ?_) rfl (by kernel_rfl) (by kernel_rfl) (by kernel_rfl) (fun _ _ _ h => h) (Or.inl ⟨by rfl, ?_⟩) (by assumption) ?_
            rotate_left; · (intro w hSw; (try dsimp only at hSw); go_simp; try with_reducible rfl)
            try simp only [Act.put, List.getElem_toArray, List.getElem_cons_zero, List.getElem_cons_succ, List.setIfInBounds_toArray, List.set_cons_zero, List.set_cons_succ]
            refine wpAnyH_take (i := 7) (v := ?_) rfl (by kernel_rfl) (by kernel_rfl) (by kernel_rfl) (fun _ _ _ h => h) (Or.inl ⟨by rfl, ?_⟩) (by assumption) ?_
            rotate_left; · (intro w hSw; (try dsimp only at hSw); go_simp; try with_reducible rfl)
            try simp only [Act.put, List.getElem_toArray, List.getElem_cons_zero, List.getElem_cons_succ, List.setIfInBounds_toArray, List.set_cons_zero, List.set_cons_succ]
            refine wpAnyH_take (i := 8) (v := ?_) rfl (by kernel_rfl) (by kernel_rfl) (by kernel_rfl) (fun _ _ _ h => h) (Or.inl ⟨by rfl, ?_⟩) (by assumption) ?_
            rotate_left; · (intro w hSw; (try dsimp only at hSw); go_simp; try with_reducible rfl)
            try simp only [Act.put, List.getElem_toArray, List.getElem_cons_zero, List.getElem_cons_succ, List.setIfInBounds_toArray, List.set_cons_zero, List.set_cons_succ]
            refine wpAnyH_take (i := 9) (v := ?_) rfl (by kernel_rfl) (by kernel_rfl) (by kernel_rfl) (fun _ _ _ h => h) (Or.inl ⟨by rfl, ?_⟩) (by assumption) ?_
            rotate_left; · (intro w hSw; (try dsimp only at hSw); go_simp; try with_reducible rfl)
            try simp only [Act.put, List.getElem_toArray, List.getElem_cons_zero, List.getElem_cons_succ, List.setIfInBounds_toArray, List.set_cons_zero, List.set_cons_succ]
            refine wpAnyH_take (i := 11) (v := ?_) rfl (by kernel_rfl) (by kernel_rfl) (by kernel_rfl) (fun _ _ _ h => h) (Or.inl ⟨by rfl, ?_⟩) (by assumption) ?_
            rotate_left; · (intro w hSw; (try dsimp only at hSw); go_simp; try with_reducible rfl)
            try simp only [Act.put, List.getElem_toArray, List.getElem_cons_zero, List.getElem_cons_succ, List.setIfInBounds_toArray, List.set_cons_zero, List.set_cons_succ]
            refine wpAnyH_take (i := 12) (v := ?_) rfl (by kernel_rfl) (by kernel_rfl) (by kernel_rfl) (fun _ _ _ h => h) (Or.inl ⟨by rfl, ?_⟩) (by assumption) ?_
            rotate_left; · (intro w hSw; (try dsimp only at hSw); go_simp; try with_reducible rfl)
            try simp only [Act.put, List.getElem_toArray, List.getElem_cons_zero, List.getElem_cons_succ, List.setIfInBounds_toArray, List.set_cons_zero, List.set_cons_succ]
            refine wpAnyH_take (i := 14) (v := ?_) rfl (by kernel_rfl) (by kernel_rfl) (by kernel_rfl) (fun _ _ _ h => h) (Or.inl ⟨by rfl, ?_⟩) (by assumption) ?_
            rotate_left; · (intro w hSw; (try dsimp only at hSw); go_simp; try with_reducible rfl)
            try simp only [Act.put, List.getElem_toArray, List.getElem_cons_zero, List.getElem_cons_succ, List.setIfInBounds_toArray, List.set_cons_zero, List.set_cons_succ]
            refine wpAnyH_take (i := 15) (v := ?_) rfl (by kernel_rfl) (by kernel_rfl) (by kernel_rfl) (fun _ _ _ h => h) (Or.inl ⟨by rfl, ?_⟩) (by assumption) ?_
            rotate_left; · (intro w hSw; (try dsimp only at hSw); go_simp; try with_reducible rfl)
            try simp only [Act.put, List.getElem_toArray, List.getElem_cons_zero, List.getElem_cons_succ, List.setIfInBounds_toArray, List.set_cons_zero, List.set_cons_succ]
            have hofl : ∀ (w1 w2 : World) (v : Value), Own w2 w1.heap.size 3 v 1 fl (fun i _ => .int .i64 ((fromL V gone k).getD i 0)) → OwnI w2 w1.heap.size v (fromL V gone k) := fun w1 w2 v h => by
              unfold OwnI
              rw [← HFLE.out]
              exact h
            have HOF := Lib.hid hofl
            have hwW : Below w7.heap.size w7 w7.drew := (Below.refl _ _).drew
            generalize w7.drew = W at *
            have hsb : ∀ w', Below W.heap.size W w' → w'.cell? ⟨w6.heap.size, 0, none⟩ = some (.string id) ∧ w'.cell? ⟨w6.heap.size, 2, none⟩ = some (.int .i64 block) ∧ w'.cell? ⟨u2b, u2o, none⟩ = some (.int .i64 ix) ∧ w'.cell? ⟨w3.heap.size, 0, none⟩ = some (.pointer (some ⟨p, 0, none⟩)) ∧ w'.cell? ⟨B, k, none⟩ = some (.slice fa fl fc) := fun w' hb =>
              ⟨(hb.cell (p := ⟨_, 0, none⟩) hlt0).trans hHS.1, (hb.cell (p := ⟨_, 2, none⟩) hlt0).trans hHS.2.1, (hb.cell (p := ⟨u2b, _, none⟩) hlt3).trans hHS.2.2.1, (hb.cell (p := ⟨_, 0, none⟩) hlt4).trans hHS.2.2.2.1, (hb.cell (p := ⟨B, _, none⟩) hlt5).trans hHS.2.2.2.2⟩
            have HSB := Lib.hid hsb
            clear hsb hHS hofl hHeld
            apply merge3 (F := fun ua uc g wz => Below W.heap.size W wz ∧ OwnI wz W.heap.size (.slice ua fl uc) (fromL V gone k) ∧ W.heap.size ≤ g ∧ wz.heap[g]? = some (.cells #[.string ⟨#[]⟩, .int .i64 0, .slice none 0 0, .int .i64 0, .int .i64 0] 47))
            intro key
            refine wpAnyH_ready (rs := [10, 17]) (by kernel_rfl) (by simp) ?_
            refine AllReadyH.cons rfl (fun K hK => ?_) (AllReadyH.cons rfl (fun K hK => ?_) AllReadyH.nil)
            · skip
              go_simp
              refine (CC.out W (Below.refl _ _)).mono ?_
              rintro e wA ⟨u, rfl, ou, hbA⟩
              obtain ⟨ua, uc, rfl, -⟩ := Own.row ou (by omega)
              go_wp2_with fail
              refine hK.out _ _ (HSB.out _ hbA) (fun hNew => ?_)
              clear hK K hNew
              (try clear hHeld)
              have hHeld := HSB.out _ hbA
              try simp only [Act.put, List.getElem_toArray, List.getElem_cons_zero, List.getElem_cons_succ, List.setIfInBounds_toArray, List.set_cons_zero, List.set_cons_succ]
              refine wpAnyH_ready (rs := [13, 17]) (by kernel_rfl) (by simp) ?_
              refine AllReadyH.cons rfl (fun K hK => ?_) (AllReadyH.cons rfl (fun K hK => ?_) AllReadyH.nil)
              · skip
                go_simp
                refine (CT.out wA hbA).mono ?_
                rintro e wB ⟨rfl, hbB⟩
                go_wp2_with fail
                have hAB := hbA.trans (hbB.mono hbA.size)
                refine hK.out _ _ (HSB.out _ hAB) (fun hNew => ?_)
                clear hK K hNew
                (try clear hHeld)
                have hHeld := HSB.out _ hAB
                try simp only [Act.put, List.getElem_toArray, List.getElem_cons_zero, List.getElem_cons_succ, List.setIfInBounds_toArray, List.set_cons_zero, List.set_cons_succ]
                refine wpAnyH_take (i := 16) (v := ?_) rfl (by kernel_rfl) (by kernel_rfl) (by kernel_rfl) (fun _ _ _ h => h) (Or.inl ⟨by rfl, ?_⟩) (by assumption) ?_
                rotate_left; · (intro w hSw; (try dsimp only at hSw); go_simp; try with_reducible rfl)
                try simp only [Act.put, List.getElem_toArray, List.getElem_cons_zero, List.getElem_cons_succ, List.setIfInBounds_toArray, List.set_cons_zero, List.set_cons_succ]
                refine wpAnyH_ready (rs := [17]) (by kernel_rfl) (by simp) ?_
                refine AllReadyH.cons rfl (fun K hK => ?_) AllReadyH.nil
                go_simp
                have hAl := (hAB).alloc (hAB).size (.cells #[.string ⟨#[]⟩, .int .i64 0, .slice none 0 0, .int .i64 0, .int .i64 0] 47)
                refine hK.out _ _ (HSB.out _ hAl) (fun hNew => ?_)
                clear hK K hNew
                (try clear hHeld)
                have hHeld := HSB.out _ hAl
                try simp only [Act.put, List.getElem_toArray, List.getElem_cons_zero, List.getElem_cons_succ, List.setIfInBounds_toArray, List.set_cons_zero, List.set_cons_succ]
                have hF : Below W.heap.size W (wB.alloc (.cells #[.string ⟨#[]⟩, .int .i64 0, .slice none 0 0, .int .i64 0, .int .i64 0] 47)) ∧ OwnI (wB.alloc (.cells #[.string ⟨#[]⟩, .int .i64 0, .slice none 0 0, .int .i64 0, .int .i64 0] 47)) W.heap.size (.slice ua fl uc) (fromL V gone k) ∧ W.heap.size ≤ wB.heap.size ∧ (wB.alloc (.cells #[.string ⟨#[]⟩, .int .i64 0, .slice none 0 0, .int .i64 0, .int .i64 0] 47)).heap[wB.heap.size]? = some (.cells #[.string ⟨#[]⟩, .int .i64 0, .slice none 0 0, .int .i64 0, .int .i64 0] 47) :=
                  ⟨hAl, Own.alloc (Own.below (HOF.out _ _ _ ou) hbB) _, hAB.size, heap_alloc_new _ _⟩
                generalize wB.alloc (.cells #[.string ⟨#[]⟩, .int .i64 0, .slice none 0 0, .int .i64 0, .int .i64 0] 47) = wz at *
                generalize wB.heap.size = g at *
                exact key ua uc g wz hF
              · skip
                go_simp
                have hAl := (hbA).alloc (hbA).size (.cells #[.string ⟨#[]⟩, .int .i64 0, .slice none 0 0, .int .i64 0, .int .i64 0] 47)
                refine hK.out _ _ (HSB.out _ hAl) (fun hNew => ?_)
                clear hK K hNew
                (try clear hHeld)
                have hHeld := HSB.out _ hAl
                try simp only [Act.put, List.getElem_toArray, List.getElem_cons_zero, List.getElem_cons_succ, List.setIfInBounds_toArray, List.set_cons_zero, List.set_cons_succ]
                refine wpAnyH_ready (rs := [13]) (by kernel_rfl) (by simp) ?_
                refine AllReadyH.cons rfl (fun K hK => ?_) AllReadyH.nil
                go_simp
                refine (CT.out _ hAl).mono ?_
                rintro e wB ⟨rfl, hbB⟩
                go_wp2_with fail
                have hAB := hAl.trans (hbB.mono hAl.size)
                refine hK.out _ _ (HSB.out _ hAB) (fun hNew => ?_)
                clear hK K hNew
                (try clear hHeld)
                have hHeld := HSB.out _ hAB
                try simp only [Act.put, List.getElem_toArray, List.getElem_cons_zero, List.getElem_cons_succ, List.setIfInBounds_toArray, List.set_cons_zero, List.set_cons_succ]
                refine wpAnyH_take (i := 16) (v := ?_) rfl (by kernel_rfl) (by kernel_rfl) (by kernel_rfl) (fun _ _ _ h => h) (Or.inl ⟨by rfl, ?_⟩) (by assumption) ?_
                rotate_left; · (intro w hSw; (try dsimp only at hSw); go_simp; try with_reducible rfl)
                try simp only [Act.put, List.getElem_toArray, List.getElem_cons_zero, List.getElem_cons_succ, List.setIfInBounds_toArray, List.set_cons_zero, List.set_cons_succ]
                have hF : Below W.heap.size W wB ∧ OwnI wB W.heap.size (.slice ua fl uc) (fromL V gone k) ∧ W.heap.size ≤ wA.heap.size ∧ wB.heap[wA.heap.size]? = some (.cells #[.string ⟨#[]⟩, .int .i64 0, .slice none 0 0, .int .i64 0, .int .i64 0] 47) :=
                  ⟨hAB, Own.below (Own.alloc (HOF.out _ _ _ ou) _) hbB, hbA.size, (hbB.block _ (by rw [World.size_alloc]; omega)).trans (heap_alloc_new _ _)⟩
                generalize wA.heap.size = g at *
                exact key ua uc g wB hF
            · skip
              go_simp
              have hAl := ((Below.refl W.heap.size W)).alloc ((Below.refl W.heap.size W)).size (.cells #[.string ⟨#[]⟩, .int .i64 0, .slice none 0 0, .int .i64 0, .int .i64 0] 47)
              refine hK.out _ _ (HSB.out _ hAl) (fun hNew => ?_)
              clear hK K hNew
              (try clear hHeld)
              have hHeld := HSB.out _ hAl
              try simp only [Act.put, List.getElem_toArray, List.getElem_cons_zero, List.getElem_cons_succ, List.setIfInBounds_toArray, List.set_cons_zero, List.set_cons_succ]
              refine wpAnyH_ready (rs := [10]) (by kernel_rfl) (by simp) ?_
              refine AllReadyH.cons rfl (fun K hK => ?_) AllReadyH.nil
              go_simp
              refine (CC.out _ hAl).mono ?_
              rintro e wA ⟨u, rfl, ou, hbA⟩
              obtain ⟨ua, uc, rfl, -⟩ := Own.row ou (by omega)
              go_wp2_with fail
              have hA2 := hAl.trans (hbA.mono hAl.size)
              refine hK.out _ _ (HSB.out _ hA2) (fun hNew => ?_)
              clear hK K hNew
              (try clear hHeld)
              have hHeld := HSB.out _ hA2
              try simp only [Act.put, List.getElem_toArray, List.getElem_cons_zero, List.getElem_cons_succ, List.setIfInBounds_toArray, List.set_cons_zero, List.set_cons_succ]
              refine wpAnyH_ready (rs := [13]) (by kernel_rfl) (by simp) ?_
              refine AllReadyH.cons rfl (fun K hK => ?_) AllReadyH.nil
              go_simp
              refine (CT.out _ hA2).mono ?_
              rintro e wB ⟨rfl, hbB⟩
              go_wp2_with fail
              have hAB := hA2.trans (hbB.mono hA2.size)
              refine hK.out _ _ (HSB.out _ hAB) (fun hNew => ?_)
              clear hK K hNew
              (try clear hHeld)
              have hHeld := HSB.out _ hAB
              try simp only [Act.put, List.getElem_toArray, List.getElem_cons_zero, List.getElem_cons_succ, List.setIfInBounds_toArray, List.set_cons_zero, List.set_cons_succ]
              refine wpAnyH_take (i := 16) (v := ?_) rfl (by kernel_rfl) (by kernel_rfl) (by kernel_rfl) (fun _ _ _ h => h) (Or.inl ⟨by rfl, ?_⟩) (by assumption) ?_
              rotate_left; · (intro w hSw; (try dsimp only at hSw); go_simp; try with_reducible rfl)
              try simp only [Act.put, List.getElem_toArray, List.getElem_cons_zero, List.getElem_cons_succ, List.setIfInBounds_toArray, List.set_cons_zero, List.set_cons_succ]
              have hF : Below W.heap.size W wB ∧ OwnI wB W.heap.size (.slice ua fl uc) (fromL V gone k) ∧ W.heap.size ≤ W.heap.size ∧ wB.heap[W.heap.size]? = some (.cells #[.string ⟨#[]⟩, .int .i64 0, .slice none 0 0, .int .i64 0, .int .i64 0] 47) :=
                ⟨hAB, Own.below (Own.base (HOF.out _ _ _ ou) hAl.size) hbB, Nat.le_refl _, (hbB.block _ (by have := hbA.size; rw [World.size_alloc] at this; omega)).trans ((hbA.block _ (by rw [World.size_alloc]; omega)).trans (heap_alloc_new _ _))⟩
              obtain ⟨g, hg⟩ : ∃ g, g = W.heap.size := ⟨_, rfl⟩
              rw [← hg]
              exact key ua uc g wB (by rw [hg]; exact hF)
            intro ua uc g wz ⟨hbz, ouz, hgW, hblkz⟩
            have b0 := cell_of_row wz g 0 _ _ _ hblkz
            have b1 := cell_of_row wz g 1 _ _ _ hblkz
            have b2 := cell_of_row wz g 2 _ _ _ hblkz
            have b3 := cell_of_row wz g 3 _ _ _ hblkz
            have b4 := cell_of_row wz g 4 _ _ _ hblkz
            have f0 := frozen_of_row wz g 0 _ _ hblkz
            have f1 := frozen_of_row wz g 1 _ _ hblkz
            have f2 := frozen_of_row wz g 2 _ _ hblkz
            have f3 := frozen_of_row wz g 3 _ _ hblkz
            have f4 := frozen_of_row wz g 4 _ _ hblkz
            obtain ⟨y1, y2, y3⟩ := five_set hblkz (.string id) (.int .i64 ix) (.slice ua fl uc) (.int .i64 tg) (.int .i64 block)
            have hbS := y3 W.heap.size W hgW hbz
            have ouS := Own.same ouz fun q hq => y2 q (fun e => own_ne ouz hblkz (by decide) (e ▸ hq))
            have OUS := Lib.hid ouS
            have HSS := Lib.hid (HSB.out _ hbS)
            clear y2 y3 ouS ouz hlt0 hlt3 hlt4 hlt5 CC CT HSB
            refine wpAnyH_ready (rs := [18]) (by kernel_rfl) (by simp) ?_
            refine AllReadyH.cons rfl (fun K hK => ?_) AllReadyH.nil
            go_simp
            refine hK.out _ _ HSS.out (fun hNew => ?_)
            clear hK K hNew b0 b1 b2 b3 b4 f0 f1 f2 f3 f4
            try simp only [Act.put, List.getElem_toArray, List.getElem_cons_zero, List.getElem_cons_succ, List.setIfInBounds_toArray, List.set_cons_zero, List.set_cons_succ]
            refine wpAnyH_done (by kernel_rfl) ?_ _
            generalize (((((wz.setCell ⟨g, 0, none⟩ (.string id)).setCell ⟨g, 1, none⟩ (.int .i64 ix)).setCell ⟨g, 2, none⟩ (.slice ua fl uc)).setCell ⟨g, 3, none⟩ (.int .i64 tg)).setCell ⟨g, 4, none⟩ (.int .i64 block)) = wS at *
            have hsS := HSS.out.2.2.2.1
            have hb7S := hwW.trans (hbS.mono hwW.size)
            have HSTS := Lib.hid (HST7.out.below hb7S)
            have HOJS := Lib.hid (HOJ7.out.below hb7S)
            have HFIS := Lib.hid (HFI7.out.below hb7S)
            have hbwS := hbw7.trans (hb7S.mono hbw7.size)
            have zS := hb7S.size
            have hWB : B ≤ W.heap.size := by have := hwW.size; omega
            have j0 := cell_of_row wS g 0 _ _ _ y1
            have j1 := cell_of_row wS g 1 _ _ _ y1
            have j2 := cell_of_row wS g 2 _ _ _ y1
            have j3 := cell_of_row wS g 3 _ _ _ y1
            have j4 := cell_of_row wS g 4 _ _ _ y1
            have CDO := Lib.hid (do_any (jobK V gone Vi k) (.slice ua fl uc) wS HSTS.out HPO.out ⟨_, _, _, rfl⟩ (by omega) (by omega))
            unfold Jp.v at CDO
            rw [HJB.out] at CDO
            simp only at CDO
            clear HSS HST7 HOJ7 HFI7 hbz hblkz hwW hbS hb7S
            go_wp2_with fail
            refine CDO.out.mono ?_
            rintro e w9 ⟨rfl, hst9, hk9⟩
            have hgS := (Array.getElem?_eq_some_iff.1 y1).1
            have y9 := (hk9.2 g (by omega) hgS).trans y1
            have hs9 : w9.cell? ⟨w3.heap.size, 0, none⟩ = some (.pointer (some ⟨p, 0, none⟩)) := by
              unfold World.cell? at hsS ⊢
              rw [hk9.2 w3.heap.size (Nat.le_refl _) (by omega)]
              exact hsS
            have ou9 := Own.keep OUS.out hk9 (show w3.heap.size ≤ W.heap.size by omega)
            have hoj9 := HOJS.out.keep hk9 hB3
            have hfi9 := HFIS.out.keep hk9 hB3
            have hbw9 := hbwS.trans (hk9.1.mono hlw)
            have z9 := hk9.1.size
            have hB9 : B ≤ w9.heap.size := by omega
            obtain ⟨v10, w10, r10, oj10, b10, s10⟩ := hoj9.app (jobK V gone Vi k) (.slice ua fl uc) (by rw [HJB.out]; exact Own.base ou9 hWB) (by omega) hB9
            obtain ⟨f47, o47⟩ := hoj9.own47
            have hfi10 := hfi9.same47 o47 s10
            have hst10 := hst9.same47 o47 s10
            have hs10 : w10.cell? ⟨w3.heap.size, 0, none⟩ = some (.pointer (some ⟨p, 0, none⟩)) := by
              unfold World.cell? at hs9 ⊢
              rw [s10 w3.heap.size (by omega) (fun e => by have := (o47.lt _ e).1; omega)]
              exact hs9
            have hbw10 := hbw9.trans (b10.mono (by omega))
            have hB10 : B ≤ w10.heap.size := Nat.le_trans hB9 b10.size
            rw [HJB.out] at r10 oj10
            simp only at r10
            obtain ⟨j10a, j10c, e10⟩ := oj10.slice (by rw [List.length_append]; simp; omega)
            obtain ⟨nf, hnf⟩ : ∃ nf, fu = nf + 1 := ⟨fu - 1, by have := HFU.out; omega⟩
            have hpl10 : planF V gone nf (doP Vi (jobK V gone Vi k)) (js ++ [jobK V gone Vi k]) = planR V gone := by
              rw [← HPL.out, hnf]
              show _ = planF V gone (nf + 1) Vi js
              conv => rhs; unfold planF
              rw [HNX.out]
            rw [HJB.out] at hpl10
            have hgs := HGS.out
            rw [HJB.out] at hgs
            have HGS2 := Lib.hid hgs
            have HPL10 := Lib.hid hpl10
            have HST10 := Lib.hid hst10
            have HOJ10 := Lib.hid oj10
            have HFI10 := Lib.hid hfi10
            have HNF := Lib.hid hnf
            have k0 := cell_of_row w9 g 0 _ _ _ y9
            have k1' := cell_of_row w9 g 1 _ _ _ y9
            have k2 := cell_of_row w9 g 2 _ _ _ y9
            have k3 := cell_of_row w9 g 3 _ _ _ y9
            have k4 := cell_of_row w9 g 4 _ _ _ y9
            rw [List.length_append, List.length_singleton] at e10
            subst e10
            clear hgs hpl10 hst10 oj10 hfi10 hnf hst9 hoj9 hfi9 ou9 o47 s10 hk9 CDO j0 j1 j2 j3 j4 hsS y1 b10 y9 HSTI HOJ HFI HB HST6 HOJ6 HFI6 HSTS HOJS HFIS
            go_wp2_with (at_builtin; refine wpList_append_run (by rfl) (.tmp 116) (.tmp 118) 35 (by rfl) _ (.slice (some ⟨w9.heap.size, 0, none⟩) 1 1) (.slice j10a (js.length + 1) j10c) w10 (by rfl) (by rfl) r10 ?_)
            go_roundw
            case rel =>
              refine ⟨_, _, nf, hbw10, hB10, HST10.out, HGS2.out.1, HOJ10.out, HFI10.out, hs10, ?_, ?_, HPL10.out⟩
              · have h1 := HGS2.out.2
                have h2 := HJM.out
                rw [List.length_append, List.length_singleton]
                omega
              · have h1 := HGS2.out.2
                have h2 := HFU.out
                have h3 := HNF.out
                omega
            case measure =>
              simp [lenV]
              omega

end Go.Proofs.Ytijcicgbhcphjaa
