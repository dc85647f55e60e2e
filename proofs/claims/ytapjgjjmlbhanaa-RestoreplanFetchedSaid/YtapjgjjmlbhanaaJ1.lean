/- slices.IndexFunc at the closure of Fetches. -/
import Derived.Test.YtapjgjjmlbhanaaG1
import Derived.Test.YtapjgjjmlbhanaaC5
import Derived.Test.YtapjgjjmlbhanaaH2
import Derived.Deep.RegionHeld3
import Derived.StillTailTactics
namespace Go.Proofs.Ytapjgjjmlbhanaa
open Go.RowKit Go.Lib

set_option maxHeartbeats 1000000 in
theorem isDev_any (B : Nat) (d dev : Int) (pa sa : Option Addr) (pn pc sn sc : Nat) (ix : Bool) (w : World) (hB : NumAt w B d) :
    Calls Try.prog 62 #[.agg #[.int .i64 dev, .slice pa pn pc, .slice sa sn sc, .bool ix], .pointer (some ⟨B, 0, none⟩)] w fun e w' => e = .returned (.bool (dev == d)) ∧ Below w.heap.size w w' := by
  have blt := (Array.getElem?_eq_some_iff.1 hB).1
  have bw : Below w.heap.size w (w.alloc (.cells #[.int .i64 dev, .slice pa pn pc, .slice sa sn sc, .bool ix] 88)) := (Below.refl _ _).alloc (Nat.le_refl _) _
  have c1 := (hB.below bw).cell
  clear hB
  go_enter Try.func62, Try.ntmps62
  go_wp2
  go_ret
  exact ⟨rfl, bw⟩

set_option maxRecDepth 100000 in
set_option maxHeartbeats 2000000 in
theorem idxFunc_any (v : Value) (L : List Hd) (B : Nat) (d : Int) (w : World) (hv : ReadsH w v L) (hB : NumAt w B d) :
    Calls Try.prog 61 #[v, .func (.func 62) #[] #[.pointer (some ⟨B, 0, none⟩)]] w fun e w' => e = .returned (.int .i64 (findI d (L.map Hd.dev))) ∧ Below w.heap.size w w' := by
  obtain ⟨ao, c, b, off, rfl, hl, hm, hcell⟩ := hv.at
  have HC := Lib.hid hcell
  have HB := Lib.hid hB
  obtain ⟨r, hr⟩ : ∃ r, r = findI d (L.map Hd.dev) := ⟨_, rfl⟩
  rw [← hr]
  have HR := Lib.hid hr
  clear hcell hv hr hB
  go_enter Try.func61, Try.ntmps61
  go_wp2
  go_loopw [5, 8] (fun _ v8 wr => ∃ j : Nat, j ≤ L.length ∧ v8 = .int .i64 j ∧ d ∉ (L.map Hd.dev).take j ∧ Below w.heap.size w wr) (fun _ v8 _ => L.length - (intOf v8).toNat)
  case atStart => exact ⟨0, Nat.zero_le _, rfl, by simp, Below.refl _ _⟩
  case round =>
    obtain ⟨j, hj, rfl, hnot, hbel⟩ := hrel
    have HN := Lib.hid hnot
    have zr := hbel.size
    clear hnot
    by_cases hlt : j < L.length
    · obtain ⟨e1, e2, e3, e4, e5, hat⟩ := HC.out j hlt
      subst e1
      rw [← hbel.cell (p := ⟨b, _, none⟩) (cell_lt e2)] at e2
      rw [← hbel.cell (p := ⟨b, _, none⟩) (cell_lt e3)] at e3
      rw [← hbel.cell (p := ⟨b, _, none⟩) (cell_lt e4)] at e4
      rw [← hbel.cell (p := ⟨b, _, none⟩) (cell_lt e5)] at e5
      have hjm : j < (L.map Hd.dev).length := by rw [List.length_map]; exact hlt
      have hs := mem_take_succ (L.map Hd.dev) d j hjm
      have hgd : (L.map Hd.dev)[j] = (L.getD j default).dev := by rw [List.getElem_map, getD_at _ _ _ hlt]
      have hfd := fun h => findI_at (x := d) (ds := L.map Hd.dev) j hjm HN.out h
      rw [getD_at _ _ _ hjm, hgd] at hfd
      rw [hgd] at hs
      obtain ⟨hpd, hsd⟩ := hat
      obtain ⟨pa, pc, _, _, hpe, _⟩ := hpd.at
      obtain ⟨sa, sc, _, _, hse, _⟩ := hsd.at
      rw [hpe] at e3
      rw [hse] at e4
      have HS := Lib.hid hs
      have HF := Lib.hid hfd
      clear hs hgd hfd hpd hsd hpe hse
      generalize (L.getD j default).dev = dev at *
      generalize (L.getD j default).ps.length = pn at *
      generalize (L.getD j default).ss.length = sn at *
      generalize (L.getD j default).idx = idx at *
      have C62 := Lib.hid (isDev_any B d dev pa sa pn pc sn sc idx wr (HB.out.below hbel))
      by_cases hy : dev = d
      · have k1 : (dev == d) = true := by simp [hy]
        have c62 := C62.out
        rw [k1] at c62
        have C62' := Lib.hid c62
        obtain rfl : r = (j : Int) := by rw [HR.out]; exact HF.out hy
        clear hy c62 k1 C62
        go_wp2_with fail
        refine C62'.out.mono ?_
        rintro e w5 ⟨rfl, hb5⟩
        go_wp2
        go_ret
        exact ⟨rfl, hbel.trans (hb5.mono zr)⟩
      · have k1 : (dev == d) = false := by simp [hy]
        have c62 := C62.out
        rw [k1] at c62
        have C62' := Lib.hid c62
        have HY := Lib.hid hy
        clear hy c62 k1 C62
        go_wp2_with fail
        refine C62'.out.mono ?_
        rintro e w5 ⟨rfl, hb5⟩
        go_wp2
        go_roundw
        case rel => exact ⟨j + 1, by omega, by go_num, fun h => by (rcases HS.out.1 h with h | h; (exact HN.out h); (exact HY.out h.symm)), hbel.trans (hb5.mono zr)⟩
        case measure => simp [intOf]; omega
    · have hjl : L.length = j := by omega
      subst hjl
      have hn := HN.out
      rw [List.take_of_length_le (by rw [List.length_map]; exact Nat.le_refl _)] at hn
      obtain rfl : r = -1 := by rw [HR.out]; exact findI_none hn
      clear hn
      go_wp2
      go_ret
      exact ⟨rfl, hbel⟩

end Go.Proofs.Ytapjgjjmlbhanaa

/- Fetches: plain; its memory. -/
namespace Go.Proofs.Ytapjgjjmlbhanaa
open Go.RowKit Go.Lib Go.ChangeMaps

/-- A piece of a device: fetched if its need lacks pieces and it is not there. -/
def stepP (ns : List Nd) (d : Int) (t : Sup × List (Int × Pc)) (p : Pc) : Sup × List (Int × Pc) := match ndIx p.st ns with
  | none => t
  | some k => if lackN (ns.getD k default).d (t.1.pc k) = 0 ∨ t.1.pc k / 2 ^ p.ix.toNat % 2 = 1 then t else (addPc ns t.1 p, t.2 ++ [(d, p)])
structure FSt where
  s : Sup
  o : List (Int × Pc)
  m : List Int
def stepD (ns : List Nd) (L : List Hd) (t : FSt) (d : Int) : FSt :=
  if d ∈ t.m ∨ findI d (L.map Hd.dev) < 0 then t else
    ⟨((L.getD (findI d (L.map Hd.dev)).toNat default).ps.foldl (stepP ns d) (t.s, t.o)).1, ((L.getD (findI d (L.map Hd.dev)).toNat default).ps.foldl (stepP ns d) (t.s, t.o)).2, t.m ++ [d]⟩
def fetS (g : Gl) (L : List Hd) (devs : List Int) : FSt := devs.foldl (stepD g.ns L) ⟨supOf g.ns g.ps g.ss (!g.idx), [], []⟩
def fetL (g : Gl) (L : List Hd) (devs : List Int) : List (Int × Pc) := (fetS g L devs).o

theorem stepP_len (ns : List Nd) (d : Int) (t : Sup × List (Int × Pc)) (p : Pc) : (stepP ns d t p).2.length ≤ t.2.length + 1 := by
  unfold stepP
  split
  · omega
  · split
    · omega
    · simp
theorem stepP_wf {ns : List Nd} {d : Int} {t : Sup × List (Int × Pc)} {p : Pc} (h : t.1.Wf) (hp : p.ix < 16) : (stepP ns d t p).1.Wf := by
  unfold stepP
  split
  · exact h
  · split
    · exact h
    · exact addPc_wf h hp
theorem foldF_len (ns : List Nd) (d : Int) : ∀ (ps : List Pc) (t : Sup × List (Int × Pc)), (ps.foldl (stepP ns d) t).2.length ≤ t.2.length + ps.length
  | [], t => by simp
  | p :: r, t => by
    have h1 := foldF_len ns d r (stepP ns d t p)
    have h2 := stepP_len ns d t p
    rw [List.foldl_cons, List.length_cons]
    omega
theorem foldF_wf {ns : List Nd} {d : Int} : ∀ (ps : List Pc) (t : Sup × List (Int × Pc)), t.1.Wf → (∀ p ∈ ps, p.ix < 16) → (ps.foldl (stepP ns d) t).1.Wf
  | [], t, h, _ => h
  | p :: r, t, h, hp => by
    rw [List.foldl_cons]
    exact foldF_wf r _ (stepP_wf h (hp p (by simp))) fun q hq => hp q (by simp [hq])

def ftCell (fs : List (Int × Pc)) (i j : Nat) : Value := match j with | 0 => .int .i64 (fs.getD i (0, default)).1 | 1 => .string (fs.getD i (0, default)).2.st | _ => .int .i64 (fs.getD i (0, default)).2.ix
/-- A row of fetches of the call's own. -/
def OwnF (w : World) (base : Nat) (v : Value) (fs : List (Int × Pc)) : Prop := Own w base 71 v 3 fs.length (ftCell fs)
def ReadsF (w : World) (v : Value) (fs : List (Int × Pc)) : Prop := RowAt w v 3 fs.length (ftCell fs)
theorem OwnF.append {V : World} {base : Nat} {v : Value} {fs : List (Int × Pc)} (h : OwnF V base v fs) (d : Int) (p : Pc) (hn : fs.length ≤ 1000000000) (hbase : base ≤ V.heap.size) :
    ∃ v' w', (Builtin.append_ #[62, 62] 62 #[v, .slice (some ⟨V.heap.size, 0, none⟩) 1 1]).run Try.prog (V.alloc (.cells #[.int .i64 d, .string p.st, .int .i64 p.ix] 71)) = .ok v' w' ∧ OwnF w' base v' (fs ++ [(d, p)]) ∧ Below base V w' ∧
      (∀ b, b < V.heap.size → v.ownBlock ≠ some b → w'.heap[b]? = V.heap[b]?) ∧ V.heap.size + 1 ≤ w'.heap.size := by
  have hg : ∀ i, i < fs.length → (fs ++ [(d, p)]).getD i (0, default) = fs.getD i (0, default) := fun i hi => by
    rw [getD_at _ _ _ hi, getD_at _ _ _ (by rw [List.length_append]; omega), List.getElem_append_left hi]
  have h' : Own V base 71 v 3 fs.length (ftCell (fs ++ [(d, p)])) := Own.congr h fun i j hi hj => by unfold ftCell; rw [hg i hi]
  have hl : (fs ++ [(d, p)]).getD fs.length (0, default) = (d, p) := by
    rw [getD_at _ _ _ (by rw [List.length_append]; simp), List.getElem_append_right (by omega)]; simp
  obtain ⟨v3, w3, r3, o1, o2, o3, o4, o5⟩ := Own.append (V := V) (t := 62) (e := 71) (z := .agg #[.int .i64 0, .string ⟨#[]⟩, .int .i64 0]) (k := 3) (bytes := 32) Try.underlying62 (by kernel_rfl) rfl (by omega) (by omega) h' 62 [.int .i64 d, .string p.st, .int .i64 p.ix] rfl (fun q hq => by
    unfold ftCell
    rw [hl]
    match q, hq with
    | 0, _ => rfl
    | 1, _ => rfl
    | 2, _ => rfl) (by intro u hu; simp at hu; rcases hu with rfl | rfl | rfl <;> rfl) hn hbase
  refine ⟨v3, w3, r3, ?_, o2, o3, o5⟩
  unfold OwnF
  rw [List.length_append]
  exact o1
theorem OwnF.slice {w : World} {base : Nat} {v : Value} {fs : List (Int × Pc)} (h : OwnF w base v fs) : ∃ a c, v = .slice a fs.length c := by
  obtain ⟨xs, ⟨h0, h2⟩, _⟩ := h
  rcases h2 with ⟨rfl, h⟩ | ⟨g, cap, cur, rfl, _⟩
  · rw [h]; exact ⟨_, _, rfl⟩
  · exact ⟨_, _, rfl⟩

/-- The memory of Fetches in its loops. -/
structure FMid (w1 : World) (B Sb M : Nat) (s : Sup) (o : List (Int × Pc)) (met : List Int) (v : Value) (w : World) : Prop where
  below : Below B w1 w
  size : B ≤ w.heap.size
  sup : SupAt w Sb s
  map : w.heap[M]? = some (mapObj (fun i : Int => Value.int .i64 i) (setOf met))
  own : OwnF w B v o
  bs : B ≤ Sb
  bm : B ≤ M
  ne : Sb ≠ M
section
variable {w1 w w' : World} {B Sb M : Nat} {s : Sup} {o : List (Int × Pc)} {met : List Int} {v : Value}
theorem FMid.step (h : FMid w1 B Sb M s o met v w) (hb : Below w.heap.size w w') : FMid w1 B Sb M s o met v w' :=
  ⟨h.below.trans (hb.mono h.size), Nat.le_trans h.size hb.size, h.sup.below hb, (hb.block M (Array.getElem?_eq_some_iff.1 h.map).1).trans h.map, Own.below h.own hb, h.bs, h.bm, h.ne⟩
theorem FMid.upd (h : FMid w1 B Sb M s o met v w) (d : Int) : FMid w1 B Sb M s o (met ++ [d]) v (setBlock w M (mapObj (fun i : Int => Value.int .i64 i) (setOf (met ++ [d])))) := by
  have hm := (Array.getElem?_eq_some_iff.1 h.map).1
  refine ⟨below_setBlock h.below h.bm _, by rw [setBlock_size]; exact h.size, (setBlock_off w _ h.ne).trans h.sup, setBlock_at hm _, Own.same h.own fun g hg => setBlock_off w _ fun e => ?_, h.bs, h.bm, h.ne⟩
  subst e
  exact own_ne_map h.own h.map hg
theorem FMid.set (h : FMid w1 B Sb M s o met v w) (s' : Sup) (i : Nat) (u : Value) (hs : SupAt (w.setCell ⟨Sb, i, none⟩ u) Sb s') : FMid w1 B Sb M s' o met v (w.setCell ⟨Sb, i, none⟩ u) :=
  ⟨h.below.setCell h.bs _, by rw [setCell_size]; exact h.size, hs, (setCell_other w u (Ne.symm h.ne)).trans h.map, Own.same h.own fun g hg => setCell_other w u fun e => own_ne h.own h.sup (by decide) (e ▸ hg), h.bs, h.bm, h.ne⟩
theorem FMid.app (h : FMid w1 B Sb M s o met v w) (d : Int) (p : Pc) (hn : o.length ≤ 1000000000) :
    ∃ v' w', (Builtin.append_ #[62, 62] 62 #[v, .slice (some ⟨w.heap.size, 0, none⟩) 1 1]).run Try.prog (w.alloc (.cells #[.int .i64 d, .string p.st, .int .i64 p.ix] 71)) = .ok v' w' ∧ FMid w1 B Sb M s (o ++ [(d, p)]) met v' w' ∧
      (∀ b, b < w.heap.size → v.ownBlock ≠ some b → w'.heap[b]? = w.heap[b]?) ∧ w.heap.size + 1 ≤ w'.heap.size := by
  obtain ⟨v', w', r, o1, o2, o3, o4⟩ := h.own.append d p hn h.size
  exact ⟨v', w', r, ⟨h.below.trans o2, Nat.le_trans h.size (by omega), (o3 Sb (Array.getElem?_eq_some_iff.1 h.sup).1 (own_ne h.own h.sup (by decide))).trans h.sup, (o3 M (Array.getElem?_eq_some_iff.1 h.map).1 (own_ne_map h.own h.map)).trans h.map, o1, h.bs, h.bm, h.ne⟩, o3, o4⟩
end

/-- A supply loaded, whatever comes first. -/
theorem yieldsIf_load_sup {ops : Array Oper} {S : World → Prop} {op : Oper} {a : Act} (hw : Region.wanted op (yielded ops a.tmps) = true) (x : Operand) (ho : op.op = .load 99 x)
    (b : Nat) (hx : a.eval x = .pointer (some ⟨b, 0, none⟩)) (s : Sup) (hS : ∀ w, S w → SupAt w b s) : YieldsIf Try.prog ops S op (.agg s.cells) a :=
  yieldsIf_load_mid hw 99 x ho b 0 hx s.list _ (fun w h j v hv => by
    have hj : j < 69 := by have := (List.getElem?_eq_some_iff.1 hv).1; rw [s.list_length] at this; exact this
    rw [Nat.zero_add, (hS w h).cell j hj, ← s.list_at j hj, hv]) Try.underlying99 rfl (by rw [s.list_length]; exact info99)

theorem and_u16 (a n : Nat) (ha : a < 65536) : bits .and .u16 ((a : Int) / 2 ^ n) 1 = ((a / 2 ^ n % 2 : Nat) : Int) := by
  have h1 : a / 2 ^ n < 65536 := Nat.lt_of_le_of_lt (Nat.div_le_self _ _) ha
  have e : ((a : Int) / 2 ^ n) = ((a / 2 ^ n : Nat) : Int) := by simp
  rw [e]
  generalize a / 2 ^ n = q at h1
  have := bits_mask .u16 16 (by decide) wraps_u16 1 (by decide) (q : Int) (by omega) (by omega)
  rw [show ((2 : Int) ^ 1 - 1) = 1 from rfl, show ((2 : Int) ^ 1) = 2 from rfl] at this
  rw [this]
  omega

end Go.Proofs.Ytapjgjjmlbhanaa

/- Fetches, walked. -/
namespace Go.Proofs.Ytapjgjjmlbhanaa
open Go.RowKit Go.Lib Go.ChangeMaps
set_option linter.unusedSimpArgs false

/-- What Fetches answers. -/
def FetchesPost (g : Gl) (L : List Hd) (devs : List Int) (w : World) (e : Ending) (w' : World) : Prop :=
  ∃ v, e = .returned (.tuple #[v, .int .i64 0]) ∧ ReadsF w' v (fetL g L devs) ∧ Below w.heap.size w w'

theorem fetS_take (g : Gl) (L : List Hd) (devs : List Int) (j : Nat) (h : j < devs.length) : fetS g L (devs.take (j + 1)) = stepD g.ns L (fetS g L (devs.take j)) devs[j] := by
  unfold fetS
  rw [List.take_succ_eq_append_getElem h, List.foldl_append]
  rfl

theorem findI_lt (x : Int) : ∀ ds : List Int, findI x ds < ds.length
  | [] => by simp [findI]
  | y :: r => by
    have := findI_lt x r
    unfold findI
    rw [List.length_cons]
    split
    · omega
    · split <;> omega
theorem stepD_go {ns : List Nd} {L : List Hd} {t : FSt} {d : Int} {q : Nat} (h1 : d ∉ t.m) (h2 : findI d (L.map Hd.dev) = q) :
    stepD ns L t d = ⟨((L.getD q default).ps.foldl (stepP ns d) (t.s, t.o)).1, ((L.getD q default).ps.foldl (stepP ns d) (t.s, t.o)).2, t.m ++ [d]⟩ := by
  unfold stepD
  rw [if_neg (fun h => h.elim h1 (by omega)), h2, Int.toNat_natCast]
theorem foldF_take (ns : List Nd) (d : Int) (t : Sup × List (Int × Pc)) (ps : List Pc) (i : Nat) (h : i < ps.length) : (ps.take (i + 1)).foldl (stepP ns d) t = stepP ns d ((ps.take i).foldl (stepP ns d) t) ps[i] := by
  rw [List.take_succ_eq_append_getElem h, List.foldl_append]
  rfl

set_option maxRecDepth 100000 in
set_option maxHeartbeats 16000000 in
theorem fetches_ok (g : Gl) (v dv : Value) (hs : List Hd) (devs : List Int) (w : World) (hg : GlAt w g) (hv : ReadsH w v hs) (hd : ReadsI w dv devs) (hok : Ok g hs) (hlen : devs.length ≤ 1000) (hps : ∀ y ∈ hs, y.ps.length ≤ 1000) :
    Calls Try.prog 29 #[g.v, v, dv] w fun e w' => ∃ L : List Hd, L.Perm hs ∧ (L.map Hd.dev).Pairwise (· < ·) ∧ FetchesPost g L devs w e w' := by
  have cc := fun W h1 h2 => read_ok g v hs W h1 h2 hok
  obtain ⟨na, n1, nc, pa, n2, pc, sa, n3, sc, e1⟩ := hg.val
  obtain ⟨ao, n4, c4, rfl⟩ := hv.val
  obtain ⟨dao, dc, db, doff, rfl, hdl, hdm, hdcell⟩ := hd.at
  rw [e1] at cc ⊢
  have CC := Lib.hid cc
  have HG := Lib.hid hg
  have HV := Lib.hid hv
  have HOK := Lib.hid hok
  have HDC := Lib.hid hdcell
  have HPS := Lib.hid hps
  have hmm := @run_makeMap Try.prog
  have hz := zero99
  obtain ⟨zc, hzc⟩ : ∃ zc, zc = (zeroS false).cells := ⟨_, rfl⟩
  rw [← hzc] at hz
  have HZ := Lib.hid hzc
  clear hg hv hd hdcell hok hps cc e1 hzc
  go_enter Try.func29, Try.ntmps29
  go_wp2_with fail
  refine (CC.out _ (HG.out.below (by (repeat' (first | (with_reducible exact Below.refl _ _) | (with_reducible assumption) | (with_reducible refine Below.alloc ?_ ?_ _) | (with_reducible refine Below.drew ?_) | (with_reducible refine below_drewN ?_ _) | (with_reducible refine Below.setCell ?_ ?_ _) | (with_reducible refine below_step ?_ (by with_reducible assumption) ?_) | go_size)))) (HV.out.below (by (repeat' (first | (with_reducible exact Below.refl _ _) | (with_reducible assumption) | (with_reducible refine Below.alloc ?_ ?_ _) | (with_reducible refine Below.drew ?_) | (with_reducible refine below_drewN ?_ _) | (with_reducible refine Below.setCell ?_ ?_ _) | (with_reducible refine below_step ?_ (by with_reducible assumption) ?_) | go_size))))).mono ?_
  rintro e w1 ⟨b, x, pl, L, rfl, hpo, hb⟩
  have hw1 : Below w.heap.size w w1 := by (repeat' (first | (with_reducible exact Below.refl _ _) | (with_reducible assumption) | (with_reducible refine Below.alloc ?_ ?_ _) | (with_reducible refine Below.drew ?_) | (with_reducible refine below_drewN ?_ _) | (with_reducible refine Below.setCell ?_ ?_ _) | (with_reducible refine below_step ?_ (by with_reducible assumption) ?_) | go_size))
  have hl12 : L.length ≤ 12 := by have := hpo.len; have := HOK.out.1.2.2; omega
  have PO := Lib.hid hpo
  have HPL := Lib.hid hpo.permL
  have HSD := Lib.hid hpo.sorted
  have z1 := hw1.size
  have plt := (Array.getElem?_eq_some_iff.1 hpo.plan).1
  have s0 : x.s = supOf g.ns g.ps g.ss (!g.idx) := hpo.there
  have S0 := Lib.hid s0
  obtain ⟨Bs, hBs⟩ : ∃ Bs, Bs = w1.heap.size := ⟨_, rfl⟩
  have HBS := Lib.hid hBs
  have m1 : SupAt (w1.alloc (.cells zc 99)) Bs (zeroS false) := by rw [HZ.out, hBs]; exact SupAt.new w1 _
  have M1 := Lib.hid m1
  have g1 : w1.grownBy ((w1.alloc (.cells zc 99)).setRow Bs x.s.cells) (some Bs) := grown_setRow (grown_alloc (grown_refl w1 _) _) _
  have m2 : SupAt ((w1.alloc (.cells zc 99)).setRow Bs x.s.cells) Bs x.s := M1.out.setRow x.s
  have b4 : Below w1.heap.size w1 ((w1.alloc (.cells zc 99)).setRow Bs x.s.cells) := grown_below (Below.refl _ _) g1 (by omega) (Nat.le_refl _)
  have sz4 : ((w1.alloc (.cells zc 99)).setRow Bs x.s.cells).heap.size = Bs + 1 := by rw [setRow_size, World.size_alloc]; omega
  have M2 := Lib.hid m2
  clear hpo hb m1 g1 m2 s0 hBs
  go_upto_region 5 with (first | (refine wpList_load_there (by rfl) (.tmp 33) (by rfl) b 8 (by rfl) x.s PO.out.plan.range ?_) | (refine wpList_store_sup (by rfl) (.tmp 10) (.tmp 34) (by rfl) w1.heap.size (by rfl) x.s (zeroS false) (by rfl) (by rw [← HBS.out]; exact M1.out) ?_))
  rw [← HBS.out]
  generalize (w1.alloc (Obj.cells zc 99)).setRow Bs x.s.cells = W at b4 M2 sz4 ⊢
  have m5 : (W.alloc (Obj.map #[] 0)).heap[Bs + 1]? = some (mapObj (fun i : Int => Value.int .i64 i) (setOf [])) := by rw [← sz4]; exact heap_alloc_last W _
  have bw5 : Below W.heap.size W (W.alloc (Obj.map #[] 0)) := (Below.refl _ _).alloc (Nat.le_refl _) _
  have b5 : Below Bs w1 (W.alloc (Obj.map #[] 0)) := by rw [HBS.out]; exact b4.trans (bw5.mono b4.size)
  have F5 : FMid w1 Bs Bs (Bs + 1) x.s [] [] (.slice none 0 0) (W.alloc (Obj.map #[] 0)) :=
    ⟨b5, by rw [World.size_alloc]; omega, M2.out.below bw5, m5, Own.nil _ _ _ _ _, Nat.le_refl _, by omega, by omega⟩
  have HF5 := Lib.hid F5
  clear M1 M2 m5 F5
  go_wp2
  try rw [sz4]
  clear hmm b4 bw5 b5
  generalize hdl' : devs.length = dl at *
  have HDL := Lib.hid hdl'
  clear hdl'
  go_loopg [11, 38] dl (fun gk v11 v38 wx => ∃ j : Nat, j + gk = dl ∧ v38 = .int .i64 j ∧ FMid w1 Bs Bs (Bs + 1) (fetS g L (devs.take j)).s (fetS g L (devs.take j)).o (fetS g L (devs.take j)).m v11 wx ∧ (fetS g L (devs.take j)).s.Wf ∧ (fetS g L (devs.take j)).o.length ≤ 1000 * j)
  case atStart => exact ⟨0, by omega, rfl, by (have := HF5.out; rw [S0.out] at this; exact this), by (show Sup.Wf (supOf _ _ _ _); exact supOf_wf HOK.out.2.2.1.1), by simp [fetS]⟩
  case round =>
    obtain ⟨j, hj, rfl, hfm, hwf, hol⟩ := hrel
    cases gk with
    | zero =>
      obtain rfl : j = dl := by omega
      have htk : devs.take j = devs := List.take_of_length_le (by rw [HDL.out]; exact Nat.le_refl _)
      rw [htk] at hfm hol
      have hrd : ReadsF wr u11 (fetL g L devs) := Own.row hfm.own (by show (fetS g L devs).o.length ≤ _; omega)
      have B6 : Below w.heap.size w wr := hw1.trans (hfm.below.mono (by rw [HBS.out]; exact z1))
      have HRD := Lib.hid hrd
      clear hfm hwf hol hrd htk
      go_wp2
      go_ret2
      exact ⟨L, HPL.out, HSD.out, _, rfl, HRD.out, B6⟩
    | succ go =>
      have hlt : j < dl := by omega
      have hjd : j < devs.length := by rw [HDL.out]; exact hlt
      have hst := fetS_take g L devs j hjd
      obtain ⟨e1, e2⟩ := HDC.out j hlt
      subst e1
      rw [getD_at _ _ _ hjd] at e2
      have hwr : Below w.heap.size w wr := hw1.trans (hfm.below.mono (by rw [HBS.out]; exact z1))
      rw [← hwr.cell (p := ⟨db, _, none⟩) (cell_lt e2)] at e2
      have hsz := hfm.size
      have bls : Bs < wr.heap.size := (Array.getElem?_eq_some_iff.1 hfm.sup).1
      have blm : Bs + 1 < wr.heap.size := (Array.getElem?_eq_some_iff.1 hfm.map).1
      generalize devs[j] = d at *
      have HST := Lib.hid hst
      have HWF := Lib.hid hwf
      clear hst hwf
      obtain ⟨t, ht⟩ : ∃ t, t = fetS g L (devs.take j) := ⟨_, rfl⟩
      rw [← ht] at HST HWF hfm hol
      clear ht
      obtain ⟨D, hD⟩ : ∃ D, D = wr.heap.size := ⟨_, rfl⟩
      have HDD := Lib.hid hD
      have bD : Below wr.heap.size wr (wr.alloc (.cells #[.int .i64 d] 3)) := (Below.refl _ _).alloc (Nat.le_refl _) _
      have n1 : NumAt (wr.alloc (.cells #[.int .i64 d] 3)) D d := by rw [hD]; exact NumAt.new wr d
      have f1 := hfm.step bD
      have szD : D + 1 ≤ (wr.alloc (.cells #[.int .i64 d] 3)).heap.size := by rw [World.size_alloc]; omega
      have N1 := Lib.hid n1
      have F1 := Lib.hid f1
      clear hfm n1 f1 hwr bD hD
      go_upto_region 10 with fail
      rw [← HDD.out]
      generalize wr.alloc (Obj.cells #[Value.int .i64 d] 3) = V at N1 F1 szD ⊢
      have bV : Below w1.heap.size w1 V := by rw [← HBS.out]; exact F1.out.below
      have pV := PO.out.below bV
      obtain ⟨lao, lc, lb, loff, elv, hll, hlm, hlcell⟩ := pV.list.at
      have c6 := pV.plan.cell 6 (by omega)
      have e6 : x.cell 6 = x.lv := rfl
      rw [e6, elv] at c6
      have hlr := pV.list
      rw [elv] at hlr
      have C61 := Lib.hid (idxFunc_any _ L D d V hlr N1.out)
      have HLC := Lib.hid hlcell
      have PV := Lib.hid pV
      clear pV e6 hlr hlcell elv
      go_wp2_with fail
      refine C61.out.mono ?_
      rintro e w3 ⟨rfl, hb3⟩
      have n3 := N1.out.below hb3
      have f3 := F1.out.step hb3
      have c14 := n3.cell
      have N3 := Lib.hid n3
      have F3 := Lib.hid f3
      have PV3 := Lib.hid (PV.out.below hb3)
      have zV := hb3.size
      have hmap3 := f3.map
      have hlk := key_int.lookup (tm := 122) (te := 123) Try.underlying122 (z := .agg #[]) (fun w => by kernel_rfl) hmap3 d
      have b34 : Below w3.heap.size w3 (w3.alloc (.cells #[] 123)) := (Below.refl _ _).alloc (Nat.le_refl _) _
      have F4 := Lib.hid (f3.step b34)
      have N4 := Lib.hid (n3.below b34)
      have hfg := findI_ge d (L.map Hd.dev)
      have hfm := findI_mem (x := d) (ds := L.map Hd.dev)
      have HFI := Lib.hid hfm
      clear n3 f3 hmap3 hfm F1 N1
      rcases seekL_set d t.m with ⟨k1, q, k2⟩ | ⟨k1, k2⟩
      · -- met
        rw [k2] at hlk
        simp only at hlk
        have hsd : stepD g.ns L t d = t := by unfold stepD; rw [if_pos (.inl k1)]
        have HSDD := Lib.hid hsd
        clear k1 k2 hsd
        generalize findI d (L.map Hd.dev) = fi at *
        go_wp2
        go_roundg go
        case measure => omega
        case rel => exact ⟨j + 1, by omega, by go_num, by rw [HST.out, HSDD.out]; exact F4.out, by rw [HST.out, HSDD.out]; exact HWF.out, by rw [HST.out, HSDD.out]; omega⟩
      · rw [k2] at hlk
        simp only at hlk
        by_cases hneg : findI d (L.map Hd.dev) < 0
        · have hsd : stepD g.ns L t d = t := by unfold stepD; rw [if_pos (.inr hneg)]
          have HSDD := Lib.hid hsd
          clear k1 k2 hsd
          generalize findI d (L.map Hd.dev) = fi at *
          go_wp2
          go_roundg go
          case measure => omega
          case rel => exact ⟨j + 1, by omega, by go_num, by rw [HST.out, HSDD.out]; exact F4.out, by rw [HST.out, HSDD.out]; exact HWF.out, by rw [HST.out, HSDD.out]; omega⟩
        · obtain ⟨q, hq⟩ := Int.eq_ofNat_of_zero_le (show 0 ≤ findI d (L.map Hd.dev) by omega)
          have hql : q < L.length := by
            have := findI_lt d (L.map Hd.dev)
            rw [List.length_map] at this
            omega
          have HSDD := Lib.hid (stepD_go (ns := g.ns) k1 hq)
          rw [hq]
          have hup := key_int.update (tm := 122) (te := 123) Try.underlying122 (w := w3.alloc (.cells #[] 123)) (r := Bs + 1) (L := setOf t.m) F4.out.map d (.agg #[]) (by rw [setOf_keys]; exact k1)
          rw [show setOf t.m ++ [(d, Value.agg #[])] = setOf (t.m ++ [d]) by simp [setOf]] at hup
          have n4 := N4.out.cell
          have f5 := F4.out.upd d
          have n5 : NumAt (setBlock (w3.alloc (.cells #[] 123)) (Bs + 1) (mapObj (fun i : Int => Value.int .i64 i) (setOf (t.m ++ [d])))) D d := (setBlock_off _ _ (by have := HDD.out; omega)).trans N4.out
          have F5' := Lib.hid f5
          have N5 := Lib.hid n5
          have hq0 : ((q : Int) < 0) = False := by simp
          have hq0' : decide ((q : Int) < 0) = false := by simp
          clear k1 k2 hneg hfg hq f5 n5 F3 N3 b34
          go_upto_region 14 with fail
          generalize setBlock (w3.alloc (.cells #[] 123)) (Bs + 1) (mapObj (fun i : Int => Value.int .i64 i) (setOf (t.m ++ [d]))) = V5 at F5' N5 ⊢
          clear hup hlk c14 n4 F4 N4 hq0 hq0' C61
          have b5 : Below w1.heap.size w1 V5 := by rw [← HBS.out]; exact F5'.out.below
          obtain ⟨lao', lc', lb', loff', elv', hll', hlm', hlcell'⟩ := PO.out.list.at
          have c6' := (PO.out.below b5).plan.cell 6 (by omega)
          have e6' : x.cell 6 = x.lv := rfl
          rw [e6', elv'] at c6'
          obtain ⟨y1, _, y3, _, _, yat⟩ := hlcell' q hql
          subst y1
          obtain ⟨pa', pc', pb', poff', epv, hpl', hpm', hpcell⟩ := yat.1.at
          rw [epv] at y3
          rw [← b5.cell (p := ⟨lb', _, none⟩) (cell_lt y3)] at y3
          have hLq : L.getD q default ∈ hs := HPL.out.mem_iff.1 (by rw [getD_at _ _ _ hql]; exact List.getElem_mem _)
          have hpl20 := HPS.out _ hLq
          have hpok := (HOK.out.2.2.2.2 _ hLq).2.1
          have HPOK := Lib.hid hpok
          have HPCELL := Lib.hid hpcell
          clear e6' elv' hlcell' yat hpcell hpok hLq epv
          generalize (L.getD q default).ps = yps at *
          generalize hypl : yps.length = yl at *
          have HYL := Lib.hid hypl
          clear hypl
          go_wp2
          go_loopg [11, 71] yl (fun g2 v11 v71 wy => ∃ i : Nat, i + g2 = yl ∧ v71 = .int .i64 i ∧ FMid w1 Bs Bs (Bs + 1) ((yps.take i).foldl (stepP g.ns d) (t.s, t.o)).1 ((yps.take i).foldl (stepP g.ns d) (t.s, t.o)).2 (t.m ++ [d]) v11 wy ∧ NumAt wy D d)
          case atStart => exact ⟨0, by omega, rfl, by simpa using F5'.out, N5.out⟩
          case round =>
            obtain ⟨i, hi, rfl, hfi, hni⟩ := hrel
            cases gk with
            | zero =>
              obtain rfl : i = yl := by omega
              have htk : yps.take i = yps := List.take_of_length_le (by rw [HYL.out]; exact Nat.le_refl _)
              rw [htk] at hfi
              have hlf : (yps.foldl (stepP g.ns d) (t.s, t.o)).2.length ≤ t.o.length + yps.length := foldF_len g.ns d yps (t.s, t.o)
              have hwf := foldF_wf (ns := g.ns) (d := d) yps (t.s, t.o) HWF.out (fun p hp => (HPOK.out.2 p hp).2)
              have HFI2 := Lib.hid hfi
              have HWF2 := Lib.hid hwf
              rw [HYL.out] at hlf
              clear hfi hwf htk hni
              go_wp2
              go_roundg go
              case measure => omega
              case rel => exact ⟨j + 1, by omega, by go_num, by rw [HST.out, HSDD.out]; exact HFI2.out, by rw [HST.out, HSDD.out]; exact HWF2.out, by rw [HST.out, HSDD.out]; show (yps.foldl (stepP g.ns d) (t.s, t.o)).2.length ≤ _; omega⟩
            | succ g2 =>
              have hly : i < yl := by omega
              have hyl : i < yps.length := by rw [HYL.out]; exact hly
              obtain ⟨p1, p2, p3⟩ := HPCELL.out i hly
              subst p1
              rw [← hfi.below.cell (p := ⟨pb', _, none⟩) (by rw [HBS.out]; exact cell_lt p2)] at p2
              rw [← hfi.below.cell (p := ⟨pb', _, none⟩) (by rw [HBS.out]; exact cell_lt p3)] at p3
              rw [getD_at _ _ _ hyl] at p2 p3
              have hst := foldF_take g.ns d (t.s, t.o) yps i hyl
              have hrng := HPOK.out.2 yps[i] (List.getElem_mem hyl)
              have hwf := foldF_wf (ns := g.ns) (d := d) (yps.take i) (t.s, t.o) HWF.out (fun p hp => (HPOK.out.2 p (List.mem_of_mem_take hp)).2)
              have hlf : ((yps.take i).foldl (stepP g.ns d) (t.s, t.o)).2.length ≤ t.o.length + (yps.take i).length := foldF_len g.ns d (yps.take i) (t.s, t.o)
              rw [List.length_take] at hlf
              have HS2 := Lib.hid hst
              have HW2 := Lib.hid hwf
              clear hst hwf
              generalize yps[i] = y at p2 p3 HS2 hrng
              obtain ⟨st, ix⟩ := y
              simp only at p2 p3 hrng
              obtain ⟨r0, r1⟩ := hrng
              obtain ⟨n, rfl⟩ := Int.eq_ofNat_of_zero_le r0
              generalize (yps.take i).foldl (stepP g.ns d) (t.s, t.o) = T at hfi hlf HS2 HW2
              obtain ⟨s, o⟩ := T
              simp only at hfi hlf HW2
              have hol2 : o.length ≤ 1000000000 := by omega
              obtain ⟨X, hX⟩ : ∃ X, X = wr.heap.size := ⟨_, rfl⟩
              have HX := Lib.hid hX
              have bx : Below wr.heap.size wr (wr.alloc (.cells #[.string st, .int .i64 n] 68)) := (Below.refl _ _).alloc (Nat.le_refl _) _
              have xX := heap_alloc_last wr (.cells #[.string st, .int .i64 n] 68)
              rw [← hX] at xX
              have fX := hfi.step bx
              have nX := hni.below bx
              have dlt := (Array.getElem?_eq_some_iff.1 hni).1
              have slt := (Array.getElem?_eq_some_iff.1 hfi.sup).1
              have XX := Lib.hid xX
              have FX := Lib.hid fX
              have NX := Lib.hid nX
              clear xX fX nX hfi hni bx hX
              go_wp2_with fail
              rw [← HX.out]
              generalize wr.alloc (Obj.cells #[Value.string st, Value.int IntKind.i64 n] 68) = U at XX FX NX ⊢
              have x0 := cell_of_row _ _ 0 _ _ _ XX.out
              have x1 := cell_of_row _ _ 1 _ _ _ XX.out
              have bU : Below w1.heap.size w1 U := by rw [← HBS.out]; exact FX.out.below
              have pU := PO.out.below bU
              have c5 : U.cell? ⟨b, 5, none⟩ = some (.map (some x.m)) := pU.plan.cell 5 (by omega)
              have hmU := pU.map
              have PU := Lib.hid pU
              have HMU := Lib.hid hmU
              have hlk2 : ∀ q, _ := fun q => NeedMap.look (w := U.drewN q) (m := x.m) (ns := g.ns) HMU.out st
              clear pU hmU p2 p3 c6 c6' y3 e2
              simp only [List.getElem?_toArray, List.getElem?_cons_zero, List.getElem?_cons_succ] at x0 x1
              cases hix : ndIx st g.ns with
              | none =>
                have hsame : stepP g.ns d (s, o) ⟨st, n⟩ = (s, o) := by unfold stepP; rw [hix]
                have HSM := Lib.hid hsame
                rw [hix] at hlk2
                clear hix hsame
                go_wp2_with fail
                go_quiet (fail)
                go_wp2
                go_quiet (fail)
                go_wp2
                go_roundg g2
                case measure => omega
                case rel => exact ⟨i + 1, by omega, by go_num, by rw [HS2.out, HSM.out]; exact FX.out.step (below_drewN (Below.refl _ _) _), NX.out⟩
              | some k =>
                have hk := ndIx_lt hix
                have hk64 : k < 64 := by have := HOK.out.1.1; omega
                have hstep : stepP g.ns d (s, o) ⟨st, n⟩ = if lackN (g.ns.getD k default).d (s.pc k) = 0 ∨ s.pc k / 2 ^ n % 2 = 1 then (s, o) else (addPc g.ns s ⟨st, n⟩, o ++ [(d, ⟨st, n⟩)]) := by unfold stepP; rw [hix]; simp
                have HSTEP := Lib.hid hstep
                have HIX := Lib.hid hix
                rw [hix] at hlk2
                clear hix hstep
                go_wp2_with fail
                go_quiet (fail)
                generalize hV1 : U.drewN nq = V1
                have b1 : Below U.heap.size U V1 := by rw [← hV1]; exact below_drewN (Below.refl _ _) _
                have F1 := FX.out.step b1
                have D1 := NX.out.below b1
                have P1 := PU.out.below b1
                have cx1 : V1.cell? ⟨X, 1, none⟩ = some (.int .i64 n) := by rw [← hV1]; exact x1
                have cx0 : V1.cell? ⟨X, 0, none⟩ = some (.string st) := by rw [← hV1]; exact x0
                have cpk := F1.sup.pc k hk64
                have hbnd := HOK.out.2.1.2 (g.ns.getD k default) (by rw [getD_at _ _ _ hk]; exact List.getElem_mem _)
                have C45 := Lib.hid (fun W (hW : Below V1.heap.size V1 W) => lacking_any b s x.nv g.ns k W hk HOK.out.1.1 ((P1.plan.below hW).cell 0 (by omega)) (P1.needs.below hW) HW2.out hbnd.1 hbnd.2)
                have hpkb := HW2.out.pc k
                have hand := and_u16 (s.pc k) n hpkb
                have FF1 := Lib.hid F1
                have XV := Lib.hid ((b1.block X (Array.getElem?_eq_some_iff.1 XX.out).1).trans XX.out)
                have DD1 := Lib.hid D1
                have hHS : Below V1.heap.size V1 V1.drew ∧ V1.drew.cell? ⟨Bs, k, none⟩ = some (.int .u16 (s.pc k)) ∧ V1.drew.cell? ⟨X, 1, none⟩ = some (.int .i64 n) := ⟨(Below.refl _ _).drew, cpk, cx1⟩
                have hHS' := Lib.hid hHS
                have hxlt : X < V1.heap.size := cell_lt cx1
                have hblt : Bs < V1.heap.size := cell_lt cpk
                have hkeep : ∀ w6 w7 : World, (Below V1.heap.size V1 w6 ∧ w6.cell? ⟨Bs, k, none⟩ = some (.int .u16 (s.pc k)) ∧ w6.cell? ⟨X, 1, none⟩ = some (.int .i64 n)) → Below w6.heap.size w6 w7 → Below V1.heap.size V1 w7 ∧ w7.cell? ⟨Bs, k, none⟩ = some (.int .u16 (s.pc k)) ∧ w7.cell? ⟨X, 1, none⟩ = some (.int .i64 n) := fun w6 w7 h hb => by
                  have h6 := h.1.trans (hb.mono h.1.size)
                  exact ⟨h6, (h6.cell (p := ⟨Bs, k, none⟩) hblt).trans cpk, (h6.cell (p := ⟨X, 1, none⟩) hxlt).trans cx1⟩
                have HKEEP := Lib.hid hkeep
                have HSUP := Lib.hid (fun (w6 : World) (h : Below V1.heap.size V1 w6 ∧ w6.cell? ⟨Bs, k, none⟩ = some (.int .u16 (s.pc k)) ∧ w6.cell? ⟨X, 1, none⟩ = some (.int .i64 n)) => F1.sup.below h.1)
                clear hV1 F1 D1 P1 b1 hlk2 x0 x1 c5 hHS hkeep cpk cx1 cx0 HMU PU bU
                generalize lackN (g.ns.getD k default).d (s.pc k) = z at *
                obtain ⟨pk, hpk⟩ : ∃ pk, pk = s.pc k := ⟨_, rfl⟩
                rw [← hpk] at hand hpkb HSTEP HKEEP HSUP hHS'
                have HPK := Lib.hid hpk
                clear hpk
                have hki : (k : Int) < 64 := by omega
                have hn16 : (n : Int) < 16 := by omega
                go_wp2
                refine wp_region_held_drew (S := fun w' => Below V1.heap.size V1 w' ∧ w'.cell? ⟨Bs, k, none⟩ = some (.int .u16 pk) ∧ w'.cell? ⟨X, 1, none⟩ = some (.int .i64 n)) (by kernel_rfl) hHS'.out (fun hHeld => ?_)
                refine wpAnyH_take (i := 0) (v := ?_) rfl (by kernel_rfl) (by kernel_rfl) (by kernel_rfl) (fun _ _ _ h => h) (Or.inl ⟨by rfl, ?_⟩) (by assumption) ?_
                rotate_left; · (intro w hSw; (try dsimp only at hSw); go_simp; try with_reducible rfl)
                try simp only [Act.put, List.getElem_toArray, List.getElem_cons_zero, List.getElem_cons_succ, List.setIfInBounds_toArray, List.set_cons_zero, List.set_cons_succ]
                refine wpAnyH_take (i := 1) (v := ?_) rfl (by kernel_rfl) (by kernel_rfl) (by kernel_rfl) (fun _ _ _ h => h) (Or.inl ⟨by rfl, ?_⟩) (by assumption) ?_
                rotate_left; · (intro w hSw; (try dsimp only at hSw); go_simp; try with_reducible rfl)
                try simp only [Act.put, List.getElem_toArray, List.getElem_cons_zero, List.getElem_cons_succ, List.setIfInBounds_toArray, List.set_cons_zero, List.set_cons_succ]
                refine wpAnyH_take (i := 2) (v := ?_) rfl (by kernel_rfl) (by kernel_rfl) (by kernel_rfl) (fun _ _ _ h => h) (Or.inl ⟨by rfl, ?_⟩) (by assumption) ?_
                rotate_left; · (intro w hSw; (try dsimp only at hSw); go_simp; try with_reducible rfl)
                try simp only [Act.put, List.getElem_toArray, List.getElem_cons_zero, List.getElem_cons_succ, List.setIfInBounds_toArray, List.set_cons_zero, List.set_cons_succ]
                refine wpAnyH_take (i := 3) (v := ?_) rfl (by kernel_rfl) (by kernel_rfl) (by kernel_rfl) (fun _ _ _ h => h) (Or.inl ⟨by rfl, ?_⟩) (by assumption) ?_
                rotate_left; · (intro w hSw; (try dsimp only at hSw); go_simp; try with_reducible rfl)
                try simp only [Act.put, List.getElem_toArray, List.getElem_cons_zero, List.getElem_cons_succ, List.setIfInBounds_toArray, List.set_cons_zero, List.set_cons_succ]
                refine wpAnyH_take (i := 4) (v := .agg s.cells) rfl (by kernel_rfl) (by kernel_rfl) (by kernel_rfl) (fun _ _ _ h => h) (yieldsIf_load_sup (by rfl) (.tmp 10) (by rfl) Bs (by rfl) s HSUP.out) (by assumption) ?_
                try simp only [Act.put, List.getElem_toArray, List.getElem_cons_zero, List.getElem_cons_succ, List.setIfInBounds_toArray, List.set_cons_zero, List.set_cons_succ]
                refine wpAnyH_take (i := 5) (v := ?_) rfl (by kernel_rfl) (by kernel_rfl) (by kernel_rfl) (fun _ _ _ h => h) (Or.inl ⟨by rfl, ?_⟩) (by assumption) ?_
                rotate_left; · (intro w hSw; (try dsimp only at hSw); go_simp; try with_reducible rfl)
                try simp only [Act.put, List.getElem_toArray, List.getElem_cons_zero, List.getElem_cons_succ, List.setIfInBounds_toArray, List.set_cons_zero, List.set_cons_succ]
                refine wpAnyH_ready (rs := [6]) (by kernel_rfl) (by simp) ?_
                refine AllReadyH.cons rfl (fun K hK => ?_) AllReadyH.nil
                go_simp
                go_at_call 45
                refine (C45.out _ hHeld.1).mono ?_
                rintro e w6 ⟨rfl, hb6⟩
                go_wp2_with fail
                refine hK.out _ _ (HKEEP.out _ _ hHeld hb6) (fun hNew => ?_)
                clear hK K hHeld hb6
                have hHeld := hNew
                clear hNew
                try simp only [Act.put, List.getElem_toArray, List.getElem_cons_zero, List.getElem_cons_succ, List.setIfInBounds_toArray, List.set_cons_zero, List.set_cons_succ]
                have F6 := Lib.hid (FF1.out.step hHeld.1)
                have N6 := Lib.hid (DD1.out.below hHeld.1)
                have X6 := Lib.hid ((hHeld.1.block X hxlt).trans XV.out)
                have hDs : D ≠ Bs := by have := HDD.out; omega
                have hXs : X ≠ Bs := by have := HX.out; have := HBS.out; omega
                by_cases hz0 : z = 0
                · have k1 : (z == 0) = true := by simp [hz0]
                  have hst2 := HSTEP.out
                  rw [if_pos (.inl hz0)] at hst2
                  have HST2 := Lib.hid hst2
                  clear hst2 hz0
                  refine wpAnyH_take (i := 7) (v := ?_) rfl (by kernel_rfl) (by kernel_rfl) (by kernel_rfl) (fun _ _ _ h => h) (Or.inl ⟨by rfl, ?_⟩) (by assumption) ?_
                  rotate_left; · (intro w hSw; (try dsimp only at hSw); go_simp; try with_reducible rfl)
                  try simp only [Act.put, List.getElem_toArray, List.getElem_cons_zero, List.getElem_cons_succ, List.setIfInBounds_toArray, List.set_cons_zero, List.set_cons_succ]
                  refine wpAnyH_take (i := 8) (v := ?_) rfl (by kernel_rfl) (by kernel_rfl) (by kernel_rfl) (fun _ _ _ h => h) (Or.inl ⟨by rfl, ?_⟩) (by assumption) ?_
                  rotate_left; · (intro w hSw; (try dsimp only at hSw); go_simp; try with_reducible rfl)
                  try simp only [Act.put, List.getElem_toArray, List.getElem_cons_zero, List.getElem_cons_succ, List.setIfInBounds_toArray, List.set_cons_zero, List.set_cons_succ]
                  refine wpAnyH_take (i := 9) (v := ?_) rfl (by kernel_rfl) (by kernel_rfl) (by kernel_rfl) (fun _ _ _ h => h) (Or.inl ⟨by rfl, ?_⟩) (by assumption) ?_
                  rotate_left; · (intro w hSw; (try dsimp only at hSw); go_simp; try with_reducible rfl)
                  try simp only [Act.put, List.getElem_toArray, List.getElem_cons_zero, List.getElem_cons_succ, List.setIfInBounds_toArray, List.set_cons_zero, List.set_cons_succ]
                  refine wpAnyH_take (i := 10) (v := undef) rfl (by kernel_rfl) (by kernel_rfl) (by kernel_rfl) (fun _ _ _ h => h) (Or.inr ⟨by rfl, rfl⟩) (by assumption) ?_
                  try simp only [Act.put, List.getElem_toArray, List.getElem_cons_zero, List.getElem_cons_succ, List.setIfInBounds_toArray, List.set_cons_zero, List.set_cons_succ]
                  refine wpAnyH_take (i := 11) (v := undef) rfl (by kernel_rfl) (by kernel_rfl) (by kernel_rfl) (fun _ _ _ h => h) (Or.inr ⟨by rfl, rfl⟩) (by assumption) ?_
                  try simp only [Act.put, List.getElem_toArray, List.getElem_cons_zero, List.getElem_cons_succ, List.setIfInBounds_toArray, List.set_cons_zero, List.set_cons_succ]
                  refine wpAnyH_take (i := 12) (v := undef) rfl (by kernel_rfl) (by kernel_rfl) (by kernel_rfl) (fun _ _ _ h => h) (Or.inr ⟨by rfl, rfl⟩) (by assumption) ?_
                  try simp only [Act.put, List.getElem_toArray, List.getElem_cons_zero, List.getElem_cons_succ, List.setIfInBounds_toArray, List.set_cons_zero, List.set_cons_succ]
                  refine wpAnyH_take (i := 13) (v := undef) rfl (by kernel_rfl) (by kernel_rfl) (by kernel_rfl) (fun _ _ _ h => h) (Or.inr ⟨by rfl, rfl⟩) (by assumption) ?_
                  try simp only [Act.put, List.getElem_toArray, List.getElem_cons_zero, List.getElem_cons_succ, List.setIfInBounds_toArray, List.set_cons_zero, List.set_cons_succ]
                  refine wpAnyH_take (i := 14) (v := undef) rfl (by kernel_rfl) (by kernel_rfl) (by kernel_rfl) (fun _ _ _ h => h) (Or.inr ⟨by rfl, rfl⟩) (by assumption) ?_
                  try simp only [Act.put, List.getElem_toArray, List.getElem_cons_zero, List.getElem_cons_succ, List.setIfInBounds_toArray, List.set_cons_zero, List.set_cons_succ]
                  refine wpAnyH_take (i := 15) (v := undef) rfl (by kernel_rfl) (by kernel_rfl) (by kernel_rfl) (fun _ _ _ h => h) (Or.inr ⟨by rfl, rfl⟩) (by assumption) ?_
                  try simp only [Act.put, List.getElem_toArray, List.getElem_cons_zero, List.getElem_cons_succ, List.setIfInBounds_toArray, List.set_cons_zero, List.set_cons_succ]
                  refine wpAnyH_take (i := 16) (v := undef) rfl (by kernel_rfl) (by kernel_rfl) (by kernel_rfl) (fun _ _ _ h => h) (Or.inr ⟨by rfl, rfl⟩) (by assumption) ?_
                  try simp only [Act.put, List.getElem_toArray, List.getElem_cons_zero, List.getElem_cons_succ, List.setIfInBounds_toArray, List.set_cons_zero, List.set_cons_succ]
                  refine wpAnyH_take (i := 17) (v := undef) rfl (by kernel_rfl) (by kernel_rfl) (by kernel_rfl) (fun _ _ _ h => h) (Or.inr ⟨by rfl, rfl⟩) (by assumption) ?_
                  try simp only [Act.put, List.getElem_toArray, List.getElem_cons_zero, List.getElem_cons_succ, List.setIfInBounds_toArray, List.set_cons_zero, List.set_cons_succ]
                  refine wpAnyH_take (i := 18) (v := undef) rfl (by kernel_rfl) (by kernel_rfl) (by kernel_rfl) (fun _ _ _ h => h) (Or.inr ⟨by rfl, rfl⟩) (by assumption) ?_
                  try simp only [Act.put, List.getElem_toArray, List.getElem_cons_zero, List.getElem_cons_succ, List.setIfInBounds_toArray, List.set_cons_zero, List.set_cons_succ]
                  refine wpAnyH_take (i := 19) (v := ?_) rfl (by kernel_rfl) (by kernel_rfl) (by kernel_rfl) (fun _ _ _ h => h) (Or.inl ⟨by rfl, ?_⟩) (by assumption) ?_
                  rotate_left; · (intro w hSw; (try dsimp only at hSw); go_simp; try with_reducible rfl)
                  try simp only [Act.put, List.getElem_toArray, List.getElem_cons_zero, List.getElem_cons_succ, List.setIfInBounds_toArray, List.set_cons_zero, List.set_cons_succ]
                  refine wpAnyH_done (by kernel_rfl) ?_ _
                  go_wp2_with fail
                  go_roundg g2
                  case measure => omega
                  case rel => exact ⟨i + 1, by omega, by go_num, by rw [HS2.out, HST2.out]; exact F6.out, N6.out⟩
                · have k1 : (z == 0) = false := by simp [hz0]
                  have HZ0 := Lib.hid hz0
                  by_cases hq2 : pk / 2 ^ n % 2 = 1
                  · rw [hq2, show ((1 : Nat) : Int) = 1 from rfl] at hand
                    have hst2 := HSTEP.out
                    rw [if_pos (.inr hq2)] at hst2
                    have HST2 := Lib.hid hst2
                    clear hst2 hz0 hq2
                    refine wpAnyH_take (i := 7) (v := ?_) rfl (by kernel_rfl) (by kernel_rfl) (by kernel_rfl) (fun _ _ _ h => h) (Or.inl ⟨by rfl, ?_⟩) (by assumption) ?_
                    rotate_left; · (intro w hSw; (try dsimp only at hSw); go_simp; try with_reducible rfl)
                    try simp only [Act.put, List.getElem_toArray, List.getElem_cons_zero, List.getElem_cons_succ, List.setIfInBounds_toArray, List.set_cons_zero, List.set_cons_succ]
                    refine wpAnyH_take (i := 8) (v := ?_) rfl (by kernel_rfl) (by kernel_rfl) (by kernel_rfl) (fun _ _ _ h => h) (Or.inl ⟨by rfl, ?_⟩) (by assumption) ?_
                    rotate_left; · (intro w hSw; (try dsimp only at hSw); go_simp; try with_reducible rfl)
                    try simp only [Act.put, List.getElem_toArray, List.getElem_cons_zero, List.getElem_cons_succ, List.setIfInBounds_toArray, List.set_cons_zero, List.set_cons_succ]
                    refine wpAnyH_take (i := 9) (v := ?_) rfl (by kernel_rfl) (by kernel_rfl) (by kernel_rfl) (fun _ _ _ h => h) (Or.inl ⟨by rfl, ?_⟩) (by assumption) ?_
                    rotate_left; · (intro w hSw; (try dsimp only at hSw); go_simp; try with_reducible rfl)
                    try simp only [Act.put, List.getElem_toArray, List.getElem_cons_zero, List.getElem_cons_succ, List.setIfInBounds_toArray, List.set_cons_zero, List.set_cons_succ]
                    refine wpAnyH_take (i := 10) (v := ?_) rfl (by kernel_rfl) (by kernel_rfl) (by kernel_rfl) (fun _ _ _ h => h) (Or.inl ⟨by rfl, ?_⟩) (by assumption) ?_
                    rotate_left; · (intro w hSw; (try dsimp only at hSw); go_simp; try with_reducible rfl)
                    try simp only [Act.put, List.getElem_toArray, List.getElem_cons_zero, List.getElem_cons_succ, List.setIfInBounds_toArray, List.set_cons_zero, List.set_cons_succ]
                    refine wpAnyH_take (i := 11) (v := ?_) rfl (by kernel_rfl) (by kernel_rfl) (by kernel_rfl) (fun _ _ _ h => h) (Or.inl ⟨by rfl, ?_⟩) (by assumption) ?_
                    rotate_left; · (intro w hSw; (try dsimp only at hSw); go_simp; try with_reducible rfl)
                    try simp only [Act.put, List.getElem_toArray, List.getElem_cons_zero, List.getElem_cons_succ, List.setIfInBounds_toArray, List.set_cons_zero, List.set_cons_succ]
                    refine wpAnyH_take (i := 12) (v := ?_) rfl (by kernel_rfl) (by kernel_rfl) (by kernel_rfl) (fun _ _ _ h => h) (Or.inl ⟨by rfl, ?_⟩) (by assumption) ?_
                    rotate_left; · (intro w hSw; (try dsimp only at hSw); go_simp; try with_reducible rfl)
                    try simp only [Act.put, List.getElem_toArray, List.getElem_cons_zero, List.getElem_cons_succ, List.setIfInBounds_toArray, List.set_cons_zero, List.set_cons_succ]
                    refine wpAnyH_take (i := 13) (v := ?_) rfl (by kernel_rfl) (by kernel_rfl) (by kernel_rfl) (fun _ _ _ h => h) (Or.inl ⟨by rfl, ?_⟩) (by assumption) ?_
                    rotate_left; · (intro w hSw; (try dsimp only at hSw); go_simp; try with_reducible rfl)
                    try simp only [Act.put, List.getElem_toArray, List.getElem_cons_zero, List.getElem_cons_succ, List.setIfInBounds_toArray, List.set_cons_zero, List.set_cons_succ]
                    refine wpAnyH_take (i := 14) (v := ?_) rfl (by kernel_rfl) (by kernel_rfl) (by kernel_rfl) (fun _ _ _ h => h) (Or.inl ⟨by rfl, ?_⟩) (by assumption) ?_
                    rotate_left; · (intro w hSw; (try dsimp only at hSw); go_simp; try with_reducible rfl)
                    try simp only [Act.put, List.getElem_toArray, List.getElem_cons_zero, List.getElem_cons_succ, List.setIfInBounds_toArray, List.set_cons_zero, List.set_cons_succ]
                    refine wpAnyH_take (i := 15) (v := ?_) rfl (by kernel_rfl) (by kernel_rfl) (by kernel_rfl) (fun _ _ _ h => h) (Or.inl ⟨by rfl, ?_⟩) (by assumption) ?_
                    rotate_left; · (intro w hSw; (try dsimp only at hSw); go_simp; try with_reducible rfl)
                    try simp only [Act.put, List.getElem_toArray, List.getElem_cons_zero, List.getElem_cons_succ, List.setIfInBounds_toArray, List.set_cons_zero, List.set_cons_succ]
                    refine wpAnyH_take (i := 16) (v := ?_) rfl (by kernel_rfl) (by kernel_rfl) (by kernel_rfl) (fun _ _ _ h => h) (Or.inl ⟨by rfl, ?_⟩) (by assumption) ?_
                    rotate_left; · (intro w hSw; (try dsimp only at hSw); go_simp; try with_reducible rfl)
                    try simp only [Act.put, List.getElem_toArray, List.getElem_cons_zero, List.getElem_cons_succ, List.setIfInBounds_toArray, List.set_cons_zero, List.set_cons_succ]
                    refine wpAnyH_take (i := 17) (v := ?_) rfl (by kernel_rfl) (by kernel_rfl) (by kernel_rfl) (fun _ _ _ h => h) (Or.inl ⟨by rfl, ?_⟩) (by assumption) ?_
                    rotate_left; · (intro w hSw; (try dsimp only at hSw); go_simp; try with_reducible rfl)
                    try simp only [Act.put, List.getElem_toArray, List.getElem_cons_zero, List.getElem_cons_succ, List.setIfInBounds_toArray, List.set_cons_zero, List.set_cons_succ]
                    refine wpAnyH_take (i := 18) (v := ?_) rfl (by kernel_rfl) (by kernel_rfl) (by kernel_rfl) (fun _ _ _ h => h) (Or.inl ⟨by rfl, ?_⟩) (by assumption) ?_
                    rotate_left; · (intro w hSw; (try dsimp only at hSw); go_simp; try with_reducible rfl)
                    try simp only [Act.put, List.getElem_toArray, List.getElem_cons_zero, List.getElem_cons_succ, List.setIfInBounds_toArray, List.set_cons_zero, List.set_cons_succ]
                    refine wpAnyH_take (i := 19) (v := ?_) rfl (by kernel_rfl) (by kernel_rfl) (by kernel_rfl) (fun _ _ _ h => h) (Or.inl ⟨by rfl, ?_⟩) (by assumption) ?_
                    rotate_left; · (intro w hSw; (try dsimp only at hSw); go_simp; try with_reducible rfl)
                    try simp only [Act.put, List.getElem_toArray, List.getElem_cons_zero, List.getElem_cons_succ, List.setIfInBounds_toArray, List.set_cons_zero, List.set_cons_succ]
                    refine wpAnyH_done (by kernel_rfl) ?_ _
                    go_wp2_with fail
                    go_roundg g2
                    case measure => omega
                    case rel => exact ⟨i + 1, by omega, by go_num, by rw [HS2.out, HST2.out]; exact F6.out, N6.out⟩
                  · rw [show pk / 2 ^ n % 2 = 0 by omega, show ((0 : Nat) : Int) = 0 from rfl] at hand
                    have hst2 := HSTEP.out
                    rw [if_neg (fun h => h.elim hz0 hq2)] at hst2
                    have HST2 := Lib.hid hst2
                    clear hst2 hz0 hq2
                    refine wpAnyH_take (i := 7) (v := ?_) rfl (by kernel_rfl) (by kernel_rfl) (by kernel_rfl) (fun _ _ _ h => h) (Or.inl ⟨by rfl, ?_⟩) (by assumption) ?_
                    rotate_left; · (intro w hSw; (try dsimp only at hSw); go_simp; try with_reducible rfl)
                    try simp only [Act.put, List.getElem_toArray, List.getElem_cons_zero, List.getElem_cons_succ, List.setIfInBounds_toArray, List.set_cons_zero, List.set_cons_succ]
                    refine wpAnyH_take (i := 8) (v := ?_) rfl (by kernel_rfl) (by kernel_rfl) (by kernel_rfl) (fun _ _ _ h => h) (Or.inl ⟨by rfl, ?_⟩) (by assumption) ?_
                    rotate_left; · (intro w hSw; (try dsimp only at hSw); go_simp; try with_reducible rfl)
                    try simp only [Act.put, List.getElem_toArray, List.getElem_cons_zero, List.getElem_cons_succ, List.setIfInBounds_toArray, List.set_cons_zero, List.set_cons_succ]
                    refine wpAnyH_take (i := 9) (v := ?_) rfl (by kernel_rfl) (by kernel_rfl) (by kernel_rfl) (fun _ _ _ h => h) (Or.inl ⟨by rfl, ?_⟩) (by assumption) ?_
                    rotate_left; · (intro w hSw; (try dsimp only at hSw); go_simp; try with_reducible rfl)
                    try simp only [Act.put, List.getElem_toArray, List.getElem_cons_zero, List.getElem_cons_succ, List.setIfInBounds_toArray, List.set_cons_zero, List.set_cons_succ]
                    refine wpAnyH_take (i := 10) (v := ?_) rfl (by kernel_rfl) (by kernel_rfl) (by kernel_rfl) (fun _ _ _ h => h) (Or.inl ⟨by rfl, ?_⟩) (by assumption) ?_
                    rotate_left; · (intro w hSw; (try dsimp only at hSw); go_simp; try with_reducible rfl)
                    try simp only [Act.put, List.getElem_toArray, List.getElem_cons_zero, List.getElem_cons_succ, List.setIfInBounds_toArray, List.set_cons_zero, List.set_cons_succ]
                    refine wpAnyH_take (i := 11) (v := ?_) rfl (by kernel_rfl) (by kernel_rfl) (by kernel_rfl) (fun _ _ _ h => h) (Or.inl ⟨by rfl, ?_⟩) (by assumption) ?_
                    rotate_left; · (intro w hSw; (try dsimp only at hSw); go_simp; try with_reducible rfl)
                    try simp only [Act.put, List.getElem_toArray, List.getElem_cons_zero, List.getElem_cons_succ, List.setIfInBounds_toArray, List.set_cons_zero, List.set_cons_succ]
                    refine wpAnyH_take (i := 12) (v := ?_) rfl (by kernel_rfl) (by kernel_rfl) (by kernel_rfl) (fun _ _ _ h => h) (Or.inl ⟨by rfl, ?_⟩) (by assumption) ?_
                    rotate_left; · (intro w hSw; (try dsimp only at hSw); go_simp; try with_reducible rfl)
                    try simp only [Act.put, List.getElem_toArray, List.getElem_cons_zero, List.getElem_cons_succ, List.setIfInBounds_toArray, List.set_cons_zero, List.set_cons_succ]
                    refine wpAnyH_take (i := 13) (v := ?_) rfl (by kernel_rfl) (by kernel_rfl) (by kernel_rfl) (fun _ _ _ h => h) (Or.inl ⟨by rfl, ?_⟩) (by assumption) ?_
                    rotate_left; · (intro w hSw; (try dsimp only at hSw); go_simp; try with_reducible rfl)
                    try simp only [Act.put, List.getElem_toArray, List.getElem_cons_zero, List.getElem_cons_succ, List.setIfInBounds_toArray, List.set_cons_zero, List.set_cons_succ]
                    refine wpAnyH_take (i := 14) (v := ?_) rfl (by kernel_rfl) (by kernel_rfl) (by kernel_rfl) (fun _ _ _ h => h) (Or.inl ⟨by rfl, ?_⟩) (by assumption) ?_
                    rotate_left; · (intro w hSw; (try dsimp only at hSw); go_simp; try with_reducible rfl)
                    try simp only [Act.put, List.getElem_toArray, List.getElem_cons_zero, List.getElem_cons_succ, List.setIfInBounds_toArray, List.set_cons_zero, List.set_cons_succ]
                    refine wpAnyH_take (i := 15) (v := ?_) rfl (by kernel_rfl) (by kernel_rfl) (by kernel_rfl) (fun _ _ _ h => h) (Or.inl ⟨by rfl, ?_⟩) (by assumption) ?_
                    rotate_left; · (intro w hSw; (try dsimp only at hSw); go_simp; try with_reducible rfl)
                    try simp only [Act.put, List.getElem_toArray, List.getElem_cons_zero, List.getElem_cons_succ, List.setIfInBounds_toArray, List.set_cons_zero, List.set_cons_succ]
                    refine wpAnyH_take (i := 16) (v := ?_) rfl (by kernel_rfl) (by kernel_rfl) (by kernel_rfl) (fun _ _ _ h => h) (Or.inl ⟨by rfl, ?_⟩) (by assumption) ?_
                    rotate_left; · (intro w hSw; (try dsimp only at hSw); go_simp; try with_reducible rfl)
                    try simp only [Act.put, List.getElem_toArray, List.getElem_cons_zero, List.getElem_cons_succ, List.setIfInBounds_toArray, List.set_cons_zero, List.set_cons_succ]
                    refine wpAnyH_take (i := 17) (v := ?_) rfl (by kernel_rfl) (by kernel_rfl) (by kernel_rfl) (fun _ _ _ h => h) (Or.inl ⟨by rfl, ?_⟩) (by assumption) ?_
                    rotate_left; · (intro w hSw; (try dsimp only at hSw); go_simp; try with_reducible rfl)
                    try simp only [Act.put, List.getElem_toArray, List.getElem_cons_zero, List.getElem_cons_succ, List.setIfInBounds_toArray, List.set_cons_zero, List.set_cons_succ]
                    refine wpAnyH_take (i := 18) (v := ?_) rfl (by kernel_rfl) (by kernel_rfl) (by kernel_rfl) (fun _ _ _ h => h) (Or.inl ⟨by rfl, ?_⟩) (by assumption) ?_
                    rotate_left; · (intro w hSw; (try dsimp only at hSw); go_simp; try with_reducible rfl)
                    try simp only [Act.put, List.getElem_toArray, List.getElem_cons_zero, List.getElem_cons_succ, List.setIfInBounds_toArray, List.set_cons_zero, List.set_cons_succ]
                    refine wpAnyH_take (i := 19) (v := ?_) rfl (by kernel_rfl) (by kernel_rfl) (by kernel_rfl) (fun _ _ _ h => h) (Or.inl ⟨by rfl, ?_⟩) (by assumption) ?_
                    rotate_left; · (intro w hSw; (try dsimp only at hSw); go_simp; try with_reducible rfl)
                    try simp only [Act.put, List.getElem_toArray, List.getElem_cons_zero, List.getElem_cons_succ, List.setIfInBounds_toArray, List.set_cons_zero, List.set_cons_succ]
                    refine wpAnyH_done (by kernel_rfl) ?_ _
                    have h2n : 2 ^ n < 2 ^ 16 := Nat.pow_lt_pow_right (by omega) (by omega)
                    rw [show (2 : Nat) ^ 16 = 65536 from rfl] at h2n
                    have hw : IntKind.u16.wrap (2 ^ n) = ((2 ^ n : Nat) : Int) := by
                      rw [show ((2 : Int) ^ n) = ((2 ^ n : Nat) : Int) by simp]
                      generalize (2 ^ n : Nat) = pw at h2n
                      exact wraps_u16 _ (by omega) (by omega)
                    have ho := or16 pk (2 ^ n) hpkb h2n
                    have hset : ∀ W, SupAt W Bs s → SupAt (W.setCell ⟨Bs, k, none⟩ (.int .u16 ((pk ||| 2 ^ n : Nat)))) Bs (addPc g.ns s ⟨st, n⟩) := fun W h => by
                      have e : addPc g.ns s ⟨st, n⟩ = { s with pc := fun q => if q = k then s.pc q ||| 2 ^ n else s.pc q } := by unfold addPc; rw [HIX.out]; simp
                      rw [e, HPK.out]
                      refine h.set _ k _ (by omega) (by unfold Sup.cell; rw [if_pos (by omega)]; simp) (fun q hq hne => ?_)
                      unfold Sup.cell
                      by_cases a : q < 64
                      · rw [if_pos a, if_pos a]; simp [hne]
                      · rw [if_neg a, if_neg a]
                    have HSET := Lib.hid hset
                    have c1 := hHeld.2.1
                    have c2 := hHeld.2.2
                    have fz : w6.drew.frozen? ⟨Bs, k, none⟩ = false := F6.out.sup.frozen k
                    clear hset hand k1
                    generalize pk ||| 2 ^ n = oo at ho HSET
                    generalize hpw : (2 ^ n : Nat) = pw at *
                    clear hpw hHeld
                    go_wp2_with fail
                    go_still_tail 10, (by kernel_rfl)
                    change wpList _ _ _ _ _ w6.drew
                    obtain ⟨w7, hw7⟩ : ∃ w7, w7 = w6.drew := ⟨_, rfl⟩
                    have f7 : FMid w1 Bs Bs (Bs + 1) s o (t.m ++ [d]) u11 w7 := by rw [hw7]; exact F6.out.step (Below.refl _ _).drew
                    have n7 : NumAt w7 D d := by rw [hw7]; exact N6.out
                    have x7 : w7.heap[X]? = some (.cells #[.string st, .int .i64 n] 68 (0, 0)) := by rw [hw7]; exact X6.out
                    have c7 : w7.cell? ⟨Bs, k, none⟩ = some (.int .u16 pk) := by rw [hw7]; exact c1
                    rw [← hw7] at fz ⊢
                    have f8 := f7.set (addPc g.ns s ⟨st, n⟩) k _ (HSET.out w7 f7.sup)
                    have n8 : NumAt (w7.setCell ⟨Bs, k, none⟩ (.int .u16 (oo : Nat))) D d := (setCell_other w7 _ hDs).trans n7
                    have x8 := (setCell_other w7 (b := Bs) (i := k) (.int .u16 (oo : Nat)) hXs).trans x7
                    have F8 := Lib.hid f8
                    have N8 := Lib.hid n8
                    have X8 := Lib.hid x8
                    clear hw7 f7 n7 x7 f8 n8 x8 c1 c2
                    go_upto_region 20 with fail
                    generalize w7.setCell ⟨Bs, k, none⟩ (.int .u16 (oo : Nat)) = W8 at F8 N8 X8 ⊢
                    have d8 := N8.out.cell
                    have y0 := cell_of_row _ _ 0 _ _ _ X8.out
                    have y1 := cell_of_row _ _ 1 _ _ _ X8.out
                    simp only [List.getElem?_toArray, List.getElem?_cons_zero, List.getElem?_cons_succ] at y0 y1
                    obtain ⟨v9, w9, r9, f9, o9, z9⟩ := F8.out.app d ⟨st, n⟩ hol2
                    have n9 : NumAt w9 D d := (o9 D (Array.getElem?_eq_some_iff.1 N8.out).1 (own_ne F8.out.own N8.out (by decide))).trans N8.out
                    have F9 := Lib.hid f9
                    have N9 := Lib.hid n9
                    clear f9 o9 n9
                    go_wp2_with (at_builtin; refine wpList_append_run (by rfl) (.tmp 115) (.tmp 119) 62 (by rfl) _ (.slice (some ⟨W8.heap.size, 0, none⟩) 1 1) v9 w9 (by rfl) (by rfl) r9 ?_)
                    go_roundg g2
                    case measure => omega
                    case rel => exact ⟨i + 1, by omega, by go_num, by rw [HS2.out, HST2.out]; exact F9.out, N9.out⟩

end Go.Proofs.Ytapjgjjmlbhanaa
