/- Fetches: plain; its memory. -/
import Derived.Test.YtapjgjjmlbhanaaH4
import Derived.Test.YtapjgjjmlbhanaaJ1
import Derived.Deep.RegionHeld3
import Derived.StillTailTactics
namespace Go.Proofs.Ytapjgjjmlbhanaa
open Go.RowKit Go.Lib Go.ChangeMaps

/-- A piece of a device: fetched if its need lacks pieces and it is not there. -/
def stepP (ns : List Nd) (d : Int) (t : Sup × List (Int × Pc)) (p : Pc) : Sup × List (Int × Pc) := match ndIx p.st ns with
  | none => t
  | some k => if lackN (ns.getD k default).d (t.1.pc k) = 0 ∨ t.1.pc k / 2 ^ p.ix.toNat % 2 = 1 then t else (addPc ns t.1 p, t.2 ++ [(d, p)])
structure FSt where
  s : Sup
  o : List (Int × Pc)
  m : List Int
def stepD (ns : List Nd) (L : List Hd) (t : FSt) (d : Int) : FSt :=
  if d ∈ t.m ∨ findI d (L.map Hd.dev) < 0 then t else
    ⟨((L.getD (findI d (L.map Hd.dev)).toNat default).ps.foldl (stepP ns d) (t.s, t.o)).1, ((L.getD (findI d (L.map Hd.dev)).toNat default).ps.foldl (stepP ns d) (t.s, t.o)).2, t.m ++ [d]⟩
def fetS (g : Gl) (L : List Hd) (devs : List Int) : FSt := devs.foldl (stepD g.ns L) ⟨supOf g.ns g.ps g.ss (!g.idx), [], []⟩
def fetL (g : Gl) (L : List Hd) (devs : List Int) : List (Int × Pc) := (fetS g L devs).o

theorem stepP_len (ns : List Nd) (d : Int) (t : Sup × List (Int × Pc)) (p : Pc) : (stepP ns d t p).2.length ≤ t.2.length + 1 := by
  unfold stepP
  split
  · omega
  · split
    · omega
    · simp
theorem stepP_wf {ns : List Nd} {d : Int} {t : Sup × List (Int × Pc)} {p : Pc} (h : t.1.Wf) (hp : p.ix < 16) : (stepP ns d t p).1.Wf := by
  unfold stepP
  split
  · exact h
  · split
    · exact h
    · exact addPc_wf h hp
theorem foldF_len (ns : List Nd) (d : Int) : ∀ (ps : List Pc) (t : Sup × List (Int × Pc)), (ps.foldl (stepP ns d) t).2.length ≤ t.2.length + ps.length
  | [], t => by simp
  | p :: r, t => by
    have h1 := foldF_len ns d r (stepP ns d t p)
    have h2 := stepP_len ns d t p
    rw [List.foldl_cons, List.length_cons]
    omega
theorem foldF_wf {ns : List Nd} {d : Int} : ∀ (ps : List Pc) (t : Sup × List (Int × Pc)), t.1.Wf → (∀ p ∈ ps, p.ix < 16) → (ps.foldl (stepP ns d) t).1.Wf
  | [], t, h, _ => h
  | p :: r, t, h, hp => by
    rw [List.foldl_cons]
    exact foldF_wf r _ (stepP_wf h (hp p (by simp))) fun q hq => hp q (by simp [hq])

def ftCell (fs : List (Int × Pc)) (i j : Nat) : Value := match j with | 0 => .int .i64 (fs.getD i (0, default)).1 | 1 => .string (fs.getD i (0, default)).2.st | _ => .int .i64 (fs.getD i (0, default)).2.ix
/-- A row of fetches of the call's own. -/
def OwnF (w : World) (base : Nat) (v : Value) (fs : List (Int × Pc)) : Prop := Own w base 71 v 3 fs.length (ftCell fs)
def ReadsF (w : World) (v : Value) (fs : List (Int × Pc)) : Prop := RowAt w v 3 fs.length (ftCell fs)
theorem OwnF.append {V : World} {base : Nat} {v : Value} {fs : List (Int × Pc)} (h : OwnF V base v fs) (d : Int) (p : Pc) (hn : fs.length ≤ 1000000000) (hbase : base ≤ V.heap.size) :
    ∃ v' w', (Builtin.append_ #[62, 62] 62 #[v, .slice (some ⟨V.heap.size, 0, none⟩) 1 1]).run Try.prog (V.alloc (.cells #[.int .i64 d, .string p.st, .int .i64 p.ix] 71)) = .ok v' w' ∧ OwnF w' base v' (fs ++ [(d, p)]) ∧ Below base V w' ∧
      (∀ b, b < V.heap.size → v.ownBlock ≠ some b → w'.heap[b]? = V.heap[b]?) ∧ V.heap.size + 1 ≤ w'.heap.size := by
  have hg : ∀ i, i < fs.length → (fs ++ [(d, p)]).getD i (0, default) = fs.getD i (0, default) := fun i hi => by
    rw [getD_at _ _ _ hi, getD_at _ _ _ (by rw [List.length_append]; omega), List.getElem_append_left hi]
  have h' : Own V base 71 v 3 fs.length (ftCell (fs ++ [(d, p)])) := Own.congr h fun i j hi hj => by unfold ftCell; rw [hg i hi]
  have hl : (fs ++ [(d, p)]).getD fs.length (0, default) = (d, p) := by
    rw [getD_at _ _ _ (by rw [List.length_append]; simp), List.getElem_append_right (by omega)]; simp
  obtain ⟨v3, w3, r3, o1, o2, o3, o4, o5⟩ := Own.append (V := V) (t := 62) (e := 71) (z := .agg #[.int .i64 0, .string ⟨#[]⟩, .int .i64 0]) (k := 3) (bytes := 32) Try.underlying62 (by kernel_rfl) rfl (by omega) (by omega) h' 62 [.int .i64 d, .string p.st, .int .i64 p.ix] rfl (fun q hq => by
    unfold ftCell
    rw [hl]
    match q, hq with
    | 0, _ => rfl
    | 1, _ => rfl
    | 2, _ => rfl) (by intro u hu; simp at hu; rcases hu with rfl | rfl | rfl <;> rfl) hn hbase
  refine ⟨v3, w3, r3, ?_, o2, o3, o5⟩
  unfold OwnF
  rw [List.length_append]
  exact o1
theorem OwnF.slice {w : World} {base : Nat} {v : Value} {fs : List (Int × Pc)} (h : OwnF w base v fs) : ∃ a c, v = .slice a fs.length c := by
  obtain ⟨xs, ⟨h0, h2⟩, _⟩ := h
  rcases h2 with ⟨rfl, h⟩ | ⟨g, cap, cur, rfl, _⟩
  · rw [h]; exact ⟨_, _, rfl⟩
  · exact ⟨_, _, rfl⟩

/-- The memory of Fetches in its loops. -/
structure FMid (w1 : World) (B Sb M : Nat) (s : Sup) (o : List (Int × Pc)) (met : List Int) (v : Value) (w : World) : Prop where
  below : Below B w1 w
  size : B ≤ w.heap.size
  sup : SupAt w Sb s
  map : w.heap[M]? = some (mapObj (fun i : Int => Value.int .i64 i) (setOf met))
  own : OwnF w B v o
  bs : B ≤ Sb
  bm : B ≤ M
  ne : Sb ≠ M
section
variable {w1 w w' : World} {B Sb M : Nat} {s : Sup} {o : List (Int × Pc)} {met : List Int} {v : Value}
theorem FMid.step (h : FMid w1 B Sb M s o met v w) (hb : Below w.heap.size w w') : FMid w1 B Sb M s o met v w' :=
  ⟨h.below.trans (hb.mono h.size), Nat.le_trans h.size hb.size, h.sup.below hb, (hb.block M (Array.getElem?_eq_some_iff.1 h.map).1).trans h.map, Own.below h.own hb, h.bs, h.bm, h.ne⟩
theorem FMid.upd (h : FMid w1 B Sb M s o met v w) (d : Int) : FMid w1 B Sb M s o (met ++ [d]) v (setBlock w M (mapObj (fun i : Int => Value.int .i64 i) (setOf (met ++ [d])))) := by
  have hm := (Array.getElem?_eq_some_iff.1 h.map).1
  refine ⟨below_setBlock h.below h.bm _, by rw [setBlock_size]; exact h.size, (setBlock_off w _ h.ne).trans h.sup, setBlock_at hm _, Own.same h.own fun g hg => setBlock_off w _ fun e => ?_, h.bs, h.bm, h.ne⟩
  subst e
  exact own_ne_map h.own h.map hg
theorem FMid.set (h : FMid w1 B Sb M s o met v w) (s' : Sup) (i : Nat) (u : Value) (hs : SupAt (w.setCell ⟨Sb, i, none⟩ u) Sb s') : FMid w1 B Sb M s' o met v (w.setCell ⟨Sb, i, none⟩ u) :=
  ⟨h.below.setCell h.bs _, by rw [setCell_size]; exact h.size, hs, (setCell_other w u (Ne.symm h.ne)).trans h.map, Own.same h.own fun g hg => setCell_other w u fun e => own_ne h.own h.sup (by decide) (e ▸ hg), h.bs, h.bm, h.ne⟩
theorem FMid.app (h : FMid w1 B Sb M s o met v w) (d : Int) (p : Pc) (hn : o.length ≤ 1000000000) :
    ∃ v' w', (Builtin.append_ #[62, 62] 62 #[v, .slice (some ⟨w.heap.size, 0, none⟩) 1 1]).run Try.prog (w.alloc (.cells #[.int .i64 d, .string p.st, .int .i64 p.ix] 71)) = .ok v' w' ∧ FMid w1 B Sb M s (o ++ [(d, p)]) met v' w' ∧
      (∀ b, b < w.heap.size → v.ownBlock ≠ some b → w'.heap[b]? = w.heap[b]?) ∧ w.heap.size + 1 ≤ w'.heap.size := by
  obtain ⟨v', w', r, o1, o2, o3, o4⟩ := h.own.append d p hn h.size
  exact ⟨v', w', r, ⟨h.below.trans o2, Nat.le_trans h.size (by omega), (o3 Sb (Array.getElem?_eq_some_iff.1 h.sup).1 (own_ne h.own h.sup (by decide))).trans h.sup, (o3 M (Array.getElem?_eq_some_iff.1 h.map).1 (own_ne_map h.own h.map)).trans h.map, o1, h.bs, h.bm, h.ne⟩, o3, o4⟩
end

/-- A supply loaded, whatever comes first. -/
theorem yieldsIf_load_sup {ops : Array Oper} {S : World → Prop} {op : Oper} {a : Act} (hw : Region.wanted op (yielded ops a.tmps) = true) (x : Operand) (ho : op.op = .load 99 x)
    (b : Nat) (hx : a.eval x = .pointer (some ⟨b, 0, none⟩)) (s : Sup) (hS : ∀ w, S w → SupAt w b s) : YieldsIf Try.prog ops S op (.agg s.cells) a :=
  yieldsIf_load_mid hw 99 x ho b 0 hx s.list _ (fun w h j v hv => by
    have hj : j < 69 := by have := (List.getElem?_eq_some_iff.1 hv).1; rw [s.list_length] at this; exact this
    rw [Nat.zero_add, (hS w h).cell j hj, ← s.list_at j hj, hv]) Try.underlying99 rfl (by rw [s.list_length]; exact info99)

theorem and_u16 (a n : Nat) (ha : a < 65536) : bits .and .u16 ((a : Int) / 2 ^ n) 1 = ((a / 2 ^ n % 2 : Nat) : Int) := by
  have h1 : a / 2 ^ n < 65536 := Nat.lt_of_le_of_lt (Nat.div_le_self _ _) ha
  have e : ((a : Int) / 2 ^ n) = ((a / 2 ^ n : Nat) : Int) := by simp
  rw [e]
  generalize a / 2 ^ n = q at h1
  have := bits_mask .u16 16 (by decide) wraps_u16 1 (by decide) (q : Int) (by omega) (by omega)
  rw [show ((2 : Int) ^ 1 - 1) = 1 from rfl, show ((2 : Int) ^ 1) = 2 from rfl] at this
  rw [this]
  omega

end Go.Proofs.Ytapjgjjmlbhanaa
