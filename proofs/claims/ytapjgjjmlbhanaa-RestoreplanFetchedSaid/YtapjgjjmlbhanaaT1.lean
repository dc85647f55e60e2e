/- A slice literal of one supply; the rows of holdings and supplies. -/
import Derived.Test.YtapjgjjmlbhanaaC5
import Derived.Test.YtapjgjjmlbhanaaB3
import Derived.Test.YtapjgjjmlbhanaaB6
namespace Go.Proofs.Ytapjgjjmlbhanaa
open Go.RowKit Go.Lib

set_option maxRecDepth 100000 in
theorem run_buildSup (s : Sup) (W : World) : (Instr.buildSlice 105 1 #[(0, .agg s.cells)]).run Try.prog W = .ok (.slice (some ⟨W.heap.size, 0, none⟩) 1 1) (W.alloc (.cells s.cells 99)) := by
  kernel_rfl

/-- The slice literal, as one step of a region that draws. -/
theorem step_build_sup {ops : Array Oper} {o : Oper} {a : Act} {w : World} {K : Act → World → Prop} {Q : Exit → Act → World → Prop} {E : Prop}
    (hg : o.guard = none) (x : Operand) (hop : o.op = Op.buildSlice 105 1 #[(0, x)]) (s : Sup) (hx : a.eval x = s.v)
    (hK : K (a.put o.dst (.slice (some ⟨w.heap.size, 0, none⟩) 1 1)) (w.alloc (.cells s.cells 99))) : if Region.wanted o (yielded ops a.tmps) = true then Oper.wp Try.prog o a w K Q else E := by
  have hw : Region.wanted o (yielded ops a.tmps) = true := by simp [Region.wanted, hg]
  have hr := run_buildSup s w
  rw [if_pos hw]
  unfold Oper.wp execOp
  have hx' : (#[(0, x)].map fun (i, y) => (i, a.eval y) : Array (Nat × Value)) = #[(0, .agg s.cells)] := by simp [hx, Sup.v]
  simp only [hop, Sem.run_bind, hx', hr, Result.andThen_ok]
  exact hK

theorem info88 : (Try.prog.info? 88).map (fun i => (i.zero, i.size, i.bytes)) = some (some (.agg #[.int .i64 0, .slice none 0 0, .slice none 0 0, .bool false]), 4, 64) := by kernel_rfl
theorem info99' : (Try.prog.info? 99).map (fun i => (i.zero, i.size, i.bytes)) = some (some (.agg (zeroS false).cells), 69, 168) := by kernel_rfl

end Go.Proofs.Ytapjgjjmlbhanaa

/- A supply stored into the middle of a plan; what read makes. -/
namespace Go.Proofs.Ytapjgjjmlbhanaa
open Go.RowKit Go.Lib

theorem setCells_block {b : Nat} {t : TypeId} {fr : Nat × Nat} : ∀ (vs : List Value) (o : Nat) (w : World) (C : Array Value), w.heap[b]? = some (.cells C t fr) → o + vs.length ≤ C.size →
    ∃ C', (w.setCells b o vs).heap[b]? = some (.cells C' t fr) ∧ C'.size = C.size ∧ (∀ k, k < vs.length → C'[o + k]? = vs[k]?) ∧ ∀ k, k < o ∨ o + vs.length ≤ k → C'[k]? = C[k]?
  | [], o, w, C, h, _ => ⟨C, h, rfl, fun k hk => by simp at hk, fun _ _ => rfl⟩
  | v :: r, o, w, C, h, hl => by
    simp only [List.length_cons] at hl
    have h1 := setCell_block (i := o) h v
    obtain ⟨C', e1, e2, e3, e4⟩ := setCells_block (b := b) (t := t) (fr := fr) r (o + 1) (w.setCell ⟨b, o, none⟩ v) _ h1 (by rw [Array.size_setIfInBounds]; omega)
    refine ⟨C', e1, by rw [e2, Array.size_setIfInBounds], fun k hk => ?_, fun k hk => ?_⟩
    · cases k with
      | zero =>
        rw [Nat.add_zero, e4 o (.inl (by omega)), Array.getElem?_setIfInBounds, if_pos rfl, if_pos (by omega)]
        rfl
      | succ k =>
        simp only [List.length_cons] at hk
        rw [show o + (k + 1) = o + 1 + k by omega, e3 k (by omega)]
        rfl
    · simp only [List.length_cons] at hk
      rw [e4 k (by omega), Array.getElem?_setIfInBounds, if_neg (by omega)]
theorem setCells_other {b g : Nat} (hg : g ≠ b) : ∀ (vs : List Value) (o : Nat) (w : World), (w.setCells b o vs).heap[g]? = w.heap[g]?
  | [], _, _ => rfl
  | v :: r, o, w => by rw [World.setCells, setCells_other hg r (o + 1) _, setCell_other w v hg]
theorem setCells_size (b : Nat) : ∀ (vs : List Value) (o : Nat) (w : World), (w.setCells b o vs).heap.size = w.heap.size
  | [], _, _ => rfl
  | v :: r, o, w => by rw [World.setCells, setCells_size b r (o + 1) _, setCell_size]
theorem below_setCells {B b : Nat} (hb : B ≤ b) {a : World} : ∀ (vs : List Value) (o : Nat) (w : World), Below B a w → Below B a (w.setCells b o vs)
  | [], _, _, h => h
  | v :: r, o, w, h => by rw [World.setCells]; exact below_setCells hb r (o + 1) _ (h.setCell hb _)

/-- The supply of a plan is set. -/
theorem PlanAt.setThere {w : World} {b : Nat} {x : PlanV} (h : PlanAt w b x) (s : Sup) : PlanAt (w.setCells b 8 s.list) b { x with s := s } := by
  obtain ⟨C', e1, e2, e3, e4⟩ := setCells_block s.list 8 w _ h (by rw [s.list_length, rowC_size]; omega)
  rw [s.list_length] at e3 e4
  have : C' = rowC 78 ({ x with s := s } : PlanV).cell := by
    apply Array.ext_getElem?
    intro k
    by_cases hk : k < 78
    · rw [rowC_at _ _ k hk]
      by_cases h8 : 8 ≤ k ∧ k < 77
      · obtain ⟨j, rfl⟩ : ∃ j, k = 8 + j := ⟨k - 8, by omega⟩
        rw [e3 j (by omega), s.list_at j (by omega), Nat.add_comm]
        show _ = some (if j < 69 then s.cell j else x.gv)
        rw [if_pos (by omega)]
      · rw [e4 k (by omega), rowC_at _ _ k hk]
        by_cases h77 : k = 77
        · subst h77; rfl
        · match k, (show k < 8 by omega) with
          | 0, _ => rfl
          | 1, _ => rfl
          | 2, _ => rfl
          | 3, _ => rfl
          | 4, _ => rfl
          | 5, _ => rfl
          | 6, _ => rfl
          | 7, _ => rfl
    · rw [Array.getElem?_eq_none (by rw [e2, rowC_size]; omega), Array.getElem?_eq_none (by rw [rowC_size]; omega)]
  rw [this] at e1
  exact e1
theorem PlanAt.there {w : World} {b : Nat} {x : PlanV} (h : PlanAt w b x) (s : Sup) : w.there b 8 s.cells.size := fun j hj => by
  rw [s.cells_size] at hj
  exact ⟨by rw [h.cell (8 + j) (by omega)]; rfl, h.frozen _⟩

/-- A plan that was read: block b, the places pl, the holdings L in the order of their devices. -/
structure PlanOf (g : Gl) (hs : List Hd) (b : Nat) (x : PlanV) (pl : List Nat) (L : List Hd) (w : World) : Prop where
  plan : PlanAt w b x
  thr : x.thr = g.thr
  nv : x.nv = g.nv
  map : NeedMap w x.m g.ns
  needs : ReadsN w x.nv g.ns
  list : ReadsH w x.lv L
  given : ReadsS w x.gv (L.map fun y => supOf g.ns y.ps y.ss y.idx)
  there : x.s = supOf g.ns g.ps g.ss (!g.idx)
  places : RowAt w x.plv 1 pl.length fun i _ => .int .i64 (pl.getD i 0)
  perm : pl.Perm (List.range hs.length)
  isList : L = pl.map fun i => hs.getD i default
  sorted : (L.map Hd.dev).Pairwise (· < ·)
theorem PlanOf.below {g : Gl} {hs : List Hd} {b : Nat} {x : PlanV} {pl : List Nat} {L : List Hd} {w w' : World} (h : PlanOf g hs b x pl L w) (hb : Below w.heap.size w w') : PlanOf g hs b x pl L w' :=
  ⟨h.plan.below hb, h.thr, h.nv, h.map.below hb, h.needs.below hb, h.list.below hb, h.given.below hb, h.there, RowAt.below h.places hb, h.perm, h.isList, h.sorted⟩
theorem PlanOf.permL {g : Gl} {hs : List Hd} {b : Nat} {x : PlanV} {pl : List Nat} {L : List Hd} {w : World} (h : PlanOf g hs b x pl L w) : L.Perm hs := by
  rw [h.isList]
  refine (h.perm.map _).trans ?_
  rw [show (List.range hs.length).map (fun i => hs.getD i default) = hs from List.ext_getElem (by simp) (fun i h1 h2 => by simp [List.getD, h2])]
theorem PlanOf.len {g : Gl} {hs : List Hd} {b : Nat} {x : PlanV} {pl : List Nat} {L : List Hd} {w : World} (h : PlanOf g hs b x pl L w) : L.length = hs.length := h.permL.length_eq

/-- What read answers. -/
def ReadPost (g : Gl) (hs : List Hd) (w : World) (e : Ending) (w' : World) : Prop :=
  ∃ b x pl L, e = .returned (.tuple #[.pointer (some ⟨b, 0, none⟩), .int .i64 0]) ∧ PlanOf g hs b x pl L w' ∧ Below w.heap.size w w'

end Go.Proofs.Ytapjgjjmlbhanaa
