/- The working state. -/
import Derived.Test.YtijcicgbhcphjaaB6
import Derived.Laws.MakeOwn
namespace Go.Proofs.Ytijcicgbhcphjaa
open Go.RowKit Go.Lib Go.ChangeMaps

def encS : ByteArray → Value := fun s => .string s
/-- The state while it is made: gone and the map as they are. -/
structure StR (w : World) (lo p : Nat) (mv hv rv wv gv : Value) (mp : Nat) (xs : List (Value × Value)) (V : Vp) (gone : Nat → Bool) (L : List (ByteArray × Value)) : Prop where
  blk : w.heap[p]? = some (.cells #[mv, hv, rv, wv, gv, .map (some mp)] 96 (0, 0))
  vw : VwOwn w lo V.held.length mv hv rv wv xs V
  gn : Own w lo 4 gv 1 V.mem.length (fun i _ => .bool (gone i))
  mpb : w.heap[mp]? = some (mapObj encS L)
  lop : lo ≤ p
  lom : lo ≤ mp

section
variable {w w' : World} {lo p : Nat} {mv hv rv wv gv : Value} {mp : Nat} {xs : List (Value × Value)} {V : Vp} {gone : Nat → Bool} {L : List (ByteArray × Value)}

theorem StR.below (h : StR w lo p mv hv rv wv gv mp xs V gone L) (hb : Below w.heap.size w w') : StR w' lo p mv hv rv wv gv mp xs V gone L :=
  ⟨(hb.block p (Array.getElem?_eq_some_iff.1 h.blk).1).trans h.blk, h.vw.below hb, h.gn.below hb, (hb.block mp (Array.getElem?_eq_some_iff.1 h.mpb).1).trans h.mpb, h.lop, h.lom⟩

/-- Another block turns than those of the view. -/
theorem VwOwn.off {j g : Nat} (h : VwOwn w lo j mv hv rv wv xs V) (ho : ∀ {e : TypeId} {v : Value} {k n : Nat} {f : Nat → Nat → Value}, Own w lo e v k n f → (e = 81 ∨ e = 52 ∨ e = 3 ∨ e = 120) → v.ownBlock ≠ some g)
    (hs : ∀ q, q ≠ g → w'.heap[q]? = w.heap[q]?) : VwOwn w' lo j mv hv rv wv xs V := by
  have hk : ∀ {e : TypeId} {v : Value} {k n : Nat} {f : Nat → Nat → Value}, Own w lo e v k n f → (e = 81 ∨ e = 52 ∨ e = 3 ∨ e = 120) → Own w' lo e v k n f := fun o he => o.same fun q hq => hs q (fun e => ho o he (e ▸ hq))
  exact ⟨hk h.m (by simp), hk h.h (by simp), hk h.r (by simp), hk h.wt (by simp), h.len, h.jn, fun k hkj => hk (h.rf k hkj) (by simp), fun k hkj => hk (h.at_ k hkj) (by simp), h.apRW, h.apRA, h.apWA, h.apAA⟩

theorem StR.gone_cell (h : StR w lo p mv hv rv wv gv mp xs V gone L) {d : Nat} (hd : d < V.mem.length) (b : Bool) :
    ∃ g c, gv = .slice (some ⟨g, 0, none⟩) V.mem.length c ∧ V.mem.length ≤ c ∧ lo ≤ g ∧ g < w.heap.size ∧ w.frozen? ⟨g, d, none⟩ = false ∧ w.cell? ⟨g, d, none⟩ = some (.bool (gone d)) ∧ g ≠ p ∧
      StR (w.setCell ⟨g, d, none⟩ (.bool b)) lo p mv hv rv wv gv mp xs V (fun i => if i = d then b else gone i) L := by
  obtain ⟨g, c, e, h1, h2, h3, h4, h5, h6⟩ := h.gn.set (i := d) (j := 0) hd (by omega) (.bool b) (fun i _ => .bool (if i = d then b else gone i)) (fun i' j' _ hj' => by
    have : j' = 0 := by omega
    subst this
    by_cases e : i' = d <;> simp [e])
  simp only [Nat.mul_one, Nat.add_zero] at h4 h5 h6
  subst e
  have hgp : g ≠ p := fun e => own_ne h.gn h.blk (by decide) (by simp [Value.ownBlock, e])
  have hgm : g ≠ mp := fun e => own_ne_map h.gn h.mpb (by simp [Value.ownBlock, e])
  refine ⟨g, c, rfl, h3, h1, h2, h4, h5, hgp, (setCell_other w _ (Ne.symm hgp)).trans h.blk, h.vw.off (g := g) (fun o he e => ?_) (fun q hq => setCell_other w _ hq), h6, (setCell_other w _ (Ne.symm hgm)).trans h.mpb, h.lop, h.lom⟩
  refine own_apart' h.gn o ?_ g rfl e
  rcases he with rfl | rfl | rfl | rfl <;> decide

theorem StR.setMap (h : StR w lo p mv hv rv wv gv mp xs V gone L) (L' : List (ByteArray × Value)) : StR (setBlock w mp (mapObj encS L')) lo p mv hv rv wv gv mp xs V gone L' := by
  have hpm : p ≠ mp := fun e => by
    have h1 := h.blk
    have h2 := h.mpb
    rw [e, h2] at h1
    cases h1
  refine ⟨(setBlock_off _ _ hpm).trans h.blk, h.vw.off (g := mp) (fun o _ e => own_ne_map o h.mpb e) (fun q hq => setBlock_off _ _ hq), h.gn.same fun q hq => setBlock_off _ _ (fun e => own_ne_map h.gn h.mpb (e ▸ hq)), setBlock_at (Array.getElem?_eq_some_iff.1 h.mpb).1 _, h.lop, h.lom⟩
end

/-- Lost devices. -/
def LostOk (n : Int) (ls : List Int) : Prop := ls.Nodup ∧ ∀ x ∈ ls, 0 ≤ x ∧ x < n
instance (n : Int) (ls : List Int) : Decidable (LostOk n ls) := inferInstanceAs (Decidable (_ ∧ _))
theorem lostOk_snoc (n : Int) (ls : List Int) (j : Nat) (h : j < ls.length) : LostOk n (ls.take (j + 1)) ↔ LostOk n (ls.take j) ∧ (0 ≤ ls[j] ∧ ls[j] < n) ∧ ls[j] ∉ ls.take j := by
  rw [List.take_succ_eq_append_getElem h]
  unfold LostOk
  rw [List.nodup_append]
  constructor
  · rintro ⟨⟨h1, _, h3⟩, h4⟩
    exact ⟨⟨h1, fun p hp => h4 p (List.mem_append_left _ hp)⟩, h4 _ (List.mem_append_right _ (List.mem_singleton.2 rfl)), fun hm => h3 _ hm _ (List.mem_singleton.2 rfl) rfl⟩
  · rintro ⟨⟨h1, h2⟩, h3, h4⟩
    refine ⟨⟨h1, by simp, fun a ha b hb e => ?_⟩, fun p hp => ?_⟩
    · simp at hb; subst hb; subst e; exact h4 ha
    · rcases List.mem_append.1 hp with hp | hp
      · exact h2 p hp
      · simp at hp; subst hp; exact h3
theorem lostOk_take {n : Int} {ls : List Int} (h : LostOk n ls) (j : Nat) : LostOk n (ls.take j) :=
  ⟨h.1.sublist (List.take_sublist _ _), fun p hp => h.2 p (List.mem_of_mem_take hp)⟩
def Fits (V : Vp) (ls : List Int) : Prop := VOk V ∧ LostOk V.mem.length ls
instance (V : Vp) (ls : List Int) : Decidable (Fits V ls) := inferInstanceAs (Decidable (_ ∧ _))

/-- Whether a device is gone. -/
def goneB (ms : List Mem) (ls : List Int) (d : Nat) : Bool := decide ((d : Int) ∈ ls) || (ms.getD d default).exp
/-- The places of the stripes. -/
def placesL : List Hp → Nat → List (ByteArray × Value)
  | [], _ => []
  | h :: r, c => (h.id, .int .i64 c) :: placesL r (c + 1)
theorem placesL_snoc : ∀ (hs : List Hp) (h : Hp) (c : Nat), placesL (hs ++ [h]) c = placesL hs c ++ [(h.id, .int .i64 ((c + hs.length : Nat)))]
  | [], h, c => by simp [placesL]
  | x :: r, h, c => by
    simp only [List.cons_append, placesL, placesL_snoc r h (c + 1), List.length_cons]
    rw [show c + 1 + r.length = c + (r.length + 1) by omega]
theorem placesL_keys : ∀ (hs : List Hp) (c : Nat), (placesL hs c).map (·.1) = hs.map Hp.id
  | [], _ => rfl
  | h :: r, c => by simp [placesL, placesL_keys r]
/-- The place of a stripe. -/
def findP (hs : List Hp) (s : ByteArray) : Option Nat := match hs with
  | [] => none
  | h :: r => if s = h.id then some 0 else (findP r s).map (· + 1)
theorem seek_places (s : ByteArray) : ∀ (hs : List Hp) (c : Nat), seekL s (placesL hs c) c = (findP hs s).map fun i => (c + i, Value.int .i64 ((c + i : Nat)))
  | [], _ => rfl
  | h :: r, c => by
    unfold placesL seekL findP
    by_cases e : s = h.id
    · simp [e]
    · rw [if_neg e, if_neg e, seek_places s r (c + 1)]
      cases findP r s with
      | none => rfl
      | some k => simp; omega

/-- The state. -/
def StAt (w : World) (lo hi p : Nat) (V : Vp) (gone : Nat → Bool) : Prop := (∃ mv hv rv wv gv mp xs, StR w lo p mv hv rv wv gv mp xs V gone (placesL V.held 0) ∧
  (∀ g, rv.ownBlock = some g → g < hi) ∧ ∀ k, k < V.held.length → ∀ g, (xsA xs k).ownBlock = some g → g < hi) ∧ VOk V ∧ ∀ h ∈ V.held, h.refs.length ≤ 1000
theorem StAt.below {w w' : World} {lo hi p : Nat} {V : Vp} {gone : Nat → Bool} (h : StAt w lo hi p V gone) (hb : Below w.heap.size w w') : StAt w' lo hi p V gone := by
  obtain ⟨⟨mv, hv, rv, wv, gv, mp, xs, h1, h2⟩, h3⟩ := h
  exact ⟨⟨mv, hv, rv, wv, gv, mp, xs, h1.below hb, h2⟩, h3⟩
theorem VOk.small {V : Vp} (h : VOk V) : V.mem.length ≤ 12 ∧ V.held.length ≤ 256 ∧ V.room.length = V.mem.length ∧ V.weight.length = V.mem.length ∧ ∀ k, k < V.held.length → HpOk V.mem.length (V.held.getD k default) := by
  obtain ⟨⟨h1, h2⟩, _, ⟨h3, _⟩, ⟨h4, _⟩, h5⟩ := h
  refine ⟨h1, h2, h3, h4, fun k hk => h5.2 _ ?_⟩
  rw [getD_at _ _ _ hk]
  exact List.getElem_mem hk
theorem HpOk.at_small {n : Int} {h : Hp} (hh : HpOk n h) : h.at_.length ≤ 16 ∧ (h.at_.length : Int) = h.total ∧ 1 ≤ h.at_.length := by
  obtain ⟨_, h1, h2, _, h3, _⟩ := hh
  exact ⟨by omega, h3, by omega⟩

/-- What the state reads as. -/
theorem StAt.at {w : World} {lo hi p : Nat} {V : Vp} {gone : Nat → Bool} (h : StAt w lo hi p V gone) : ∃ mv hv rv wv gv mp,
    w.cell? ⟨p, 0, none⟩ = some mv ∧ w.cell? ⟨p, 1, none⟩ = some hv ∧ w.cell? ⟨p, 2, none⟩ = some rv ∧ w.cell? ⟨p, 3, none⟩ = some wv ∧ w.cell? ⟨p, 4, none⟩ = some gv ∧ w.cell? ⟨p, 5, none⟩ = some (.map (some mp)) ∧
    ReadsM w mv V.mem ∧ ReadsH w hv V.held ∧ ReadsI w rv V.room ∧ ReadsI w wv V.weight ∧ RowAt w gv 1 V.mem.length (fun i _ => .bool (gone i)) ∧ w.heap[mp]? = some (mapObj encS (placesL V.held 0)) := by
  obtain ⟨⟨mv, hv, rv, wv, gv, mp, xs, h1, _, _⟩, hok, hrf⟩ := h
  obtain ⟨a1, a2, a3, a4, a5⟩ := hok.small
  refine ⟨mv, hv, rv, wv, gv, mp, cell_of_row _ _ 0 _ _ _ h1.blk, cell_of_row _ _ 1 _ _ _ h1.blk, cell_of_row _ _ 2 _ _ _ h1.blk, cell_of_row _ _ 3 _ _ _ h1.blk, cell_of_row _ _ 4 _ _ _ h1.blk, cell_of_row _ _ 5 _ _ _ h1.blk,
    Own.row h1.vw.m (by omega), ⟨xs, h1.vw.len, Own.row h1.vw.h (by omega), fun i hi => ⟨Own.row (h1.vw.rf i hi) ?_, OwnI.reads (h1.vw.at_ i hi) ?_⟩⟩, OwnI.reads h1.vw.r (by omega), OwnI.reads h1.vw.wt (by omega), Own.row h1.gn (by omega), h1.mpb⟩
  · have := hrf (V.held.getD i default) (by rw [getD_at _ _ _ hi]; exact List.getElem_mem hi)
    omega
  · have := (a5 i hi).at_small
    omega

end Go.Proofs.Ytijcicgbhcphjaa
