/- The working state. -/
import Derived.Test.YtijcicgbhcphjaaB4
import Derived.Laws.MakeOwn
namespace Go.Proofs.Ytijcicgbhcphjaa
open Go.RowKit Go.Lib Go.ChangeMaps

def encS : ByteArray → Value := fun s => .string s
/-- The state while it is made: gone and the map as they are. -/
structure StR (w : World) (lo p : Nat) (mv hv rv wv gv : Value) (mp : Nat) (xs : List (Value × Value)) (V : Vp) (gone : Nat → Bool) (L : List (ByteArray × Value)) : Prop where
  blk : w.heap[p]? = some (.cells #[mv, hv, rv, wv, gv, .map (some mp)] 96 (0, 0))
  vw : VwOwn w lo V.held.length mv hv rv wv xs V
  gn : Own w lo 4 gv 1 V.mem.length (fun i _ => .bool (gone i))
  mpb : w.heap[mp]? = some (mapObj encS L)
  lop : lo ≤ p
  lom : lo ≤ mp

section
variable {w w' : World} {lo p : Nat} {mv hv rv wv gv : Value} {mp : Nat} {xs : List (Value × Value)} {V : Vp} {gone : Nat → Bool} {L : List (ByteArray × Value)}

theorem StR.below (h : StR w lo p mv hv rv wv gv mp xs V gone L) (hb : Below w.heap.size w w') : StR w' lo p mv hv rv wv gv mp xs V gone L :=
  ⟨(hb.block p (Array.getElem?_eq_some_iff.1 h.blk).1).trans h.blk, h.vw.below hb, h.gn.below hb, (hb.block mp (Array.getElem?_eq_some_iff.1 h.mpb).1).trans h.mpb, h.lop, h.lom⟩

/-- Another block turns than those of the view. -/
theorem VwOwn.off {j g : Nat} (h : VwOwn w lo j mv hv rv wv xs V) (ho : ∀ {e : TypeId} {v : Value} {k n : Nat} {f : Nat → Nat → Value}, Own w lo e v k n f → (e = 81 ∨ e = 52 ∨ e = 3 ∨ e = 120) → v.ownBlock ≠ some g)
    (hs : ∀ q, q ≠ g → w'.heap[q]? = w.heap[q]?) : VwOwn w' lo j mv hv rv wv xs V := by
  have hk : ∀ {e : TypeId} {v : Value} {k n : Nat} {f : Nat → Nat → Value}, Own w lo e v k n f → (e = 81 ∨ e = 52 ∨ e = 3 ∨ e = 120) → Own w' lo e v k n f := fun o he => o.same fun q hq => hs q (fun e => ho o he (e ▸ hq))
  exact ⟨hk h.m (by simp), hk h.h (by simp), hk h.r (by simp), hk h.wt (by simp), h.len, h.jn, fun k hkj => hk (h.rf k hkj) (by simp), fun k hkj => hk (h.at_ k hkj) (by simp), h.apRW, h.apRA, h.apWA, h.apAA⟩

theorem StR.gone_cell (h : StR w lo p mv hv rv wv gv mp xs V gone L) {d : Nat} (hd : d < V.mem.length) (b : Bool) :
    ∃ g c, gv = .slice (some ⟨g, 0, none⟩) V.mem.length c ∧ V.mem.length ≤ c ∧ lo ≤ g ∧ g < w.heap.size ∧ w.frozen? ⟨g, d, none⟩ = false ∧ w.cell? ⟨g, d, none⟩ = some (.bool (gone d)) ∧ g ≠ p ∧
      StR (w.setCell ⟨g, d, none⟩ (.bool b)) lo p mv hv rv wv gv mp xs V (fun i => if i = d then b else gone i) L := by
  obtain ⟨g, c, e, h1, h2, h3, h4, h5, h6⟩ := h.gn.set (i := d) (j := 0) hd (by omega) (.bool b) (fun i _ => .bool (if i = d then b else gone i)) (fun i' j' _ hj' => by
    have : j' = 0 := by omega
    subst this
    by_cases e : i' = d <;> simp [e])
  simp only [Nat.mul_one, Nat.add_zero] at h4 h5 h6
  subst e
  have hgp : g ≠ p := fun e => own_ne h.gn h.blk (by decide) (by simp [Value.ownBlock, e])
  have hgm : g ≠ mp := fun e => own_ne_map h.gn h.mpb (by simp [Value.ownBlock, e])
  refine ⟨g, c, rfl, h3, h1, h2, h4, h5, hgp, (setCell_other w _ (Ne.symm hgp)).trans h.blk, h.vw.off (g := g) (fun o he e => ?_) (fun q hq => setCell_other w _ hq), h6, (setCell_other w _ (Ne.symm hgm)).trans h.mpb, h.lop, h.lom⟩
  refine own_apart' h.gn o ?_ g rfl e
  rcases he with rfl | rfl | rfl | rfl <;> decide

theorem StR.setMap (h : StR w lo p mv hv rv wv gv mp xs V gone L) (L' : List (ByteArray × Value)) : StR (setBlock w mp (mapObj encS L')) lo p mv hv rv wv gv mp xs V gone L' := by
  have hpm : p ≠ mp := fun e => by
    have h1 := h.blk
    have h2 := h.mpb
    rw [e, h2] at h1
    cases h1
  refine ⟨(setBlock_off _ _ hpm).trans h.blk, h.vw.off (g := mp) (fun o _ e => own_ne_map o h.mpb e) (fun q hq => setBlock_off _ _ hq), h.gn.same fun q hq => setBlock_off _ _ (fun e => own_ne_map h.gn h.mpb (e ▸ hq)), setBlock_at (Array.getElem?_eq_some_iff.1 h.mpb).1 _, h.lop, h.lom⟩
end

/-- Lost devices. -/
def LostOk (n : Int) (ls : List Int) : Prop := ls.Nodup ∧ ∀ x ∈ ls, 0 ≤ x ∧ x < n
instance (n : Int) (ls : List Int) : Decidable (LostOk n ls) := inferInstanceAs (Decidable (_ ∧ _))
theorem lostOk_snoc (n : Int) (ls : List Int) (j : Nat) (h : j < ls.length) : LostOk n (ls.take (j + 1)) ↔ LostOk n (ls.take j) ∧ (0 ≤ ls[j] ∧ ls[j] < n) ∧ ls[j] ∉ ls.take j := by
  rw [List.take_succ_eq_append_getElem h]
  unfold LostOk
  rw [List.nodup_append]
  constructor
  · rintro ⟨⟨h1, _, h3⟩, h4⟩
    exact ⟨⟨h1, fun p hp => h4 p (List.mem_append_left _ hp)⟩, h4 _ (List.mem_append_right _ (List.mem_singleton.2 rfl)), fun hm => h3 _ hm _ (List.mem_singleton.2 rfl) rfl⟩
  · rintro ⟨⟨h1, h2⟩, h3, h4⟩
    refine ⟨⟨h1, by simp, fun a ha b hb e => ?_⟩, fun p hp => ?_⟩
    · simp at hb; subst hb; subst e; exact h4 ha
    · rcases List.mem_append.1 hp with hp | hp
      · exact h2 p hp
      · simp at hp; subst hp; exact h3
theorem lostOk_take {n : Int} {ls : List Int} (h : LostOk n ls) (j : Nat) : LostOk n (ls.take j) :=
  ⟨h.1.sublist (List.take_sublist _ _), fun p hp => h.2 p (List.mem_of_mem_take hp)⟩
def Fits (V : Vp) (ls : List Int) : Prop := VOk V ∧ LostOk V.mem.length ls
instance (V : Vp) (ls : List Int) : Decidable (Fits V ls) := inferInstanceAs (Decidable (_ ∧ _))

/-- Whether a device is gone. -/
def goneB (ms : List Mem) (ls : List Int) (d : Nat) : Bool := decide ((d : Int) ∈ ls) || (ms.getD d default).exp
/-- The places of the stripes. -/
def placesL : List Hp → Nat → List (ByteArray × Value)
  | [], _ => []
  | h :: r, c => (h.id, .int .i64 c) :: placesL r (c + 1)
theorem placesL_snoc : ∀ (hs : List Hp) (h : Hp) (c : Nat), placesL (hs ++ [h]) c = placesL hs c ++ [(h.id, .int .i64 ((c + hs.length : Nat)))]
  | [], h, c => by simp [placesL]
  | x :: r, h, c => by
    simp only [List.cons_append, placesL, placesL_snoc r h (c + 1), List.length_cons]
    rw [show c + 1 + r.length = c + (r.length + 1) by omega]
theorem placesL_keys : ∀ (hs : List Hp) (c : Nat), (placesL hs c).map (·.1) = hs.map Hp.id
  | [], _ => rfl
  | h :: r, c => by simp [placesL, placesL_keys r]
/-- The place of a stripe. -/
def findP (hs : List Hp) (s : ByteArray) : Option Nat := match hs with
  | [] => none
  | h :: r => if s = h.id then some 0 else (findP r s).map (· + 1)
theorem seek_places (s : ByteArray) : ∀ (hs : List Hp) (c : Nat), seekL s (placesL hs c) c = (findP hs s).map fun i => (c + i, Value.int .i64 ((c + i : Nat)))
  | [], _ => rfl
  | h :: r, c => by
    unfold placesL seekL findP
    by_cases e : s = h.id
    · simp [e]
    · rw [if_neg e, if_neg e, seek_places s r (c + 1)]
      cases findP r s with
      | none => rfl
      | some k => simp; omega

/-- The state. -/
def StAt (w : World) (lo hi p : Nat) (V : Vp) (gone : Nat → Bool) : Prop := (∃ mv hv rv wv gv mp xs, StR w lo p mv hv rv wv gv mp xs V gone (placesL V.held 0) ∧
  (∀ g, rv.ownBlock = some g → g < hi) ∧ ∀ k, k < V.held.length → ∀ g, (xsA xs k).ownBlock = some g → g < hi) ∧ VOk V ∧ ∀ h ∈ V.held, h.refs.length ≤ 1000
theorem StAt.below {w w' : World} {lo hi p : Nat} {V : Vp} {gone : Nat → Bool} (h : StAt w lo hi p V gone) (hb : Below w.heap.size w w') : StAt w' lo hi p V gone := by
  obtain ⟨⟨mv, hv, rv, wv, gv, mp, xs, h1, h2⟩, h3⟩ := h
  exact ⟨⟨mv, hv, rv, wv, gv, mp, xs, h1.below hb, h2⟩, h3⟩
theorem VOk.small {V : Vp} (h : VOk V) : V.mem.length ≤ 12 ∧ V.held.length ≤ 256 ∧ V.room.length = V.mem.length ∧ V.weight.length = V.mem.length ∧ ∀ k, k < V.held.length → HpOk V.mem.length (V.held.getD k default) := by
  obtain ⟨⟨h1, h2⟩, _, ⟨h3, _⟩, ⟨h4, _⟩, h5⟩ := h
  refine ⟨h1, h2, h3, h4, fun k hk => h5.2 _ ?_⟩
  rw [getD_at _ _ _ hk]
  exact List.getElem_mem hk
theorem HpOk.at_small {n : Int} {h : Hp} (hh : HpOk n h) : h.at_.length ≤ 16 ∧ (h.at_.length : Int) = h.total ∧ 1 ≤ h.at_.length := by
  obtain ⟨_, h1, h2, _, h3, _⟩ := hh
  exact ⟨by omega, h3, by omega⟩

/-- What the state reads as. -/
theorem StAt.at {w : World} {lo hi p : Nat} {V : Vp} {gone : Nat → Bool} (h : StAt w lo hi p V gone) : ∃ mv hv rv wv gv mp,
    w.cell? ⟨p, 0, none⟩ = some mv ∧ w.cell? ⟨p, 1, none⟩ = some hv ∧ w.cell? ⟨p, 2, none⟩ = some rv ∧ w.cell? ⟨p, 3, none⟩ = some wv ∧ w.cell? ⟨p, 4, none⟩ = some gv ∧ w.cell? ⟨p, 5, none⟩ = some (.map (some mp)) ∧
    ReadsM w mv V.mem ∧ ReadsH w hv V.held ∧ ReadsI w rv V.room ∧ ReadsI w wv V.weight ∧ RowAt w gv 1 V.mem.length (fun i _ => .bool (gone i)) ∧ w.heap[mp]? = some (mapObj encS (placesL V.held 0)) := by
  obtain ⟨⟨mv, hv, rv, wv, gv, mp, xs, h1, _, _⟩, hok, hrf⟩ := h
  obtain ⟨a1, a2, a3, a4, a5⟩ := hok.small
  refine ⟨mv, hv, rv, wv, gv, mp, cell_of_row _ _ 0 _ _ _ h1.blk, cell_of_row _ _ 1 _ _ _ h1.blk, cell_of_row _ _ 2 _ _ _ h1.blk, cell_of_row _ _ 3 _ _ _ h1.blk, cell_of_row _ _ 4 _ _ _ h1.blk, cell_of_row _ _ 5 _ _ _ h1.blk,
    Own.row h1.vw.m (by omega), ⟨xs, h1.vw.len, Own.row h1.vw.h (by omega), fun i hi => ⟨Own.row (h1.vw.rf i hi) ?_, OwnI.reads (h1.vw.at_ i hi) ?_⟩⟩, OwnI.reads h1.vw.r (by omega), OwnI.reads h1.vw.wt (by omega), Own.row h1.gn (by omega), h1.mpb⟩
  · have := hrf (V.held.getD i default) (by rw [getD_at _ _ _ hi]; exact List.getElem_mem hi)
    omega
  · have := (a5 i hi).at_small
    omega

end Go.Proofs.Ytijcicgbhcphjaa

/- read. -/
namespace Go.Proofs.Ytijcicgbhcphjaa
open Go.RowKit Go.Lib Go.ChangeMaps
set_option linter.unusedSimpArgs false

def frR (v0 lv p2 : Value) (x : Nat → Value) : Act := ⟨#[v0, lv, p2, undef, .pointer none, .int .i64 0, x 6, undef, undef, undef, undef, undef, undef, v0, .bool true, .bool false, x 16, x 17, x 18, x 19, x 20, x 21, x 22, x 23, x 24, undef, undef, undef, undef, undef, undef, undef, undef, undef, undef, undef, undef, undef, undef, undef, undef, undef, undef, undef, undef, undef, undef, undef, undef, undef, undef, undef, undef, undef, undef, undef, undef, undef, undef, undef, undef, undef, undef, undef, undef, undef, undef, undef, undef, undef, undef, undef, undef, undef, undef, undef, undef, undef, undef, undef, undef, undef, undef, undef, undef, undef, undef, undef, undef, undef, undef, undef, undef, undef, undef, undef, undef, undef, undef, undef], []⟩
def OwnG (w : World) (lo : Nat) (v : Value) (n : Nat) : Prop := Own w lo 4 v 1 n fun _ _ => .bool false
def fcR (lo N : Nat) (v0 mv0 : Value) (V : Vp) (k : Nat) (w : World) (v : Value) : Prop := match k with
  | 0 => v = v0
  | 1 => ∃ mv hv rv wv xs, v = .agg #[mv, hv, rv, wv] ∧ VwOwn w lo V.held.length mv hv rv wv xs V
  | 2 => v = .pointer (some ⟨N, 0, none⟩)
  | 3 => v = mv0
  | 4 => v = .int .i64 V.mem.length
  | 5 => OwnG w lo v V.mem.length
  | 6 => ∃ mp, v = .map (some mp) ∧ lo ≤ mp ∧ w.heap[mp]? = some (mapObj encS [])
  | 7 => ∃ mv hv rv wv gv mp xs, v = .agg #[mv, hv, rv, wv, gv, .map (some mp)] ∧ VwOwn w lo V.held.length mv hv rv wv xs V ∧ OwnG w lo gv V.mem.length ∧ lo ≤ mp ∧ w.heap[mp]? = some (mapObj encS [])
  | 8 => ∃ p mv hv rv wv gv mp xs, v = .pointer (some ⟨p, 0, none⟩) ∧ StR w lo p mv hv rv wv gv mp xs V (fun _ => false) []
  | 9 => ∃ p mv hv rv wv gv mp xs, v = .pointer (some ⟨p, 0, none⟩) ∧ StR w lo p mv hv rv wv gv mp xs V (fun _ => false) []
  | _ => True
def memR (_ : Nat) : Bool := false
def slotR (k : Nat) : Nat := if k = 9 then 6 else 16 + k
theorem slotR_inj : ∀ i j, i < 10 → j < 10 → slotR i = slotR j → i = j := by
  intro i j hi hj h
  unfold slotR at h
  split at h <;> split at h <;> omega
theorem fcR_below {lo N : Nat} {v0 mv0 : Value} {V : Vp} : ∀ k w w' v, fcR lo N v0 mv0 V k w v → Below w.heap.size w w' → fcR lo N v0 mv0 V k w' v := by
  intro k w w' v h hb
  match k, h with
  | 0, h => exact h
  | 1, h =>
    obtain ⟨mv, hv, rv, wv, xs, e, h1⟩ := h
    exact ⟨mv, hv, rv, wv, xs, e, h1.below hb⟩
  | 2, h => exact h
  | 3, h => exact h
  | 4, h => exact h
  | 5, h => exact Own.below (show OwnG w lo v V.mem.length from h) hb
  | 6, h =>
    obtain ⟨mp, e, h1, h2⟩ := h
    exact ⟨mp, e, h1, (hb.block mp (Array.getElem?_eq_some_iff.1 h2).1).trans h2⟩
  | 7, h =>
    obtain ⟨mv, hv, rv, wv, gv, mp, xs, e, h1, h2, h3, h4⟩ := h
    exact ⟨mv, hv, rv, wv, gv, mp, xs, e, h1.below hb, Own.below h2 hb, h3, (hb.block mp (Array.getElem?_eq_some_iff.1 h4).1).trans h4⟩
  | 8, h =>
    obtain ⟨p, mv, hv, rv, wv, gv, mp, xs, e, h1⟩ := h
    exact ⟨p, mv, hv, rv, wv, gv, mp, xs, e, h1.below hb⟩
  | 9, h =>
    obtain ⟨p, mv, hv, rv, wv, gv, mp, xs, e, h1⟩ := h
    exact ⟨p, mv, hv, rv, wv, gv, mp, xs, e, h1.below hb⟩
  | _ + 10, _ => exact trivial

theorem VwOwn.lower {w : World} {lo lo' j : Nat} {mv hv rv wv : Value} {xs : List (Value × Value)} {V : Vp} (h : VwOwn w lo j mv hv rv wv xs V) (hl : lo' ≤ lo) : VwOwn w lo' j mv hv rv wv xs V :=
  ⟨h.m.base hl, h.h.base hl, Own.base h.r hl, Own.base h.wt hl, h.len, h.jn, fun k hk => (h.rf k hk).base hl, fun k hk => Own.base (h.at_ k hk) hl, h.apRW, h.apRA, h.apWA, h.apAA⟩

theorem StR.gcongr {w : World} {lo p : Nat} {mv hv rv wv gv : Value} {mp : Nat} {xs : List (Value × Value)} {V : Vp} {gone gone' : Nat → Bool} {L : List (ByteArray × Value)} (h : StR w lo p mv hv rv wv gv mp xs V gone L) (hg : ∀ d, d < V.mem.length → gone d = gone' d) : StR w lo p mv hv rv wv gv mp xs V gone' L :=
  ⟨h.blk, h.vw, h.gn.congr fun i j hi _ => by rw [hg i hi], h.mpb, h.lop, h.lom⟩
/-- Gone: the lost ones, and the expelled among the first j. -/
def goneJ (ms : List Mem) (ls : List Int) (j d : Nat) : Bool := decide ((d : Int) ∈ ls) || (decide (d < j) && (ms.getD d default).exp)
theorem goneJ_succ (ms : List Mem) (ls : List Int) (j i : Nat) (b : Bool) (hb : b = (goneJ ms ls j j || (ms.getD j default).exp)) : (if i = j then b else goneJ ms ls j i) = goneJ ms ls (j + 1) i := by
  by_cases e : i = j
  · subst e
    rw [if_pos rfl, hb]
    simp [goneJ]
  · rw [if_neg e]
    unfold goneJ
    rw [show decide (i < j + 1) = decide (i < j) from decide_eq_decide.2 (by omega)]
theorem world_off {w : World} {g b i : Nat} (h : g ≠ b) (j : Nat) (u : Value) : (w.setCell ⟨g, j, none⟩ u).cell? ⟨b, i, none⟩ = w.cell? ⟨b, i, none⟩ := by
  unfold World.cell?
  rw [setCell_other _ _ (Ne.symm h)]
theorem block_off {w : World} {m b i : Nat} (h : b ≠ m) (o : Obj) : (setBlock w m o).cell? ⟨b, i, none⟩ = w.cell? ⟨b, i, none⟩ := by
  unfold World.cell?
  rw [setBlock_off _ _ h]
theorem mk_gone (w : World) (n : Nat) (hn : n ≤ 12) : ∃ w', (Instr.makeSlice 93 (.int .i64 n) (.int .i64 n)).run Try.prog w = .ok (.slice (some ⟨w.heap.size, 0, none⟩) n n) w' ∧ OwnG w' w.heap.size (.slice (some ⟨w.heap.size, 0, none⟩) n n) n ∧ Below w.heap.size w w' := by
  have hi : (Try.prog.info? 4).map (fun i => (i.zero, i.size, i.bytes)) = some (some (.bool false), 1, 1) := by kernel_rfl
  obtain ⟨i, h1, h2, h3, h4⟩ := info_parts hi
  obtain ⟨w', r, o, g⟩ := run_makeSlice_full (P := Try.prog) w w.heap.size 93 4 i (.bool false) 1 Try.underlying93 h1 h2 h3 .i64 .i64 n (by omega) (by rw [h4]; omega) (by unfold maxLen; omega) (Nat.le_refl _)
  refine ⟨w', r, ⟨_, o, fun i j hi hj => ?_⟩, ⟨g.os, g.tape, g.output, g.size, fun b hb => g.block b hb (by simp)⟩⟩
  have hj0 : j = 0 := by omega
  subst hj0
  rw [Nat.mul_one, Nat.add_zero]
  simp [madeCells, Value.cells, hi]
  rw [Nat.mod_one]
  rfl

set_option maxRecDepth 100000 in
set_option maxHeartbeats 4000000 in
theorem read_any (v lv : Value) (V : Vp) (ls : List Int) (w : World) (hv : VwAt w v V) (hl : ReadsI w lv ls) (hrf : ∀ h ∈ V.held, h.refs.length ≤ 1000) :
    Calls Try.prog 40 #[v, lv] w fun e w' => Below w.heap.size w w' ∧ ((¬ Fits V ls ∧ e = .returned (.tuple #[.pointer none, .int .i64 1])) ∨
      (Fits V ls ∧ ∃ p, e = .returned (.tuple #[.pointer (some ⟨p, 0, none⟩), .int .i64 0]) ∧ w.heap.size ≤ p ∧ StAt w' w.heap.size w'.heap.size p V (goneB V.mem ls))) := by
  have HVW := Lib.hid hv
  have HLS := Lib.hid hl
  have CVA := Lib.hid (fun W hW => valid_any v V W (VwAt.below hv (w' := W) hW))
  obtain ⟨mv, hv, rv, wv, rfl, hM, hH, hR, hW⟩ := hv
  obtain ⟨ma, mc, mb, mo, rfl, ml, mm, mcell⟩ := hM.at
  obtain ⟨ha, hc, hb, ho, rfl, hl', hm, hcell⟩ := hH.at
  obtain ⟨ra, rc, _, _, rfl, -⟩ := hR.at
  obtain ⟨wa, wc, _, _, rfl, -⟩ := hW.at
  obtain ⟨la, lc, lb, lof, rfl, hll, hlm, lcell⟩ := hl.at
  have MC := Lib.hid mcell
  have HC := Lib.hid hcell
  have LC := Lib.hid lcell
  clear mcell hcell hM hH hR hW lcell hl
  have HDV := Lib.hid (show VOk V ↔ ((V.mem.length ≤ 12 ∧ V.held.length ≤ 256) ∧ MsOk V.mem ∧ (V.room.length = V.mem.length ∧ CntOk V.room) ∧ (V.weight.length = V.mem.length ∧ CntOk V.weight) ∧ HpsOk V.mem.length V.held) from Iff.rfl)
  generalize hrl : V.room.length = rl at *
  generalize hwl : V.weight.length = wl at *
  go_enter Try.func40, Try.ntmps40
  have hb0 : Below w.heap.size w (w.alloc (.cells #[.slice ma V.mem.length mc, .slice ha V.held.length hc, .slice ra rl rc, .slice wa wl wc] 26)) := (Below.refl _ _).alloc (Nat.le_refl _) _
  have cv := CVA.out _ hb0
  have CV := Lib.hid cv
  have bx := heap_alloc_new w (.cells #[.slice ma V.mem.length mc, .slice ha V.held.length hc, .slice ra rl rc, .slice wa wl wc] 26)
  clear cv CVA
  by_cases hok : VOk V
  rotate_left
  · rw [decide_eq_false hok] at CV
    have HOK := Lib.hid hok
    clear hok bx
    go_wp2_with fail
    refine CV.out.mono ?_
    rintro e w3 ⟨rfl, hb3⟩
    go_wp2
    refine bodyPost_ret (results_tmp2 Try.results40 _ _ _) rfl ?_
    exact ⟨hb0.trans (hb3.mono hb0.size), .inl ⟨fun h => HOK.out h.1, rfl⟩⟩
  rw [decide_eq_true hok] at CV
  have HOK := Lib.hid hok
  clear hok
  have hz0 : (w.alloc (.cells #[.slice ma V.mem.length mc, .slice ha V.held.length hc, .slice ra rl rc, .slice wa wl wc] 26)).heap.size = w.heap.size + 1 := World.size_alloc _ _
  go_wp2_with fail
  refine CV.out.mono ?_
  rintro e w3 ⟨rfl, hb3⟩
  have hblk3 := (hb3.block w.heap.size (by rw [hz0]; omega)).trans bx
  have hbw3 := hb0.trans (hb3.mono hb0.size)
  have hz3 := hb3.size
  rw [hz0] at hz3
  clear hb3 hb0 bx hz0 CV
  go_upto_region 3 with fail
  obtain ⟨N, hNe⟩ : ∃ N, N = w.heap.size := ⟨_, rfl⟩
  have hN : w.heap.size < w3.drew.heap.size := (Array.getElem?_eq_some_iff.1 hblk3).1
  have hbW : Below w.heap.size w w3.drew := hbw3.drew
  have q0 : w3.drew.cell? ⟨w.heap.size, 0, none⟩ = some (.slice ma V.mem.length mc) := cell_of_row w3 _ 0 _ _ _ hblk3
  have q1 : w3.drew.cell? ⟨w.heap.size, 1, none⟩ = some (.slice ha V.held.length hc) := cell_of_row w3 _ 1 _ _ _ hblk3
  have q2 : w3.drew.cell? ⟨w.heap.size, 2, none⟩ = some (.slice ra rl rc) := cell_of_row w3 _ 2 _ _ _ hblk3
  have q3 : w3.drew.cell? ⟨w.heap.size, 3, none⟩ = some (.slice wa wl wc) := cell_of_row w3 _ 3 _ _ _ hblk3
  have hok := HDV.out.1 HOK.out
  obtain ⟨⟨a1, a2⟩, -, ⟨a3, -⟩, ⟨a4, -⟩, hps⟩ := hok
  have HRF := Lib.hid (show ∀ h ∈ V.held, h.refs.length ≤ 1000 ∧ h.at_.length ≤ 1000 from fun h hh => ⟨hrf h hh, by have := hps.2 h hh; have h1 := this.2.2.2.2.1; have h2 := this.2.2.1; omega⟩)
  have HA3 := Lib.hid a3
  have HA4 := Lib.hid a4
  have a3' : rl ≤ 12 := by omega
  have a4' : wl ≤ 12 := by omega
  clear hps a3 a4 hz3 hbw3
  rw [← hNe] at q0 q1 q2 q3 hN ⊢
  have HNE := Lib.hid hNe
  clear hNe
  refine wp_region_inv (by kernel_rfl) (fun l a w' => ∃ x, a = frR (.agg #[.slice ma V.mem.length mc, .slice ha V.held.length hc, .slice ra rl rc, .slice wa wl wc]) (.slice la ls.length lc) (.pointer (some ⟨N, 0, none⟩)) x ∧ InvG (fcR w.heap.size N (.agg #[.slice ma V.mem.length mc, .slice ha V.held.length hc, .slice ra rl rc, .slice wa wl wc]) (.slice ma V.mem.length mc) V) memR slotR w3.drew 10 l x w')
    ⟨fun _ => undef, by with_unfolding_all rfl, ⟨Below.refl _ _, fun k hk => by simp [Array.getD] at hk, fun k hk => by simp [Array.getD] at hk, fun k k' hk => by simp [Array.getD] at hk⟩⟩ ?_ ?_
  · rintro l a w' hl0 ⟨x, rfl, h⟩ i hi
    obtain ⟨hlt0, hdep⟩ := ready_dep hi
    have hlt : i < 10 := hlt0
    have hz := h.below.size
    clear hi hl0 hlt0
    rcases (show i = 0 ∨ i = 1 ∨ i = 2 ∨ i = 3 ∨ i = 4 ∨ i = 5 ∨ i = 6 ∨ i = 7 ∨ i = 8 ∨ i = 9 by omega) with rfl | rfl | rfl | rfl | rfl | rfl | rfl | rfl | rfl | rfl
    · have c0 := (h.below.cell (p := ⟨N, 0, none⟩) hN).trans q0
      have c1 := (h.below.cell (p := ⟨N, 1, none⟩) hN).trans q1
      have c2 := (h.below.cell (p := ⟨N, 2, none⟩) hN).trans q2
      have c3 := (h.below.cell (p := ⟨N, 3, none⟩) hN).trans q3
      clear hdep
      refine wpOp_go rfl (fun K' hK => ?_)
      unfold frR
      go_simp
      refine hK.out _ _ ?_
      refine ⟨_, ?_, h.put fcR_below slotR_inj 0 (by omega) (Below.refl _ _) rfl (fun h => by simp [memR] at h)⟩
      simp [frR, updV, slotR]
    · have d0 : x 16 = (.agg #[.slice ma V.mem.length mc, .slice ha V.held.length hc, .slice ra rl rc, .slice wa wl wc]) := h.done 0 (hdep _ rfl ⟨0, .data⟩ (by simp) rfl) (by omega)
      have hcl := clone_any (.agg #[.slice ma V.mem.length mc, .slice ha V.held.length hc, .slice ra rl rc, .slice wa wl wc]) V w' (HVW.out.below (hbW.trans (h.below.mono hbW.size))) (by omega) (by omega) (by omega) (by omega) HRF.out
      have HCL := Lib.hid hcl
      clear hcl
      clear hdep
      refine wpOp_go rfl (fun K' hK => ?_)
      unfold frR
      simp only [d0]
      go_simp
      refine HCL.out.mono ?_
      rintro e w3 ⟨mv, hv, rv, wv, ys, rfl, ov, hb3⟩
      go_wp2_with fail
      refine hK.out _ _ ?_
      refine ⟨_, ?_, h.put fcR_below slotR_inj 1 (by omega) hb3 ⟨_, _, _, _, _, rfl, ov.lower (Nat.le_trans hbW.size hz)⟩ (fun h => by simp [memR] at h)⟩
      simp [frR, updV, slotR, d0]
    · skip
      clear hdep
      refine wpOp_go rfl (fun K' hK => ?_)
      unfold frR
      go_simp
      refine hK.out _ _ ?_
      refine ⟨_, ?_, h.put fcR_below slotR_inj 2 (by omega) (Below.refl _ _) rfl (fun h => by simp [memR] at h)⟩
      simp [frR, updV, slotR]
    · have d0 : x 18 = .pointer (some ⟨N, 0, none⟩) := h.done 2 (hdep _ rfl ⟨2, .data⟩ (by simp) rfl) (by omega)
      have c0 := (h.below.cell (p := ⟨N, 0, none⟩) hN).trans q0
      clear hdep
      refine wpOp_go rfl (fun K' hK => ?_)
      unfold frR
      simp only [d0]
      go_simp
      refine hK.out _ _ ?_
      refine ⟨_, ?_, h.put fcR_below slotR_inj 3 (by omega) (Below.refl _ _) rfl (fun h => by simp [memR] at h)⟩
      simp [frR, updV, slotR, d0]
    · have d0 : x 19 = .slice ma V.mem.length mc := h.done 3 (hdep _ rfl ⟨3, .data⟩ (by simp) rfl) (by omega)
      clear hdep
      refine wpOp_go rfl (fun K' hK => ?_)
      unfold frR
      simp only [d0]
      go_simp
      refine hK.out _ _ ?_
      refine ⟨_, ?_, h.put fcR_below slotR_inj 4 (by omega) (Below.refl _ _) rfl (fun h => by simp [memR] at h)⟩
      simp [frR, updV, slotR, d0]
    · have d0 : x 20 = .int .i64 V.mem.length := h.done 4 (hdep _ rfl ⟨4, .data⟩ (by simp) rfl) (by omega)
      obtain ⟨w5, r5, o5, b5⟩ := mk_gone w' V.mem.length (by omega)
      clear hdep
      refine wpOp_go rfl (fun K' hK => ?_)
      unfold frR
      simp only [d0]
      go_simp
      refine hK.out _ _ ?_
      refine ⟨_, ?_, h.put fcR_below slotR_inj 5 (by omega) b5 (Own.base o5 (Nat.le_trans hbW.size hz)) (fun h => by simp [memR] at h)⟩
      simp [frR, updV, slotR, d0]
    · have hmm := @run_makeMap Try.prog
      clear hdep
      refine wpOp_go rfl (fun K' hK => ?_)
      unfold frR
      go_simp
      refine hK.out _ _ ?_
      refine ⟨_, ?_, h.put fcR_below slotR_inj 6 (by omega) ((Below.refl _ _).alloc (Nat.le_refl _) _) ⟨_, rfl, Nat.le_trans hbW.size hz, heap_alloc_new _ _⟩ (fun h => by simp [memR] at h)⟩
      simp [frR, updV, slotR]
    · obtain ⟨mv, hv, rv, wv, xs, z1, e1⟩ : fcR w.heap.size N _ _ V 1 w' (x 17) := h.done 1 (hdep _ rfl ⟨1, .data⟩ (by simp) rfl) (by omega)
      have e5 : OwnG w' w.heap.size (x 21) V.mem.length := h.done 5 (hdep _ rfl ⟨5, .data⟩ (by simp) rfl) (by omega)
      obtain ⟨mp, z6, e6, e6'⟩ : fcR w.heap.size N _ _ V 6 w' (x 22) := h.done 6 (hdep _ rfl ⟨6, .data⟩ (by simp) rfl) (by omega)
      rcases Own.slice e1.m with ⟨_, _, _, rfl⟩
      rcases Own.slice e1.h with ⟨_, _, _, rfl⟩
      rcases Own.slice e1.r with ⟨_, _, _, rfl⟩
      rcases Own.slice e1.wt with ⟨_, _, _, rfl⟩
      obtain ⟨_, _, _, z5⟩ := Own.slice e5
      clear hdep
      refine wpOp_go rfl (fun K' hK => ?_)
      unfold frR
      simp only [z1, z5, z6]
      go_simp
      refine hK.out _ _ ?_
      refine ⟨_, ?_, h.put fcR_below slotR_inj 7 (by omega) (Below.refl _ _) ⟨_, _, _, _, _, _, _, rfl, e1, e5, e6, e6'⟩ (fun h => by simp [memR] at h)⟩
      simp [frR, updV, slotR, z1, z5, z6]
    · obtain ⟨mv, hv, rv, wv, gv, mp, xs, z7, e1, e5, e6, e6'⟩ : fcR w.heap.size N _ _ V 7 w' (x 23) := h.done 7 (hdep _ rfl ⟨7, .data⟩ (by simp) rfl) (by omega)
      rcases Own.slice e1.m with ⟨_, _, _, rfl⟩
      rcases Own.slice e1.h with ⟨_, _, _, rfl⟩
      rcases Own.slice e1.r with ⟨_, _, _, rfl⟩
      rcases Own.slice e1.wt with ⟨_, _, _, rfl⟩
      rcases Own.slice e5 with ⟨_, _, _, rfl⟩
      have hA := fun o => (Below.refl w'.heap.size w').alloc (Nat.le_refl _) o
      clear hdep
      refine wpOp_go rfl (fun K' hK => ?_)
      unfold frR
      simp only [z7]
      go_simp
      refine hK.out _ _ ?_
      refine ⟨_, ?_, h.put fcR_below slotR_inj 8 (by omega) ((Below.refl _ _).alloc (Nat.le_refl _) _) ⟨_, _, _, _, _, _, _, _, rfl, heap_alloc_new _ _, e1.below (hA _), Own.below e5 (hA _), ((hA _).block mp (Array.getElem?_eq_some_iff.1 e6').1).trans e6', Nat.le_trans hbW.size hz, e6⟩ (fun h => by simp [memR] at h)⟩
      simp [frR, updV, slotR, z7]
    · obtain ⟨p, mv, hv, rv, wv, gv, mp, xs, z8, e1⟩ : fcR w.heap.size N _ _ V 8 w' (x 24) := h.done 8 (hdep _ rfl ⟨8, .data⟩ (by simp) rfl) (by omega)
      clear hdep
      refine wpOp_go rfl (fun K' hK => ?_)
      unfold frR
      simp only [z8]
      go_simp
      refine hK.out _ _ ?_
      refine ⟨_, ?_, h.put fcR_below slotR_inj 9 (by omega) (Below.refl _ _) ⟨_, _, _, _, _, _, _, _, rfl, e1⟩ (fun h => by simp [memR] at h)⟩
      simp [frR, updV, slotR, z8]
  · rintro l a w' hl0 ⟨x, rfl, h⟩ hready
    have hall := all_listed hl0 (by decide +kernel) hready
    obtain ⟨p, m1, h1, r1, t1, g1, mp, xs, hx6, hst⟩ : fcR w.heap.size N _ _ V 9 w' (x 6) := h.done 9 (hall 9 (by show 9 < 10; omega)) (by omega)
    have hbel := h.below
    clear hall hready hl0 l h
    unfold frR
    simp only [hx6]
    clear hx6
    generalize x 16 = x16
    generalize x 17 = x17
    generalize x 18 = x18
    generalize x 19 = x19
    generalize x 20 = x20
    generalize x 21 = x21
    generalize x 22 = x22
    generalize x 23 = x23
    generalize x 24 = x24
    clear x
    have hbw := hbW.trans (hbel.mono hbW.size)
    rw [← HNE.out] at hblk3
    have hbox := (hbel.block N hN).trans hblk3
    have hpN : N < p := by
      have h1 := hst.lop
      rw [← HNE.out] at h1
      rcases Nat.lt_or_eq_of_le h1 with h | h
      · exact h
      · exfalso; rw [h] at hbox; rw [hst.blk] at hbox; cases hbox
    have hpw : w.heap.size ≤ p := hst.lop
    clear q0 q1 q2 q3 hblk3 hbel hbW
    go_wp2
    go_loopw [27, 8] (fun v27 _ wr => ∃ j : Nat, j ≤ ls.length ∧ v27 = .int .i64 j ∧ LostOk V.mem.length (ls.take j) ∧ Below w.heap.size w wr ∧ wr.heap[N]? = some (.cells #[.slice ma V.mem.length mc, .slice ha V.held.length hc, .slice ra rl rc, .slice wa wl wc] 26 (0, 0)) ∧
      StR wr w.heap.size p m1 h1 r1 t1 g1 mp xs V (fun d => decide ((d : Int) ∈ ls.take j)) []) (fun v27 _ _ => ls.length - (intOf v27).toNat)
    case atStart => exact ⟨0, Nat.zero_le _, rfl, by simp [LostOk], hbw, hbox, by simpa using hst⟩
    case round =>
      obtain ⟨j, hj, rfl, hlo, hbel, hbox', hsr⟩ := hrel
      clear hbw hbox hst
      have HLO := Lib.hid hlo
      have HSR := Lib.hid hsr
      clear hlo
      have c4 := cell_of_row wr p 4 _ _ _ hsr.blk
      have b0 := cell_of_row wr N 0 _ _ _ hbox'
      by_cases hlt : j < ls.length
      · obtain ⟨e1, e2⟩ := LC.out j hlt
        subst e1
        have hg := getD_at ls j 0 hlt
        have hs := lostOk_snoc V.mem.length ls j hlt
        have ht := fun h => lostOk_take (n := (V.mem.length : Int)) (ls := ls) h (j + 1)
        have hse : ∀ d : Int, d ∈ ls.take (j + 1) ↔ d ∈ ls.take j ∨ d = ls[j] := fun d => mem_take_succ ls d j hlt
        rw [hg] at e2
        rw [← hbel.cell (p := ⟨lb, _, none⟩) (cell_lt e2)] at e2
        have HS := Lib.hid hs
        have HT := Lib.hid ht
        have HSE := Lib.hid hse
        have HBX := Lib.hid hbox'
        clear hg hs hse ht hsr hbox'
        generalize ls[j] = y at e2 HS HSE
        by_cases k1 : 0 ≤ y ∧ y < V.mem.length
        · obtain ⟨d, rfl⟩ : ∃ d : Nat, y = d := ⟨y.toNat, by omega⟩
          have hd : d < V.mem.length := by omega
          obtain ⟨g, gc, rfl, hgc, hgl, hgs, fz, c1, hgp, hset⟩ := HSR.out.gone_cell hd true
          have q1 : decide ((d : Int) < 0) = false := decide_eq_false (by omega)
          have q2 : decide ((V.mem.length : Int) ≤ d) = false := decide_eq_false (by omega)
          by_cases k2 : (d : Int) ∈ ls.take j
          · have hno : ¬ Fits V ls := fun h => (HS.out.1 (HT.out h.2)).2.2 k2
            have HNO := Lib.hid hno
            rw [decide_eq_true k2] at c1
            clear k2 hset hno
            go_wp2
            refine bodyPost_ret (results_tmp2 Try.results40 _ _ _) rfl ?_
            exact ⟨hbel, .inl ⟨HNO.out, rfl⟩⟩
          · have h1 := HS.out.2 ⟨HLO.out, k1, k2⟩
            have H1 := Lib.hid h1
            have HSET := Lib.hid hset
            have hgN : N ≠ g := fun e => by
              have h2 := HBX.out
              rw [e] at h2
              exact own_ne HSR.out.gn h2 (by decide) rfl
            have hb2 := (setCell_other wr (i := d) (.bool true) hgN).trans HBX.out
            have HB2 := Lib.hid hb2
            rw [decide_eq_false k2] at c1
            clear k2 h1 hset hb2
            go_wp2
            go_roundw
            case rel =>
              refine ⟨j + 1, by omega, by go_num, H1.out, Below.setCell hbel hgl _, HB2.out, ?_⟩
              refine (HSET.out).gcongr fun i _ => ?_
              by_cases e : i = d
              · subst e; rw [if_pos rfl]; exact (decide_eq_true ((HSE.out _).2 (.inr rfl))).symm
              · rw [if_neg e]
                refine decide_eq_decide.2 ⟨fun h => (HSE.out _).2 (.inl h), fun h => ((HSE.out _).1 h).resolve_right (by omega)⟩
            case measure => simp [intOf]; omega
        · have hno : ¬ Fits V ls := fun h => k1 (HS.out.1 (HT.out h.2)).2.1
          have HNO := Lib.hid hno
          clear hno
          by_cases k2 : y < 0
          · have q1 : decide (y < 0) = true := decide_eq_true k2
            clear k1
            go_wp2
            refine bodyPost_ret (results_tmp2 Try.results40 _ _ _) rfl ?_
            exact ⟨hbel, .inl ⟨HNO.out, rfl⟩⟩
          · have q1 : decide (y < 0) = false := decide_eq_false k2
            have q2 : decide ((V.mem.length : Int) ≤ y) = true := decide_eq_true (by omega)
            clear k1
            go_wp2
            refine bodyPost_ret (results_tmp2 Try.results40 _ _ _) rfl ?_
            exact ⟨hbel, .inl ⟨HNO.out, rfl⟩⟩
      · have hjl : j = ls.length := by omega
        subst hjl
        have hlo := HLO.out
        have hsr := HSR.out
        rw [List.take_length] at hlo
        simp only [List.take_length] at hsr
        have hfit : Fits V ls := ⟨HOK.out, hlo⟩
        have HFIT := Lib.hid hfit
        clear hlo hfit HLO HSR LC hlt
        clear c4
        go_wp2
        go_loopw [59, 9, 10] (fun v59 _ _ wr => ∃ j : Nat, j ≤ V.mem.length ∧ v59 = .int .i64 j ∧ Below w.heap.size w wr ∧ wr.heap[N]? = some (.cells #[.slice ma V.mem.length mc, .slice ha V.held.length hc, .slice ra rl rc, .slice wa wl wc] 26 (0, 0)) ∧
          StR wr w.heap.size p m1 h1 r1 t1 g1 mp xs V (goneJ V.mem ls j) []) (fun v59 _ _ _ => V.mem.length - (intOf v59).toNat)
        case atStart => exact ⟨0, Nat.zero_le _, rfl, hbel, hbox', hsr.gcongr fun d _ => by simp [goneJ]⟩
        case round =>
          clear hbel hbox' hsr b0
          rename_i wr
          obtain ⟨j, hj, rfl, hbel, hbox', hsr⟩ := hrel
          have b1 := cell_of_row wr N 1 _ _ _ hbox'
          by_cases hlt : j < V.mem.length
          · obtain ⟨e1, e2, e3, e4, e5, e6⟩ := MC.out j hlt
            subst e1
            rw [← hbel.cell (p := ⟨mb, _, none⟩) (cell_lt e2)] at e2
            rw [← hbel.cell (p := ⟨mb, _, none⟩) (cell_lt e3)] at e3
            rw [← hbel.cell (p := ⟨mb, _, none⟩) (cell_lt e4)] at e4
            rw [← hbel.cell (p := ⟨mb, _, none⟩) (cell_lt e5)] at e5
            rw [← hbel.cell (p := ⟨mb, _, none⟩) (cell_lt e6)] at e6
            have hgc2 : ∀ (b : Bool) i, b = (goneJ V.mem ls j j || (V.mem.getD j default).exp) → (if i = j then b else goneJ V.mem ls j i) = goneJ V.mem ls (j + 1) i := fun b i hb => goneJ_succ V.mem ls j i b hb
            generalize hgj : goneJ V.mem ls j j = gj at hgc2
            generalize hy : V.mem.getD j default = y at e2 e3 e4 e5 e6 hgc2
            obtain ⟨dv, nm, pb, qu, ex⟩ := y
            simp only at e2 e3 e4 e5 e6 hgc2
            have hA : Below wr.heap.size wr (wr.alloc (.cells #[.int .i64 dv, .string nm, .string pb, .int .i64 qu, .bool ex] 81)).drew := ((Below.refl _ _).alloc (Nat.le_refl _) _).drew
            have hbel2 := hbel.trans (hA.mono hbel.size)
            have hsr2 := hsr.below hA
            obtain ⟨g, gc, rfl, hgc, hgl, hgs, fz, c1, hgp, -⟩ := hsr2.gone_cell hlt true
            have hset : ∀ b, StR ((wr.alloc (.cells #[.int .i64 dv, .string nm, .string pb, .int .i64 qu, .bool ex] 81)).drew.setCell ⟨g, j, none⟩ (.bool b)) w.heap.size p m1 h1 r1 t1 (.slice (some ⟨g, 0, none⟩) V.mem.length gc) mp xs V (fun i => if i = j then b else goneJ V.mem ls j i) [] := fun b => by
              obtain ⟨g', c', e, -, -, -, -, -, -, h⟩ := hsr2.gone_cell hlt b
              cases e
              exact h
            have hgs2 : g < wr.heap.size := by
              obtain ⟨g', c', e, -, -, h, -⟩ := hsr.gone_cell hlt true
              cases e
              exact h
            have hgN : N ≠ g := fun e => by
              have h2 := hbox'
              rw [e] at h2
              exact own_ne hsr.gn h2 (by decide) rfl
            have hNl : N < wr.heap.size := (Array.getElem?_eq_some_iff.1 hbox').1
            have hb2 : ∀ b, ((wr.alloc (.cells #[.int .i64 dv, .string nm, .string pb, .int .i64 qu, .bool ex] 81)).drew.setCell ⟨g, j, none⟩ (.bool b)).heap[N]? = some (.cells #[.slice (some ⟨mb, mo, none⟩) V.mem.length mc, .slice ha V.held.length hc, .slice ra rl rc, .slice wa wl wc] 26 (0, 0)) := fun b =>
              (setCell_other _ _ hgN).trans ((hA.block N hNl).trans hbox')
            have s1 := cell_of_row _ p 4 _ _ _ hsr2.blk
            have s2 : (wr.alloc (.cells #[.int .i64 dv, .string nm, .string pb, .int .i64 qu, .bool ex] 81)).drew.cell? ⟨wr.heap.size, 4, none⟩ = some (.bool ex) := cell_of_row (wr.alloc _) _ 4 _ _ _ (heap_alloc_new _ _)
            simp only [hgj] at c1
            have HSET := Lib.hid hset
            have HB2 := Lib.hid hb2
            have HGC0 := Lib.hid hgc2
            clear hset hb2 hgc2 hsr hsr2 hbox' hA hy hgj b1
            cases gj
            · have HGC := Lib.hid (fun i => HGC0.out ex i (by simp))
              go_upto_region 14 with fail
              refine wp_region_held_drew (S := fun w' => w'.cell? ⟨p, 4, none⟩ = some (.slice (some ⟨g, 0, none⟩) V.mem.length gc) ∧ w'.cell? ⟨wr.heap.size, 4, none⟩ = some (.bool ex)) (by kernel_rfl) ⟨s1, s2⟩ (fun hHeld => ?_)
              generalize (wr.alloc (.cells #[.int .i64 dv, .string nm, .string pb, .int .i64 qu, .bool ex] 81)).drew = W at *
              refine wpAnyH_take (i := 0) (v := ?_) rfl (by kernel_rfl) (by kernel_rfl) (by kernel_rfl) (fun _ _ _ h => h) (Or.inl ⟨by rfl, ?_⟩) (by assumption) ?_
              rotate_left; · (intro w hSw; (try dsimp only at hSw); go_simp; try with_reducible rfl)
              try simp only [Act.put, List.getElem_toArray, List.getElem_cons_zero, List.getElem_cons_succ, List.setIfInBounds_toArray, List.set_cons_zero, List.set_cons_succ]
              refine wpAnyH_take (i := 1) (v := ?_) rfl (by kernel_rfl) (by kernel_rfl) (by kernel_rfl) (fun _ _ _ h => h) (Or.inl ⟨by rfl, ?_⟩) (by assumption) ?_
              rotate_left; · (intro w hSw; (try dsimp only at hSw); go_simp; try with_reducible rfl)
              try simp only [Act.put, List.getElem_toArray, List.getElem_cons_zero, List.getElem_cons_succ, List.setIfInBounds_toArray, List.set_cons_zero, List.set_cons_succ]
              refine wpAnyH_take (i := 2) (v := ?_) rfl (by kernel_rfl) (by kernel_rfl) (by kernel_rfl) (fun _ _ _ h => h) (Or.inl ⟨by rfl, ?_⟩) (by assumption) ?_
              rotate_left; · (intro w hSw; (try dsimp only at hSw); go_simp; try with_reducible rfl)
              try simp only [Act.put, List.getElem_toArray, List.getElem_cons_zero, List.getElem_cons_succ, List.setIfInBounds_toArray, List.set_cons_zero, List.set_cons_succ]
              refine wpAnyH_take (i := 3) (v := ?_) rfl (by kernel_rfl) (by kernel_rfl) (by kernel_rfl) (fun _ _ _ h => h) (Or.inl ⟨by rfl, ?_⟩) (by assumption) ?_
              rotate_left; · (intro w hSw; (try dsimp only at hSw); go_simp; try with_reducible rfl)
              try simp only [Act.put, List.getElem_toArray, List.getElem_cons_zero, List.getElem_cons_succ, List.setIfInBounds_toArray, List.set_cons_zero, List.set_cons_succ]
              refine wpAnyH_take (i := 4) (v := ?_) rfl (by kernel_rfl) (by kernel_rfl) (by kernel_rfl) (fun _ _ _ h => h) (Or.inl ⟨by rfl, ?_⟩) (by assumption) ?_
              rotate_left; · (intro w hSw; (try dsimp only at hSw); go_simp; try with_reducible rfl)
              try simp only [Act.put, List.getElem_toArray, List.getElem_cons_zero, List.getElem_cons_succ, List.setIfInBounds_toArray, List.set_cons_zero, List.set_cons_succ]
              refine wpAnyH_take (i := 5) (v := ?_) rfl (by kernel_rfl) (by kernel_rfl) (by kernel_rfl) (fun _ _ _ h => h) (Or.inl ⟨by rfl, ?_⟩) (by assumption) ?_
              rotate_left; · (intro w hSw; (try dsimp only at hSw); go_simp; try with_reducible rfl)
              try simp only [Act.put, List.getElem_toArray, List.getElem_cons_zero, List.getElem_cons_succ, List.setIfInBounds_toArray, List.set_cons_zero, List.set_cons_succ]
              refine wpAnyH_take (i := 6) (v := ?_) rfl (by kernel_rfl) (by kernel_rfl) (by kernel_rfl) (fun _ _ _ h => h) (Or.inl ⟨by rfl, ?_⟩) (by assumption) ?_
              rotate_left; · (intro w hSw; (try dsimp only at hSw); go_simp; try with_reducible rfl)
              try simp only [Act.put, List.getElem_toArray, List.getElem_cons_zero, List.getElem_cons_succ, List.setIfInBounds_toArray, List.set_cons_zero, List.set_cons_succ]
              refine wpAnyH_take (i := 7) (v := ?_) rfl (by kernel_rfl) (by kernel_rfl) (by kernel_rfl) (fun _ _ _ h => h) (Or.inl ⟨by rfl, ?_⟩) (by assumption) ?_
              rotate_left; · (intro w hSw; (try dsimp only at hSw); go_simp; try with_reducible rfl)
              try simp only [Act.put, List.getElem_toArray, List.getElem_cons_zero, List.getElem_cons_succ, List.setIfInBounds_toArray, List.set_cons_zero, List.set_cons_succ]
              refine wpAnyH_take (i := 8) (v := ?_) rfl (by kernel_rfl) (by kernel_rfl) (by kernel_rfl) (fun _ _ _ h => h) (Or.inl ⟨by rfl, ?_⟩) (by assumption) ?_
              rotate_left; · (intro w hSw; (try dsimp only at hSw); go_simp; try with_reducible rfl)
              try simp only [Act.put, List.getElem_toArray, List.getElem_cons_zero, List.getElem_cons_succ, List.setIfInBounds_toArray, List.set_cons_zero, List.set_cons_succ]
              refine wpAnyH_take (i := 9) (v := ?_) rfl (by kernel_rfl) (by kernel_rfl) (by kernel_rfl) (fun _ _ _ h => h) (Or.inl ⟨by rfl, ?_⟩) (by assumption) ?_
              rotate_left; · (intro w hSw; (try dsimp only at hSw); go_simp; try with_reducible rfl)
              try simp only [Act.put, List.getElem_toArray, List.getElem_cons_zero, List.getElem_cons_succ, List.setIfInBounds_toArray, List.set_cons_zero, List.set_cons_succ]
              refine wpAnyH_take (i := 10) (v := ?_) rfl (by kernel_rfl) (by kernel_rfl) (by kernel_rfl) (fun _ _ _ h => h) (Or.inl ⟨by rfl, ?_⟩) (by assumption) ?_
              rotate_left; · (intro w hSw; (try dsimp only at hSw); go_simp; try with_reducible rfl)
              try simp only [Act.put, List.getElem_toArray, List.getElem_cons_zero, List.getElem_cons_succ, List.setIfInBounds_toArray, List.set_cons_zero, List.set_cons_succ]
              refine wpAnyH_ready (rs := [11]) (by kernel_rfl) (by simp) ?_
              refine AllReadyH.cons rfl (fun K hK => ?_) AllReadyH.nil
              go_simp
              refine hK.out _ _ hHeld (fun hNew => ?_)
              clear hK K hNew
              try simp only [Act.put, List.getElem_toArray, List.getElem_cons_zero, List.getElem_cons_succ, List.setIfInBounds_toArray, List.set_cons_zero, List.set_cons_succ]
              refine wpAnyH_take (i := 12) (v := ?_) rfl (by kernel_rfl) (by kernel_rfl) (by kernel_rfl) (fun _ _ _ h => h) (Or.inl ⟨by rfl, ?_⟩) (by assumption) ?_
              rotate_left; · (intro w hSw; (try dsimp only at hSw); go_simp; try with_reducible rfl)
              try simp only [Act.put, List.getElem_toArray, List.getElem_cons_zero, List.getElem_cons_succ, List.setIfInBounds_toArray, List.set_cons_zero, List.set_cons_succ]
              refine wpAnyH_take (i := 13) (v := ?_) rfl (by kernel_rfl) (by kernel_rfl) (by kernel_rfl) (fun _ _ _ h => h) (Or.inl ⟨by rfl, ?_⟩) (by assumption) ?_
              rotate_left; · (intro w hSw; (try dsimp only at hSw); go_simp; try with_reducible rfl)
              try simp only [Act.put, List.getElem_toArray, List.getElem_cons_zero, List.getElem_cons_succ, List.setIfInBounds_toArray, List.set_cons_zero, List.set_cons_succ]
              refine wpAnyH_take (i := 14) (v := ?_) rfl (by kernel_rfl) (by kernel_rfl) (by kernel_rfl) (fun _ _ _ h => h) (Or.inl ⟨by rfl, ?_⟩) (by assumption) ?_
              rotate_left; · (intro w hSw; (try dsimp only at hSw); go_simp; try with_reducible rfl)
              try simp only [Act.put, List.getElem_toArray, List.getElem_cons_zero, List.getElem_cons_succ, List.setIfInBounds_toArray, List.set_cons_zero, List.set_cons_succ]
              refine wpAnyH_take (i := 15) (v := ?_) rfl (by kernel_rfl) (by kernel_rfl) (by kernel_rfl) (fun _ _ _ h => h) (Or.inl ⟨by rfl, ?_⟩) (by assumption) ?_
              rotate_left; · (intro w hSw; (try dsimp only at hSw); go_simp; try with_reducible rfl)
              try simp only [Act.put, List.getElem_toArray, List.getElem_cons_zero, List.getElem_cons_succ, List.setIfInBounds_toArray, List.set_cons_zero, List.set_cons_succ]
              refine wpAnyH_take (i := 16) (v := ?_) rfl (by kernel_rfl) (by kernel_rfl) (by kernel_rfl) (fun _ _ _ h => h) (Or.inl ⟨by rfl, ?_⟩) (by assumption) ?_
              rotate_left; · (intro w hSw; (try dsimp only at hSw); go_simp; try with_reducible rfl)
              try simp only [Act.put, List.getElem_toArray, List.getElem_cons_zero, List.getElem_cons_succ, List.setIfInBounds_toArray, List.set_cons_zero, List.set_cons_succ]
              refine wpAnyH_ready (rs := [17]) (by kernel_rfl) (by simp) ?_
              refine AllReadyH.cons rfl (fun K hK => ?_) AllReadyH.nil
              go_simp
              refine hK.out _ _ ⟨(world_off hgp _ _).trans s1, (world_off (Nat.ne_of_lt hgs2) _ _).trans s2⟩ (fun hNew => ?_)
              clear hK K hNew hHeld
              try simp only [Act.put, List.getElem_toArray, List.getElem_cons_zero, List.getElem_cons_succ, List.setIfInBounds_toArray, List.set_cons_zero, List.set_cons_succ]
              refine wpAnyH_done (by kernel_rfl) ?_ _
              go_wp2
              go_roundw
              case rel =>
                refine ⟨j + 1, by omega, by go_num, Below.setCell hbel2 hgl _, HB2.out _, ?_⟩
                refine (HSET.out _).gcongr fun i _ => ?_
                exact HGC.out i
              case measure => simp [intOf]; omega
            · have HGC := Lib.hid (fun i => HGC0.out true i (by simp))
              go_upto_region 14 with fail
              refine wp_region_held_drew (S := fun w' => w'.cell? ⟨p, 4, none⟩ = some (.slice (some ⟨g, 0, none⟩) V.mem.length gc) ∧ w'.cell? ⟨wr.heap.size, 4, none⟩ = some (.bool ex)) (by kernel_rfl) ⟨s1, s2⟩ (fun hHeld => ?_)
              generalize (wr.alloc (.cells #[.int .i64 dv, .string nm, .string pb, .int .i64 qu, .bool ex] 81)).drew = W at *
              refine wpAnyH_take (i := 0) (v := ?_) rfl (by kernel_rfl) (by kernel_rfl) (by kernel_rfl) (fun _ _ _ h => h) (Or.inl ⟨by rfl, ?_⟩) (by assumption) ?_
              rotate_left; · (intro w hSw; (try dsimp only at hSw); go_simp; try with_reducible rfl)
              try simp only [Act.put, List.getElem_toArray, List.getElem_cons_zero, List.getElem_cons_succ, List.setIfInBounds_toArray, List.set_cons_zero, List.set_cons_succ]
              refine wpAnyH_take (i := 1) (v := ?_) rfl (by kernel_rfl) (by kernel_rfl) (by kernel_rfl) (fun _ _ _ h => h) (Or.inl ⟨by rfl, ?_⟩) (by assumption) ?_
              rotate_left; · (intro w hSw; (try dsimp only at hSw); go_simp; try with_reducible rfl)
              try simp only [Act.put, List.getElem_toArray, List.getElem_cons_zero, List.getElem_cons_succ, List.setIfInBounds_toArray, List.set_cons_zero, List.set_cons_succ]
              refine wpAnyH_take (i := 2) (v := ?_) rfl (by kernel_rfl) (by kernel_rfl) (by kernel_rfl) (fun _ _ _ h => h) (Or.inl ⟨by rfl, ?_⟩) (by assumption) ?_
              rotate_left; · (intro w hSw; (try dsimp only at hSw); go_simp; try with_reducible rfl)
              try simp only [Act.put, List.getElem_toArray, List.getElem_cons_zero, List.getElem_cons_succ, List.setIfInBounds_toArray, List.set_cons_zero, List.set_cons_succ]
              refine wpAnyH_take (i := 3) (v := ?_) rfl (by kernel_rfl) (by kernel_rfl) (by kernel_rfl) (fun _ _ _ h => h) (Or.inl ⟨by rfl, ?_⟩) (by assumption) ?_
              rotate_left; · (intro w hSw; (try dsimp only at hSw); go_simp; try with_reducible rfl)
              try simp only [Act.put, List.getElem_toArray, List.getElem_cons_zero, List.getElem_cons_succ, List.setIfInBounds_toArray, List.set_cons_zero, List.set_cons_succ]
              refine wpAnyH_take (i := 4) (v := ?_) rfl (by kernel_rfl) (by kernel_rfl) (by kernel_rfl) (fun _ _ _ h => h) (Or.inl ⟨by rfl, ?_⟩) (by assumption) ?_
              rotate_left; · (intro w hSw; (try dsimp only at hSw); go_simp; try with_reducible rfl)
              try simp only [Act.put, List.getElem_toArray, List.getElem_cons_zero, List.getElem_cons_succ, List.setIfInBounds_toArray, List.set_cons_zero, List.set_cons_succ]
              refine wpAnyH_take (i := 5) (v := ?_) rfl (by kernel_rfl) (by kernel_rfl) (by kernel_rfl) (fun _ _ _ h => h) (Or.inl ⟨by rfl, ?_⟩) (by assumption) ?_
              rotate_left; · (intro w hSw; (try dsimp only at hSw); go_simp; try with_reducible rfl)
              try simp only [Act.put, List.getElem_toArray, List.getElem_cons_zero, List.getElem_cons_succ, List.setIfInBounds_toArray, List.set_cons_zero, List.set_cons_succ]
              refine wpAnyH_take (i := 6) (v := ?_) rfl (by kernel_rfl) (by kernel_rfl) (by kernel_rfl) (fun _ _ _ h => h) (Or.inl ⟨by rfl, ?_⟩) (by assumption) ?_
              rotate_left; · (intro w hSw; (try dsimp only at hSw); go_simp; try with_reducible rfl)
              try simp only [Act.put, List.getElem_toArray, List.getElem_cons_zero, List.getElem_cons_succ, List.setIfInBounds_toArray, List.set_cons_zero, List.set_cons_succ]
              refine wpAnyH_take (i := 7) (v := ?_) rfl (by kernel_rfl) (by kernel_rfl) (by kernel_rfl) (fun _ _ _ h => h) (Or.inl ⟨by rfl, ?_⟩) (by assumption) ?_
              rotate_left; · (intro w hSw; (try dsimp only at hSw); go_simp; try with_reducible rfl)
              try simp only [Act.put, List.getElem_toArray, List.getElem_cons_zero, List.getElem_cons_succ, List.setIfInBounds_toArray, List.set_cons_zero, List.set_cons_succ]
              refine wpAnyH_take (i := 8) (v := ?_) rfl (by kernel_rfl) (by kernel_rfl) (by kernel_rfl) (fun _ _ _ h => h) (Or.inl ⟨by rfl, ?_⟩) (by assumption) ?_
              rotate_left; · (intro w hSw; (try dsimp only at hSw); go_simp; try with_reducible rfl)
              try simp only [Act.put, List.getElem_toArray, List.getElem_cons_zero, List.getElem_cons_succ, List.setIfInBounds_toArray, List.set_cons_zero, List.set_cons_succ]
              refine wpAnyH_take (i := 9) (v := ?_) rfl (by kernel_rfl) (by kernel_rfl) (by kernel_rfl) (fun _ _ _ h => h) (Or.inl ⟨by rfl, ?_⟩) (by assumption) ?_
              rotate_left; · (intro w hSw; (try dsimp only at hSw); go_simp; try with_reducible rfl)
              try simp only [Act.put, List.getElem_toArray, List.getElem_cons_zero, List.getElem_cons_succ, List.setIfInBounds_toArray, List.set_cons_zero, List.set_cons_succ]
              refine wpAnyH_take (i := 10) (v := ?_) rfl (by kernel_rfl) (by kernel_rfl) (by kernel_rfl) (fun _ _ _ h => h) (Or.inl ⟨by rfl, ?_⟩) (by assumption) ?_
              rotate_left; · (intro w hSw; (try dsimp only at hSw); go_simp; try with_reducible rfl)
              try simp only [Act.put, List.getElem_toArray, List.getElem_cons_zero, List.getElem_cons_succ, List.setIfInBounds_toArray, List.set_cons_zero, List.set_cons_succ]
              refine wpAnyH_ready (rs := [11]) (by kernel_rfl) (by simp) ?_
              refine AllReadyH.cons rfl (fun K hK => ?_) AllReadyH.nil
              go_simp
              refine hK.out _ _ hHeld (fun hNew => ?_)
              clear hK K hNew
              try simp only [Act.put, List.getElem_toArray, List.getElem_cons_zero, List.getElem_cons_succ, List.setIfInBounds_toArray, List.set_cons_zero, List.set_cons_succ]
              refine wpAnyH_take (i := 12) (v := ?_) rfl (by kernel_rfl) (by kernel_rfl) (by kernel_rfl) (fun _ _ _ h => h) (Or.inl ⟨by rfl, ?_⟩) (by assumption) ?_
              rotate_left; · (intro w hSw; (try dsimp only at hSw); go_simp; try with_reducible rfl)
              try simp only [Act.put, List.getElem_toArray, List.getElem_cons_zero, List.getElem_cons_succ, List.setIfInBounds_toArray, List.set_cons_zero, List.set_cons_succ]
              refine wpAnyH_take (i := 13) (v := undef) rfl (by kernel_rfl) (by kernel_rfl) (by kernel_rfl) (fun _ _ _ h => h) (Or.inr ⟨by rfl, rfl⟩) (by assumption) ?_
              try simp only [Act.put, List.getElem_toArray, List.getElem_cons_zero, List.getElem_cons_succ, List.setIfInBounds_toArray, List.set_cons_zero, List.set_cons_succ]
              refine wpAnyH_take (i := 14) (v := undef) rfl (by kernel_rfl) (by kernel_rfl) (by kernel_rfl) (fun _ _ _ h => h) (Or.inr ⟨by rfl, rfl⟩) (by assumption) ?_
              try simp only [Act.put, List.getElem_toArray, List.getElem_cons_zero, List.getElem_cons_succ, List.setIfInBounds_toArray, List.set_cons_zero, List.set_cons_succ]
              refine wpAnyH_take (i := 15) (v := ?_) rfl (by kernel_rfl) (by kernel_rfl) (by kernel_rfl) (fun _ _ _ h => h) (Or.inl ⟨by rfl, ?_⟩) (by assumption) ?_
              rotate_left; · (intro w hSw; (try dsimp only at hSw); go_simp; try with_reducible rfl)
              try simp only [Act.put, List.getElem_toArray, List.getElem_cons_zero, List.getElem_cons_succ, List.setIfInBounds_toArray, List.set_cons_zero, List.set_cons_succ]
              refine wpAnyH_take (i := 16) (v := ?_) rfl (by kernel_rfl) (by kernel_rfl) (by kernel_rfl) (fun _ _ _ h => h) (Or.inl ⟨by rfl, ?_⟩) (by assumption) ?_
              rotate_left; · (intro w hSw; (try dsimp only at hSw); go_simp; try with_reducible rfl)
              try simp only [Act.put, List.getElem_toArray, List.getElem_cons_zero, List.getElem_cons_succ, List.setIfInBounds_toArray, List.set_cons_zero, List.set_cons_succ]
              refine wpAnyH_ready (rs := [17]) (by kernel_rfl) (by simp) ?_
              refine AllReadyH.cons rfl (fun K hK => ?_) AllReadyH.nil
              go_simp
              refine hK.out _ _ ⟨(world_off hgp _ _).trans s1, (world_off (Nat.ne_of_lt hgs2) _ _).trans s2⟩ (fun hNew => ?_)
              clear hK K hNew hHeld
              try simp only [Act.put, List.getElem_toArray, List.getElem_cons_zero, List.getElem_cons_succ, List.setIfInBounds_toArray, List.set_cons_zero, List.set_cons_succ]
              refine wpAnyH_done (by kernel_rfl) ?_ _
              go_wp2
              go_roundw
              case rel =>
                refine ⟨j + 1, by omega, by go_num, Below.setCell hbel2 hgl _, HB2.out _, ?_⟩
                refine (HSET.out _).gcongr fun i _ => ?_
                exact HGC.out i
              case measure => simp [intOf]; omega
          · have hjl : j = V.mem.length := by omega
            subst hjl
            clear hlt MC
            have b1 := cell_of_row wr N 1 _ _ _ hbox'
            go_wp2
            clear b1
            have hsr0 := hsr.gcongr (gone' := goneB V.mem ls) fun d hd => by simp [goneJ, goneB, hd]
            clear hsr
            have hps : HpsOk V.mem.length V.held := (HDV.out.1 HOK.out).2.2.2.2
            have HPS := Lib.hid hps
            clear hps
            go_loopw [85, 11, 12] (fun v85 _ _ wr => ∃ j : Nat, j ≤ V.held.length ∧ v85 = .int .i64 j ∧ Below w.heap.size w wr ∧ StR wr w.heap.size p m1 h1 r1 t1 g1 mp xs V (goneB V.mem ls) (placesL (V.held.take j) 0)) (fun v85 _ _ _ => V.held.length - (intOf v85).toNat)
            case atStart => exact ⟨0, Nat.zero_le _, rfl, hbel, by simpa [placesL] using hsr0⟩
            case round =>
              clear hbel hbox' hsr0
              rename_i wr
              obtain ⟨j, hj, rfl, hbel, hsr⟩ := hrel
              by_cases hlt : j < V.held.length
              · obtain ⟨e1, e2, e3, e4, e5, e6, rv, av, e7, e8, hrr, hra⟩ := HC.out j hlt
                subst e1
                have happ : V.held.take (j + 1) = V.held.take j ++ [V.held.getD j default] := by rw [getD_at _ _ _ hlt]; exact List.take_succ_eq_append_getElem hlt
                have hnd : (V.held.getD j default).id ∉ (V.held.take j).map Hp.id := by
                  have h := (hpsOk_snoc V.mem.length V.held j hlt).1 (hpsOk_take HPS.out (j + 1))
                  rw [getD_at _ _ _ hlt]
                  exact h.2.2
                rw [← hbel.cell (p := ⟨hb, _, none⟩) (cell_lt e2)] at e2
                rw [← hbel.cell (p := ⟨hb, _, none⟩) (cell_lt e3)] at e3
                rw [← hbel.cell (p := ⟨hb, _, none⟩) (cell_lt e4)] at e4
                rw [← hbel.cell (p := ⟨hb, _, none⟩) (cell_lt e5)] at e5
                rw [← hbel.cell (p := ⟨hb, _, none⟩) (cell_lt e6)] at e6
                rw [← hbel.cell (p := ⟨hb, _, none⟩) (cell_lt e7)] at e7
                rw [← hbel.cell (p := ⟨hb, _, none⟩) (cell_lt e8)] at e8
                obtain ⟨qa, qc, _, _, rfl, -⟩ := hrr.at
                obtain ⟨ua, uc, _, _, rfl, -⟩ := hra.at
                have HND := Lib.hid hnd
                have HAP := Lib.hid happ
                clear hrr hra hnd happ
                generalize V.held.getD j default = y at *
                obtain ⟨id, vault, block, data, total, refs, at_⟩ := y
                simp only at e2 e3 e4 e5 e6
                generalize refs.length = ql at *
                generalize at_.length = ul at *
                have hA : Below wr.heap.size wr (wr.alloc (.cells #[.string id, .int .i64 vault, .int .i64 block, .int .i64 data, .int .i64 total, .slice qa ql qc, .slice ua ul uc] 52)).drew := ((Below.refl _ _).alloc (Nat.le_refl _) _).drew
                have hbel2 := hbel.trans (hA.mono hbel.size)
                have hsr2 := hsr.below hA
                have s1 := cell_of_row _ p 5 _ _ _ hsr2.blk
                have s2 : (wr.alloc (.cells #[.string id, .int .i64 vault, .int .i64 block, .int .i64 data, .int .i64 total, .slice qa ql qc, .slice ua ul uc] 52)).drew.cell? ⟨wr.heap.size, 0, none⟩ = some (.string id) := cell_of_row (wr.alloc _) _ 0 _ _ _ (heap_alloc_new _ _)
                have hup : (Instr.mapUpdate 94 (.map (some mp)) (.string id) (.int .i64 j)).run Try.prog (wr.alloc (.cells #[.string id, .int .i64 vault, .int .i64 block, .int .i64 data, .int .i64 total, .slice qa ql qc, .slice ua ul uc] 52)).drew = _ :=
                  key_str.update (tm := 94) (te := 3) Try.underlying94 (r := mp) (L := placesL (V.held.take j) 0) hsr2.mpb id (.int .i64 j) (by rw [placesL_keys]; exact HND.out)
                have hnx : placesL (V.held.take j) 0 ++ [(id, Value.int .i64 j)] = placesL (V.held.take (j + 1)) 0 := by
                  rw [HAP.out, placesL_snoc, Nat.zero_add, List.length_take, Nat.min_eq_left (Nat.le_of_lt hlt)]
                rw [hnx] at hup
                have hpm : p ≠ mp := fun e => by
                  have h1 := hsr.blk
                  have h2 := hsr.mpb
                  rw [e, h2] at h1
                  cases h1
                have hml := (Array.getElem?_eq_some_iff.1 hsr.mpb).1
                have hset := hsr2.setMap (placesL (V.held.take (j + 1)) 0)
                have hlm := hsr.lom
                have HSET := Lib.hid hset
                clear hset hsr hsr2 hA hnx
                go_upto_region 19 with fail
                refine wp_region_held_drew (S := fun w' => w'.cell? ⟨p, 5, none⟩ = some (.map (some mp)) ∧ w'.cell? ⟨wr.heap.size, 0, none⟩ = some (.string id)) (by kernel_rfl) ⟨s1, s2⟩ (fun hHeld => ?_)
                generalize (wr.alloc (.cells #[.string id, .int .i64 vault, .int .i64 block, .int .i64 data, .int .i64 total, .slice qa ql qc, .slice ua ul uc] 52)).drew = W at *
                refine wpAnyH_take (i := 0) (v := ?_) rfl (by kernel_rfl) (by kernel_rfl) (by kernel_rfl) (fun _ _ _ h => h) (Or.inl ⟨by rfl, ?_⟩) (by assumption) ?_
                rotate_left; · (intro w hSw; (try dsimp only at hSw); go_simp; try with_reducible rfl)
                try simp only [Act.put, List.getElem_toArray, List.getElem_cons_zero, List.getElem_cons_succ, List.setIfInBounds_toArray, List.set_cons_zero, List.set_cons_succ]
                refine wpAnyH_take (i := 1) (v := ?_) rfl (by kernel_rfl) (by kernel_rfl) (by kernel_rfl) (fun _ _ _ h => h) (Or.inl ⟨by rfl, ?_⟩) (by assumption) ?_
                rotate_left; · (intro w hSw; (try dsimp only at hSw); go_simp; try with_reducible rfl)
                try simp only [Act.put, List.getElem_toArray, List.getElem_cons_zero, List.getElem_cons_succ, List.setIfInBounds_toArray, List.set_cons_zero, List.set_cons_succ]
                refine wpAnyH_take (i := 2) (v := ?_) rfl (by kernel_rfl) (by kernel_rfl) (by kernel_rfl) (fun _ _ _ h => h) (Or.inl ⟨by rfl, ?_⟩) (by assumption) ?_
                rotate_left; · (intro w hSw; (try dsimp only at hSw); go_simp; try with_reducible rfl)
                try simp only [Act.put, List.getElem_toArray, List.getElem_cons_zero, List.getElem_cons_succ, List.setIfInBounds_toArray, List.set_cons_zero, List.set_cons_succ]
                refine wpAnyH_take (i := 3) (v := ?_) rfl (by kernel_rfl) (by kernel_rfl) (by kernel_rfl) (fun _ _ _ h => h) (Or.inl ⟨by rfl, ?_⟩) (by assumption) ?_
                rotate_left; · (intro w hSw; (try dsimp only at hSw); go_simp; try with_reducible rfl)
                try simp only [Act.put, List.getElem_toArray, List.getElem_cons_zero, List.getElem_cons_succ, List.setIfInBounds_toArray, List.set_cons_zero, List.set_cons_succ]
                refine wpAnyH_take (i := 4) (v := ?_) rfl (by kernel_rfl) (by kernel_rfl) (by kernel_rfl) (fun _ _ _ h => h) (Or.inl ⟨by rfl, ?_⟩) (by assumption) ?_
                rotate_left; · (intro w hSw; (try dsimp only at hSw); go_simp; try with_reducible rfl)
                try simp only [Act.put, List.getElem_toArray, List.getElem_cons_zero, List.getElem_cons_succ, List.setIfInBounds_toArray, List.set_cons_zero, List.set_cons_succ]
                refine wpAnyH_take (i := 5) (v := ?_) rfl (by kernel_rfl) (by kernel_rfl) (by kernel_rfl) (fun _ _ _ h => h) (Or.inl ⟨by rfl, ?_⟩) (by assumption) ?_
                rotate_left; · (intro w hSw; (try dsimp only at hSw); go_simp; try with_reducible rfl)
                try simp only [Act.put, List.getElem_toArray, List.getElem_cons_zero, List.getElem_cons_succ, List.setIfInBounds_toArray, List.set_cons_zero, List.set_cons_succ]
                refine wpAnyH_take (i := 6) (v := ?_) rfl (by kernel_rfl) (by kernel_rfl) (by kernel_rfl) (fun _ _ _ h => h) (Or.inl ⟨by rfl, ?_⟩) (by assumption) ?_
                rotate_left; · (intro w hSw; (try dsimp only at hSw); go_simp; try with_reducible rfl)
                try simp only [Act.put, List.getElem_toArray, List.getElem_cons_zero, List.getElem_cons_succ, List.setIfInBounds_toArray, List.set_cons_zero, List.set_cons_succ]
                refine wpAnyH_take (i := 7) (v := ?_) rfl (by kernel_rfl) (by kernel_rfl) (by kernel_rfl) (fun _ _ _ h => h) (Or.inl ⟨by rfl, ?_⟩) (by assumption) ?_
                rotate_left; · (intro w hSw; (try dsimp only at hSw); go_simp; try with_reducible rfl)
                try simp only [Act.put, List.getElem_toArray, List.getElem_cons_zero, List.getElem_cons_succ, List.setIfInBounds_toArray, List.set_cons_zero, List.set_cons_succ]
                refine wpAnyH_ready (rs := [8]) (by kernel_rfl) (by simp) ?_
                refine AllReadyH.cons rfl (fun K hK => ?_) AllReadyH.nil
                go_simp
                refine hK.out _ _ ⟨(block_off hpm _).trans s1, (block_off (Nat.ne_of_gt hml) _).trans s2⟩ (fun hNew => ?_)
                clear hK K hNew hHeld
                try simp only [Act.put, List.getElem_toArray, List.getElem_cons_zero, List.getElem_cons_succ, List.setIfInBounds_toArray, List.set_cons_zero, List.set_cons_succ]
                refine wpAnyH_done (by kernel_rfl) ?_ _
                go_wp2
                go_roundw
                case rel => exact ⟨j + 1, by omega, by go_num, below_setBlock hbel2 hlm _, HSET.out⟩
                case measure => simp [intOf]; omega
              · have hjl : j = V.held.length := by omega
                subst hjl
                rw [List.take_length] at hsr
                go_wp2
                refine bodyPost_ret (results_tmp2 Try.results40 _ _ _) rfl ?_
                exact ⟨hbel, .inr ⟨HFIT.out, p, rfl, hpw, ⟨m1, h1, r1, t1, g1, mp, xs, hsr, fun g hg => (hsr.vw.r.lt g hg).2, fun k hk g hg => ((hsr.vw.at_ k hk).lt g hg).2⟩, HOK.out, hrf⟩⟩
end Go.Proofs.Ytijcicgbhcphjaa
