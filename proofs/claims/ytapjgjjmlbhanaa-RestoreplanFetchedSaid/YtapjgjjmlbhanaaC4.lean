/- of: what is there or given by a set of holdings. -/
import Derived.Test.YtapjgjjmlbhanaaC3
namespace Go.Proofs.Ytapjgjjmlbhanaa
open Go.RowKit Go.Lib

/-- A row of cells by a function. -/
def rowC (n : Nat) (F : Nat → Value) : Array Value := ((List.range n).map F).toArray
theorem rowC_size (n : Nat) (F : Nat → Value) : (rowC n F).size = n := by simp [rowC]
theorem rowC_at (n : Nat) (F : Nat → Value) (i : Nat) (h : i < n) : (rowC n F)[i]? = some (F i) := by simp [rowC, h]
theorem rowC_set (n : Nat) (F F' : Nat → Value) (i : Nat) (u : Value) (hi : i < n) (h : F' i = u) (ho : ∀ k, k < n → k ≠ i → F' k = F k) : (rowC n F).setIfInBounds i u = rowC n F' := by
  apply Array.ext_getElem?
  intro k
  by_cases hk : k < n
  · rw [rowC_at n F' k hk, Array.getElem?_setIfInBounds]
    by_cases e : i = k
    · subst e
      rw [if_pos rfl, if_pos (by rw [rowC_size]; exact hi), h]
    · rw [if_neg e, rowC_at n F k hk, ho k hk (fun e' => e e'.symm)]
  · rw [Array.getElem?_eq_none (by rw [Array.size_setIfInBounds, rowC_size]; omega), Array.getElem?_eq_none (by rw [rowC_size]; omega)]

/-- The fields of a plan. -/
structure PlanV where
  nv : Value
  thr : Int
  idx : Bool
  pv : Value
  sv : Value
  m : Nat
  lv : Value
  plv : Value
  s : Sup
  gv : Value
def PlanV.cell (x : PlanV) (i : Nat) : Value :=
  match i with
  | 0 => x.nv | 1 => .int .i64 x.thr | 2 => .bool x.idx | 3 => x.pv | 4 => x.sv | 5 => .map (some x.m) | 6 => x.lv | 7 => x.plv
  | i + 8 => if i < 69 then x.s.cell i else x.gv
def PlanAt (w : World) (b : Nat) (x : PlanV) : Prop := w.heap[b]? = some (.cells (rowC 78 x.cell) 107 (0, 0))
theorem PlanAt.cell {w : World} {b : Nat} {x : PlanV} (h : PlanAt w b x) (i : Nat) (hi : i < 78) : w.cell? ⟨b, i, none⟩ = some (x.cell i) := (cell_of_row w b i _ _ _ h).trans (rowC_at _ _ i hi)
theorem PlanAt.below {w w' : World} {b : Nat} {x : PlanV} (h : PlanAt w b x) (hb : Below w.heap.size w w') : PlanAt w' b x := (hb.block b (Array.getElem?_eq_some_iff.1 h).1).trans h
theorem PlanAt.frozen {w : World} {b : Nat} {x : PlanV} (h : PlanAt w b x) (i : Nat) : w.frozen? ⟨b, i, none⟩ = false := by
  have h' : w.heap[b]? = some (.cells (rowC 78 x.cell) 107 (0, 0)) := h
  unfold World.frozen?
  simp only [h']
  simp
theorem PlanAt.set {w : World} {b : Nat} {x : PlanV} (h : PlanAt w b x) (y : PlanV) (i : Nat) (u : Value) (hi : i < 78) (hu : y.cell i = u) (ho : ∀ k, k < 78 → k ≠ i → y.cell k = x.cell k) : PlanAt (w.setCell ⟨b, i, none⟩ u) b y := by
  have := setCell_block (i := i) h u
  rw [rowC_set 78 x.cell y.cell i u hi hu ho] at this
  exact this
theorem PlanAt.range {w : World} {b : Nat} {x : PlanV} (h : PlanAt w b x) : w.rangeAt b 8 x.s.list := fun j v hv => by
  have hj : j < 69 := by have := (List.getElem?_eq_some_iff.1 hv).1; rw [x.s.list_length] at this; exact this
  rw [h.cell (8 + j) (by omega), Nat.add_comm]
  show some (if j < 69 then x.s.cell j else x.gv) = some v
  rw [if_pos hj, ← x.s.list_at j hj, hv]

/-- The supply in the middle of a plan, loaded. -/
theorem wpList_load_there {w : World} {ops : Array Oper} {rest : List Oper} {o : Oper} {a : Act} {Q : Exit → Act → World → Prop} (hgd : o.guard = none) (t : Operand) (ho : o.op = .load 99 t)
    (b i : Nat) (ht : a.eval t = .pointer (some ⟨b, i, none⟩)) (s : Sup) (hs : w.rangeAt b i s.list) (h : wpList Try.prog ops Q rest (a.put o.dst (.agg s.cells)) w) : wpList Try.prog ops Q (o :: rest) a w :=
  wpList_load_mid hgd 99 t ho b i ht s.list _ hs Try.underlying99 rfl (by rw [s.list_length]; exact info99) h

/-- Rows of supplies. -/
def ReadsS (w : World) (v : Value) (xs : List Sup) : Prop := RowAt w v 69 xs.length fun i j => (xs.getD i (zeroS false)).cell j
theorem ReadsS.below {w w' : World} {v : Value} {xs : List Sup} (h : ReadsS w v xs) (hb : Below w.heap.size w w') : ReadsS w' v xs := RowAt.below h hb
theorem ReadsS.at {w : World} {v : Value} {xs : List Sup} (h : ReadsS w v xs) : ∃ ao c b off, v = .slice ao xs.length c ∧ xs.length ≤ c ∧ xs.length ≤ 4611686018427387904 ∧ ∀ i, i < xs.length → ao = some ⟨b, off, none⟩ ∧ w.rangeAt b (off + i * 69) (xs.getD i (zeroS false)).list := by
  obtain ⟨ao, c, b, off, e, h1, h2, h3⟩ := RowAt.at h
  refine ⟨ao, c, b, off, e, h1, h2, fun i hi => ?_⟩
  obtain ⟨h4, h5⟩ := h3 i hi
  refine ⟨h4, fun j v hv => ?_⟩
  have hj : j < 69 := by have := (List.getElem?_eq_some_iff.1 hv).1; rw [Sup.list_length] at this; exact this
  rw [h5 j hj, ← Sup.list_at _ j hj, hv]

/-- What is there, and what the first n of the holdings give that are in the set. -/
def ofP (x : Sup) (xs : List Sup) (set : Nat) : Nat → Sup
  | 0 => x
  | n + 1 => if set / 2 ^ n % 2 = 1 then orS (ofP x xs set n) (xs.getD n (zeroS false)) else ofP x xs set n
theorem ofP_wf {x : Sup} {xs : List Sup} {set : Nat} (hx : x.Wf) (h : ∀ y ∈ xs, y.Wf) : ∀ n, (ofP x xs set n).Wf
  | 0 => hx
  | n + 1 => by
    unfold ofP
    split
    · refine orS_wf (ofP_wf hx h n) ?_
      by_cases hn : n < xs.length
      · rw [getD_at _ _ _ hn]; exact h _ (List.getElem_mem hn)
      · have : xs.getD n (zeroS false) = zeroS false := by simp [List.getD, List.getElem?_eq_none (show xs.length ≤ n by omega)]
        rw [this]; exact zeroS_wf _
    · exact ofP_wf hx h n

theorem bit_and (set j : Nat) (h : set < 4096) : bits .and .i64 ((set : Int) / 2 ^ j) 1 = ((set / 2 ^ j % 2 : Nat) : Int) := by
  have h1 : set / 2 ^ j < 4096 := Nat.lt_of_le_of_lt (Nat.div_le_self _ _) h
  have e : ((set : Int) / 2 ^ j) = ((set / 2 ^ j : Nat) : Int) := by simp
  rw [e]
  generalize set / 2 ^ j = q at h1
  have := bits_mask .i64 63 (by decide) wraps_i64 1 (by decide) (q : Int) (by omega) (by omega)
  rw [show ((2 : Int) ^ 1 - 1) = 1 from rfl, show ((2 : Int) ^ 1) = 2 from rfl] at this
  rw [this]
  omega

set_option maxRecDepth 100000 in
set_option maxHeartbeats 4000000 in
theorem of_any (p : Nat) (x : PlanV) (xs : List Sup) (set : Nat) (w : World) (hp : PlanAt w p x) (hg : ReadsS w x.gv xs) (h12 : xs.length ≤ 12) (hx : x.s.Wf) (hxs : ∀ y ∈ xs, y.Wf) (hset : set < 4096) :
    Calls Try.prog 42 #[.pointer (some ⟨p, 0, none⟩), .int .i64 set] w fun e w' => e = .returned (ofP x.s xs set xs.length).v ∧ Below w.heap.size w w' := by
  have hz := zero99
  obtain ⟨ao, c, b, off, hgv, hl, hm, hcell⟩ := hg.at
  have c77 := hp.cell 77 (by omega)
  have e77 : x.cell 77 = x.gv := rfl
  rw [e77, hgv] at c77
  have plt := cell_lt c77
  have HP := Lib.hid hp
  have HC := Lib.hid hcell
  have HX := Lib.hid hx
  have HXS := Lib.hid hxs
  have C77 := Lib.hid c77
  obtain ⟨zc, hzc⟩ : ∃ zc, zc = (zeroS false).cells := ⟨_, rfl⟩
  rw [← hzc] at hz
  have HZ := Lib.hid hzc
  clear hzc hcell hx hxs hg hp hgv e77
  obtain ⟨R, hR⟩ : ∃ R, R = w.heap.size := ⟨_, rfl⟩
  have HR := Lib.hid hR
  go_enter Try.func42, Try.ntmps42
  go_upto_region 1 with fail
  rw [← HR.out]
  have b1 : Below w.heap.size w (w.alloc (.cells zc 99)) := (Below.refl _ _).alloc (Nat.le_refl _) _
  have p1 := HP.out.below b1
  have r1 : SupAt (w.alloc (.cells zc 99)) R (zeroS false) := by rw [HZ.out, HR.out]; exact SupAt.new w _
  have s1 : (w.alloc (.cells zc 99)).heap.size = R + 1 := by rw [World.size_alloc, HR.out]
  generalize w.alloc (Obj.cells zc 99) = W1 at b1 p1 r1 s1 ⊢
  have P1 := Lib.hid p1
  have R1 := Lib.hid r1
  have S1 := Lib.hid s1
  have n1 : SupAt (W1.alloc (.cells zc 99)) (R + 1) (zeroS false) := by rw [HZ.out, ← s1]; exact SupAt.new W1 _
  have N1 := Lib.hid n1
  have hsz1 : W1.heap.size = R + 1 := s1
  clear p1 r1 n1 s1 hR
  go_upto_region 2 with (first | (refine wpList_load_there (by rfl) (.tmp 10) (by rfl) p 8 (by rfl) x.s P1.out.range ?_) | (refine wpList_store_sup (by rfl) (.tmp 5) (.tmp 11) (by rfl) (R + 1) (by rfl) x.s (zeroS false) (by rfl) N1.out ?_))
  have f2 : SupAt ((W1.alloc (.cells zc 99)).setRow (R + 1) x.s.cells) (R + 1) x.s := N1.out.setRow x.s
  have g2 : W1.grownBy ((W1.alloc (.cells zc 99)).setRow (R + 1) x.s.cells) (some (R + 1)) := grown_setRow (grown_alloc (grown_refl W1 _) _) _
  have plt1 : p < W1.heap.size := Nat.lt_of_lt_of_le plt b1.size
  have rge : w.heap.size ≤ R := by rw [HR.out]; exact Nat.le_refl _
  have b2 := grown_below b1 g2 (by omega) b1.size
  have r2 : SupAt ((W1.alloc (.cells zc 99)).setRow (R + 1) x.s.cells) R (zeroS false) := (g2.block R (by omega) (by simp)).trans R1.out
  have s2 : R + 1 < ((W1.alloc (.cells zc 99)).setRow (R + 1) x.s.cells).heap.size := by rw [setRow_size, World.size_alloc]; omega
  have c77b := (b2.cell (p := ⟨p, 77, none⟩) plt).trans C77.out
  generalize (W1.alloc (Obj.cells zc 99)).setRow (R + 1) x.s.cells = W2 at f2 g2 b2 r2 s2 c77b ⊢
  have F2 := Lib.hid f2
  have R2 := Lib.hid r2
  clear f2 r2 g2
  go_wp2
  have e0 : ofP x.s xs set 0 = x.s := rfl
  go_loopw [6, 7, 17] (fun _ _ v17 wr => ∃ j : Nat, j ≤ xs.length ∧ v17 = .int .i64 j ∧ SupAt wr (R + 1) (ofP x.s xs set j) ∧ SupAt wr R (zeroS false) ∧ Below w.heap.size w wr) (fun _ _ v17 _ => xs.length - (intOf v17).toNat)
  case atStart => exact ⟨0, Nat.zero_le _, rfl, F2.out, R2.out, b2⟩
  case round =>
    obtain ⟨j, hj, rfl, hsp, hr0, hbel⟩ := hrel
    have HSP := Lib.hid hsp
    have HR0 := Lib.hid hr0
    have zr := hbel.size
    have slt := (Array.getElem?_eq_some_iff.1 hsp).1
    clear hsp hr0 e0
    by_cases hlt : j < xs.length
    · obtain ⟨e1, e2⟩ := HC.out j hlt
      subst e1
      have hwf := ofP_wf HX.out HXS.out (set := set) j
      have hst : ofP x.s xs set (j + 1) = if set / 2 ^ j % 2 = 1 then orS (ofP x.s xs set j) (xs.getD j (zeroS false)) else ofP x.s xs set j := rfl
      have hyw : (xs.getD j (zeroS false)).Wf := by rw [getD_at _ _ _ hlt]; exact HXS.out _ (List.getElem_mem hlt)
      have hrg : wr.rangeAt b (off + j * 69) (xs.getD j (zeroS false)).list := fun k v hv => by
        have := e2 k v hv
        rw [← hbel.cell (p := ⟨b, _, none⟩) (cell_lt this)] at this
        exact this
      have HRG := Lib.hid hrg
      have HST := Lib.hid hst
      have HWF := Lib.hid hwf
      have HYW := Lib.hid hyw
      clear hrg hst hwf hyw e2
      generalize xs.getD j (zeroS false) = y at HRG HST HYW
      generalize ofP x.s xs set j = s at HSP HST HWF
      obtain ⟨N, hN⟩ : ∃ N, N = wr.heap.size := ⟨_, rfl⟩
      have HN := Lib.hid hN
      have m1 : SupAt (wr.alloc (.cells zc 99)) N (zeroS false) := by rw [HZ.out, hN]; exact SupAt.new wr _
      have g1 : wr.grownBy ((wr.alloc (.cells zc 99)).setRow N y.cells) (some N) := grown_setRow (grown_alloc (grown_refl wr _) _) _
      have M1 := Lib.hid m1
      have m2 : SupAt ((wr.alloc (.cells zc 99)).setRow N y.cells) N y := M1.out.setRow y
      have b3 := grown_below hbel g1 (by omega) zr
      have t2 : SupAt ((wr.alloc (.cells zc 99)).setRow N y.cells) (R + 1) s := (g1.block (R + 1) slt (by simp; omega)).trans HSP.out
      have t0 : SupAt ((wr.alloc (.cells zc 99)).setRow N y.cells) R (zeroS false) := (g1.block R (by omega) (by simp; omega)).trans HR0.out
      have hne : R + 1 ≠ N := by omega
      have T2 := Lib.hid t2
      have T0 := Lib.hid t0
      have M2 := Lib.hid m2
      clear m1 g1 m2 t2 t0 hN
      go_upto_region 5 with (first | (refine wpList_load_there (by rfl) (.tmp 20) (by rfl) b (off + j * 69) (by rfl) y HRG.out ?_) | (refine wpList_store_sup (by rfl) (.tmp 7) (.tmp 21) (by rfl) wr.heap.size (by rfl) y (zeroS false) (by rfl) (by rw [← HN.out]; exact M1.out) ?_))
      rw [← HN.out]
      generalize (wr.alloc (Obj.cells zc 99)).setRow N y.cells = V at b3 T2 T0 M2 ⊢
      clear M1 HSP HR0 HRG
      have zV := b3.size
      have hand := bit_and set j hset
      by_cases hq : set / 2 ^ j % 2 = 1
      · rw [hq, show ((1 : Nat) : Int) = 1 from rfl] at hand
        have HNX := Lib.hid (show ofP x.s xs set (j + 1) = orS s y by rw [HST.out, if_pos hq])
        have CA := Lib.hid (add_any (R + 1) s y V T2.out HWF.out HYW.out)
        clear hq
        go_wp2_with (refine wpList_load_sup (by rfl) (.tmp 7) (by rfl) N (by rfl) y M2.out ?_)
        refine CA.out.mono ?_
        rintro e w5 ⟨rfl, hs5, hg5⟩
        have b5 := grown_below b3 hg5 (by omega) zV
        have t5 : SupAt w5 R (zeroS false) := (hg5.block R (Array.getElem?_eq_some_iff.1 T0.out).1 (by simp)).trans T0.out
        have T5 := Lib.hid t5
        have S5 := Lib.hid hs5
        clear hs5 hg5 t5 hand
        go_wp2
        go_roundw
        case rel => exact ⟨j + 1, by omega, by go_num, by rw [HNX.out]; exact S5.out, T5.out, b5⟩
        case measure => simp [intOf]; omega
      · have hq0 : set / 2 ^ j % 2 = 0 := by omega
        rw [hq0, show ((0 : Nat) : Int) = 0 from rfl] at hand
        have HNX := Lib.hid (show ofP x.s xs set (j + 1) = s by rw [HST.out, if_neg hq])
        clear hq hq0
        go_wp2
        go_roundw
        case rel => exact ⟨j + 1, by omega, by go_num, by rw [HNX.out]; exact T2.out, T0.out, b3⟩
        case measure => simp [intOf]; omega
    · have hjl : j = xs.length := by omega
      subst hjl
      obtain ⟨s, hs⟩ : ∃ s, s = ofP x.s xs set xs.length := ⟨_, rfl⟩
      rw [← hs] at HSP
      have HSS := Lib.hid hs
      clear hs
      have b4 : Below w.heap.size w (wr.setRow R s.cells) := grown_below hbel (grown_setRow (grown_refl wr _) _) rge zr
      have f4 : SupAt (wr.setRow R s.cells) R s := HR0.out.setRow s
      go_wp2_with (first | (refine wpList_load_sup (by rfl) (.tmp 5) (by rfl) (R + 1) (by rfl) s HSP.out ?_) | (refine wpList_store_sup (by rfl) (.tmp 4) (.tmp 30) (by rfl) R (by rfl) s (zeroS false) (by rfl) HR0.out ?_))
      refine bodyPost_ret (results_cell_row (P := Try.prog) Try.results42 _ (wr.setRow R s.cells) R 99 _ (0, 0) _ (by rfl) f4 Try.underlying99 rfl (by rw [s.cells_size]; exact info99)) rfl ?_
      exact ⟨by rw [HSS.out]; rfl, b4⟩

end Go.Proofs.Ytapjgjjmlbhanaa
