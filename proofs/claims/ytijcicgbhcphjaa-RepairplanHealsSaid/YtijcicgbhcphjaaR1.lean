/- The reference's There, Left. -/
import Derived.Test.YtijcicgbhcphjaaQ1
namespace Go.Proofs.Ytijcicgbhcphjaa
open Go.RowKit Go.Lib Go.ChangeMaps
set_option linter.unusedSimpArgs false

def thereB (V : Vp) (ls : List Int) (d : Int) : Bool := goodB (goneB V.mem ls) d && decide (d < V.mem.length)
theorem goneB_mem' {ms : List Mem} {ls : List Int} {x : Int} (h : x ∈ ls) (h0 : 0 ≤ x) : goneB ms ls x.toNat = true := by
  unfold goneB
  rw [Int.toNat_of_nonneg h0]
  simp [h]
theorem there_lost {V : Vp} {ls : List Int} {d : Int} (h : d ∈ ls) : thereB V ls d = false := by
  unfold thereB goodB
  by_cases h0 : 0 ≤ d
  · rw [goneB_mem' h h0]; simp
  · simp [h0]


set_option maxRecDepth 100000 in
set_option maxHeartbeats 4000000 in
theorem there_any (v lv : Value) (V : Vp) (ls : List Int) (d : Int) (w : World) (hv : VwAt w v V) (hl : ReadsI w lv ls) :
    Calls Try.prog 57 #[v, lv, .int .i64 d] w fun e w' => e = .returned (.bool (thereB V ls d)) ∧ Below w.heap.size w w' := by
  obtain ⟨mv, hv, rv, wv, rfl, hM, hH, hR, hW⟩ := hv
  obtain ⟨ma, mc, mb, mo, rfl, ml1, mm, mcell⟩ := hM.at
  obtain ⟨ha, hc, _, _, rfl, -⟩ := hH.at
  obtain ⟨ra, rc, _, _, rfl, -⟩ := hR.at
  obtain ⟨wa, wc, _, _, rfl, -⟩ := hW.at
  obtain ⟨la, lc, lb, lo, rfl, ll1, lm1, lcell⟩ := hl.at
  have MC := Lib.hid mcell
  have LC := Lib.hid lcell
  clear mcell lcell hM hH hR hW hl
  obtain ⟨r, hr⟩ : ∃ r, r = thereB V ls d := ⟨_, rfl⟩
  rw [← hr]
  have HR := Lib.hid hr
  have hlost : d ∈ ls → r = false := fun h => by rw [hr]; exact there_lost h
  have HLOST := Lib.hid hlost
  have hin : d ∉ ls → ∀ m : Nat, d = m → m < V.mem.length → r = !(V.mem.getD m default).exp := fun hn m e hm => by
    rw [hr]
    unfold thereB goodB goneB
    subst e
    rw [Int.toNat_natCast]
    simp [hn, hm]
  have hout : (d < 0 ∨ (V.mem.length : Int) ≤ d) → r = false := fun h => by
    rw [hr]
    unfold thereB goodB
    rcases h with h | h
    · simp [show ¬ 0 ≤ d by omega]
    · simp [show ¬ d < V.mem.length by omega]
  have HIN := Lib.hid hin
  have HOUT := Lib.hid hout
  clear hr hlost hin hout
  generalize V.held.length = nh at *
  generalize V.room.length = rl at *
  generalize V.weight.length = wl at *
  have hA : Below w.heap.size w (w.alloc (.cells #[.slice ma V.mem.length mc, .slice ha nh hc, .slice ra rl rc, .slice wa wl wc] 33)) := (Below.refl _ _).alloc (Nat.le_refl _) _
  have d0 : (w.alloc (.cells #[.slice ma V.mem.length mc, .slice ha nh hc, .slice ra rl rc, .slice wa wl wc] 33)).cell? ⟨w.heap.size, 0, none⟩ = some (.slice ma V.mem.length mc) := cell_of_row _ _ 0 _ _ _ (heap_alloc_new _ _)
  go_enter Try.func57, Try.ntmps57
  go_wp2
  generalize w.alloc (.cells #[.slice ma V.mem.length mc, .slice ha nh hc, .slice ra rl rc, .slice wa wl wc] 33) = W at *
  go_loop [11, 8] (fun v11 _ => ∃ j : Nat, j ≤ ls.length ∧ v11 = .int .i64 j ∧ d ∉ ls.take j) (fun v11 _ => ls.length - (intOf v11).toNat)
  case atStart => exact ⟨0, Nat.zero_le _, rfl, by simp⟩
  case round =>
    obtain ⟨j, hj, rfl, hnot⟩ := hrel
    have HN := Lib.hid hnot
    clear hnot
    by_cases hlt : j < ls.length
    · obtain ⟨e1, e2⟩ := LC.out j hlt
      subst e1
      rw [← hA.cell (p := ⟨lb, _, none⟩) (cell_lt e2)] at e2
      have hs := mem_take_succ ls d j hlt
      rw [← getD_at ls j 0 hlt] at hs
      have HS := Lib.hid hs
      have hmem : ls.getD j 0 ∈ ls := by rw [getD_at _ _ _ hlt]; exact List.getElem_mem hlt
      have HM := Lib.hid hmem
      clear hs hmem
      generalize ls.getD j 0 = y at *
      by_cases hy : y = d
      · have k1 : (y == d) = true := by simp [hy]
        obtain rfl := HLOST.out (hy ▸ HM.out)
        clear hy
        go_wp2
        go_ret
        exact ⟨rfl, hA⟩
      · have k1 : (y == d) = false := by simp [hy]
        have HY := Lib.hid hy
        clear hy
        go_wp2
        go_round
        case rel => exact ⟨j + 1, by omega, by go_num, fun h => by rcases HS.out.1 h with h | h; (exact HN.out h); (exact HY.out h.symm)⟩
        case measure => simp [intOf]; omega
    · have hjl : j = ls.length := by omega
      have hn := HN.out
      rw [hjl, List.take_length] at hn
      have HND := Lib.hid hn
      clear hn
      by_cases h0 : d < 0
      · obtain rfl := HOUT.out (.inl h0)
        have q1 : decide (0 ≤ d) = false := decide_eq_false (by omega)
        clear h0
        go_wp2
        go_ret
        exact ⟨rfl, hA⟩
      · obtain ⟨m, rfl⟩ : ∃ m : Nat, d = m := ⟨d.toNat, by omega⟩
        by_cases h1 : m < V.mem.length
        · obtain ⟨e1, e2, e3, e4, e5, e6⟩ := MC.out m h1
          subst e1
          have hrr := HIN.out HND.out m rfl h1
          have HRR := Lib.hid hrr
          have e6 := (hA.cell (p := ⟨mb, _, none⟩) (cell_lt e6)).trans e6
          clear e2 e3 e4 e5 hrr
          generalize (V.mem.getD m default).exp = ex at *
          go_wp2
          go_ret
          exact ⟨congrArg (fun b => Ending.returned (.bool b)) HRR.out.symm, hA⟩
        · obtain rfl := HOUT.out (.inr (by omega))
          have q2 : decide (m < V.mem.length) = false := decide_eq_false h1
          go_wp2
          go_ret
          exact ⟨rfl, hA⟩

end Go.Proofs.Ytijcicgbhcphjaa

/- The reference's Left, fits. -/
namespace Go.Proofs.Ytijcicgbhcphjaa
open Go.RowKit Go.Lib Go.ChangeMaps
set_option linter.unusedSimpArgs false

theorem there_good {V : Vp} {ls : List Int} {x : Int} (h : x = -1 ∨ (0 ≤ x ∧ x < V.mem.length)) : thereB V ls x = goodB (goneB V.mem ls) x := by
  unfold thereB
  rcases h with rfl | ⟨_, h⟩
  · simp [goodB]
  · simp [h]

set_option maxRecDepth 100000 in
set_option maxHeartbeats 4000000 in
theorem left_ref (v lv : Value) (V : Vp) (ls : List Int) (h : Hp) (qa : Option Addr) (ql qc : Nat) (av : Value) (w : World) (hv : VwAt w v V) (hl : ReadsI w lv ls) (ha0 : ReadsI w av h.at_) (hat : ∀ x ∈ h.at_, x = -1 ∨ (0 ≤ x ∧ x < V.mem.length)) (h16 : h.at_.length ≤ 16) :
    Calls Try.prog 51 #[v, lv, h.v (.slice qa ql qc) av] w fun e w' => ∃ u, e = .returned u ∧ OwnI w' w.heap.size u (leftI (goneB V.mem ls) h.at_) ∧ Below w.heap.size w w' := by
  have HV := Lib.hid hv
  have HL := Lib.hid hl
  obtain ⟨ma, mc, ha, hc, ra, rl, rc, wa, wl, wc, rfl⟩ := hv.val
  obtain ⟨la, lc, _, _, rfl, -⟩ := hl.at
  obtain ⟨aa, ac, ab, af, rfl, al1, am1, acell⟩ := ha0.at
  have AC := Lib.hid acell
  have HAT := Lib.hid hat
  have CT := Lib.hid (fun W d (hW : Below w.heap.size w W) => there_any _ _ V ls d W (HV.out.below hW) (HL.out.below hW))
  clear hv hl ha0 acell hat HV HL
  generalize hgn : goneB V.mem ls = gone at *
  have HGN := Lib.hid hgn
  clear hgn
  obtain ⟨ml, hml⟩ : ∃ ml, ml = V.mem.length := ⟨_, rfl⟩
  rw [← hml] at HAT CT ⊢
  have HML := Lib.hid hml
  clear hml
  generalize V.held.length = nh at *
  generalize ls.length = ll at *
  obtain ⟨id, vault, block, data, total, refs, zs⟩ := h
  unfold Hp.v
  simp only at al1 am1 AC HAT h16 ⊢
  go_enter Try.func51, Try.ntmps51
  go_wp2
  generalize hWW : (((w.alloc _).alloc _).alloc _) = W
  have hA : Below w.heap.size w W := by subst hWW; (repeat' (first | (with_reducible exact Below.refl _ _) | (with_reducible assumption) | (with_reducible refine Below.alloc ?_ ?_ _) | (with_reducible refine Below.drew ?_) | (with_reducible refine below_drewN ?_ _) | (with_reducible refine Below.setCell ?_ ?_ _) | (with_reducible refine below_step ?_ (by with_reducible assumption) ?_) | go_size))
  have hown0 : OwnI W w.heap.size (.slice (some ⟨w.heap.size + 1 + 1, 0, none⟩) 0 0) [] := by
    subst hWW
    have := Own.lit0 ((w.alloc (.cells #[.slice ma ml mc, .slice ha nh hc, .slice ra rl rc, .slice wa wl wc] 33)).alloc (.cells #[.string id, .int .i64 vault, .int .i64 block, .int .i64 data, .int .i64 total, .slice qa ql qc, .slice aa zs.length ac] 87)) w.heap.size 3 1 (fun i _ => .int .i64 (([] : List Int).getD i 0)) (by rw [World.size_alloc, World.size_alloc]; omega)
    rw [World.size_alloc, World.size_alloc] at this
    exact this
  have hbx : W.heap[w.heap.size]? = some (.cells #[.slice ma ml mc, .slice ha nh hc, .slice ra rl rc, .slice wa wl wc] 33) := by
    subst hWW; show (((w.heap.push _).push _).push _)[_]? = _; simp only [Array.getElem?_push, Array.size_push]; repeat (first | rw [if_pos trivial] | rw [if_pos (by omega)] | rw [if_neg (by omega)])
  clear hWW
  go_loopw [14, 7, 8, 9] (fun v14 v7 _ _ wr => ∃ j : Nat, j ≤ zs.length ∧ v14 = .int .i64 j ∧ Below w.heap.size w wr ∧ OwnI wr w.heap.size v7 (leftTo gone zs j) ∧ wr.heap[w.heap.size]? = some (.cells #[.slice ma ml mc, .slice ha nh hc, .slice ra rl rc, .slice wa wl wc] 33)) (fun v14 _ _ _ _ => zs.length - (intOf v14).toNat)
  case atStart => exact ⟨0, Nat.zero_le _, rfl, hA, hown0, hbx⟩
  case round =>
    obtain ⟨j, hj, rfl, hbel, hown, hbxr⟩ := hrel
    have HO := Lib.hid hown
    have HB := Lib.hid hbxr
    have zr := hbel.size
    have l1 := leftTo_len gone zs j
    have d0 := cell_of_row wr _ 0 _ _ _ hbxr
    have d1 := cell_of_row wr _ 1 _ _ _ hbxr
    have d2 := cell_of_row wr _ 2 _ _ _ hbxr
    have d3 := cell_of_row wr _ 3 _ _ _ hbxr
    clear hown hA hown0 hbx
    by_cases hlt : j < zs.length
    · obtain ⟨e1, e2⟩ := AC.out j hlt
      subst e1
      have hx := HAT.out (zs.getD j 0) (by rw [getD_at _ _ _ hlt]; exact List.getElem_mem hlt)
      have hs1 := leftTo_succ gone zs j
      have HS1 := Lib.hid hs1
      rw [← hbel.cell (p := ⟨ab, _, none⟩) (cell_lt e2)] at e2
      clear hs1 hbxr
      generalize zs.getD j 0 = x at *
      have hth : thereB V ls x = goodB gone x := by rw [there_good (by rw [← HML.out]; exact hx), HGN.out]
      have CX := Lib.hid (CT.out wr x hbel)
      rw [hth] at CX
      clear hx hth
      cases hg : goodB gone x with
      | false =>
        rw [hg] at CX HS1
        rw [if_neg (by simp), List.append_nil] at HS1
        go_wp2_with fail
        refine CX.out.mono ?_
        rintro e w4 ⟨rfl, hb4⟩
        have hbx4 := (hb4.block _ (Array.getElem?_eq_some_iff.1 HB.out).1).trans HB.out
        have ho4 : OwnI w4 w.heap.size u7 (leftTo gone zs (j + 1)) := by rw [HS1.out]; exact OwnI.below HO.out hb4
        have HO4 := Lib.hid ho4
        have HB4 := Lib.hid hbx4
        clear ho4 hbx4
        go_wp2
        go_roundw
        case rel => exact ⟨j + 1, by omega, by go_num, hbel.trans (hb4.mono zr), HO4.out, HB4.out⟩
        case measure => simp [intOf]; omega
      | true =>
        rw [hg] at CX HS1
        rw [if_pos rfl] at HS1
        go_wp2_with fail
        refine CX.out.mono ?_
        rintro e w4 ⟨rfl, hb4⟩
        have hbx4 := (hb4.block _ (Array.getElem?_eq_some_iff.1 HB.out).1).trans HB.out
        have hbw4 := hbel.trans (hb4.mono zr)
        have ho4 := OwnI.below HO.out hb4
        obtain ⟨v6, w6, r6, o6, b6, s6, -⟩ := OwnI.app ho4 (j : Int) (by omega) hbw4.size
        rw [← HS1.out] at o6
        have HO6 := Lib.hid o6
        have hbx6 := (s6 w.heap.size (Array.getElem?_eq_some_iff.1 hbx4).1 (own_ne ho4 hbx4 (by decide))).trans hbx4
        have HB6 := Lib.hid hbx6
        obtain ⟨a6, c6, e6⟩ := OwnI.slice o6
        generalize hlen6 : (leftTo gone zs (j + 1)).length = len6 at *
        subst e6
        clear o6 s6 ho4 hbx4 hbx6 d0 d1 d2 d3
        go_wp2_with (at_builtin; refine wpList_append_run (by rfl) (.tmp 23) (.tmp 25) 24 (by rfl) _ (.slice (some ⟨w4.heap.size, 0, none⟩) 1 1) (.slice a6 len6 c6) w6 (by rfl) (by rfl) r6 ?_)
        go_roundw
        case rel => exact ⟨j + 1, by omega, by go_num, hbw4.trans b6, HO6.out, HB6.out⟩
        case measure => simp [intOf]; omega
    · have hjl : j = zs.length := by omega
      subst hjl
      go_wp2
      go_ret
      exact ⟨_, rfl, HO.out, hbel⟩

set_option maxRecDepth 100000 in
set_option maxHeartbeats 4000000 in
theorem fits_any (v lv : Value) (V : Vp) (ls : List Int) (w : World) (hv : VwAt w v V) (hl : ReadsI w lv ls) :
    Calls Try.prog 49 #[v, lv] w fun e w' => e = .returned (.bool (decide (Fits V ls))) ∧ Below w.heap.size w w' := by
  have HV := Lib.hid hv
  have HL := Lib.hid hl
  obtain ⟨ma, mc, ha, hc, ra, rl, rc, wa, wl, wc, rfl⟩ := hv.val
  obtain ⟨la, lc, _, _, rfl, -⟩ := hl.at
  clear hv hl
  obtain ⟨r, hr⟩ : ∃ r, r = decide (Fits V ls) := ⟨_, rfl⟩
  rw [← hr]
  have hd : Fits V ls ↔ VOk V ∧ DOk false 0 ((V.mem.length : Int) - 1) ls := by unfold Fits; rw [lostOk_iff]
  have HR := Lib.hid (show r = decide (VOk V ∧ DOk false 0 ((V.mem.length : Int) - 1) ls) by rw [hr]; exact decide_eq_decide.2 hd)
  clear hr hd
  obtain ⟨ml, hml⟩ : ∃ ml, ml = V.mem.length := ⟨_, rfl⟩
  rw [← hml] at HR HV ⊢
  have HML := Lib.hid hml
  clear hml
  generalize V.held.length = nh at *
  generalize ls.length = ll at *
  have hA : Below w.heap.size w (w.alloc (.cells #[.slice ma ml mc, .slice ha nh hc, .slice ra rl rc, .slice wa wl wc] 33)) := (Below.refl _ _).alloc (Nat.le_refl _) _
  have hbx := heap_alloc_new w (.cells #[.slice ma ml mc, .slice ha nh hc, .slice ra rl rc, .slice wa wl wc] 33)
  have CV := Lib.hid (valid_ref _ V _ (HV.out.below hA))
  go_enter Try.func49, Try.ntmps49
  go_wp2_with fail
  refine CV.out.mono ?_
  rintro e w1 ⟨rfl, hb1⟩
  have hbw1 := hA.trans (hb1.mono hA.size)
  have hbx1 := (hb1.block w.heap.size (by rw [World.size_alloc]; omega)).trans hbx
  have d0 := cell_of_row w1 _ 0 _ _ _ hbx1
  clear CV hA hbx hb1 hbx1
  by_cases hok : VOk V
  rotate_left
  · rw [decide_eq_false hok]
    obtain rfl : r = false := by rw [HR.out]; exact decide_eq_false fun h => hok h.1
    clear hok
    go_wp2
    go_ret
    exact ⟨rfl, hbw1⟩
  rw [decide_eq_true hok]
  have hr2 : r = decide (DOk false 0 ((ml : Int) - 1) ls) := by rw [HR.out]; exact decide_eq_decide.2 ⟨fun h => h.2, fun h => ⟨hok, h⟩⟩
  have CD := Lib.hid (distinct_any _ ls 0 ((ml : Int) - 1) false w1 (HL.out.below hbw1))
  rw [← hr2] at CD
  have hm12 : ml ≤ 12 := by rw [HML.out]; exact hok.1.1
  clear hr2 hok
  go_wp2_with fail
  refine CD.out.mono ?_
  rintro e w2 ⟨rfl, rfl⟩
  go_wp2
  go_ret
  exact ⟨rfl, hbw1⟩

end Go.Proofs.Ytijcicgbhcphjaa

/- Dead. -/
namespace Go.Proofs.Ytijcicgbhcphjaa
open Go.RowKit Go.Lib Go.ChangeMaps
set_option linter.unusedSimpArgs false

def stCell (ss : List ByteArray) (i _j : Nat) : Value := .string (ss.getD i ByteArray.empty)
def OwnSt (w : World) (base : Nat) (v : Value) (ss : List ByteArray) : Prop := Own w base 9 v 1 ss.length (stCell ss)
theorem OwnSt.app {V : World} {base : Nat} {v : Value} {ss : List ByteArray} (h : OwnSt V base v ss) (y : ByteArray) (hn : ss.length ≤ 1000000) (hbase : base ≤ V.heap.size) :
    ∃ v' w', (Builtin.append_ #[57, 57] 57 #[v, .slice (some ⟨V.heap.size, 0, none⟩) 1 1]).run Try.prog (V.alloc (.cells #[.string y] 9)) = .ok v' w' ∧ OwnSt w' base v' (ss ++ [y]) ∧ Below base V w' ∧ (∀ b, b < V.heap.size → v.ownBlock ≠ some b → w'.heap[b]? = V.heap[b]?) := by
  have h' : Own V base 9 v 1 ss.length (stCell (ss ++ [y])) := Own.congr h fun i j hi hj => by unfold stCell; rw [getD_at _ _ _ hi, getD_at _ _ _ (by rw [List.length_append]; omega), List.getElem_append_left hi]
  obtain ⟨v3, w3, r3, o1, o2, o3, _⟩ := Own.append (V := V) (t := 57) (e := 9) (z := .string ⟨#[]⟩) (k := 1) (bytes := 16) Try.underlying57 (by kernel_rfl) rfl (by omega) (by omega) h' 57 [.string y] rfl (fun q hq => by
    have : q = 0 := by omega
    subst this
    simp [stCell, List.getD]) (by simp [Value.oneCell']) (by omega) hbase
  refine ⟨v3, w3, r3, ?_, o2, o3⟩
  unfold OwnSt
  rw [List.length_append]
  exact o1

def deadTo (V : Vp) (gone : Nat → Bool) : Nat → List ByteArray
  | 0 => []
  | m + 1 => deadTo V gone m ++ if spareI V gone m < 0 then [(V.held.getD m default).id] else []
theorem deadTo_len (V : Vp) (gone : Nat → Bool) : ∀ m, (deadTo V gone m).length ≤ m
  | 0 => by simp [deadTo]
  | m + 1 => by
    have := deadTo_len V gone m
    unfold deadTo
    rw [List.length_append]
    split <;> simp <;> omega

set_option maxRecDepth 100000 in
set_option maxHeartbeats 4000000 in
theorem dead_any (v lv : Value) (V : Vp) (ls : List Int) (w : World) (hv : VwAt w v V) (hl : ReadsI w lv ls) (hrf : ∀ h ∈ V.held, h.refs.length ≤ 1000) :
    Calls Try.prog 23 #[v, lv] w fun e w' => Below w.heap.size w w' ∧ ((¬ Fits V ls ∧ e = .returned (.tuple #[.slice none 0 0, .int .i64 1])) ∨
      (Fits V ls ∧ ∃ u, e = .returned (.tuple #[u, .int .i64 0]) ∧ OwnSt w' w.heap.size u (deadTo V (goneB V.mem ls) V.held.length))) := by
  have hA := fun o => (Below.refl w.heap.size w).alloc (Nat.le_refl _) o
  have CR := Lib.hid (fun o => read_any v lv V ls (w.alloc o) (hv.below (hA o)) (hl.below (hA o)) hrf)
  have HA := Lib.hid hA
  obtain ⟨ma, mc, ha, hc, ra, rl, rc, wa, wl, wc, rfl⟩ := hv.val
  obtain ⟨la, lc, _, _, rfl, -⟩ := hl.at
  clear hA hv hl
  obtain ⟨nh, hnh⟩ : ∃ nh, nh = V.held.length := ⟨_, rfl⟩
  have HNH := Lib.hid hnh
  rw [← hnh] at CR ⊢
  clear hnh
  generalize V.mem.length = ml at *
  generalize ls.length = ll at *
  generalize goneB V.mem ls = gone at *
  go_enter Try.func23, Try.ntmps23
  go_wp2_with fail
  refine (CR.out _).mono ?_
  rintro e w3 ⟨hb3, hcase⟩
  have hb1 := HA.out (.cells #[.slice ma ml mc, .slice ha nh hc, .slice ra rl rc, .slice wa wl wc] 26)
  have hbw := hb1.trans (hb3.mono hb1.size)
  rcases hcase with ⟨hno, rfl⟩ | ⟨hfit, p, rfl, hp, hst⟩
  · have HNO := Lib.hid hno
    clear hno
    go_wp2
    refine bodyPost_ret (results_tmp2 Try.results23 _ _ _) rfl ?_
    exact ⟨hbw, .inl ⟨HNO.out, rfl⟩⟩
  · have HFIT := Lib.hid hfit
    have h256 : nh ≤ 256 := by rw [HNH.out]; exact hfit.1.1.2
    have HST := Lib.hid hst
    obtain ⟨mv, hv, rv, wv, gv, mp, c0, c1, c2, c3, c4, c5, hM, hH, hR, hW, hG, hmp⟩ := hst.at
    obtain ⟨xa, xc, xb, xo, rfl, xl, xm, xcell⟩ := hH.at
    rw [← HNH.out] at c1 xl xm
    have XC := Lib.hid xcell
    clear hfit hst hb3 hM hH hR hW hG hmp c0 c2 c3 c4 c5 xcell
    go_wp2
    go_loopw [26, 8, 9, 10] (fun v26 v8 _ _ wr => ∃ j : Nat, j ≤ nh ∧ v26 = .int .i64 j ∧ OwnSt wr w3.heap.size v8 (deadTo V gone j) ∧ Below w3.heap.size w3 wr) (fun v26 _ _ _ _ => nh - (intOf v26).toNat)
    case atStart => exact ⟨0, Nat.zero_le _, rfl, Own.nil _ _ _ _ _, Below.refl _ _⟩
    case round =>
      obtain ⟨j, hj, rfl, hown, hbel⟩ := hrel
      have hb9 := hbw.trans (hbel.mono hbw.size)
      have HO := Lib.hid hown
      have zr := hbel.size
      have hdl := deadTo_len V gone j
      clear hown
      by_cases hlt : j < nh
      · have hjl : j < V.held.length := by rw [← HNH.out]; exact hlt
        obtain ⟨e1, e2, e3, e4, e5, e6, xr, av, e7, e8, hrr, hra⟩ := XC.out j hjl
        subst e1
        obtain ⟨qa, qc, _, _, rfl, -⟩ := hrr.at
        obtain ⟨ua, uc, _, _, rfl, -⟩ := hra.at
        rw [← hbel.cell (p := ⟨xb, _, none⟩) (cell_lt e2)] at e2
        rw [← hbel.cell (p := ⟨xb, _, none⟩) (cell_lt e3)] at e3
        rw [← hbel.cell (p := ⟨xb, _, none⟩) (cell_lt e4)] at e4
        rw [← hbel.cell (p := ⟨xb, _, none⟩) (cell_lt e5)] at e5
        rw [← hbel.cell (p := ⟨xb, _, none⟩) (cell_lt e6)] at e6
        rw [← hbel.cell (p := ⟨xb, _, none⟩) (cell_lt e7)] at e7
        rw [← hbel.cell (p := ⟨xb, _, none⟩) (cell_lt e8)] at e8
        have hsu : deadTo V gone (j + 1) = deadTo V gone j ++ if spareI V gone j < 0 then [(V.held.getD j default).id] else [] := rfl
        have HSU := Lib.hid hsu
        have CS := Lib.hid (fun W (h : Below w3.heap.size w3 W) => spare_any j W (HST.out.below h) hjl)
        clear hrr hra hsu
        generalize spareI V gone j = sp at *
        generalize V.held.getD j default = y at *
        obtain ⟨id, vault, block, data, total, refs, at_⟩ := y
        simp only at e2 e3 e4 e5 e6 HSU
        generalize refs.length = ql at *
        generalize at_.length = ul at *
        have hAl : Below wr.heap.size wr (wr.alloc (.cells #[.string id, .int .i64 vault, .int .i64 block, .int .i64 data, .int .i64 total, .slice qa ql qc, .slice ua ul uc] 52)) := (Below.refl _ _).alloc (Nat.le_refl _) _
        have hk := heap_alloc_new wr (.cells #[.string id, .int .i64 vault, .int .i64 block, .int .i64 data, .int .i64 total, .slice qa ql qc, .slice ua ul uc] 52)
        have h3A := hbel.trans (hAl.mono zr)
        go_wp2_with fail
        refine (CS.out _ h3A).mono ?_
        rintro e w4 ⟨rfl, hb4⟩
        have hr4 := hAl.trans (hb4.mono hAl.size)
        have h34 := hbel.trans (hr4.mono zr)
        have hk4 := (hb4.block wr.heap.size (by rw [World.size_alloc]; omega)).trans hk
        have k0 := cell_of_row w4 _ 0 _ _ _ hk4
        have z4 := h34.size
        have ho4 : OwnSt w4 w3.heap.size u8 (deadTo V gone j) := Own.below HO.out hr4
        have HO4 := Lib.hid ho4
        clear ho4 hk hk4 hAl hb4 e2 e3 e4 e5 e6 e7 e8 CS
        by_cases hsp : sp < 0
        · have q1 : decide (sp < 0) = true := decide_eq_true hsp
          rw [if_pos hsp] at HSU
          obtain ⟨v6, w6, r6, o6, b6, -⟩ := HO4.out.app id (by omega) z4
          rw [← HSU.out] at o6
          have HO6 := Lib.hid o6
          obtain ⟨a6, l6, c6, rfl⟩ := Own.slice o6
          clear o6 hsp
          go_wp2_with (at_builtin; refine wpList_append_run (by rfl) (.tmp 35) (.tmp 39) 57 (by rfl) _ (.slice (some ⟨w4.heap.size, 0, none⟩) 1 1) (.slice a6 l6 c6) w6 (by rfl) (by rfl) r6 ?_)
          go_roundw
          case rel => exact ⟨j + 1, by omega, by go_num, HO6.out, h34.trans b6⟩
          case measure => simp [intOf]; omega
        · have q1 : decide (sp < 0) = false := decide_eq_false hsp
          rw [if_neg hsp, List.append_nil] at HSU
          have ho5 : OwnSt w4 w3.heap.size u8 (deadTo V gone (j + 1)) := by rw [HSU.out]; exact HO4.out
          have HO5 := Lib.hid ho5
          clear hsp ho5
          go_wp2
          go_roundw
          case rel => exact ⟨j + 1, by omega, by go_num, HO5.out, h34⟩
          case measure => simp [intOf]; omega
      · have hjn : j = nh := by omega
        subst hjn
        go_wp2
        refine bodyPost_ret (results_tmp2 Try.results23 _ _ _) rfl ?_
        exact ⟨hb9, .inr ⟨HFIT.out, _, rfl, Own.base HO.out hbw.size⟩⟩

end Go.Proofs.Ytijcicgbhcphjaa
