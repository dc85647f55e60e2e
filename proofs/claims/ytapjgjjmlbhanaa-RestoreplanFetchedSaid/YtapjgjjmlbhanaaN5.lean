/- Devices, sufficient. -/
import Derived.Test.YtapjgjjmlbhanaaN1
import Derived.Deep.LoopGhost
import Derived.Test.YtapjgjjmlbhanaaX1
import Derived.Test.YtapjgjjmlbhanaaH6
namespace Go.Proofs.Ytapjgjjmlbhanaa
open Go.RowKit Go.Lib
set_option linter.unusedSimpArgs false

def isDv (hs : List Hd) (d : Nat) : Bool := decide ((d : Int) ∈ hs.map Hd.dev)
def dvTo (hs : List Hd) (n : Nat) : List Int := ((List.range n).filter (isDv hs)).map fun d : Nat => (d : Int)
/-- The devices of holdings, ascending. -/
def devsOf (hs : List Hd) : List Int := dvTo hs 12
theorem dvTo_succ (hs : List Hd) (n : Nat) : dvTo hs (n + 1) = dvTo hs n ++ if isDv hs n = true then [(n : Int)] else [] := by
  unfold dvTo
  rw [List.range_succ, List.filter_append, List.map_append, List.filter_cons, List.filter_nil]
  split <;> simp
theorem dvTo_len (hs : List Hd) (n : Nat) : (dvTo hs n).length ≤ n := by
  unfold dvTo
  rw [List.length_map]
  have := List.length_filter_le (isDv hs) (List.range n)
  rw [List.length_range] at this
  exact this

theorem eq_of_sorted_mem : ∀ {L M : List Int}, (∀ x, x ∈ L ↔ x ∈ M) → L.Pairwise (· < ·) → M.Pairwise (· < ·) → L = M
  | [], [], _, _, _ => rfl
  | [], b :: m, h, _, _ => by have := (h b).2 (by simp); simp at this
  | a :: l, [], h, _, _ => by have := (h a).1 (by simp); simp at this
  | a :: l, b :: m, h, h1, h2 => by
    have h1' := List.pairwise_cons.1 h1
    have h2' := List.pairwise_cons.1 h2
    have e : a = b := by
      rcases List.mem_cons.1 ((h a).1 (by simp)) with e | hm
      · exact e
      · rcases List.mem_cons.1 ((h b).2 (by simp)) with e | hl
        · exact e.symm
        · have := h1'.1 b hl
          have := h2'.1 a hm
          omega
    subst e
    congr 1
    refine eq_of_sorted_mem (fun x => ?_) h1'.2 h2'.2
    have hx := h x
    rw [List.mem_cons, List.mem_cons] at hx
    constructor
    · intro hm
      rcases hx.1 (.inr hm) with e | hm'
      · subst e
        have := h1'.1 x hm
        omega
      · exact hm'
    · intro hm
      rcases hx.2 (.inr hm) with e | hm'
      · subst e
        have := h2'.1 x hm
        omega
      · exact hm'
theorem devsOf_mem {hs : List Hd} (hok : HdsOk hs) (x : Int) : x ∈ devsOf hs ↔ x ∈ hs.map Hd.dev := by
  unfold devsOf dvTo
  rw [List.mem_map]
  constructor
  · rintro ⟨d, hd, rfl⟩
    have := (List.mem_filter.1 hd).2
    exact of_decide_eq_true this
  · intro hx
    obtain ⟨h, hm, rfl⟩ := List.mem_map.1 hx
    have hb := (hok.2 h hm).1
    refine ⟨h.dev.toNat, List.mem_filter.2 ⟨List.mem_range.2 (by omega), ?_⟩, by omega⟩
    unfold isDv
    rw [decide_eq_true_eq, Int.toNat_of_nonneg hb.1]
    exact hx
theorem devsOf_sorted (hs : List Hd) : (devsOf hs).Pairwise (· < ·) := by
  unfold devsOf dvTo
  rw [List.pairwise_map]
  refine (List.Pairwise.filter _ List.pairwise_lt_range).imp fun {a b} h => ?_
  omega
theorem devsOf_eq {hs L : List Hd} (hok : HdsOk hs) (hp : L.Perm hs) (hsd : (L.map Hd.dev).Pairwise (· < ·)) : devsOf hs = L.map Hd.dev :=
  eq_of_sorted_mem (fun x => by rw [devsOf_mem hok]; exact ((hp.map _).mem_iff).symm) (devsOf_sorted hs) hsd

set_option maxRecDepth 100000 in
set_option maxHeartbeats 4000000 in
theorem devs_ref (v : Value) (hs : List Hd) (w : World) (hv : ReadsH w v hs) :
    Calls Try.prog 59 #[v] w fun e w' => ∃ u, e = .returned u ∧ OwnI w' w.heap.size u (devsOf hs) ∧ Below w.heap.size w w' := by
  have c48 := fun (x : Int) (W : World) (hb : Below w.heap.size w W) => find_any v hs.length (hdCell hs) (hs.map Hd.dev) x W (hv.below hb).1 (by simp) (fun i hi => by
    unfold hdCell
    simp only
    rw [getD_at hs i _ hi, getD_at (hs.map Hd.dev) i _ (by rw [List.length_map]; exact hi), List.getElem_map])
  obtain ⟨ao, n4, c4, rfl⟩ := hv.val
  have C48 := Lib.hid c48
  obtain ⟨r, hr⟩ : ∃ r, r = devsOf hs := ⟨_, rfl⟩
  rw [← hr]
  have HR := Lib.hid hr
  clear hv c48 hr
  have b0 : Below w.heap.size w (w.alloc (.cells #[] 3)) := (Below.refl _ _).alloc (Nat.le_refl _) _
  have o0 : OwnI (w.alloc (.cells #[] 3)) w.heap.size (.slice (some ⟨w.heap.size, 0, none⟩) 0 0) [] := Own.lit0 _ _ _ _ _ (Nat.le_refl _)
  have O0 := Lib.hid o0
  clear o0
  go_enter Try.func59, Try.ntmps59
  go_wp2
  go_loopw [3, 4] (fun v3 v4 wr => ∃ j : Nat, j ≤ 12 ∧ v4 = .int .i64 j ∧ OwnI wr w.heap.size v3 (dvTo hs j) ∧ Below w.heap.size w wr) (fun _ v4 _ => 12 - (intOf v4).toNat)
  case atStart => exact ⟨0, by omega, rfl, O0.out, b0⟩
  case round =>
    obtain ⟨j, hj, rfl, hown, hbel⟩ := hrel
    have zr := hbel.size
    have HO := Lib.hid hown
    clear hown
    by_cases hlt : j < 12
    · have hst := dvTo_succ hs j
      have hln := dvTo_len hs j
      have CF := Lib.hid (C48.out (j : Int) wr hbel)
      have hge := findI_ge (j : Int) (hs.map Hd.dev)
      have hmem := findI_mem (x := (j : Int)) (ds := hs.map Hd.dev)
      by_cases hq : isDv hs j = true
      · have h0 : 0 ≤ findI (j : Int) (hs.map Hd.dev) := hmem.2 (of_decide_eq_true hq)
        have k1 : decide (findI (j : Int) (hs.map Hd.dev) ≥ 0) = true := decide_eq_true h0
        rw [if_pos hq] at hst
        have HST := Lib.hid hst
        obtain ⟨v3, w3, r3, o1, o2, _⟩ := HO.out.append (j : Int) (by omega) zr
        have O1 := Lib.hid o1
        clear hst hq hmem o1
        generalize findI (j : Int) (hs.map Hd.dev) = fi at *
        go_wp2_with fail
        refine CF.out.mono ?_
        rintro e w5 ⟨rfl, rfl⟩
        go_wp2_with (at_builtin; refine wpList_append_run (by rfl) (.tmp 14) (.tmp 16) 24 (by rfl) _ (.slice (some ⟨wr.heap.size, 0, none⟩) 1 1) v3 w3 (by rfl) (by rfl) r3 ?_)
        go_roundw
        case rel => exact ⟨j + 1, by omega, by go_num, by rw [HST.out]; exact O1.out, hbel.trans o2⟩
        case measure => simp [intOf]; omega
      · have h0 : ¬ 0 ≤ findI (j : Int) (hs.map Hd.dev) := fun h => hq (decide_eq_true (hmem.1 h))
        have k1 : decide (findI (j : Int) (hs.map Hd.dev) ≥ 0) = false := decide_eq_false h0
        rw [if_neg hq, List.append_nil] at hst
        have HST := Lib.hid hst
        clear hst hq hmem
        generalize findI (j : Int) (hs.map Hd.dev) = fi at *
        go_wp2_with fail
        refine CF.out.mono ?_
        rintro e w5 ⟨rfl, rfl⟩
        go_wp2
        go_roundw
        case rel => exact ⟨j + 1, by omega, by go_num, by rw [HST.out]; exact HO.out, hbel⟩
        case measure => simp [intOf]; omega
    · obtain rfl : j = 12 := by omega
      rw [show ((12 : Nat) : Int) = 12 from rfl]
      go_wp2
      go_ret
      exact ⟨_, rfl, by rw [HR.out]; exact HO.out, hbel⟩

/-- What the law's sufficient answers. -/
def sufE (g : Gl) (hs : List Hd) : Int := if Ok g hs then (if 0 < sumR g hs (devsOf hs) then 10 else 0) else 1

set_option maxRecDepth 100000 in
set_option maxHeartbeats 4000000 in
theorem sufE_any (g : Gl) (v : Value) (hs : List Hd) (w : World) (hg : GlAt w g) (hv : ReadsH w v hs) :
    Calls Try.prog 27 #[g.v, v] w fun e w' => e = .returned (.int .i64 (sufE g hs)) ∧ Below w.heap.size w w' := by
  have c17 := refCheck_any g v hs
  have c59 := devs_ref v hs
  have c32 := fun (dv : Value) (W : World) (h1 : GlAt W g) (h2 : ReadsH W v hs) (h3 : ReadsI W dv (devsOf hs)) (hok : Ok g hs) => sum_ref g v dv hs (devsOf hs) W h1 h2 h3 hok
  obtain ⟨na, n1, nc, pa, n2, pc, sa, n3, sc, e1⟩ := hg.val
  obtain ⟨ao, n4, c4, rfl⟩ := hv.val
  rw [e1] at c17 ⊢
  simp only [e1] at c32
  have HG := Lib.hid hg
  have HV := Lib.hid hv
  have C17 := Lib.hid c17
  have C59 := Lib.hid c59
  have C32 := Lib.hid c32
  obtain ⟨r, hr⟩ : ∃ r, r = sufE g hs := ⟨_, rfl⟩
  rw [← hr]
  unfold sufE at hr
  have HR := Lib.hid hr
  clear hg hv c17 c59 c32 e1 hr
  have b0 : Below w.heap.size w (w.alloc (.cells #[.slice na n1 nc, .int .i64 g.thr, .bool g.idx, .slice pa n2 pc, .slice sa n3 sc] 37)) := (Below.refl _ _).alloc (Nat.le_refl _) _
  have g0 := heap_alloc_last w (.cells #[.slice na n1 nc, .int .i64 g.thr, .bool g.idx, .slice pa n2 pc, .slice sa n3 sc] 37)
  obtain ⟨G, hG⟩ : ∃ G, G = w.heap.size := ⟨_, rfl⟩
  have HGG := Lib.hid hG
  rw [← hG] at g0
  have G0 := Lib.hid g0
  clear g0 hG
  go_enter Try.func27, Try.ntmps27
  go_upto_region 1 with fail
  rw [← HGG.out]
  generalize w.alloc (Obj.cells #[.slice na n1 nc, .int .i64 g.thr, .bool g.idx, .slice pa n2 pc, .slice sa n3 sc] 37) = W at b0 G0 ⊢
  have a0 := cell_of_row _ _ 0 _ _ _ G0.out
  have a1 := cell_of_row _ _ 1 _ _ _ G0.out
  have a2 := cell_of_row _ _ 2 _ _ _ G0.out
  have a3 := cell_of_row _ _ 3 _ _ _ G0.out
  have a4 := cell_of_row _ _ 4 _ _ _ G0.out
  by_cases hok : Ok g hs
  · have CK := C17.out W (HG.out.below b0) (HV.out.below b0)
    rw [decide_eq_true hok] at CK
    have CK := Lib.hid CK
    have hr := HR.out
    rw [if_pos hok] at hr
    have HR2 := Lib.hid hr
    have HOK := Lib.hid hok
    clear hr hok
    go_wp2_with fail
    refine CK.out.mono ?_
    rintro e w1 ⟨rfl, hb1⟩
    have b1 := b0.trans (hb1.mono b0.size)
    have G1 := Lib.hid ((hb1.block G (Array.getElem?_eq_some_iff.1 G0.out).1).trans G0.out)
    clear a0 a1 a2 a3 a4 hb1 CK
    have a0 := cell_of_row _ _ 0 _ _ _ G1.out
    have a1 := cell_of_row _ _ 1 _ _ _ G1.out
    have a2 := cell_of_row _ _ 2 _ _ _ G1.out
    have a3 := cell_of_row _ _ 3 _ _ _ G1.out
    have a4 := cell_of_row _ _ 4 _ _ _ G1.out
    simp only [List.getElem?_toArray, List.getElem?_cons_zero, List.getElem?_cons_succ] at a0 a1 a2 a3 a4
    have hkeep : ∀ w8 : World, Below w1.heap.size w1 w8 → Below w1.heap.size w1 w8 ∧ w8.cell? ⟨G, 0, none⟩ = some (.slice na n1 nc) ∧ w8.cell? ⟨G, 1, none⟩ = some (.int .i64 g.thr) ∧ w8.cell? ⟨G, 2, none⟩ = some (.bool g.idx) ∧ w8.cell? ⟨G, 3, none⟩ = some (.slice pa n2 pc) ∧ w8.cell? ⟨G, 4, none⟩ = some (.slice sa n3 sc) := fun w8 hb =>
      ⟨hb, (hb.cell (p := ⟨G, 0, none⟩) (cell_lt a0)).trans a0, (hb.cell (p := ⟨G, 1, none⟩) (cell_lt a1)).trans a1, (hb.cell (p := ⟨G, 2, none⟩) (cell_lt a2)).trans a2, (hb.cell (p := ⟨G, 3, none⟩) (cell_lt a3)).trans a3, (hb.cell (p := ⟨G, 4, none⟩) (cell_lt a4)).trans a4⟩
    have HKEEP := Lib.hid hkeep
    have HHS := Lib.hid (hkeep w1.drew (Below.refl _ _).drew)
    have z1 := b1.size
    clear hkeep a0 a1 a2 a3 a4
    go_wp2
    refine wp_region_held_drew (S := fun w' => Below w1.heap.size w1 w' ∧ w'.cell? ⟨G, 0, none⟩ = some (.slice na n1 nc) ∧ w'.cell? ⟨G, 1, none⟩ = some (.int .i64 g.thr) ∧ w'.cell? ⟨G, 2, none⟩ = some (.bool g.idx) ∧ w'.cell? ⟨G, 3, none⟩ = some (.slice pa n2 pc) ∧ w'.cell? ⟨G, 4, none⟩ = some (.slice sa n3 sc)) (by kernel_rfl) HHS.out (fun hHeld => ?_)
    refine wpAnyH_take (i := 0) (v := ?_) rfl (by kernel_rfl) (by kernel_rfl) (by kernel_rfl) (fun _ _ _ h => h) (Or.inl ⟨by rfl, ?_⟩) (by assumption) ?_
    rotate_left; · (intro w hSw; (try dsimp only at hSw); go_simp; try with_reducible rfl)
    try simp only [Act.put, List.getElem_toArray, List.getElem_cons_zero, List.getElem_cons_succ, List.setIfInBounds_toArray, List.set_cons_zero, List.set_cons_succ]
    refine wpAnyH_take (i := 1) (v := ?_) rfl (by kernel_rfl) (by kernel_rfl) (by kernel_rfl) (fun _ _ _ h => h) (Or.inl ⟨by rfl, ?_⟩) (by assumption) ?_
    rotate_left; · (intro w hSw; (try dsimp only at hSw); go_simp; try with_reducible rfl)
    try simp only [Act.put, List.getElem_toArray, List.getElem_cons_zero, List.getElem_cons_succ, List.setIfInBounds_toArray, List.set_cons_zero, List.set_cons_succ]
    refine wpAnyH_take (i := 2) (v := ?_) rfl (by kernel_rfl) (by kernel_rfl) (by kernel_rfl) (fun _ _ _ h => h) (Or.inl ⟨by rfl, ?_⟩) (by assumption) ?_
    rotate_left; · (intro w hSw; (try dsimp only at hSw); go_simp; try with_reducible rfl)
    try simp only [Act.put, List.getElem_toArray, List.getElem_cons_zero, List.getElem_cons_succ, List.setIfInBounds_toArray, List.set_cons_zero, List.set_cons_succ]
    refine wpAnyH_ready (rs := [3]) (by kernel_rfl) (by simp) ?_
    refine AllReadyH.cons rfl (fun K hK => ?_) AllReadyH.nil
    go_simp
    go_at_call 59
    refine (C59.out _ (HV.out.below (b1.trans (hHeld.1.mono z1)))).mono ?_
    rintro e w8 ⟨u, rfl, ho8, hb8⟩
    have hr8 := ho8.reads (by have := dvTo_len hs 12; unfold devsOf; omega)
    obtain ⟨ra, rc, _, _, er, _⟩ := hr8.at
    rw [er] at hr8 ⊢
    have R8 := Lib.hid hr8
    clear ho8 hr8 er
    go_wp2_with fail
    refine hK.out _ _ (HKEEP.out _ (hHeld.1.trans (hb8.mono hHeld.1.size))) (fun hNew => ?_)
    clear hK K hHeld hb8
    have hHeld := hNew
    clear hNew
    try simp only [Act.put, List.getElem_toArray, List.getElem_cons_zero, List.getElem_cons_succ, List.setIfInBounds_toArray, List.set_cons_zero, List.set_cons_succ]
    refine wpAnyH_ready (rs := [4]) (by kernel_rfl) (by simp) ?_
    refine AllReadyH.cons rfl (fun K hK => ?_) AllReadyH.nil
    go_simp
    go_at_call 32
    refine (C32.out _ _ (HG.out.below (b1.trans (hHeld.1.mono z1))) (HV.out.below (b1.trans (hHeld.1.mono z1))) R8.out HOK.out).mono ?_
    rintro e w9 ⟨rfl, hb9⟩
    go_wp2_with fail
    refine hK.out _ _ (HKEEP.out _ (hHeld.1.trans (hb9.mono hHeld.1.size))) (fun hNew => ?_)
    clear hK K hHeld hb9
    have hHeld := hNew
    clear hNew
    try simp only [Act.put, List.getElem_toArray, List.getElem_cons_zero, List.getElem_cons_succ, List.setIfInBounds_toArray, List.set_cons_zero, List.set_cons_succ]
    refine wpAnyH_take (i := 5) (v := ?_) rfl (by kernel_rfl) (by kernel_rfl) (by kernel_rfl) (fun _ _ _ h => h) (Or.inl ⟨by rfl, ?_⟩) (by assumption) ?_
    rotate_left; · (intro w hSw; (try dsimp only at hSw); go_simp; try with_reducible rfl)
    try simp only [Act.put, List.getElem_toArray, List.getElem_cons_zero, List.getElem_cons_succ, List.setIfInBounds_toArray, List.set_cons_zero, List.set_cons_succ]
    refine wpAnyH_done (by kernel_rfl) ?_ _
    have hb9 := hHeld.1
    clear hHeld
    have hr := HR2.out
    generalize sumR g hs (devsOf hs) = sm at *
    by_cases hs0 : 0 < sm
    · rw [if_pos hs0] at hr
      have k1 : decide (sm > 0) = true := decide_eq_true hs0
      subst hr
      go_wp2
      go_ret
      exact ⟨rfl, b1.trans (hb9.mono z1)⟩
    · rw [if_neg hs0] at hr
      have k1 : decide (sm > 0) = false := decide_eq_false hs0
      subst hr
      go_wp2
      go_ret
      exact ⟨rfl, b1.trans (hb9.mono z1)⟩
  · have CK := C17.out W (HG.out.below b0) (HV.out.below b0)
    rw [decide_eq_false hok] at CK
    have CK := Lib.hid CK
    have hr := HR.out
    rw [if_neg hok] at hr
    subst hr
    clear hok
    go_wp2_with fail
    refine CK.out.mono ?_
    rintro e w1 ⟨rfl, hb1⟩
    go_wp2
    go_ret
    exact ⟨rfl, b0.trans (hb1.mono b0.size)⟩

end Go.Proofs.Ytapjgjjmlbhanaa

/- A copy with one number more, in whatever order. -/
namespace Go.Proofs.Ytapjgjjmlbhanaa
open Go.RowKit Go.Lib

/-- append(append([]int{}, src...), d): what has been made so far. -/
structure AppI (W0 : World) (src : List Int) (d : Int) (l2 l4 l9 l10 : Bool) (x2 x4 x9 x10 : Value) (w : World) : Prop where
  below : Below W0.heap.size W0 w
  ord4 : l4 = true → l2 = true
  ord10 : l10 = true → l4 = true ∧ l9 = true
  f2 : l2 = true → l4 = false → ∃ b, x2 = .slice (some ⟨b, 0, none⟩) 0 0 ∧ OwnI w W0.heap.size x2 [] ∧ b < w.heap.size ∧ (l9 = true → x9 ≠ .slice (some ⟨b, 0, none⟩) 1 1)
  f4 : l4 = true → l10 = false → OwnI w W0.heap.size x4 src
  f9 : l9 = true → l10 = false → ∃ b, x9 = .slice (some ⟨b, 0, none⟩) 1 1 ∧ w.heap[b]? = some (.cells #[.int .i64 d] 3 (0, 0))
  f10 : l10 = true → OwnI w W0.heap.size x10 (src ++ [d])

section
variable {W0 : World} {src : List Int} {d : Int} {l2 l4 l9 l10 : Bool} {x2 x4 x9 x10 : Value} {w w' : World}
theorem AppI.grow (h : AppI W0 src d l2 l4 l9 l10 x2 x4 x9 x10 w) (hb : Below w.heap.size w w') : AppI W0 src d l2 l4 l9 l10 x2 x4 x9 x10 w' := by
  refine ⟨h.below.trans (hb.mono h.below.size), h.ord4, h.ord10, fun a b => ?_, fun a b => (h.f4 a b).below hb, fun a b => ?_, fun a => (h.f10 a).below hb⟩
  · obtain ⟨k, e, o, hk, hx⟩ := h.f2 a b
    exact ⟨k, e, o.below hb, Nat.lt_of_lt_of_le hk hb.size, hx⟩
  · obtain ⟨k, e, hk⟩ := h.f9 a b
    exact ⟨k, e, (hb.block k (Array.getElem?_eq_some_iff.1 hk).1).trans hk⟩
theorem AppI.build0 (h : AppI W0 src d l2 l4 l9 l10 x2 x4 x9 x10 w) (hn : l2 = false) : AppI W0 src d true l4 l9 l10 (.slice (some ⟨w.heap.size, 0, none⟩) 0 0) x4 x9 x10 (w.alloc (.cells #[] 3)) := by
  have hb : Below w.heap.size w (w.alloc (.cells #[] 3)) := (Below.refl _ _).alloc (Nat.le_refl _) _
  have hg := h.grow hb
  have h4 : l4 = false := by cases hh : l4 with | false => rfl | true => have := h.ord4 hh; rw [hn] at this; exact absurd this (by simp)
  have h10 : l10 = false := by cases hh : l10 with | false => rfl | true => have := (h.ord10 hh).1; rw [h4] at this; exact absurd this (by simp)
  refine ⟨hg.below, fun _ => rfl, h.ord10, fun _ _ => ⟨_, rfl, Own.lit0 _ _ _ _ _ h.below.size, by rw [World.size_alloc]; omega, fun h9 e => ?_⟩, hg.f4, hg.f9, hg.f10⟩
  obtain ⟨k, e9, hk⟩ := h.f9 h9 h10
  rw [e9] at e
  injection e with e1 e2 e3
  injection e1 with e1
  injection e1 with e1
  have := (Array.getElem?_eq_some_iff.1 hk).1
  omega
theorem AppI.build1 (h : AppI W0 src d l2 l4 l9 l10 x2 x4 x9 x10 w) (_hn : l9 = false) : AppI W0 src d l2 l4 true l10 x2 x4 (.slice (some ⟨w.heap.size, 0, none⟩) 1 1) x10 (w.alloc (.cells #[.int .i64 d] 3)) := by
  have hb : Below w.heap.size w (w.alloc (.cells #[.int .i64 d] 3)) := (Below.refl _ _).alloc (Nat.le_refl _) _
  have hg := h.grow hb
  refine ⟨hg.below, h.ord4, fun a => ⟨(h.ord10 a).1, rfl⟩, fun a b => ?_, hg.f4, fun _ _ => ⟨_, rfl, heap_alloc_at _ _⟩, hg.f10⟩
  obtain ⟨k, e, o, hk, hx⟩ := h.f2 a b
  refine ⟨k, e, o.below hb, by rw [World.size_alloc]; omega, fun _ e => ?_⟩
  injection e with e1 e2 e3
  injection e1 with e1
  injection e1 with e1
  omega
theorem AppI.app1 (h : AppI W0 src d l2 l4 l9 l10 x2 x4 x9 x10 w) (h2 : l2 = true) (hn : l4 = false) {u : Value} (hu : ReadsI w u src) (hl : src.length ≤ 1000000000) :
    ∃ v' w', (Builtin.append_ #[24, 24] 24 #[x2, u]).run Try.prog w = .ok v' w' ∧ AppI W0 src d l2 true l9 l10 x2 v' x9 x10 w' := by
  obtain ⟨k, e, o, hk, hx⟩ := h.f2 h2 hn
  have h10 : l10 = false := by cases hh : l10 with | false => rfl | true => have := (h.ord10 hh).1; rw [hn] at this; exact absurd this (by simp)
  obtain ⟨v', w', r, o1, o2, o3⟩ := o.appendR hu (by simp) hl h.below.size
  rw [List.nil_append] at o1
  refine ⟨v', w', r, h.below.trans o2, fun _ => h2, fun a => absurd (h10 ▸ a) (by simp), fun _ b => absurd b (by simp), fun _ _ => o1, fun a b => ?_, fun a => absurd (h10 ▸ a) (by simp)⟩
  obtain ⟨k9, e9, hk9⟩ := h.f9 a b
  refine ⟨k9, e9, (o3 k9 (Array.getElem?_eq_some_iff.1 hk9).1 (fun e' => ?_)).trans hk9⟩
  rw [e] at e'
  have : k = k9 := by simpa [Value.ownBlock] using e'
  exact hx a (by rw [e9, this])
theorem AppI.app2 (h : AppI W0 src d l2 l4 l9 l10 x2 x4 x9 x10 w) (h4 : l4 = true) (h9 : l9 = true) (hn : l10 = false) (hl : src.length ≤ 1000000000) :
    ∃ v' w', (Builtin.append_ #[24, 24] 24 #[x4, x9]).run Try.prog w = .ok v' w' ∧ AppI W0 src d l2 l4 l9 true x2 x4 x9 v' w' := by
  obtain ⟨k, e, hk⟩ := h.f9 h9 hn
  have hr : ReadsI w x9 [d] := by
    rw [e]
    refine ⟨some ⟨k, 0, none⟩, 1, rfl, Nat.le_refl _, by show 1 ≤ _; omega, fun _ => ⟨k, 0, rfl, fun i j hi hj => ?_⟩⟩
    obtain rfl : j = 0 := by omega
    obtain rfl : i = 0 := by have : i < 1 := hi; omega
    exact cell_of_row _ _ 0 _ _ _ hk
  obtain ⟨v', w', r, o1, o2, _⟩ := (h.f4 h4 hn).appendR hr hl (by simp) h.below.size
  exact ⟨v', w', r, h.below.trans o2, h.ord4, fun _ => ⟨h4, h9⟩, fun _ b => absurd (h4.symm.trans b) (by simp), fun _ b => absurd b (by simp), fun _ b => absurd b (by simp), fun _ => o1⟩
end

/-- A region of this kind: its slots as a function, the plain slots by their values. -/
structure InvS (W0 : World) (src : List Int) (d : Int) (i2 i4 i9 i10 : Nat) (sl : Nat → Nat) (pf : Nat → Value → Prop) (l : Array Bool) (x : Nat → Value) (w : World) : Prop where
  app : AppI W0 src d (l.getD i2 false) (l.getD i4 false) (l.getD i9 false) (l.getD i10 false) (x (sl i2)) (x (sl i4)) (x (sl i9)) (x (sl i10)) w
  pure : ∀ k, l.getD k false = true → pf k (x (sl k))

theorem getD_set_ne {l : Array Bool} {i k : Nat} (h : k ≠ i) : (l.setIfInBounds i true).getD k false = l.getD k false := by
  simp only [Array.getD_eq_getD_getElem?, Array.getElem?_setIfInBounds]
  rw [if_neg (fun x => h x.symm)]
theorem getD_set_eq {l : Array Bool} {i : Nat} (h : i < l.size) : (l.setIfInBounds i true).getD i false = true := by
  simp only [Array.getD_eq_getD_getElem?, Array.getElem?_setIfInBounds]
  simp [h]
theorem ready_not {ops : Array Oper} {l : Array Bool} {i : Nat} (hl : l.size = ops.size) (h : i ∈ Region.ready .any ops l) : l.getD i false = false := by
  have hx := List.mem_filter.1 h
  have hlt := List.mem_range.1 hx.1
  have h2 := hx.2
  rw [Bool.and_eq_true] at h2
  have h3 : l.getD i true = false := by simpa using h2.1
  simp only [Array.getD_eq_getD_getElem?, Array.getElem?_eq_getElem (show i < l.size by omega), Option.getD_some] at h3 ⊢
  exact h3
theorem updV_eq (x : Nat → Value) (s : Nat) (v : Value) : updV x s v s = v := by simp [updV]
theorem updV_ne (x : Nat → Value) {s t : Nat} (v : Value) (h : t ≠ s) : updV x s v t = x t := by simp [updV, h]

section
variable {W0 : World} {src : List Int} {d : Int} {i2 i4 i9 i10 : Nat} {sl : Nat → Nat} {pf : Nat → Value → Prop} {l : Array Bool} {x : Nat → Value} {w w' : World}
theorem InvS.pure' (h : InvS W0 src d i2 i4 i9 i10 sl pf l x w) (hinj : ∀ a b, sl a = sl b → a = b) (i : Nat) (v : Value) (hv : pf i v) : ∀ k, (l.setIfInBounds i true).getD k false = true → pf k (updV x (sl i) v (sl k)) := fun k hk => by
  by_cases e : k = i
  · subst e; rw [updV_eq]; exact hv
  · rw [updV_ne _ _ (fun e' => e (hinj _ _ e'))]
    exact h.pure k ((getD_set hk).resolve_left e)
theorem InvS.put (h : InvS W0 src d i2 i4 i9 i10 sl pf l x w) (hinj : ∀ a b, sl a = sl b → a = b) (i : Nat) (hne : i ≠ i2 ∧ i ≠ i4 ∧ i ≠ i9 ∧ i ≠ i10) (v : Value) (hb : Below w.heap.size w w') (hv : pf i v) :
    InvS W0 src d i2 i4 i9 i10 sl pf (l.setIfInBounds i true) (updV x (sl i) v) w' := by
  refine ⟨?_, h.pure' hinj i v hv⟩
  rw [getD_set_ne hne.1.symm, getD_set_ne hne.2.1.symm, getD_set_ne hne.2.2.1.symm, getD_set_ne hne.2.2.2.symm, updV_ne _ _ (fun e => hne.1.symm (hinj _ _ e)), updV_ne _ _ (fun e => hne.2.1.symm (hinj _ _ e)), updV_ne _ _ (fun e => hne.2.2.1.symm (hinj _ _ e)), updV_ne _ _ (fun e => hne.2.2.2.symm (hinj _ _ e))]
  exact h.app.grow hb
variable (hinj : ∀ a b, sl a = sl b → a = b) (hd : i2 ≠ i4 ∧ i2 ≠ i9 ∧ i2 ≠ i10 ∧ i4 ≠ i9 ∧ i4 ≠ i10 ∧ i9 ≠ i10)
include hinj hd
theorem InvS.build0 (h : InvS W0 src d i2 i4 i9 i10 sl pf l x w) (hi : i2 < l.size) (hn : l.getD i2 false = false) (hv : ∀ v, pf i2 v) :
    InvS W0 src d i2 i4 i9 i10 sl pf (l.setIfInBounds i2 true) (updV x (sl i2) (.slice (some ⟨w.heap.size, 0, none⟩) 0 0)) (w.alloc (.cells #[] 3)) := by
  refine ⟨?_, h.pure' hinj _ _ (hv _)⟩
  rw [getD_set_eq hi, getD_set_ne hd.1.symm, getD_set_ne hd.2.1.symm, getD_set_ne hd.2.2.1.symm, updV_eq, updV_ne _ _ (fun e => hd.1.symm (hinj _ _ e)), updV_ne _ _ (fun e => hd.2.1.symm (hinj _ _ e)), updV_ne _ _ (fun e => hd.2.2.1.symm (hinj _ _ e))]
  exact h.app.build0 hn
theorem InvS.build1 (h : InvS W0 src d i2 i4 i9 i10 sl pf l x w) (hi : i9 < l.size) (hn : l.getD i9 false = false) (hv : ∀ v, pf i9 v) :
    InvS W0 src d i2 i4 i9 i10 sl pf (l.setIfInBounds i9 true) (updV x (sl i9) (.slice (some ⟨w.heap.size, 0, none⟩) 1 1)) (w.alloc (.cells #[.int .i64 d] 3)) := by
  refine ⟨?_, h.pure' hinj _ _ (hv _)⟩
  rw [getD_set_eq hi, getD_set_ne hd.2.1, getD_set_ne hd.2.2.2.1, getD_set_ne hd.2.2.2.2.2.symm, updV_eq, updV_ne _ _ (fun e => hd.2.1 (hinj _ _ e)), updV_ne _ _ (fun e => hd.2.2.2.1 (hinj _ _ e)), updV_ne _ _ (fun e => hd.2.2.2.2.2.symm (hinj _ _ e))]
  exact h.app.build1 hn
theorem InvS.app1 (h : InvS W0 src d i2 i4 i9 i10 sl pf l x w) (hi : i4 < l.size) (h2 : l.getD i2 false = true) (hn : l.getD i4 false = false) (hv : ∀ v, pf i4 v) {u : Value} (hu : ReadsI W0 u src) (hl : src.length ≤ 1000000000) :
    ∃ v' w', (Builtin.append_ #[24, 24] 24 #[x (sl i2), u]).run Try.prog w = .ok v' w' ∧ InvS W0 src d i2 i4 i9 i10 sl pf (l.setIfInBounds i4 true) (updV x (sl i4) v') w' := by
  obtain ⟨v', w', r, h'⟩ := h.app.app1 h2 hn (hu.below h.app.below) hl
  refine ⟨v', w', r, ?_, h.pure' hinj _ _ (hv _)⟩
  rw [getD_set_eq hi, getD_set_ne hd.1, getD_set_ne hd.2.2.2.1.symm, getD_set_ne hd.2.2.2.2.1.symm, updV_eq, updV_ne _ _ (fun e => hd.1 (hinj _ _ e)), updV_ne _ _ (fun e => hd.2.2.2.1.symm (hinj _ _ e)), updV_ne _ _ (fun e => hd.2.2.2.2.1.symm (hinj _ _ e))]
  exact h'
theorem InvS.app2 (h : InvS W0 src d i2 i4 i9 i10 sl pf l x w) (hi : i10 < l.size) (h4 : l.getD i4 false = true) (h9 : l.getD i9 false = true) (hn : l.getD i10 false = false) (hv : ∀ v, pf i10 v) (hl : src.length ≤ 1000000000) :
    ∃ v' w', (Builtin.append_ #[24, 24] 24 #[x (sl i4), x (sl i9)]).run Try.prog w = .ok v' w' ∧ InvS W0 src d i2 i4 i9 i10 sl pf (l.setIfInBounds i10 true) (updV x (sl i10) v') w' := by
  obtain ⟨v', w', r, h'⟩ := h.app.app2 h4 h9 hn hl
  refine ⟨v', w', r, ?_, h.pure' hinj _ _ (hv _)⟩
  rw [getD_set_eq hi, getD_set_ne hd.2.2.1, getD_set_ne hd.2.2.2.2.1, getD_set_ne hd.2.2.2.2.2, updV_eq, updV_ne _ _ (fun e => hd.2.2.1 (hinj _ _ e)), updV_ne _ _ (fun e => hd.2.2.2.2.1 (hinj _ _ e)), updV_ne _ _ (fun e => hd.2.2.2.2.2 (hinj _ _ e))]
  exact h'
end

/-- One device's bit. -/
theorem sorted_inj {L : List Hd} (hsd : (L.map Hd.dev).Pairwise (· < ·)) {i j : Nat} (hi : i < L.length) (hj : j < L.length) (h : (L.getD i default).dev = (L.getD j default).dev) : i = j := by
  rw [getD_at _ _ _ hi, getD_at _ _ _ hj] at h
  have hp := List.pairwise_iff_getElem.1 hsd
  rcases Nat.lt_trichotomy i j with hlt | e | hlt
  · have := hp i j (by simpa using hi) (by simpa using hj) hlt
    rw [List.getElem_map, List.getElem_map] at this
    omega
  · exact e
  · have := hp j i (by simpa using hj) (by simpa using hi) hlt
    rw [List.getElem_map, List.getElem_map] at this
    omega
theorem setN_one {L : List Hd} (hsd : (L.map Hd.dev).Pairwise (· < ·)) {q : Nat} (hq : q < L.length) : setN [(L.getD q default).dev] L L.length = 2 ^ q := by
  refine Nat.eq_of_testBit_eq fun m => ?_
  rw [setN_bit, Nat.testBit_two_pow, Bool.eq_iff_iff]
  simp only [decide_eq_true_eq, List.mem_singleton]
  constructor
  · rintro ⟨a, b⟩
    exact (sorted_inj hsd a hq b).symm
  · rintro rfl
    exact ⟨hq, rfl⟩
theorem devL_one {L : List Hd} {q : Nat} (hq : q < L.length) : devL L (2 ^ q) = [(L.getD q default).dev] := by
  have : ∀ n, devTo L (2 ^ q) n = if q < n then [(L.getD q default).dev] else [] := by
    intro n
    induction n with
    | zero => rfl
    | succ n ih =>
      unfold devTo
      rw [ih]
      have hb : (2 ^ q / 2 ^ n % 2 = 1) ↔ q = n := by rw [bit_test, Nat.testBit_two_pow]; simp
      by_cases e : q = n
      · subst e
        rw [if_pos (hb.2 rfl), if_neg (by omega), if_pos (by omega)]
        rfl
      · rw [if_neg (fun h => e (hb.1 h)), List.append_nil]
        by_cases h : q < n
        · rw [if_pos h, if_pos (by omega)]
        · rw [if_neg h, if_neg (by omega)]
  unfold devL
  rw [this, if_pos hq]

end Go.Proofs.Ytapjgjjmlbhanaa

/- ref.Greedy. -/
namespace Go.Proofs.Ytapjgjjmlbhanaa
open Go.RowKit Go.Lib
set_option linter.unusedSimpArgs false

theorem run_app_zero (w : World) (b : Nat) (xo : Option Addr) (c : Nat) : (Builtin.append_ #[24, 24] 24 #[.slice (some ⟨b, 0, none⟩) 0 0, .slice xo 1 c]).run Try.prog w = (Builtin.append_ #[24, 24] 24 #[.slice none 0 0, .slice xo 1 c]).run Try.prog w := by
  unfold Builtin.append_
  have h1 : ¬ (281474976710656 < Builtin.nextslicecap 1 0 * Try.t3.bytes) := by decide +kernel
  simp [run_underlying Try.underlying24, Builtin.lenOf, Builtin.firstCells, loadCells, loadCellsFrom, h1]
theorem OwnI.appendZ {V : World} {base b : Nat} (y : Int) (hbase : base ≤ V.heap.size) :
    ∃ v' w', (Builtin.append_ #[24, 24] 24 #[.slice (some ⟨b, 0, none⟩) 0 0, .slice (some ⟨V.heap.size, 0, none⟩) 1 1]).run Try.prog (V.alloc (.cells #[.int .i64 y] 3)) = .ok v' w' ∧ OwnI w' base v' [y] ∧ Below base V w' := by
  obtain ⟨v', w', r, h1, h2, _⟩ := (OwnI.nil V base).append y (by simp) hbase
  rw [← run_app_zero _ b _ _] at r
  exact ⟨v', w', r, h1, h2⟩
theorem wp_app {P : Program} {w : World} {o : Oper} {a : Act} {K : Act → World → Prop} {Q : Exit → Act → World → Prop} (s x : Operand) (t : TypeId)
    (ho : o.op = .call { callee := .builtin .append, args := #[s, x], argTypes := #[t, t] }) (v sl v' : Value) (w' : World) (hs : a.eval s = v) (hx : a.eval x = sl)
    (hrun : (Builtin.append_ #[t, t] o.type #[v, sl]).run P w = .ok v' w') (h : K (a.put o.dst v') w') : Oper.wp P o a w K Q := by
  unfold Oper.wp execOp
  simp only [ho, resolve, invoke, builtin, Sem.run_bind, Sem.run_pure, Result.andThen_ok, List.map_toArray, List.map_cons, List.map_nil, hs, hx, hrun]
  exact h
def slG (k : Nat) : Nat := if k = 12 then 10 else 25 + k
theorem slG_inj : ∀ a b, slG a = slG b → a = b := by
  intro a b h
  unfold slG at h
  split at h <;> split at h <;> omega
def pfG (gv lv ov dv : Value) (i : Int) (p : Value) (dI t : Int) (k : Nat) (v : Value) : Prop :=
  match k with
  | 0 => v = gv
  | 1 => v = lv
  | 3 => v = ov
  | 5 => v = dv
  | 6 => v = .int .i64 i
  | 7 => v = p
  | 8 => v = .int .i64 dI
  | 11 => v = .int .i64 t
  | 12 => v = .int .i64 t
  | _ => True
theorem InvS.start (W0 : World) (src : List Int) (d : Int) (i2 i4 i9 i10 : Nat) (sl : Nat → Nat) (pf : Nat → Value → Prop) (n : Nat) {x : Nat → Value} : InvS W0 src d i2 i4 i9 i10 sl pf (Array.replicate n false) x W0 := by
  have hf : ∀ k, (Array.replicate n false).getD k false = false := fun k => by
    simp only [Array.getD_eq_getD_getElem?, Array.getElem?_replicate]
    split <;> rfl
  refine ⟨?_, fun k hk => by rw [hf] at hk; exact absurd hk (by simp)⟩
  simp only [hf]
  exact ⟨Below.refl _ _, nofun, nofun, nofun, nofun, nofun, nofun⟩

set_option maxRecDepth 100000 in
set_option maxHeartbeats 8000000 in
theorem greedy_ref (g : Gl) (v : Value) (hs L : List Hd) (w : World) (hg : GlAt w g) (hv : ReadsH w v hs) (hok : Ok g hs) (hp : L.Perm hs) (hsd : (L.map Hd.dev).Pairwise (· < ·)) (hall : sufB g L (2 ^ L.length - 1) = true) :
    Calls Try.prog 33 #[g.v, v] w fun e w' => ∃ u, e = .returned u ∧ ReadsI w' u (greedyL g L) ∧ Below w.heap.size w w' := by
  have hl12 : L.length ≤ 12 := by have := hp.length_eq; have := hok.1.2.2; omega
  have hdv := devsOf_eq hok.2.2.2 hp hsd
  have c59 := devs_ref v hs
  have c32 := fun (dv : Value) (W : World) (devs : List Int) (h1 : GlAt W g) (h2 : ReadsH W v hs) (h3 : ReadsI W dv devs) => sum_ref g v dv hs devs W h1 h2 h3 hok
  obtain ⟨na, n1, nc, pa, n2, pc, sa, n3, sc, e1⟩ := hg.val
  obtain ⟨ao, n4, c4, rfl⟩ := hv.val
  rw [e1]
  simp only [e1] at c32
  rw [hdv] at c59
  have HG := Lib.hid hg
  have HV := Lib.hid hv
  have C59 := Lib.hid c59
  have C32 := Lib.hid c32
  have HALL := Lib.hid hall
  have HP := Lib.hid hp
  have HSD := Lib.hid hsd
  have HOK := Lib.hid hok
  have hp12 := two12 hl12
  have hp0 : 1 ≤ 2 ^ L.length := Nat.one_le_two_pow
  clear hg hv c59 c32 e1 hok hp hsd hdv hall
  have b0 : Below w.heap.size w (w.alloc (.cells #[.slice na n1 nc, .int .i64 g.thr, .bool g.idx, .slice pa n2 pc, .slice sa n3 sc] 37)) := (Below.refl _ _).alloc (Nat.le_refl _) _
  have g0 := heap_alloc_last w (.cells #[.slice na n1 nc, .int .i64 g.thr, .bool g.idx, .slice pa n2 pc, .slice sa n3 sc] 37)
  obtain ⟨G, hG⟩ : ∃ G, G = w.heap.size := ⟨_, rfl⟩
  have HGG := Lib.hid hG
  rw [← hG] at g0
  have G0 := Lib.hid g0
  clear g0 hG
  go_enter Try.func33, Try.ntmps33
  go_upto_region 1 with fail
  rw [← HGG.out]
  generalize w.alloc (Obj.cells #[.slice na n1 nc, .int .i64 g.thr, .bool g.idx, .slice pa n2 pc, .slice sa n3 sc] 37) = W at b0 G0 ⊢
  have b1 : Below w.heap.size w (W.alloc (.cells #[] 3)) := b0.alloc b0.size _
  have o1 : OwnI (W.alloc (.cells #[] 3)) w.heap.size (.slice (some ⟨W.heap.size, 0, none⟩) 0 0) [] := Own.lit0 _ _ _ _ _ b0.size
  have bW : Below W.heap.size W (W.alloc (.cells #[] 3)) := (Below.refl _ _).alloc (Nat.le_refl _) _
  have G1 := Lib.hid ((bW.block G (Array.getElem?_eq_some_iff.1 G0.out).1).trans G0.out)
  have O1 := Lib.hid o1
  clear o1 bW
  go_upto_region 2 with fail
  generalize W.alloc (.cells #[] 3) = W1 at *
  obtain ⟨vo, hvo⟩ : ∃ vo, vo = Value.slice (some ⟨W.heap.size, 0, none⟩) 0 0 := ⟨_, rfl⟩
  rw [← hvo] at O1 ⊢
  have HVO := Lib.hid hvo
  clear hvo
  have z1 := b1.size
  clear b0 G0
  go_wp2_with fail
  refine (C59.out _ (HV.out.below b1)).mono ?_
  rintro e w2 ⟨u, rfl, hu, hb2⟩
  have b2 := b1.trans (hb2.mono z1)
  have z2 := b2.size
  have hru := hu.reads (by rw [List.length_map]; omega)
  have G2 := Lib.hid ((hb2.block G (Array.getElem?_eq_some_iff.1 G1.out).1).trans G1.out)
  have O2 := Lib.hid (O1.out.below hb2)
  obtain ⟨ra, rc, rb, ro, er, _, _, hrc⟩ := hru.at
  rw [List.length_map] at er hrc
  subst er
  have HRC := Lib.hid hrc
  have HRU := Lib.hid hru
  clear hu hru hrc
  go_wp2_with fail
  go_loopg [5, 7, 8] L.length (fun gk v5 v7 v8 wx => ∃ (set : Nat) (out : List Int), set < 2 ^ L.length ∧ setN out L L.length = set ∧ unset set L.length = gk ∧ ((v5 = vo ∧ out = []) ∨ OwnI wx w2.heap.size v5 out) ∧ out.length ≤ 12 * (12 - gk) ∧ gk ≤ 12 ∧ out ++ grd g L gk set = greedyL g L ∧ Below w2.heap.size w2 wx)
  case atStart => exact ⟨0, [], by omega, by have : ∀ n, setN [] L n = 0 := (fun n => by induction n with | zero => rfl | succ n ih => unfold setN; rw [if_neg (by simp)]; exact ih); exact this _, by simp [unset], .inl ⟨rfl, rfl⟩, by simp, by omega, rfl, Below.refl _ _⟩
  case round =>
    obtain ⟨set, out, hset, hso, hun, hown, hol, hgk, hrun, hbx⟩ := hrel
    have b3 := b2.trans (hbx.mono z2)
    have z3 := b3.size
    have zx := hbx.size
    have HO := Lib.hid hown
    have HRUN := Lib.hid hrun
    have HUN := Lib.hid hun
    have HSO := Lib.hid hso
    have hro : ReadsI wr u5 out := by
      rcases hown with ⟨rfl, rfl⟩ | hown
      · exact (O2.out.below hbx).reads (by simp)
      · exact hown.reads (by omega)
    have C32a := Lib.hid (C32.out _ _ out (HG.out.below b3) (HV.out.below b3) hro)
    have a0 := cell_of_row _ G 0 _ _ _ ((hbx.block G (Array.getElem?_eq_some_iff.1 G2.out).1).trans G2.out)
    have a1 := cell_of_row _ G 1 _ _ _ ((hbx.block G (Array.getElem?_eq_some_iff.1 G2.out).1).trans G2.out)
    have a2 := cell_of_row _ G 2 _ _ _ ((hbx.block G (Array.getElem?_eq_some_iff.1 G2.out).1).trans G2.out)
    have a3 := cell_of_row _ G 3 _ _ _ ((hbx.block G (Array.getElem?_eq_some_iff.1 G2.out).1).trans G2.out)
    have a4 := cell_of_row _ G 4 _ _ _ ((hbx.block G (Array.getElem?_eq_some_iff.1 G2.out).1).trans G2.out)
    have hsuf : sufB g L set = decide (sumR g hs out = 0) := by
      unfold sufB
      rw [← HSO.out, sumL_eq HOK.out HP.out]
    have hsb := sumR_bd HOK.out (devs := out)
    obtain ⟨oa, oc, _, _, eo, _⟩ := hro.at
    have HRO := Lib.hid hro
    clear hown hrun hun hso hro
    subst eo
    go_wp2_with fail
    refine C32a.out.mono ?_
    rintro e w3 ⟨rfl, hb3⟩
    clear a0 a1 a2 a3 a4
    have hb03 := hbx.trans (hb3.mono zx)
    have z4 := hb3.size
    by_cases hsf : sufB g L set = true
    · have hs0 : sumR g hs out = 0 := by rw [hsuf] at hsf; exact of_decide_eq_true hsf
      have hr := HRUN.out
      have hg0 : grd g L gk set = [] := by
        cases gk with
        | zero => rfl
        | succ f => show (if sufB g L set = true then [] else _) = []; rw [if_pos hsf]
      rw [hg0, List.append_nil] at hr
      have hrd : ReadsI w3 (.slice oa out.length oc) (greedyL g L) := by rw [← hr]; exact HRO.out.below hb3
      have HRD := Lib.hid hrd
      rw [hs0]
      clear hr hg0 hsf hsuf hrd
      go_wp2
      go_ret
      exact ⟨_, rfl, HRD.out, b2.trans (hb03.mono z2)⟩
    · have hs0 : sumR g hs out ≠ 0 := fun e => hsf (by rw [hsuf]; exact decide_eq_true e)
      have hsf0 : sufB g L set = false := by simpa using hsf
      have k1 : decide (sumR g hs out > 0) = true := decide_eq_true (by omega)
      cases gk with
      | zero =>
        exfalso
        have := unset_zero HUN.out hset
        rw [this] at hsf
        exact hsf HALL.out
      | succ go =>
        have hr := HRUN.out
        have hg1 : grd g L (go + 1) set = devL L (pickG g L set L.length).1 ++ grd g L go (set ||| (pickG g L set L.length).1) := by
          show (if sufB g L set = true then [] else _) = _
          rw [if_neg hsf]
        rw [hg1, ← List.append_assoc] at hr
        have HR := Lib.hid hr
        have HRO3 := Lib.hid (HRO.out.below hb3)
        have ho3 : (Value.slice oa out.length oc = vo ∧ out = []) ∨ OwnI w3 w2.heap.size (Value.slice oa out.length oc) out := HO.out.imp id fun h => h.below hb3
        have HO3 := Lib.hid ho3
        clear ho3
        have G3 := Lib.hid ((hb03.block G (Array.getElem?_eq_some_iff.1 G2.out).1).trans G2.out)
        have b5 := b2.trans (hb03.mono z2)
        clear hr hg1 hsf hsf0 hsuf HRO HO HRUN C32a
        generalize sumR g hs out = so at *
        generalize hn : L.length = n at *
        have HNN := Lib.hid hn
        clear hn
        go_wp2_with fail
        go_loopg [7, 8, 9, 10] n (fun g2 v7 v8 v9 v10 wy => ∃ i : Nat, i + g2 = n ∧ v9 = .int .i64 i ∧ (((pickG g L set i).1 = 0 ∧ v7 = .int .i64 (-1)) ∨ ∃ q, q < i ∧ (pickG g L set i).1 = 2 ^ q ∧ v7 = .int .i64 (L.getD q default).dev) ∧ v8 = .int .i64 (pickG g L set i).2 ∧ Below w3.heap.size w3 wy)
        case atStart => exact ⟨0, by omega, rfl, .inl ⟨rfl, rfl⟩, rfl, Below.refl _ _⟩
        case round =>
          obtain ⟨i, hi, rfl, hv7, rfl, hby⟩ := hrel
          have zy := hby.size
          cases gk with
          | zero =>
            obtain rfl : i = n := by omega
            obtain ⟨q, hq1, hq2, hq3⟩ : ∃ q, q < i ∧ (pickG g L set i).1 = 2 ^ q ∧ set.testBit q = false := by
              rcases pickG_spec g L set i with ⟨_, h0⟩ | h
              · have := HUN.out; omega
              · exact h
            have hv7' : u7 = .int .i64 (L.getD q default).dev := by
              rcases hv7 with ⟨h0, _⟩ | ⟨q', h1, h2, h3⟩
              · rw [hq2] at h0
                exact absurd h0 (Nat.ne_of_gt Nat.one_le_two_pow)
              · rw [hq2] at h2
                rw [h3, show q' = q from ((Nat.pow_right_inj (by omega)).1 h2).symm]
            have hr := HR.out
            rw [hq2, devL_one (show q < L.length by rw [HNN.out]; exact hq1)] at hr
            have hun := unset_or hq1 hq3
            have hlt2 : set ||| 2 ^ q < 2 ^ i := Nat.or_lt_two_pow hset (Nat.pow_lt_pow_right (by omega) hq1)
            have hso2 : setN (out ++ [(L.getD q default).dev]) L i = set ||| 2 ^ q := by
              have h1 := setN_one HSD.out (show q < L.length by rw [HNN.out]; exact hq1)
              rw [HNN.out] at h1
              rw [← setN_app, HSO.out, h1]
            have HR2 := Lib.hid hr
            have HUN2 := Lib.hid (show unset (set ||| 2 ^ q) i = go by have := HUN.out; omega)
            have HSO2 := Lib.hid hso2
            subst hv7'
            clear hv7 hr hun hso2 HR hq2
            have hol2 : (out ++ [(L.getD q default).dev]).length ≤ 12 * (12 - go) := by rw [List.length_append, List.length_singleton]; omega
            obtain ⟨v3, w6, r3, o1, o2⟩ : ∃ v' w', (Builtin.append_ #[24, 24] 24 #[Value.slice oa out.length oc, .slice (some ⟨wr.heap.size, 0, none⟩) 1 1]).run Try.prog (wr.alloc (.cells #[.int .i64 (L.getD q default).dev] 3)) = .ok v' w' ∧ OwnI w' w2.heap.size v' (out ++ [(L.getD q default).dev]) ∧ Below w2.heap.size wr w' := by
              have hw2 : w2.heap.size ≤ wr.heap.size := by have := hb03.size; omega
              rcases HO3.out with ⟨e, h0⟩ | h
              · rw [e, HVO.out, h0]
                exact OwnI.appendZ _ hw2
              · obtain ⟨v', w', r, h1, h2, _⟩ := (h.below hby).append (L.getD q default).dev (by omega) hw2
                exact ⟨v', w', r, h1, h2⟩
            have O1 := Lib.hid o1
            have B6 := Lib.hid (hb03.trans ((hby.mono (by have := hb03.size; omega)).trans o2))
            clear o1
            go_wp2_with (at_builtin; refine wpList_append_run (by rfl) (.tmp 58) (.tmp 60) 24 (by rfl) _ (.slice (some ⟨_, 0, none⟩) 1 1) v3 w6 (by rfl) (by rfl) r3 ?_)
            go_roundg go
            case measure => omega
            case rel => exact ⟨set ||| 2 ^ q, _, hlt2, HSO2.out, HUN2.out, .inr O1.out, hol2, by omega, HR2.out, B6.out⟩
          | succ g2 =>
            have hin : i < n := by omega
            go_wp2_with fail
            obtain ⟨hra, hcl⟩ := HRC.out i hin
            have hdi : (L.map Hd.dev).getD i 0 = (L.getD i default).dev := by rw [getD_at L _ _ (by rw [HNN.out]; exact hin), getD_at (L.map Hd.dev) _ _ (by rw [List.length_map, HNN.out]; exact hin), List.getElem_map]
            rw [hdi] at hcl
            obtain ⟨W0, hW0⟩ : ∃ W0, W0 = wr.drew := ⟨_, rfl⟩
            have hbd : Below w3.heap.size w3 W0 := by rw [hW0]; exact hby.drew
            have hcl0 := ((hb03.trans (hbd.mono (Nat.le_trans zx z4))).cell (cell_lt hcl)).trans hcl
            have g0 := (hbd.block G (Array.getElem?_eq_some_iff.1 G3.out).1).trans G3.out
            have a0 := cell_of_row _ G 0 _ _ _ g0
            have a1 := cell_of_row _ G 1 _ _ _ g0
            have a2 := cell_of_row _ G 2 _ _ _ g0
            have a3 := cell_of_row _ G 3 _ _ _ g0
            have a4 := cell_of_row _ G 4 _ _ _ g0
            simp only [List.getElem?_toArray, List.getElem?_cons_zero, List.getElem?_cons_succ] at a0 a1 a2 a3 a4
            have CELLS := Lib.hid (And.intro hcl0 (And.intro a0 (And.intro a1 (And.intro a2 (And.intro a3 a4)))))
            have zd := hbd.size
            have hro0 := HRO3.out.below hbd
            have HRO0 := Lib.hid hro0
            have b6 := b5.trans (hbd.mono (Nat.le_trans z2 (Nat.le_trans zx z4)))
            subst hra
            generalize hdq : (L.getD i default).dev = dI at *
            have HDQ := Lib.hid hdq
            clear hdq hcl hdi g0 a0 a1 a2 a3 a4 hcl0 hro0
            clear HRC
            refine wp_region_inv (by kernel_rfl) (fun l a w' => ∃ x : Nat → Value, a = ⟨#[Value.agg #[Value.slice na n1 nc, .int .i64 g.thr, .bool g.idx, Value.slice pa n2 pc, Value.slice sa n3 sc], Value.slice ao n4 c4, Value.pointer (some ⟨G, 0, none⟩), undef, Value.slice none 0 0, Value.slice oa out.length oc, Value.slice (some ⟨rb, ro, none⟩) n rc, u7, .int .i64 (pickG g L set i).2, .int .i64 i, x 10, vo, Value.slice ao n4 c4, Value.slice (some ⟨rb, ro, none⟩) n rc, Value.agg #[Value.slice na n1 nc, .int .i64 g.thr, .bool g.idx, Value.slice pa n2 pc, Value.slice sa n3 sc], Value.slice ao n4 c4, Value.slice oa out.length oc, .int .i64 so, .bool true, .int .i64 i, Value.slice (some ⟨rb, ro, none⟩) n rc, .int .i64 n, .bool true, u23, u24, x 25, x 26, x 27, x 28, x 29, x 30, x 31, x 32, x 33, x 34, x 35, x 36, u37, u38, u39, u40, u41, u42, u43, u44, u45, u46, u47, u48, u49, u50, u51, u52, u53, u54, u55, u56, u57, u58, u59, u60, u61, undef], []⟩ ∧ InvS W0 out dI 2 4 9 10 slG (pfG (Value.agg #[Value.slice na n1 nc, .int .i64 g.thr, .bool g.idx, Value.slice pa n2 pc, Value.slice sa n3 sc]) (.slice ao n4 c4) (.slice oa out.length oc) (.slice (some ⟨rb, ro, none⟩) n rc) i (.pointer (some ⟨rb, ro + i, none⟩)) dI (sumR g hs (out ++ [dI]))) l x w') ⟨fun k => if k = 10 then u10 else if k = 25 then u25 else if k = 26 then u26 else if k = 27 then u27 else if k = 28 then u28 else if k = 29 then u29 else if k = 30 then u30 else if k = 31 then u31 else if k = 32 then u32 else if k = 33 then u33 else if k = 34 then u34 else if k = 35 then u35 else u36, rfl, by rw [← hW0]; exact InvS.start _ _ _ _ _ _ _ _ _ _⟩ ?_ ?_
            · rintro l a w' hl0 ⟨x, rfl, h⟩ k hk
              obtain ⟨hlt0, hdep⟩ := ready_dep hk
              have hnot := ready_not hl0 hk
              have hlt : k < 13 := hlt0
              have hl : l.size = 13 := hl0
              have hbw := h.app.below
              have hwz := hbw.size
              obtain ⟨q0, q1, q2, q3, q4, q5⟩ := CELLS.out
              have q0 := (hbw.cell (cell_lt q0)).trans q0
              have q1 := (hbw.cell (cell_lt q1)).trans q1
              have q2 := (hbw.cell (cell_lt q2)).trans q2
              have q3 := (hbw.cell (cell_lt q3)).trans q3
              have q4 := (hbw.cell (cell_lt q4)).trans q4
              have q5 := (hbw.cell (cell_lt q5)).trans q5
              clear hk hl0 hlt0
              rcases (show k = 0 ∨ k = 1 ∨ k = 2 ∨ k = 3 ∨ k = 4 ∨ k = 5 ∨ k = 6 ∨ k = 7 ∨ k = 8 ∨ k = 9 ∨ k = 10 ∨ k = 11 ∨ k = 12 by omega) with rfl | rfl | rfl | rfl | rfl | rfl | rfl | rfl | rfl | rfl | rfl | rfl | rfl
              · clear hlt
                clear hdep
                refine wpOp_go rfl (fun K' hK => ?_)
                go_simp
                exact hK.out _ _ ⟨_, by simp [updV, slG], h.put slG_inj 0 (by omega) _ (Below.refl _ _) rfl⟩
              · clear hlt
                clear hdep
                refine wpOp_go rfl (fun K' hK => ?_)
                go_simp
                exact hK.out _ _ ⟨_, by simp [updV, slG], h.put slG_inj 1 (by omega) _ (Below.refl _ _) rfl⟩
              · clear hlt
                clear hdep
                refine wpOp_go rfl (fun K' hK => ?_)
                go_simp
                exact hK.out _ _ ⟨_, by simp [updV, slG], h.build0 slG_inj (by omega) (by omega) hnot (fun _ => trivial)⟩
              · clear hlt
                clear hdep
                refine wpOp_go rfl (fun K' hK => ?_)
                go_simp
                exact hK.out _ _ ⟨_, by simp [updV, slG], h.put slG_inj 3 (by omega) _ (Below.refl _ _) rfl⟩
              · clear hlt
                have d2 := hdep _ rfl ⟨2, .data⟩ (by simp) rfl
                have d3 : x 28 = Value.slice oa out.length oc := h.pure 3 (hdep _ rfl ⟨3, .data⟩ (by simp) rfl)
                clear hdep
                obtain ⟨v', w9, r, h'⟩ := h.app1 slG_inj (by omega) (by omega) d2 hnot (fun _ => trivial) HRO0.out (by omega)
                refine wpOp_go rfl (fun K' hK => ?_)
                simp only [d3]
                refine (if_pos rfl).mpr ?_
                refine wp_app (.tmp 27) (.tmp 28) 24 rfl _ _ v' w9 rfl rfl r ?_
                exact hK.out _ _ ⟨_, by simp [Act.put, updV, slG, d3], h'⟩
              · clear hlt
                clear hdep
                refine wpOp_go rfl (fun K' hK => ?_)
                go_simp
                exact hK.out _ _ ⟨_, by simp [updV, slG], h.put slG_inj 5 (by omega) _ (Below.refl _ _) rfl⟩
              · clear hlt
                clear hdep
                refine wpOp_go rfl (fun K' hK => ?_)
                go_simp
                exact hK.out _ _ ⟨_, by simp [updV, slG], h.put slG_inj 6 (by omega) _ (Below.refl _ _) rfl⟩
              · clear hlt
                have d5 : x 30 = Value.slice (some ⟨rb, ro, none⟩) n rc := h.pure 5 (hdep _ rfl ⟨5, .data⟩ (by simp) rfl)
                have d6 : x 31 = .int .i64 i := h.pure 6 (hdep _ rfl ⟨6, .data⟩ (by simp) rfl)
                clear hdep
                refine wpOp_go rfl (fun K' hK => ?_)
                simp only [d5, d6]
                go_simp
                exact hK.out _ _ ⟨_, by simp [updV, slG, d5, d6], h.put slG_inj 7 (by omega) _ (Below.refl _ _) rfl⟩
              · clear hlt
                have d7 : x 32 = .pointer (some ⟨rb, ro + i, none⟩) := h.pure 7 (hdep _ rfl ⟨7, .data⟩ (by simp) rfl)
                clear hdep
                refine wpOp_go rfl (fun K' hK => ?_)
                simp only [d7]
                go_simp
                exact hK.out _ _ ⟨_, by simp [updV, slG, d7], h.put slG_inj 8 (by omega) _ (Below.refl _ _) rfl⟩
              · clear hlt
                have d8 : x 33 = .int .i64 dI := h.pure 8 (hdep _ rfl ⟨8, .data⟩ (by simp) rfl)
                clear hdep
                refine wpOp_go rfl (fun K' hK => ?_)
                simp only [d8]
                go_simp
                exact hK.out _ _ ⟨_, by simp [updV, slG, d8], h.build1 slG_inj (by omega) (by omega) hnot (fun _ => trivial)⟩
              · clear hlt
                have d4 := hdep _ rfl ⟨4, .data⟩ (by simp) rfl
                have d9 := hdep _ rfl ⟨9, .data⟩ (by simp) rfl
                clear hdep
                obtain ⟨v', w9, r, h'⟩ := h.app2 slG_inj (by omega) (by omega) d4 d9 hnot (fun _ => trivial) (by omega)
                refine wpOp_go rfl (fun K' hK => ?_)
                refine (if_pos rfl).mpr ?_
                refine wp_app (.tmp 29) (.tmp 34) 24 rfl _ _ v' w9 rfl rfl r ?_
                exact hK.out _ _ ⟨_, by simp [Act.put, updV, slG], h'⟩
              · clear hlt
                have d0 : x 25 = Value.agg #[Value.slice na n1 nc, .int .i64 g.thr, .bool g.idx, Value.slice pa n2 pc, Value.slice sa n3 sc] := h.pure 0 (hdep _ rfl ⟨0, .data⟩ (by simp) rfl)
                have d1 : x 26 = Value.slice ao n4 c4 := h.pure 1 (hdep _ rfl ⟨1, .data⟩ (by simp) rfl)
                have d10 := hdep _ rfl ⟨10, .data⟩ (by simp) rfl
                clear hdep
                have hrd := (h.app.f10 d10).reads (by rw [List.length_append, List.length_singleton]; omega)
                have HRD := Lib.hid hrd
                have B7 := Lib.hid (b6.trans (hbw.mono b6.size))
                refine wpOp_go rfl (fun K' hK => ?_)
                simp only [d0, d1]
                clear hrd
                go_simp
                go_at_call 32
                refine (C32.out _ _ _ (HG.out.below B7.out) (HV.out.below B7.out) HRD.out).mono ?_
                rintro e w9 ⟨rfl, hb9⟩
                go_wp2_with fail
                exact hK.out _ _ ⟨_, by simp [updV, slG, d0, d1], h.put slG_inj 11 (by omega) _ hb9 rfl⟩
              · clear hlt
                have d11 : x 36 = .int .i64 (sumR g hs (out ++ [dI])) := h.pure 11 (hdep _ rfl ⟨11, .data⟩ (by simp) rfl)
                clear hdep
                refine wpOp_go rfl (fun K' hK => ?_)
                simp only [d11]
                go_simp
                exact hK.out _ _ ⟨_, by simp [updV, slG, d11], h.put slG_inj 12 (by omega) _ (Below.refl _ _) rfl⟩
            · rintro l a w' hl0 ⟨x, rfl, h⟩ hr
              have dn : ∀ k, k < 13 → l.getD k false = true := all_listed hl0 (by decide +kernel) hr
              have d12 : x 10 = .int .i64 (sumR g hs (out ++ [dI])) := h.pure 12 (dn 12 (by omega))
              have hbw := h.app.below
              have hwz := hbw.size
              obtain ⟨q0, _⟩ := CELLS.out
              have q0 := (hbw.cell (cell_lt q0)).trans q0
              have B7 := hbd.trans (hbw.mono hbd.size)
              clear dn hr h hl0
              simp only [d12]
              clear d12
              have hst : pickG g L set (i + 1) = if set / 2 ^ i % 2 = 1 then pickG g L set i else if (pickG g L set i).1 = 0 ∨ sumL g L (set ||| 2 ^ i) < (pickG g L set i).2 then (2 ^ i, sumL g L (set ||| 2 ^ i)) else pickG g L set i := rfl
              have hsum : sumL g L (set ||| 2 ^ i) = sumR g hs (out ++ [dI]) := by
                rw [← HDQ.out, ← HSO.out, ← HNN.out, ← setN_one HSD.out (show i < L.length by rw [HNN.out]; exact hin), setN_app, sumL_eq HOK.out HP.out]
              have hbit : (set / 2 ^ i % 2 = 1) ↔ dI ∈ out := by
                rw [bit_test, ← HSO.out, setN_bit, decide_eq_true_eq, HDQ.out]
                exact ⟨fun h => h.2, fun h => ⟨hin, h⟩⟩
              rw [hsum] at hst
              have C37 := Lib.hid (contains_any _ out dI w' (HRO0.out.below hbw))
              have HST := Lib.hid hst
              have hpz : ∀ q, (2 : Nat) ^ q ≠ 0 := fun q => Nat.ne_of_gt Nat.one_le_two_pow
              clear hst hsum CELLS hbw
              by_cases hq : dI ∈ out
              · have c37 := C37.out
                rw [decide_eq_true hq] at c37
                have C37' := Lib.hid c37
                have hst := HST.out
                rw [if_pos (hbit.2 hq)] at hst
                have HST2 := Lib.hid hst
                clear hst hbit c37 C37 hq HST
                go_wp2_with fail
                refine C37'.out.mono ?_
                rintro e w5 ⟨rfl, rfl⟩
                go_wp2
                go_roundg g2
                case measure => omega
                case rel => exact ⟨i + 1, by omega, by go_num, by rw [HST2.out]; rcases hv7 with h | ⟨q, h1, h2⟩; exact .inl h; exact .inr ⟨q, by omega, h2⟩, by rw [HST2.out], B7⟩
              · have c37 := C37.out
                rw [decide_eq_false hq] at c37
                have C37' := Lib.hid c37
                have hst := HST.out
                rw [if_neg (fun h => hq (hbit.1 h))] at hst
                have HST2 := Lib.hid hst
                clear hst hbit c37 C37 hq HST
                rcases hv7 with ⟨hz, rfl⟩ | ⟨q, hq1, hq2, rfl⟩
                · have hst := HST2.out
                  rw [if_pos (.inl hz)] at hst
                  have HST3 := Lib.hid hst
                  clear hst HST2
                  generalize sumR g hs (out ++ [dI]) = t at *
                  generalize pickG g L set i = cl at *
                  go_wp2_with fail
                  refine C37'.out.mono ?_
                  rintro e w5 ⟨rfl, rfl⟩
                  go_wp2
                  go_roundg g2
                  case measure => omega
                  case rel => exact ⟨i + 1, by omega, by go_num, .inr ⟨i, by omega, by rw [HST3.out], by rw [HDQ.out]⟩, by rw [HST3.out], B7⟩
                · have hpn := hpz q
                  rw [← hq2] at hpn
                  have hdq0 : 0 ≤ (L.getD q default).dev := by
                    have hql : q < L.length := by rw [HNN.out]; omega
                    rw [getD_at _ _ _ hql]
                    exact (HOK.out.2.2.2.2 _ ((HP.out.mem_iff).1 (List.getElem_mem hql))).1.1
                  have k2 : decide ((L.getD q default).dev < 0) = false := decide_eq_false (by omega)
                  have HQ2 := Lib.hid hq2
                  clear hq2
                  generalize sumR g hs (out ++ [dI]) = t at *
                  generalize pickG g L set i = cl at *
                  by_cases hlt : t < cl.2
                  · have hst := HST2.out
                    rw [if_pos (.inr hlt)] at hst
                    have HST3 := Lib.hid hst
                    have k3 : decide (t < cl.2) = true := decide_eq_true hlt
                    clear hst HST2
                    go_wp2_with fail
                    refine C37'.out.mono ?_
                    rintro e w5 ⟨rfl, rfl⟩
                    go_wp2
                    go_roundg g2
                    case measure => omega
                    case rel => exact ⟨i + 1, by omega, by go_num, .inr ⟨i, by omega, by rw [HST3.out], by rw [HDQ.out]⟩, by rw [HST3.out], B7⟩
                  · have hst := HST2.out
                    rw [if_neg (fun h => h.elim hpn hlt)] at hst
                    have HST3 := Lib.hid hst
                    have k3 : decide (t < cl.2) = false := decide_eq_false hlt
                    clear hst HST2
                    go_wp2_with fail
                    refine C37'.out.mono ?_
                    rintro e w5 ⟨rfl, rfl⟩
                    go_wp2
                    go_roundg g2
                    case measure => omega
                    case rel => exact ⟨i + 1, by omega, by go_num, .inr ⟨q, by omega, by rw [HST3.out]; exact HQ2.out, rfl⟩, by rw [HST3.out], B7⟩

end Go.Proofs.Ytapjgjjmlbhanaa

/- Greedy refused; what all devices amount to. -/
namespace Go.Proofs.Ytapjgjjmlbhanaa
open Go.RowKit Go.Lib
set_option linter.unusedSimpArgs false

set_option maxRecDepth 100000 in
set_option maxHeartbeats 2000000 in
theorem greedy_bad (g : Gl) (v : Value) (hs : List Hd) (w : World) (hg : GlAt w g) (hv : ReadsH w v hs) (hok : ¬ Ok g hs) :
    Calls Try.prog 23 #[g.v, v] w fun e w' => e = .returned (.tuple #[.slice none 0 0, .int .i64 1]) ∧ Below w.heap.size w w' := by
  have cc := fun W h1 h2 => read_bad g v hs W h1 h2 hok
  obtain ⟨na, n1, nc, pa, n2, pc, sa, n3, sc, e1⟩ := hg.val
  obtain ⟨ao, n4, c4, rfl⟩ := hv.val
  rw [e1] at cc ⊢
  have CC := Lib.hid cc
  have HG := Lib.hid hg
  have HV := Lib.hid hv
  clear hg hv hok cc e1
  go_enter Try.func23, Try.ntmps23
  go_wp2_with fail
  refine (CC.out _ (HG.out.below (by (repeat' (first | (with_reducible exact Below.refl _ _) | (with_reducible assumption) | (with_reducible refine Below.alloc ?_ ?_ _) | (with_reducible refine Below.drew ?_) | (with_reducible refine below_drewN ?_ _) | (with_reducible refine Below.setCell ?_ ?_ _) | (with_reducible refine below_step ?_ (by with_reducible assumption) ?_) | go_size)))) (HV.out.below (by (repeat' (first | (with_reducible exact Below.refl _ _) | (with_reducible assumption) | (with_reducible refine Below.alloc ?_ ?_ _) | (with_reducible refine Below.drew ?_) | (with_reducible refine below_drewN ?_ _) | (with_reducible refine Below.setCell ?_ ?_ _) | (with_reducible refine below_step ?_ (by with_reducible assumption) ?_) | go_size))))).mono ?_
  rintro e w1 ⟨rfl, hb⟩
  go_wp2
  go_ret2
  exact ⟨rfl, by (repeat' (first | (with_reducible exact Below.refl _ _) | (with_reducible assumption) | (with_reducible refine Below.alloc ?_ ?_ _) | (with_reducible refine Below.drew ?_) | (with_reducible refine below_drewN ?_ _) | (with_reducible refine Below.setCell ?_ ?_ _) | (with_reducible refine below_step ?_ (by with_reducible assumption) ?_) | go_size))⟩

theorem setN_all {L : List Hd} : setN (L.map Hd.dev) L L.length = 2 ^ L.length - 1 := by
  refine Nat.eq_of_testBit_eq fun m => ?_
  rw [setN_bit, Nat.testBit_two_pow_sub_one, Bool.eq_iff_iff]
  simp only [decide_eq_true_eq]
  refine ⟨fun h => h.1, fun h => ⟨h, ?_⟩⟩
  rw [getD_at _ _ _ h]
  exact List.mem_map_of_mem (List.getElem_mem h)
theorem sufB_all {g : Gl} {hs L : List Hd} (hok : Ok g hs) (hp : L.Perm hs) (hsd : (L.map Hd.dev).Pairwise (· < ·)) : sufB g L (2 ^ L.length - 1) = decide (sumR g hs (devsOf hs) = 0) := by
  unfold sufB
  rw [← setN_all, sumL_eq hok hp, devsOf_eq hok.2.2.2 hp hsd]
theorem sufE_short {g : Gl} {hs L : List Hd} (hok : Ok g hs) (hp : L.Perm hs) (hsd : (L.map Hd.dev).Pairwise (· < ·)) : sufE g hs = if sufB g L (2 ^ L.length - 1) = true then 0 else 10 := by
  unfold sufE
  rw [if_pos hok, sufB_all hok hp hsd]
  have := sumR_bd hok (devsOf hs)
  by_cases h : sumR g hs (devsOf hs) = 0
  · rw [if_neg (by omega), if_pos (by rw [decide_eq_true h])]
  · rw [if_pos (by omega), if_neg (by rw [decide_eq_false h]; simp)]

theorem greedyL_len (g : Gl) (L : List Hd) (hl : L.length ≤ 12) : (greedyL g L).length ≤ 144 := by
  have : ∀ f set, (grd g L f set).length ≤ 12 * f := by
    intro f
    induction f with
    | zero => intro set; exact Nat.le_refl _
    | succ f ih =>
      intro set
      unfold grd
      split
      · simp
      · rw [List.length_append]
        have h1 := ih (set ||| (pickG g L set L.length).1)
        have h2 := devL_le L (pickG g L set L.length).1
        omega
  have := this L.length 0
  unfold greedyL
  omega

/-- What Greedy answers, both ways. -/
theorem greedy_two (g : Gl) (v : Value) (hs : List Hd) (w : World) (hg : GlAt w g) (hv : ReadsH w v hs) (hok : Ok g hs) :
    Calls Try.prog 23 #[g.v, v] w fun e w' => ∃ (L : List Hd) (u : Value) (out : List Int), L.Perm hs ∧ (L.map Hd.dev).Pairwise (· < ·) ∧ e = .returned (.tuple #[u, .int .i64 (sufE g hs)]) ∧ ReadsI w' u out ∧ out.length ≤ 144 ∧
      (sufE g hs = 10 ∧ out = [] ∨ sufE g hs = 0 ∧ sufB g L (2 ^ L.length - 1) = true ∧ out = greedyL g L) ∧ Below w.heap.size w w' := by
  refine (greedy_ok g v hs w hg hv hok).mono ?_
  rintro e w' ⟨L, hp, hsd, ⟨h1, rfl, hb⟩ | ⟨h1, u, rfl, hr, hb⟩⟩
  · have he := sufE_short hok hp hsd
    rw [h1, if_neg (by simp)] at he
    exact ⟨L, _, [], hp, hsd, by rw [he], (OwnI.nil w' 0).reads (by simp), by simp, .inl ⟨he, rfl⟩, hb⟩
  · have he := sufE_short hok hp hsd
    rw [h1, if_pos rfl] at he
    exact ⟨L, u, _, hp, hsd, by rw [he], hr, greedyL_len g L (by have := hp.length_eq; have := hok.1.2.2; omega), .inr ⟨he, h1, rfl⟩, hb⟩

theorem pickG_nv (g : Gl) (u : Value) (L : List Hd) (set : Nat) : ∀ i, pickG { g with nv := u } L set i = pickG g L set i
  | 0 => rfl
  | i + 1 => by
    unfold pickG
    rw [pickG_nv g u L set i]
    rfl
theorem grd_nv (g : Gl) (u : Value) (L : List Hd) : ∀ f set, grd { g with nv := u } L f set = grd g L f set
  | 0, _ => rfl
  | f + 1, set => by
    unfold grd
    rw [pickG_nv, grd_nv g u L f]
    rfl
theorem greedyL_nv (g : Gl) (u : Value) (L : List Hd) : greedyL { g with nv := u } L = greedyL g L := grd_nv g u L _ _

end Go.Proofs.Ytapjgjjmlbhanaa
