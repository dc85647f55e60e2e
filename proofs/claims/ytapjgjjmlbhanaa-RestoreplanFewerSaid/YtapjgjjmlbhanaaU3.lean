/- Cheapest, walked. -/
import Derived.Test.YtapjgjjmlbhanaaU1
import Derived.Laws.EntriesVeiled
namespace Go.Proofs.Ytapjgjjmlbhanaa
open Go.RowKit Go.Lib
set_option linter.unusedSimpArgs false

/-- What Cheapest answers. -/
def CheapPost (g : Gl) (L : List Hd) (pl : List Nat) (cs : List Int) (w : World) (e : Ending) (w' : World) : Prop :=
  (suffL g L = [] ∧ e = .returned (.tuple #[.slice none 0 0, .int .i64 0, .int .i64 10]) ∧ Below w.heap.size w w') ∨
  (suffL g L ≠ [] ∧ ∃ u, e = .returned (.tuple #[u, .int .i64 (costS pl cs (chL pl cs (suffL g L))), .int .i64 0]) ∧ ReadsI w' u (devL L (chL pl cs (suffL g L))) ∧ Below w.heap.size w w')

theorem csOk_take {cs : List Int} (k : Nat) (h : k < cs.length) : CsOk (cs.take (k + 1)) ↔ CsOk (cs.take k) ∧ (0 ≤ cs.getD k 0 ∧ cs.getD k 0 ≤ 1099511627776) := by
  unfold CsOk
  rw [List.take_succ_eq_append_getElem h, getD_at _ _ _ h]
  constructor
  · intro hh
    exact ⟨fun c hc => hh c (List.mem_append_left _ hc), hh _ (List.mem_append_right _ (List.mem_singleton.2 rfl))⟩
  · rintro ⟨h1, h2⟩ c hc
    rw [List.mem_append, List.mem_singleton] at hc
    rcases hc with hc | rfl
    · exact h1 c hc
    · exact h2
theorem csOk_no {cs : List Int} {k : Nat} (h : ¬ (0 ≤ cs.getD k 0 ∧ cs.getD k 0 ≤ 1099511627776)) : ¬ CsOk cs := fun hh => h (hh.at k)

set_option maxRecDepth 100000 in
set_option maxHeartbeats 4000000 in
theorem cheapest_bad (g : Gl) (v cv : Value) (hs : List Hd) (cs : List Int) (w : World) (hg : GlAt w g) (hv : ReadsH w v hs) (hc : ReadsI w cv cs) (hok : ¬ Ok g hs) :
    Calls Try.prog 24 #[g.v, v, cv] w fun e w' => e = .returned (.tuple #[.slice none 0 0, .int .i64 0, .int .i64 1]) ∧ Below w.heap.size w w' := by
  have cc := fun W h1 h2 => read_bad g v hs W h1 h2 hok
  obtain ⟨na, n1, nc, pa, n2, pc, sa, n3, sc, e1⟩ := hg.val
  obtain ⟨ao, n4, c4, rfl⟩ := hv.val
  obtain ⟨cao, ccp, _, _, rfl, _⟩ := hc.at
  rw [e1] at cc ⊢
  have CC := Lib.hid cc
  have HG := Lib.hid hg
  have HV := Lib.hid hv
  clear hg hv hok cc e1
  go_enter Try.func24, Try.ntmps24
  go_wp2_with fail
  refine (CC.out _ (HG.out.below (by (repeat' (first | (with_reducible exact Below.refl _ _) | (with_reducible assumption) | (with_reducible refine Below.alloc ?_ ?_ _) | (with_reducible refine Below.drew ?_) | (with_reducible refine below_drewN ?_ _) | (with_reducible refine Below.setCell ?_ ?_ _) | (with_reducible refine below_step ?_ (by with_reducible assumption) ?_) | go_size)))) (HV.out.below (by (repeat' (first | (with_reducible exact Below.refl _ _) | (with_reducible assumption) | (with_reducible refine Below.alloc ?_ ?_ _) | (with_reducible refine Below.drew ?_) | (with_reducible refine below_drewN ?_ _) | (with_reducible refine Below.setCell ?_ ?_ _) | (with_reducible refine below_step ?_ (by with_reducible assumption) ?_) | go_size))))).mono ?_
  rintro e w1 ⟨rfl, hb⟩
  have z := hb.size
  rw [World.size_alloc, World.size_alloc] at z
  go_wp2
  go_ret3
  exact ⟨rfl, by (repeat' (first | (with_reducible exact Below.refl _ _) | (with_reducible assumption) | (with_reducible refine Below.alloc ?_ ?_ _) | (with_reducible refine Below.drew ?_) | (with_reducible refine below_drewN ?_ _) | (with_reducible refine Below.setCell ?_ ?_ _) | (with_reducible refine below_step ?_ (by with_reducible assumption) ?_) | go_size))⟩

set_option maxRecDepth 100000 in
set_option maxHeartbeats 8000000 in
theorem cheapest_arg (g : Gl) (v cv : Value) (hs : List Hd) (cs : List Int) (w : World) (hg : GlAt w g) (hv : ReadsH w v hs) (hc : ReadsI w cv cs) (hok : Ok g hs) (hbad : ¬ (cs.length = hs.length ∧ CsOk cs)) :
    Calls Try.prog 24 #[g.v, v, cv] w fun e w' => e = .returned (.tuple #[.slice none 0 0, .int .i64 0, .int .i64 1]) ∧ Below w.heap.size w w' := by
  have HBAD := Lib.hid hbad
  clear hbad
  have cc := fun W h1 h2 => read_ok g v hs W h1 h2 hok
  obtain ⟨na, n1, nc, pa, n2, pc, sa, n3, sc, e1⟩ := hg.val
  obtain ⟨ao, c4, _, _, rfl, _⟩ := hv.at
  obtain ⟨cao, ccp, cb, coff, rfl, hcl, hcm, hccell⟩ := hc.at
  rw [e1] at cc ⊢
  have CC := Lib.hid cc
  have HG := Lib.hid hg
  have HV := Lib.hid hv
  have HCV := Lib.hid hc
  have HCC := Lib.hid hccell
  have HOK := Lib.hid hok
  clear hg hv hok cc e1 hc hccell
  have b0 : Below w.heap.size w (w.alloc (.cells #[.slice na n1 nc, .int .i64 g.thr, .bool g.idx, .slice pa n2 pc, .slice sa n3 sc] 26)) := (Below.refl _ _).alloc (Nat.le_refl _) _
  have g0 := heap_alloc_last w (.cells #[.slice na n1 nc, .int .i64 g.thr, .bool g.idx, .slice pa n2 pc, .slice sa n3 sc] 26)
  obtain ⟨Wa, hWa⟩ : ∃ Wa, Wa = w.alloc (.cells #[.slice na n1 nc, .int .i64 g.thr, .bool g.idx, .slice pa n2 pc, .slice sa n3 sc] 26) := ⟨_, rfl⟩
  have sWa : Wa.heap.size = w.heap.size + 1 := by rw [hWa]; exact World.size_alloc ..
  rw [← hWa] at b0 g0
  obtain ⟨Wb, hWb⟩ : ∃ Wb, Wb = Wa.alloc (.cells #[.slice cao cs.length ccp] 24) := ⟨_, rfl⟩
  have b1 : Below w.heap.size w Wb := by rw [hWb]; exact b0.alloc b0.size _
  have ba : Below Wa.heap.size Wa Wb := by rw [hWb]; exact (Below.refl _ _).alloc (Nat.le_refl _) _
  have cC : Wb.heap[Wa.heap.size]? = some (.cells #[.slice cao cs.length ccp] 24) := by rw [hWb]; exact heap_alloc_last _ _
  have hG := (ba.block w.heap.size (by omega)).trans g0
  obtain ⟨G, hGG⟩ : ∃ G, G = w.heap.size := ⟨_, rfl⟩
  obtain ⟨C, hCC⟩ : ∃ C, C = Wa.heap.size := ⟨_, rfl⟩
  rw [← hGG] at hG
  rw [← hCC] at cC
  have HWa := Lib.hid hWa
  have HWb := Lib.hid hWb
  have HGG := Lib.hid hGG
  have HCX := Lib.hid hCC
  have GW := Lib.hid hG
  have CW := Lib.hid cC
  have SWA := Lib.hid sWa
  clear hWa hWb hGG hCC hG cC g0 sWa ba
  go_enter Try.func24, Try.ntmps24
  go_upto_region 1 with fail
  try simp only [← HWa.out]
  try simp only [← SWA.out]
  try simp only [← HCX.out]
  try simp only [← HWb.out]
  try simp only [← HGG.out]
  have a0 := cell_of_row _ _ 0 _ _ _ GW.out
  have a1 := cell_of_row _ _ 1 _ _ _ GW.out
  have a2 := cell_of_row _ _ 2 _ _ _ GW.out
  have a3 := cell_of_row _ _ 3 _ _ _ GW.out
  have a4 := cell_of_row _ _ 4 _ _ _ GW.out
  have a5 := cell_of_row _ _ 0 _ _ _ CW.out
  simp only [List.getElem?_toArray, List.getElem?_cons_zero, List.getElem?_cons_succ] at a0 a1 a2 a3 a4 a5
  clear HWa HWb SWA b0
  go_wp2_with fail
  refine (CC.out _ (HG.out.below b1) (HV.out.below b1)).mono ?_
  rintro e w1 ⟨b, x, pl, L, rfl, hpo, hb⟩
  have hw1 := b1.trans (hb.mono b1.size)
  have CW1 := Lib.hid ((hb.block C (Array.getElem?_eq_some_iff.1 CW.out).1).trans CW.out)
  have PO1 := Lib.hid hpo
  clear a0 a1 a2 a3 a4 a5 hb CC GW CW hpo
  obtain ⟨w2, hw2⟩ : ∃ w2, w2 = w1.alloc (.cells #[.pointer (some ⟨b, 0, none⟩)] 91) := ⟨_, rfl⟩
  have b12 : Below w1.heap.size w1 w2 := by rw [hw2]; exact (Below.refl _ _).alloc (Nat.le_refl _) _
  have cP : w2.heap[w1.heap.size]? = some (.cells #[.pointer (some ⟨b, 0, none⟩)] 91) := by rw [hw2]; exact heap_alloc_last _ _
  obtain ⟨P, hP⟩ : ∃ P, P = w1.heap.size := ⟨_, rfl⟩
  rw [← hP] at cP
  have HW2 := Lib.hid hw2
  have HP := Lib.hid hP
  have CP := Lib.hid cP
  have hw02 := hw1.trans (b12.mono hw1.size)
  have CW2 := Lib.hid ((b12.block C (Array.getElem?_eq_some_iff.1 CW1.out).1).trans CW1.out)
  have PO2 := Lib.hid (PO1.out.below b12)
  have HC2 := Lib.hid (HCV.out.below hw02)
  clear hw2 hP cP CW1
  go_upto_region 2 with fail
  simp only [← HP.out, ← HW2.out]
  have a5 := cell_of_row _ _ 0 _ _ _ CW2.out
  have a6 := cell_of_row _ _ 0 _ _ _ CP.out
  simp only [List.getElem?_toArray, List.getElem?_cons_zero, List.getElem?_cons_succ] at a5 a6
  clear HP HW2 b12 hw1 PO1
  have hcells : ∀ i, i < cs.length → cao = some ⟨cb, coff, none⟩ ∧ w2.cell? ⟨cb, coff + i, none⟩ = some (.int .i64 (cs.getD i 0)) := fun i hi => by
    obtain ⟨h1, h2⟩ := HCC.out i hi
    exact ⟨h1, (hw02.cell (cell_lt h2)).trans h2⟩
  have HCL := Lib.hid hcells
  clear hcells HCC
  by_cases hlen : cs.length = hs.length
  · have hno := fun h => HBAD.out ⟨hlen, h⟩
    have HNO := Lib.hid hno
    rw [hlen] at a5 ⊢
    have hnn : ((hs.length : Int) != (hs.length : Int)) = false := by simp
    have HLEN := Lib.hid hlen
    rw [hlen] at HCL
    clear hno hlen HCV HC2 CW2 hcl hcm
    generalize hhl : hs.length = hl at *
    have HHL := Lib.hid hhl
    clear hhl
    go_wp2
    go_loopg [12, 32] hl (fun gk v12 v32 wx => ∃ k : Nat, k + gk = hl ∧ v32 = .int .i64 k ∧ wx = w2 ∧ CsOk (cs.take k))
    case atStart => exact ⟨0, by omega, rfl, rfl, fun c hc => by simp at hc⟩
    case round =>
      obtain ⟨k, hk, rfl, rfl, hck⟩ := hrel
      cases gk with
      | zero =>
        exfalso
        obtain rfl : k = hl := by omega
        rw [← HLEN.out, List.take_length] at hck
        exact HNO.out hck
      | succ go =>
        have hkl : k < hl := by omega
        obtain ⟨rfl, hq⟩ := HCL.out k hkl
        have htk := csOk_take (cs := cs) k (by rw [HLEN.out]; exact hkl)
        have HTK := Lib.hid htk
        clear htk
        generalize cs.getD k 0 = c at *
        by_cases h0 : c < 0
        · have k1 : decide (c < 0) = true := decide_eq_true h0
          go_wp2
          go_ret3
          exact ⟨rfl, hw02⟩
        · have k1 : decide (c < 0) = false := decide_eq_false h0
          by_cases h1 : c > 1099511627776
          · have k2 : decide (c > 1099511627776) = true := decide_eq_true h1
            go_wp2
            go_ret3
            exact ⟨rfl, hw02⟩
          · have k2 : decide (c > 1099511627776) = false := decide_eq_false h1
            have HN := Lib.hid (HTK.out.2 ⟨hck, by omega, by omega⟩)
            clear hck
            go_wp2
            go_roundg go
            case measure => omega
            case rel => exact ⟨k + 1, by omega, by go_num, rfl, HN.out⟩
  · have hnn : ((cs.length : Int) != (hs.length : Int)) = true := by simp; omega
    clear HCV HC2
    go_wp2
    go_ret3
    exact ⟨rfl, hw02⟩

set_option maxRecDepth 100000 in
set_option maxHeartbeats 16000000 in
theorem cheapest_ok (g : Gl) (v cv : Value) (hs : List Hd) (cs : List Int) (w : World) (hg : GlAt w g) (hv : ReadsH w v hs) (hc : ReadsI w cv cs) (hok : Ok g hs) (hlen : cs.length = hs.length) (hcs : CsOk cs) :
    Calls Try.prog 24 #[g.v, v, cv] w fun e w' => ∃ (L : List Hd) (pl : List Nat), L.Perm hs ∧ pl.Perm (List.range hs.length) ∧ L = (pl.map fun i => hs.getD i default) ∧ (L.map Hd.dev).Pairwise (· < ·) ∧ CheapPost g L pl cs w e w' := by
  have HCS := Lib.hid hcs
  have HLEN := Lib.hid hlen
  clear hcs hlen
  have cc := fun W h1 h2 => read_ok g v hs W h1 h2 hok
  obtain ⟨na, n1, nc, pa, n2, pc, sa, n3, sc, e1⟩ := hg.val
  obtain ⟨ao, c4, _, _, rfl, _⟩ := hv.at
  obtain ⟨cao, ccp, cb, coff, rfl, hcl, hcm, hccell⟩ := hc.at
  rw [e1] at cc ⊢
  have CC := Lib.hid cc
  have HG := Lib.hid hg
  have HV := Lib.hid hv
  have HCV := Lib.hid hc
  have HCC := Lib.hid hccell
  have HOK := Lib.hid hok
  clear hg hv hok cc e1 hc hccell
  have b0 : Below w.heap.size w (w.alloc (.cells #[.slice na n1 nc, .int .i64 g.thr, .bool g.idx, .slice pa n2 pc, .slice sa n3 sc] 26)) := (Below.refl _ _).alloc (Nat.le_refl _) _
  have g0 := heap_alloc_last w (.cells #[.slice na n1 nc, .int .i64 g.thr, .bool g.idx, .slice pa n2 pc, .slice sa n3 sc] 26)
  obtain ⟨Wa, hWa⟩ : ∃ Wa, Wa = w.alloc (.cells #[.slice na n1 nc, .int .i64 g.thr, .bool g.idx, .slice pa n2 pc, .slice sa n3 sc] 26) := ⟨_, rfl⟩
  have sWa : Wa.heap.size = w.heap.size + 1 := by rw [hWa]; exact World.size_alloc ..
  rw [← hWa] at b0 g0
  obtain ⟨Wb, hWb⟩ : ∃ Wb, Wb = Wa.alloc (.cells #[.slice cao cs.length ccp] 24) := ⟨_, rfl⟩
  have b1 : Below w.heap.size w Wb := by rw [hWb]; exact b0.alloc b0.size _
  have ba : Below Wa.heap.size Wa Wb := by rw [hWb]; exact (Below.refl _ _).alloc (Nat.le_refl _) _
  have cC : Wb.heap[Wa.heap.size]? = some (.cells #[.slice cao cs.length ccp] 24) := by rw [hWb]; exact heap_alloc_last _ _
  have hG := (ba.block w.heap.size (by omega)).trans g0
  obtain ⟨G, hGG⟩ : ∃ G, G = w.heap.size := ⟨_, rfl⟩
  obtain ⟨C, hCC⟩ : ∃ C, C = Wa.heap.size := ⟨_, rfl⟩
  rw [← hGG] at hG
  rw [← hCC] at cC
  have HWa := Lib.hid hWa
  have HWb := Lib.hid hWb
  have HGG := Lib.hid hGG
  have HCX := Lib.hid hCC
  have GW := Lib.hid hG
  have CW := Lib.hid cC
  have SWA := Lib.hid sWa
  clear hWa hWb hGG hCC hG cC g0 sWa ba
  go_enter Try.func24, Try.ntmps24
  go_upto_region 1 with fail
  try simp only [← HWa.out]
  try simp only [← SWA.out]
  try simp only [← HCX.out]
  try simp only [← HWb.out]
  try simp only [← HGG.out]
  have a0 := cell_of_row _ _ 0 _ _ _ GW.out
  have a1 := cell_of_row _ _ 1 _ _ _ GW.out
  have a2 := cell_of_row _ _ 2 _ _ _ GW.out
  have a3 := cell_of_row _ _ 3 _ _ _ GW.out
  have a4 := cell_of_row _ _ 4 _ _ _ GW.out
  have a5 := cell_of_row _ _ 0 _ _ _ CW.out
  simp only [List.getElem?_toArray, List.getElem?_cons_zero, List.getElem?_cons_succ] at a0 a1 a2 a3 a4 a5
  clear HWa HWb SWA b0
  go_wp2_with fail
  refine (CC.out _ (HG.out.below b1) (HV.out.below b1)).mono ?_
  rintro e w1 ⟨b, x, pl, L, rfl, hpo, hb⟩
  have hw1 := b1.trans (hb.mono b1.size)
  have CW1 := Lib.hid ((hb.block C (Array.getElem?_eq_some_iff.1 CW.out).1).trans CW.out)
  have PO1 := Lib.hid hpo
  clear a0 a1 a2 a3 a4 a5 hb CC GW CW hpo
  obtain ⟨w2, hw2⟩ : ∃ w2, w2 = w1.alloc (.cells #[.pointer (some ⟨b, 0, none⟩)] 91) := ⟨_, rfl⟩
  have b12 : Below w1.heap.size w1 w2 := by rw [hw2]; exact (Below.refl _ _).alloc (Nat.le_refl _) _
  have cP : w2.heap[w1.heap.size]? = some (.cells #[.pointer (some ⟨b, 0, none⟩)] 91) := by rw [hw2]; exact heap_alloc_last _ _
  obtain ⟨P, hP⟩ : ∃ P, P = w1.heap.size := ⟨_, rfl⟩
  rw [← hP] at cP
  have HW2 := Lib.hid hw2
  have HP := Lib.hid hP
  have CP := Lib.hid cP
  have hw02 := hw1.trans (b12.mono hw1.size)
  have CW2 := Lib.hid ((b12.block C (Array.getElem?_eq_some_iff.1 CW1.out).1).trans CW1.out)
  have PO2 := Lib.hid (PO1.out.below b12)
  have HC2 := Lib.hid (HCV.out.below hw02)
  clear hw2 hP cP CW1
  go_upto_region 2 with fail
  simp only [← HP.out, ← HW2.out]
  have a5 := cell_of_row _ _ 0 _ _ _ CW2.out
  have a6 := cell_of_row _ _ 0 _ _ _ CP.out
  simp only [List.getElem?_toArray, List.getElem?_cons_zero, List.getElem?_cons_succ] at a5 a6
  clear HP HW2 b12 hw1 PO1
  have hcells : ∀ i, i < cs.length → cao = some ⟨cb, coff, none⟩ ∧ w2.cell? ⟨cb, coff + i, none⟩ = some (.int .i64 (cs.getD i 0)) := fun i hi => by
    obtain ⟨h1, h2⟩ := HCC.out i hi
    exact ⟨h1, (hw02.cell (cell_lt h2)).trans h2⟩
  have HCL := Lib.hid hcells
  clear hcells HCC
  have hl12 : L.length ≤ 12 := by have := PO2.out.len; have := HOK.out.1.2.2; omega
  have hh12 := HOK.out.1.2.2
  have hp12 := two12 hl12
  have C50 := Lib.hid (sufficient_plan HOK.out PO2.out)
  have z2 := hw02.size
  have hlen := HLEN.out
  rw [hlen] at a5 ⊢
  rw [hlen] at HCL HC2 CW2
  have hnn : ((hs.length : Int) != (hs.length : Int)) = false := by simp
  clear hlen HCV hcl hcm
  generalize hhl : hs.length = hl at *
  have HHL := Lib.hid hhl
  clear hhl
  go_wp2
  clear hnn
  go_loopg [12, 32] hl (fun gk v12 v32 wx => ∃ k : Nat, k + gk = hl ∧ v32 = .int .i64 k ∧ wx = w2)
  case atStart => exact ⟨0, by omega, rfl, rfl⟩
  case round =>
    obtain ⟨k, hk, rfl, rfl⟩ := hrel
    cases gk with
    | succ go =>
      have hkl : k < hl := by omega
      obtain ⟨rfl, hq⟩ := HCL.out k hkl
      have hb := HCS.out.at k
      generalize cs.getD k 0 = c at *
      have k1 : decide (c < 0) = false := decide_eq_false (by omega)
      have k2 : decide (c > 1099511627776) = false := decide_eq_false (by omega)
      go_wp2
      go_roundg go
      case measure => omega
      case rel => exact ⟨k + 1, by omega, by go_num, rfl⟩
    | zero =>
      obtain rfl : k = hl := by omega
      go_wp2_with fail
      refine C50.out.mono ?_
      rintro e w3 ⟨u, rfl, ho, hb3⟩
      have hw3 : Below w.heap.size w w3 := hw02.trans (hb3.mono z2)
      have z3 := hw3.size
      have hln := suffL_len g L
      have hlt := suffL_lt (g := g) (L := L)
      obtain ⟨Q, hQ⟩ : ∃ Q, Q = suffL g L := ⟨_, rfl⟩
      rw [← hQ] at ho hln hlt
      have HQ := Lib.hid hQ
      clear hQ
      have hri : ReadsI w3 u (castN Q) := ho.reads (by rw [List.length_map]; omega)
      obtain ⟨ua, uc, ub, uoff, rfl, hul, hum, _⟩ := hri.at
      have hcq : (castN Q).length = Q.length := List.length_map ..
      rw [hcq] at hul hum hri ⊢
      have HRI := Lib.hid hri
      have PO3 := Lib.hid (PO2.out.below hb3)
      have CP3 := Lib.hid ((hb3.block P (Array.getElem?_eq_some_iff.1 CP.out).1).trans CP.out)
      have CW3 := Lib.hid ((hb3.block C (Array.getElem?_eq_some_iff.1 CW2.out).1).trans CW2.out)
      have HC3 := Lib.hid (HC2.out.below hb3)
      clear ho hri hb3 a5 a6 C50 CP CW2 PO2 HC2 hcq
      by_cases hq0 : Q = []
      · subst hq0
        clear hln hul hum hlt
        go_wp2_with fail
        go_ret3
        exact ⟨L, pl, PO3.out.permL, PO3.out.perm, PO3.out.isList, PO3.out.sorted, .inl ⟨HQ.out.symm, rfl, hw3⟩⟩
      · have hql : 0 < Q.length := List.length_pos_iff.2 hq0
        have hq1 : ((Q.length : Int) == 0) = false := by simp; omega
        have hall : ∀ a ∈ Q, a < 4096 := fun a ha => by have := hlt a ha; omega
        have HALL := Lib.hid hall
        have HQ0 := Lib.hid hq0
        obtain ⟨w4, hw4⟩ : ∃ w4, w4 = w3.alloc (.cells #[.func (.func 55) #[] #[.pointer (some ⟨P, 0, none⟩), .pointer (some ⟨C, 0, none⟩)]] 119) := ⟨_, rfl⟩
        have b34 : Below w3.heap.size w3 w4 := by rw [hw4]; exact (Below.refl _ _).alloc (Nat.le_refl _) _
        obtain ⟨F, hF⟩ : ∃ F, F = w3.heap.size := ⟨_, rfl⟩
        have cF : w4.heap[F]? = some (.cells #[.func (.func 55) #[] #[.pointer (some ⟨P, 0, none⟩), .pointer (some ⟨C, 0, none⟩)]] 119) := by rw [hw4, hF]; exact heap_alloc_last _ _
        have HF := Lib.hid hF
        have HW4 := Lib.hid hw4
        have CF := Lib.hid cF
        have hpc := (b34.block P (Array.getElem?_eq_some_iff.1 CP3.out).1).trans CP3.out
        have hcc := (b34.block C (Array.getElem?_eq_some_iff.1 CW3.out).1).trans CW3.out
        have a6 := cell_of_row _ _ 0 _ _ _ hpc
        have a5 := cell_of_row _ _ 0 _ _ _ hcc
        have a7 := cell_of_row _ _ 0 _ _ _ CF.out
        simp only [List.getElem?_toArray, List.getElem?_cons_zero, List.getElem?_cons_succ] at a5 a6 a7
        have cost4 : CostW w4 P C (.slice cao k ccp) cs g hs b x pl L := ⟨PO3.out.below b34, a6, a5, HC3.out.below b34⟩
        have COST := Lib.hid cost4
        have hA6 := Lib.hid a6
        have hA7 := Lib.hid a7
        have CM := Lib.hid (minFunc_any cost4 HCS.out (by rw [HLEN.out, HHL.out]) (by rw [HHL.out]; exact hh12) F a7 _ Q (HRI.out.below b34) hq0 hall)
        have hw4' := hw3.trans (b34.mono z3)
        clear hw4 hF cF hpc hcc cost4 a6 a5 a7 hq0 hall hlt hul hum hln
        generalize hqn : Q.length = qn at *
        clear hqn
        go_upto_region 16 with fail
        simp only [← HF.out, ← HW4.out]
        have hm4 := HALL.out _ (chL_mem (pl := pl) (cs := cs) HQ0.out)
        have CDV := Lib.hid (fun (W : World) (h : Below w4.heap.size w4 W) => devices_plan HOK.out (COST.out.below h).plan (chL pl cs Q) hm4)
        have CCO := Lib.hid (fun (W : World) (h : Below w4.heap.size w4 W) => cost_any (COST.out.below h) HCS.out (by rw [HLEN.out, HHL.out]) (by rw [HHL.out]; exact hh12) (chL pl cs Q) hm4)
        clear HF HW4 hq1 hql
        go_wp2_with fail
        refine CM.out.mono ?_
        rintro e w5 ⟨rfl, q, rfl⟩
        have b5 : Below w4.heap.size w4 (w4.drewN q) := below_drewN (Below.refl _ _) q
        have hkeep : ∀ w8 : World, Below w4.heap.size w4 w8 → Below w4.heap.size w4 w8 ∧ w8.cell? ⟨P, 0, none⟩ = some (.pointer (some ⟨b, 0, none⟩)) ∧ w8.cell? ⟨F, 0, none⟩ = some (.func (.func 55) #[] #[.pointer (some ⟨P, 0, none⟩), .pointer (some ⟨C, 0, none⟩)]) := fun w8 hb =>
          ⟨hb, (hb.cell (p := ⟨P, 0, none⟩) (cell_lt hA6.out)).trans hA6.out, (hb.cell (p := ⟨F, 0, none⟩) (cell_lt hA7.out)).trans hA7.out⟩
        have HKEEP := Lib.hid hkeep
        have HHS := Lib.hid (hkeep (w4.drewN q).drew b5.drew)
        have hdl := devL_le L (chL pl cs Q)
        clear hkeep CM hm4
        generalize hcx : costS pl cs (chL pl cs Q) = cst at *
        have HCX2 := Lib.hid hcx
        generalize hcm : chL pl cs Q = m at *
        have HCM := Lib.hid hcm
        clear hcx hcm
        go_wp2
        refine wp_region_held_drew (S := fun w' => Below w4.heap.size w4 w' ∧ w'.cell? ⟨P, 0, none⟩ = some (.pointer (some ⟨b, 0, none⟩)) ∧ w'.cell? ⟨F, 0, none⟩ = some (.func (.func 55) #[] #[.pointer (some ⟨P, 0, none⟩), .pointer (some ⟨C, 0, none⟩)])) (by kernel_rfl) HHS.out (fun hHeld => ?_)
        refine wpAnyH_take (i := 0) (v := ?_) rfl (by kernel_rfl) (by kernel_rfl) (by kernel_rfl) (fun _ _ _ h => h) (Or.inl ⟨by rfl, ?_⟩) (by assumption) ?_
        rotate_left; · (intro w hSw; (try dsimp only at hSw); go_simp; try with_reducible rfl)
        try simp only [Act.put, List.getElem_toArray, List.getElem_cons_zero, List.getElem_cons_succ, List.setIfInBounds_toArray, List.set_cons_zero, List.set_cons_succ]
        refine wpAnyH_take (i := 1) (v := ?_) rfl (by kernel_rfl) (by kernel_rfl) (by kernel_rfl) (fun _ _ _ h => h) (Or.inl ⟨by rfl, ?_⟩) (by assumption) ?_
        rotate_left; · (intro w hSw; (try dsimp only at hSw); go_simp; try with_reducible rfl)
        try simp only [Act.put, List.getElem_toArray, List.getElem_cons_zero, List.getElem_cons_succ, List.setIfInBounds_toArray, List.set_cons_zero, List.set_cons_succ]
        refine wpAnyH_take (i := 3) (v := ?_) rfl (by kernel_rfl) (by kernel_rfl) (by kernel_rfl) (fun _ _ _ h => h) (Or.inl ⟨by rfl, ?_⟩) (by assumption) ?_
        rotate_left; · (intro w hSw; (try dsimp only at hSw); go_simp; try with_reducible rfl)
        try simp only [Act.put, List.getElem_toArray, List.getElem_cons_zero, List.getElem_cons_succ, List.setIfInBounds_toArray, List.set_cons_zero, List.set_cons_succ]
        refine wpAnyH_take (i := 4) (v := ?_) rfl (by kernel_rfl) (by kernel_rfl) (by kernel_rfl) (fun _ _ _ h => h) (Or.inl ⟨by rfl, ?_⟩) (by assumption) ?_
        rotate_left; · (intro w hSw; (try dsimp only at hSw); go_simp; try with_reducible rfl)
        try simp only [Act.put, List.getElem_toArray, List.getElem_cons_zero, List.getElem_cons_succ, List.setIfInBounds_toArray, List.set_cons_zero, List.set_cons_succ]
        refine wpAnyH_ready (rs := [2]) (by kernel_rfl) (by simp) ?_
        refine AllReadyH.cons rfl (fun K hK => ?_) AllReadyH.nil
        go_simp
        go_at_call 51
        refine (CDV.out _ hHeld.1).mono ?_
        rintro e w8 ⟨u8, rfl, ho8, hb8⟩
        have hr8 := ho8.reads (by omega)
        obtain ⟨da, dcp, _, _, rfl, _⟩ := hr8.at
        have H8 := Lib.hid hr8
        clear ho8 hr8
        go_wp2_with fail
        refine hK.out _ _ (HKEEP.out _ (hHeld.1.trans (hb8.mono hHeld.1.size))) (fun hNew => ?_)
        clear hb8
        clear hK K hHeld
        have hHeld := hNew
        clear hNew
        try simp only [Act.put, List.getElem_toArray, List.getElem_cons_zero, List.getElem_cons_succ, List.setIfInBounds_toArray, List.set_cons_zero, List.set_cons_succ]
        refine wpAnyH_ready (rs := [5]) (by kernel_rfl) (by simp) ?_
        refine AllReadyH.cons rfl (fun K hK => ?_) AllReadyH.nil
        go_simp
        refine (CCO.out _ hHeld.1).mono ?_
        rintro e w9 ⟨rfl, q9, rfl⟩
        go_wp2_with fail
        refine hK.out _ _ (HKEEP.out _ (below_drewN hHeld.1 q9)) (fun hNew => ?_)
        clear hK K hHeld
        have hHeld := hNew
        clear hNew
        try simp only [Act.put, List.getElem_toArray, List.getElem_cons_zero, List.getElem_cons_succ, List.setIfInBounds_toArray, List.set_cons_zero, List.set_cons_succ]
        have H9 := Lib.hid (H8.out.below (below_drewN (Below.refl _ _) q9))
        refine wpAnyH_take (i := 6) (v := ?_) rfl (by kernel_rfl) (by kernel_rfl) (by kernel_rfl) (fun _ _ _ h => h) (Or.inl ⟨by rfl, ?_⟩) (by assumption) ?_
        rotate_left; · (intro w hSw; (try dsimp only at hSw); go_simp; try with_reducible rfl)
        try simp only [Act.put, List.getElem_toArray, List.getElem_cons_zero, List.getElem_cons_succ, List.setIfInBounds_toArray, List.set_cons_zero, List.set_cons_succ]
        refine wpAnyH_take (i := 7) (v := ?_) rfl (by kernel_rfl) (by kernel_rfl) (by kernel_rfl) (fun _ _ _ h => h) (Or.inl ⟨by rfl, ?_⟩) (by assumption) ?_
        rotate_left; · (intro w hSw; (try dsimp only at hSw); go_simp; try with_reducible rfl)
        try simp only [Act.put, List.getElem_toArray, List.getElem_cons_zero, List.getElem_cons_succ, List.setIfInBounds_toArray, List.set_cons_zero, List.set_cons_succ]
        refine wpAnyH_take (i := 8) (v := ?_) rfl (by kernel_rfl) (by kernel_rfl) (by kernel_rfl) (fun _ _ _ h => h) (Or.inl ⟨by rfl, ?_⟩) (by assumption) ?_
        rotate_left; · (intro w hSw; (try dsimp only at hSw); go_simp; try with_reducible rfl)
        try simp only [Act.put, List.getElem_toArray, List.getElem_cons_zero, List.getElem_cons_succ, List.setIfInBounds_toArray, List.set_cons_zero, List.set_cons_succ]
        refine wpAnyH_done (by kernel_rfl) ?_ _
        have hbf := hw4'.trans (hHeld.1.mono hw4'.size)
        clear hHeld
        go_wp2
        go_ret3
        refine ⟨L, pl, PO3.out.permL, PO3.out.perm, PO3.out.isList, PO3.out.sorted, .inr ?_⟩
        have hne := HQ0.out
        have hcm := HCM.out
        have hcx := HCX2.out
        rw [HQ.out] at hne hcm
        refine ⟨hne, .slice da (devL L m).length dcp, ?_, ?_, hbf⟩
        · show Ending.returned (.tuple #[.slice da (devL L m).length dcp, .int .i64 cst, .int .i64 0]) = _
          rw [hcm, hcx]
        · rw [hcm]; exact H9.out

end Go.Proofs.Ytapjgjjmlbhanaa
