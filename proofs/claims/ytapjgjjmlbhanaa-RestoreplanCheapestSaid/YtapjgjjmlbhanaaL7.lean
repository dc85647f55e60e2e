/- Law Cheapest, walked. -/
import Derived.Test.YtapjgjjmlbhanaaU3
import Derived.Test.YtapjgjjmlbhanaaU4
import Derived.Test.YtapjgjjmlbhanaaK2
import Derived.Test.YtapjgjjmlbhanaaB7
namespace Go.Proofs.Ytapjgjjmlbhanaa
open Go.RowKit Go.Lib
set_option linter.unusedSimpArgs false

/-- The error that the law wants. -/
def wantC (g : Gl) (hs : List Hd) (cs : List Int) : Int := if cs.length = hs.length ∧ CsOk cs then sufE g hs else 1
def chOut (g : Gl) (hs : List Hd) (cs : List Int) : List Int := if wantC g hs cs = 0 then chR g hs cs else []
def csOut (g : Gl) (hs : List Hd) (cs : List Int) : Int := if wantC g hs cs = 0 then costR hs (chR g hs cs) cs else 0
theorem wantC_cases (g : Gl) (hs : List Hd) (cs : List Int) : (wantC g hs cs = 0 ∧ cs.length = hs.length ∧ CsOk cs ∧ Ok g hs) ∨ ((wantC g hs cs = 1 ∨ wantC g hs cs = 10) ∧ chOut g hs cs = [] ∧ csOut g hs cs = 0) := by
  by_cases h : wantC g hs cs = 0
  · left
    have h2 := h
    unfold wantC at h2
    by_cases hc : cs.length = hs.length ∧ CsOk cs
    · rw [if_pos hc] at h2
      refine ⟨h, hc.1, hc.2, Decidable.byContradiction fun hok => ?_⟩
      rw [sufE_bad hok] at h2
      exact absurd h2 (by decide)
    · rw [if_neg hc] at h2
      exact absurd h2 (by decide)
  · right
    refine ⟨?_, by unfold chOut; rw [if_neg h], by unfold csOut; rw [if_neg h]⟩
    unfold wantC at h ⊢
    by_cases hc : cs.length = hs.length ∧ CsOk cs
    · rw [if_pos hc] at h ⊢
      unfold sufE at h ⊢
      by_cases hok : Ok g hs
      · rw [if_pos hok] at h ⊢
        by_cases hq : 0 < sumR g hs (devsOf hs)
        · rw [if_pos hq]; exact .inr rfl
        · rw [if_neg hq] at h; exact absurd rfl h
      · rw [if_neg hok]; exact .inl rfl
    · rw [if_neg hc]; exact .inl rfl

theorem cheapest_two (g : Gl) (v cv : Value) (hs : List Hd) (cs : List Int) (w : World) (hg : GlAt w g) (hv : ReadsH w v hs) (hc : ReadsI w cv cs) (h6 : Ok g hs → hs.length ≤ 6) :
    Calls Try.prog 24 #[g.v, v, cv] w fun e w' => ∃ u, e = .returned (.tuple #[u, .int .i64 (csOut g hs cs), .int .i64 (wantC g hs cs)]) ∧ ReadsI w' u (chOut g hs cs) ∧ Below w.heap.size w w' := by
  by_cases hok : Ok g hs
  · by_cases hcs : cs.length = hs.length ∧ CsOk cs
    · refine (cheapest_ok g v cv hs cs w hg hv hc hok hcs.1 hcs.2).mono ?_
      rintro e w' ⟨L, pl, hp, hpl, hL, hsd, ⟨h1, rfl, hb⟩ | ⟨h1, u, rfl, hr, hb⟩⟩
      · have hl : L.length ≤ 6 := by rw [hp.length_eq]; exact h6 hok
        have hne := (suff_some hok hp hsd).1 h1
        have he : sufE g hs = 10 := by
          have := sufE_short hok hp hsd
          split at this
          · exact absurd this hne
          · exact this
        have hw : wantC g hs cs = 10 := by unfold wantC; rw [if_pos hcs, he]
        have e1 : chOut g hs cs = [] := by unfold chOut; rw [if_neg (by rw [hw]; decide)]
        have e2 : csOut g hs cs = 0 := by unfold csOut; rw [if_neg (by rw [hw]; decide)]
        refine ⟨_, by rw [hw, e2], ?_, hb⟩
        rw [e1]
        exact (OwnI.nil w' 0).reads (by simp)
      · have hl : L.length ≤ 6 := by rw [hp.length_eq]; exact h6 hok
        have he : sufE g hs = 0 := Decidable.byContradiction fun hne => h1 ((suff_some hok hp hsd).2 hne)
        have hw : wantC g hs cs = 0 := by unfold wantC; rw [if_pos hcs, he]
        have hch := chR_eq (cs := cs) hok hp hpl hL hsd hl h1
        have e1 : chOut g hs cs = devL L (chL pl cs (suffL g L)) := by unfold chOut; rw [if_pos hw, hch]
        have e2 : csOut g hs cs = costS pl cs (chL pl cs (suffL g L)) := by unfold csOut; rw [if_pos hw, hch, costR_eq hpl hL hsd]
        refine ⟨u, by rw [hw, e2], ?_, hb⟩
        rw [e1]
        exact hr
    · refine (cheapest_arg g v cv hs cs w hg hv hc hok hcs).mono ?_
      rintro e w' ⟨rfl, hb⟩
      have hw : wantC g hs cs = 1 := by unfold wantC; rw [if_neg hcs]
      have e1 : chOut g hs cs = [] := by unfold chOut; rw [if_neg (by rw [hw]; decide)]
      have e2 : csOut g hs cs = 0 := by unfold csOut; rw [if_neg (by rw [hw]; decide)]
      refine ⟨_, by rw [hw, e2], ?_, hb⟩
      rw [e1]
      exact (OwnI.nil w' 0).reads (by simp)
  · refine (cheapest_bad g v cv hs cs w hg hv hc hok).mono ?_
    rintro e w' ⟨rfl, hb⟩
    have hw : wantC g hs cs = 1 := by unfold wantC; rw [sufE_bad hok]; split <;> rfl
    have e1 : chOut g hs cs = [] := by unfold chOut; rw [if_neg (by rw [hw]; decide)]
    have e2 : csOut g hs cs = 0 := by unfold csOut; rw [if_neg (by rw [hw]; decide)]
    refine ⟨_, by rw [hw, e2], ?_, hb⟩
    rw [e1]
    exact (OwnI.nil w' 0).reads (by simp)

/-- The error wanted, the first k costs looked at. -/
def wantTo (g : Gl) (hs : List Hd) (cs : List Int) (k : Nat) : Int := if cs.length = hs.length ∧ CsOk (cs.take k) then sufE g hs else 1
theorem wantTo_zero (g : Gl) (hs : List Hd) (cs : List Int) : wantTo g hs cs 0 = if cs.length = hs.length then sufE g hs else 1 := by
  unfold wantTo
  have h : CsOk (cs.take 0) := fun c hc => by simp at hc
  by_cases e : cs.length = hs.length
  · rw [if_pos ⟨e, h⟩, if_pos e]
  · rw [if_neg (fun x => e x.1), if_neg e]
theorem wantTo_bad {g : Gl} {hs : List Hd} {cs : List Int} {k : Nat} (hk : k < cs.length) (h : ¬ (0 ≤ cs.getD k 0 ∧ cs.getD k 0 ≤ 1099511627776)) : wantTo g hs cs (k + 1) = 1 := by
  unfold wantTo
  rw [if_neg (fun x => h ((csOk_take k hk).1 x.2).2)]
theorem wantTo_good {g : Gl} {hs : List Hd} {cs : List Int} {k : Nat} (hk : k < cs.length) (h : 0 ≤ cs.getD k 0 ∧ cs.getD k 0 ≤ 1099511627776) : wantTo g hs cs (k + 1) = wantTo g hs cs k := by
  unfold wantTo
  by_cases hc : cs.length = hs.length ∧ CsOk (cs.take k)
  · rw [if_pos hc, if_pos ⟨hc.1, (csOk_take k hk).2 ⟨hc.2, h⟩⟩]
  · rw [if_neg hc, if_neg (fun x => hc ⟨x.1, ((csOk_take k hk).1 x.2).1⟩)]

set_option maxRecDepth 100000 in
set_option maxHeartbeats 16000000 in
theorem lawCheapest_any (g : Gl) (v cv : Value) (hs : List Hd) (cs : List Int) (w : World) (hg : GlAt w g) (hv : ReadsH w v hs) (hc : ReadsI w cv cs) :
    Calls Try.prog 10 #[g.v, v, cv] w fun e w' => e = .returned (.bool true) ∧ Below w.heap.size w w' := by
  obtain ⟨fe, hfe⟩ : ∃ fe, fe = wantC g hs cs := ⟨_, rfl⟩
  obtain ⟨co, hco⟩ : ∃ co, co = chOut g hs cs := ⟨_, rfl⟩
  obtain ⟨so, hso⟩ : ∃ so, so = csOut g hs cs := ⟨_, rfl⟩
  obtain ⟨se, hse⟩ : ∃ se, se = sufE g hs := ⟨_, rfl⟩
  have hcs := wantC_cases g hs cs
  have c12 := few_any g v hs
  have c24 := cheapest_two g v cv hs cs
  have c15 := goalOf_any g
  have c16 := holdingsOf_any v hs
  simp only [← hfe, ← hco, ← hso] at c24 hcs
  obtain ⟨na, n1, nc, pa, n2, pc, sa, n3, sc, e1⟩ := hg.val
  obtain ⟨ao, c4, _, _, rfl, _⟩ := hv.at
  obtain ⟨cao, ccp, cb, coff, rfl, hcl, hcm, hccell⟩ := hc.at
  rw [e1] at c12 c24 c15 ⊢
  have HG := Lib.hid hg
  have HV := Lib.hid hv
  have HC := Lib.hid hc
  have HCC := Lib.hid hccell
  have C12 := Lib.hid c12
  have C24 := Lib.hid c24
  have C15 := Lib.hid c15
  have C16 := Lib.hid c16
  have AW := Lib.hid awake_any
  have HFE := Lib.hid hfe
  have HCO := Lib.hid hco
  have HSO := Lib.hid hso
  have HSE := Lib.hid hse
  have HCS := Lib.hid hcs
  clear hg hv hc c12 c24 c15 c16 e1 hfe hco hso hcs hse hccell
  have b0 : Below w.heap.size w (w.alloc (.cells #[.slice na n1 nc, .int .i64 g.thr, .bool g.idx, .slice pa n2 pc, .slice sa n3 sc] 26)) := (Below.refl _ _).alloc (Nat.le_refl _) _
  have g0 := heap_alloc_last w (.cells #[.slice na n1 nc, .int .i64 g.thr, .bool g.idx, .slice pa n2 pc, .slice sa n3 sc] 26)
  obtain ⟨G, hG⟩ : ∃ G, G = w.heap.size := ⟨_, rfl⟩
  have HGG := Lib.hid hG
  rw [← hG] at g0
  have G0 := Lib.hid g0
  clear g0 hG
  go_enter Try.func10, Try.ntmps10
  go_upto_region 1 with fail
  rw [← HGG.out]
  generalize w.alloc (Obj.cells #[.slice na n1 nc, .int .i64 g.thr, .bool g.idx, .slice pa n2 pc, .slice sa n3 sc] 26) = W at b0 G0 ⊢
  have a0 := cell_of_row _ _ 0 _ _ _ G0.out
  have a1 := cell_of_row _ _ 1 _ _ _ G0.out
  have a2 := cell_of_row _ _ 2 _ _ _ G0.out
  have a3 := cell_of_row _ _ 3 _ _ _ G0.out
  have a4 := cell_of_row _ _ 4 _ _ _ G0.out
  go_wp2_with fail
  refine (C12.out W (HG.out.below b0) (HV.out.below b0)).mono ?_
  rintro e w1 ⟨rfl, hb1⟩
  have b1 := b0.trans (hb1.mono b0.size)
  have G1 := Lib.hid ((hb1.block G (Array.getElem?_eq_some_iff.1 G0.out).1).trans G0.out)
  clear a0 a1 a2 a3 a4 G0 hb1 b0
  have z1 := b1.size
  by_cases hfew : fewB g hs = false
  · rw [hfew]
    go_wp2_with fail
    refine (AW.out _).mono ?_
    rintro e w2 ⟨rfl, hba⟩
    go_wp2
    go_ret
    exact ⟨rfl, b1.trans (hba.mono z1)⟩
  have hfew1 : fewB g hs = true := by simpa using hfew
  have hparts := few_parts hfew1
  rw [hfew1]
  have h6 : Ok g hs → hs.length ≤ 6 := fun hok => by
    have := hok.1.2.2
    have := hparts.2.2.2.2
    omega
  have HPT := Lib.hid hparts
  have H6 := Lib.hid h6
  clear hfew hfew1 hparts h6
  by_cases hl1 : 20 < cs.length
  · have k1 : decide ((cs.length : Int) > 20) = true := by simp; omega
    go_wp2_with fail
    refine (AW.out _).mono ?_
    rintro e w2 ⟨rfl, hba⟩
    go_wp2
    go_ret
    exact ⟨rfl, b1.trans (hba.mono z1)⟩
  have k1 : decide ((cs.length : Int) > 20) = false := by simp; omega
  have a0 := cell_of_row _ _ 0 _ _ _ G1.out
  have a1 := cell_of_row _ _ 1 _ _ _ G1.out
  have a2 := cell_of_row _ _ 2 _ _ _ G1.out
  have a3 := cell_of_row _ _ 3 _ _ _ G1.out
  have a4 := cell_of_row _ _ 4 _ _ _ G1.out
  have CB := Lib.hid (C24.out w1 (HG.out.below b1) (HV.out.below b1) (HC.out.below b1) H6.out)
  go_wp2_with fail
  refine CB.out.mono ?_
  rintro e w3 ⟨av, rfl, hav, hb2⟩
  obtain ⟨oa, oc, rfl⟩ := hav.val'
  have HAV := Lib.hid hav
  have b3 := b1.trans (hb2.mono b1.size)
  have G3 := Lib.hid ((hb2.block G (Array.getElem?_eq_some_iff.1 G1.out).1).trans G1.out)
  clear a0 a1 a2 a3 a4 hb2 CB hav
  have a0 := cell_of_row _ _ 0 _ _ _ G3.out
  have a1 := cell_of_row _ _ 1 _ _ _ G3.out
  have a2 := cell_of_row _ _ 2 _ _ _ G3.out
  have a3 := cell_of_row _ _ 3 _ _ _ G3.out
  have a4 := cell_of_row _ _ 4 _ _ _ G3.out
  have CG := Lib.hid (C15.out w3 (HG.out.below b3) (by have := HPT.out.2.1; omega))
  generalize hal : co.length = al at *
  have HAL := Lib.hid hal
  clear hal
  go_wp2_with fail
  refine CG.out.mono ?_
  rintro e wa ⟨u, rfl, hga, hba⟩
  have ba := b3.trans (hba.mono b3.size)
  have CH := Lib.hid (C16.out wa (HV.out.below ba) (by have := HPT.out.2.2.2.2; omega))
  obtain ⟨ua, un, uc, vpa, vpn, vpc, vsa, vsn, vsc, eu⟩ := hga.val
  have HGa := Lib.hid hga
  have EU := Lib.hid eu
  rw [eu]
  clear a0 a1 a2 a3 a4 hga CG eu
  simp only at EU ⊢
  go_wp2_with fail
  refine CH.out.mono ?_
  rintro e wb ⟨lu, rfl, hlb, hbb⟩
  obtain ⟨lao, lc, _, _, rfl, _⟩ := hlb.at
  have bb := ba.trans (hbb.mono ba.size)
  have gb := HGa.out.below hbb
  have bM : Below wb.heap.size wb (wb.alloc (.cells #[.slice ua un uc, .int .i64 g.thr, .bool g.idx, .slice vpa vpn vpc, .slice vsa vsn vsc] 37)) := (Below.refl _ _).alloc (Nat.le_refl _) _
  have aM := heap_alloc_last wb (.cells #[.slice ua un uc, .int .i64 g.thr, .bool g.idx, .slice vpa vpn vpc, .slice vsa vsn vsc] 37)
  obtain ⟨M, hM⟩ : ∃ M, M = wb.heap.size := ⟨_, rfl⟩
  have HM := Lib.hid hM
  rw [← hM] at aM
  have b5 := bb.trans (bM.mono bb.size)
  have bi5 : Below w3.heap.size w3 (wb.alloc (.cells #[.slice ua un uc, .int .i64 g.thr, .bool g.idx, .slice vpa vpn vpc, .slice vsa vsn vsc] 37)) := (hba.trans (hbb.mono hba.size)).alloc (hba.trans (hbb.mono hba.size)).size _
  have GG5 := Lib.hid (gb.below bM)
  have L5 := Lib.hid (hlb.below bM)
  have AM := Lib.hid aM
  clear hM aM bM gb hlb hbb hba ba bb CH HGa
  go_upto_region 5 with fail
  rw [← HM.out]
  generalize wb.alloc (.cells #[.slice ua un uc, .int .i64 g.thr, .bool g.idx, .slice vpa vpn vpc, .slice vsa vsn vsc] 37) = W5 at AM GG5 L5 b5 bi5 ⊢
  have m0 := cell_of_row _ _ 0 _ _ _ AM.out
  have m1 := cell_of_row _ _ 1 _ _ _ AM.out
  have m2 := cell_of_row _ _ 2 _ _ _ AM.out
  have m3 := cell_of_row _ _ 3 _ _ _ AM.out
  have m4 := cell_of_row _ _ 4 _ _ _ AM.out
  have HAV5 := Lib.hid (HAV.out.below bi5)
  have c27 := sufE_any { g with nv := u } _ hs W5 GG5.out L5.out
  have hs2 : sufE { g with nv := u } hs = se := HSE.out.symm
  simp only [EU.out, hs2] at c27
  have C27 := Lib.hid c27
  clear c27 hs2 bi5
  go_wp2_with fail
  refine C27.out.mono ?_
  rintro e w6 ⟨rfl, hb6⟩
  have b6 := b5.trans (hb6.mono b5.size)
  have GG6 := Lib.hid (GG5.out.below hb6)
  have L6 := Lib.hid (L5.out.below hb6)
  have M6 := Lib.hid ((hb6.block M (Array.getElem?_eq_some_iff.1 AM.out).1).trans AM.out)
  have HAV6 := Lib.hid (HAV5.out.below hb6)
  clear m0 m1 m2 m3 m4 AM GG5 L5 hb6 C27 b5 HAV HAV5
  have z6 := b6.size
  have hcells : ∀ i, i < cs.length → cao = some ⟨cb, coff, none⟩ ∧ w6.cell? ⟨cb, coff + i, none⟩ = some (.int .i64 (cs.getD i 0)) := fun i hi => by
    obtain ⟨h1, h2⟩ := HCC.out i hi
    exact ⟨h1, (b6.cell (cell_lt h2)).trans h2⟩
  have HCL := Lib.hid hcells
  have HC6 := Lib.hid (HC.out.below b6)
  have hw0 := wantTo_zero g hs cs
  rw [← HSE.out] at hw0
  have HW0 := Lib.hid hw0
  have hwl : wantTo g hs cs cs.length = fe := by rw [HFE.out]; unfold wantTo wantC; rw [List.take_length]
  have HWL := Lib.hid hwl
  have HNX := Lib.hid (fun (k : Nat) (hk : k < cs.length) (h : 0 ≤ cs.getD k 0 ∧ cs.getD k 0 ≤ 1099511627776) => wantTo_good (g := g) (hs := hs) hk h)
  have HNB := Lib.hid (fun (k : Nat) (hk : k < cs.length) (h : ¬ (0 ≤ cs.getD k 0 ∧ cs.getD k 0 ≤ 1099511627776)) => wantTo_bad (g := g) (hs := hs) hk h)
  clear hcells hw0 hwl C12 C24 C15 C16 HCC
  have hls : hs.length ≤ 13 := by have := HPT.out.2.2.2.2; omega
  have hlast : ∀ se0 : Int, wantTo g hs cs 0 = se0 → (se0 = se0) := fun _ _ => rfl
  clear hlast
  obtain ⟨s0, hs0⟩ : ∃ s0, s0 = wantTo g hs cs 0 := ⟨_, rfl⟩
  have HS0 := Lib.hid hs0
  have hsplit : (cs.length = hs.length ∧ s0 = se) ∨ (cs.length ≠ hs.length ∧ s0 = 1) := by
    by_cases e : cs.length = hs.length
    · exact .inl ⟨e, by rw [hs0, HW0.out, if_pos e]⟩
    · exact .inr ⟨e, by rw [hs0, HW0.out, if_neg e]⟩
  clear hs0
  generalize hcsl : cs.length = cl at *
  have HCSL := Lib.hid hcsl
  generalize hhl : hs.length = hl at *
  have HHL := Lib.hid hhl
  clear hcsl hhl
  rcases hsplit with ⟨hlen, hse⟩ | ⟨hlen, hse⟩
  · have hnn : ((cl : Int) != (hl : Int)) = false := by simp; try omega
    have HLEN := Lib.hid hlen
    have HSEQ := Lib.hid hse
    clear hlen
    go_wp2
    clear hnn
    go_loopg [12, 13] cl (fun gk v12 v13 wx => ∃ k : Nat, k + gk = cl ∧ v13 = .int .i64 k ∧ v12 = .int .i64 (wantTo g hs cs k) ∧ wx = w6)
    case atStart => exact ⟨0, by omega, rfl, by rw [← HS0.out, HSEQ.out], rfl⟩
    case round =>
      obtain ⟨k, hk, rfl, rfl, hwx⟩ := hrel
      have hwy := hwx.symm
      clear hwx
      subst hwy
      cases gk with
      | succ go =>
        have hkl : k < cl := by omega
        obtain ⟨rfl, hq⟩ := HCL.out k hkl
        have hgd := HNX.out k hkl
        have hbd := HNB.out k hkl
        generalize cs.getD k 0 = c at *
        by_cases h0 : c < 0
        · have k1 : decide (c < 0) = true := decide_eq_true h0
          have HX := Lib.hid (hbd (by omega))
          clear hgd hbd
          go_wp2
          go_roundg go
          case measure => omega
          case rel => exact ⟨k + 1, by omega, by go_num, by rw [HX.out], rfl⟩
        · have k1 : decide (c < 0) = false := decide_eq_false h0
          by_cases h1 : c > 1099511627776
          · have k2 : decide (c > 1099511627776) = true := decide_eq_true h1
            have HX := Lib.hid (hbd (by omega))
            clear hgd hbd
            go_wp2
            go_roundg go
            case measure => omega
            case rel => exact ⟨k + 1, by omega, by go_num, by rw [HX.out], rfl⟩
          · have k2 : decide (c > 1099511627776) = false := decide_eq_false h1
            have HX := Lib.hid (hgd (by omega))
            clear hgd hbd
            go_wp2
            go_roundg go
            case measure => omega
            case rel => exact ⟨k + 1, by omega, by go_num, by rw [HX.out], rfl⟩
      | zero =>
        obtain rfl : k = cl := by omega
        rw [HWL.out]
        rcases HCS.out with ⟨hz, hlc, hck, hok⟩ | ⟨hfe, hco, hso⟩
        · subst hz
          have c38 := cheapest_ref { g with nv := u } _ _ hs cs w6 GG6.out L6.out HC6.out hok (by rw [HCSL.out, HHL.out]; exact HLEN.out) hck
          have hs3 : chR { g with nv := u } hs cs = co := by
            rw [HCO.out]
            unfold chOut
            rw [if_pos HFE.out.symm]
            rfl
          have hs4 : costR hs co cs = so := by
            rw [HSO.out, HCO.out]
            unfold chOut csOut
            rw [if_pos HFE.out.symm, if_pos HFE.out.symm]
          simp only [EU.out, hs3] at c38
          have C38 := Lib.hid c38
          have HS4 := Lib.hid hs4
          have HCK := Lib.hid hck
          clear c38 hs3 hs4 hok hlc hck
          have m0 := cell_of_row _ _ 0 _ _ _ M6.out
          have m1 := cell_of_row _ _ 1 _ _ _ M6.out
          have m2 := cell_of_row _ _ 2 _ _ _ M6.out
          have m3 := cell_of_row _ _ 3 _ _ _ M6.out
          have m4 := cell_of_row _ _ 4 _ _ _ M6.out
          go_wp2_with fail
          refine C38.out.mono ?_
          rintro e w7 ⟨rv, rfl, hrv, hb7⟩
          obtain ⟨ra, rc, rfl⟩ := hrv.val'
          have b7 := b6.trans (hb7.mono z6)
          have z7 := b7.size
          have HRV := Lib.hid hrv
          have HAV7 := Lib.hid (HAV6.out.below hb7)
          have L7 := Lib.hid (L6.out.below hb7)
          have HC7 := Lib.hid (HC6.out.below hb7)
          clear m0 m1 m2 m3 m4 hrv hb7 C38
          rw [HAL.out]
          go_wp2_with fail
          refine (AW.out _).mono ?_
          rintro e w8 ⟨rfl, hb8⟩
          have hi := ints_any _ _ _ _ w8 (HAV7.out.below hb8) (HRV.out.below hb8)
          rw [decide_eq_true rfl, HAL.out] at hi
          have HI := Lib.hid hi
          have L8 := Lib.hid (L7.out.below hb8)
          have HC8 := Lib.hid (HC7.out.below hb8)
          have R8 := Lib.hid (HRV.out.below hb8)
          have b8 := b7.trans (hb8.mono z7)
          clear hi hb8
          go_wp2_with fail
          refine HI.out.mono ?_
          rintro e w9 ⟨rfl, q, rfl⟩
          have hbq := below_drewN (Below.refl w8.heap.size w8) q
          have hcr := cost_ref _ _ _ hs co cs _ (L8.out.below hbq) (R8.out.below hbq) (HC8.out.below hbq) (by rw [HCSL.out, HHL.out]; exact HLEN.out) HCK.out (by rw [HHL.out]; omega)
          rw [HS4.out, HAL.out] at hcr
          have HCR := Lib.hid hcr
          clear hcr
          go_wp2_with fail
          refine HCR.out.mono ?_
          rintro e w10 ⟨rfl, rfl⟩
          have hss : (so == so) = true := by simp
          go_wp2
          go_ret
          exact ⟨rfl, below_drewN b8 _⟩
        · have hco2 := HAL.out
          subst hco
          obtain rfl : 0 = al := hco2
          subst hso
          rcases hfe with rfl | rfl
          all_goals
            clear HCS HFE HCO HSO HSE HWL HS0 HSEQ HW0
            go_wp2_with fail
            refine (AW.out _).mono ?_
            rintro e w8 ⟨rfl, hb8⟩
            go_wp2
            go_ret
            exact ⟨rfl, b6.trans (hb8.mono z6)⟩
  · have hnn : ((cl : Int) != (hl : Int)) = true := by simp; try omega
    have HLEN := Lib.hid hlen
    have HSEQ := Lib.hid hse
    clear hlen
    go_wp2
    clear hnn
    go_loopg [12, 13] cl (fun gk v12 v13 wx => ∃ k : Nat, k + gk = cl ∧ v13 = .int .i64 k ∧ v12 = .int .i64 (wantTo g hs cs k) ∧ wx = w6)
    case atStart => exact ⟨0, by omega, rfl, by rw [← HS0.out, HSEQ.out], rfl⟩
    case round =>
      obtain ⟨k, hk, rfl, rfl, hwx⟩ := hrel
      have hwy := hwx.symm
      clear hwx
      subst hwy
      cases gk with
      | succ go =>
        have hkl : k < cl := by omega
        obtain ⟨rfl, hq⟩ := HCL.out k hkl
        have hgd := HNX.out k hkl
        have hbd := HNB.out k hkl
        generalize cs.getD k 0 = c at *
        by_cases h0 : c < 0
        · have k1 : decide (c < 0) = true := decide_eq_true h0
          have HX := Lib.hid (hbd (by omega))
          clear hgd hbd
          go_wp2
          go_roundg go
          case measure => omega
          case rel => exact ⟨k + 1, by omega, by go_num, by rw [HX.out], rfl⟩
        · have k1 : decide (c < 0) = false := decide_eq_false h0
          by_cases h1 : c > 1099511627776
          · have k2 : decide (c > 1099511627776) = true := decide_eq_true h1
            have HX := Lib.hid (hbd (by omega))
            clear hgd hbd
            go_wp2
            go_roundg go
            case measure => omega
            case rel => exact ⟨k + 1, by omega, by go_num, by rw [HX.out], rfl⟩
          · have k2 : decide (c > 1099511627776) = false := decide_eq_false h1
            have HX := Lib.hid (hgd (by omega))
            clear hgd hbd
            go_wp2
            go_roundg go
            case measure => omega
            case rel => exact ⟨k + 1, by omega, by go_num, by rw [HX.out], rfl⟩
      | zero =>
        obtain rfl : k = cl := by omega
        rw [HWL.out]
        rcases HCS.out with ⟨hz, _, _, _⟩ | ⟨hfe, hco, hso⟩
        · exfalso
          have hx := HWL.out
          unfold wantTo at hx
          rw [if_neg (fun h => HLEN.out (by rw [← HCSL.out, ← HHL.out]; exact h.1))] at hx
          rw [hz] at hx
          exact absurd hx (by decide)
        · have hco2 := HAL.out
          subst hco
          obtain rfl : 0 = al := hco2
          subst hso
          rcases hfe with rfl | rfl
          all_goals
            clear HCS HFE HCO HSO HSE HWL HS0 HSEQ HW0
            go_wp2_with fail
            refine (AW.out _).mono ?_
            rintro e w8 ⟨rfl, hb8⟩
            go_wp2
            go_ret
            exact ⟨rfl, b6.trans (hb8.mono z6)⟩

end Go.Proofs.Ytapjgjjmlbhanaa
