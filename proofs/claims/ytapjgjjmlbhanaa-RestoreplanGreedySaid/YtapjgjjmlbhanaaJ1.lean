/- slices.IndexFunc at the closure of Fetches. -/
import Derived.Test.YtapjgjjmlbhanaaG1
import Derived.Test.YtapjgjjmlbhanaaC5
namespace Go.Proofs.Ytapjgjjmlbhanaa
open Go.RowKit Go.Lib

set_option maxHeartbeats 1000000 in
theorem isDev_any (B : Nat) (d dev : Int) (pa sa : Option Addr) (pn pc sn sc : Nat) (ix : Bool) (w : World) (hB : NumAt w B d) :
    Calls Try.prog 62 #[.agg #[.int .i64 dev, .slice pa pn pc, .slice sa sn sc, .bool ix], .pointer (some ⟨B, 0, none⟩)] w fun e w' => e = .returned (.bool (dev == d)) ∧ Below w.heap.size w w' := by
  have blt := (Array.getElem?_eq_some_iff.1 hB).1
  have bw : Below w.heap.size w (w.alloc (.cells #[.int .i64 dev, .slice pa pn pc, .slice sa sn sc, .bool ix] 88)) := (Below.refl _ _).alloc (Nat.le_refl _) _
  have c1 := (hB.below bw).cell
  clear hB
  go_enter Try.func62, Try.ntmps62
  go_wp2
  go_ret
  exact ⟨rfl, bw⟩

set_option maxRecDepth 100000 in
set_option maxHeartbeats 2000000 in
theorem idxFunc_any (v : Value) (L : List Hd) (B : Nat) (d : Int) (w : World) (hv : ReadsH w v L) (hB : NumAt w B d) :
    Calls Try.prog 61 #[v, .func (.func 62) #[] #[.pointer (some ⟨B, 0, none⟩)]] w fun e w' => e = .returned (.int .i64 (findI d (L.map Hd.dev))) ∧ Below w.heap.size w w' := by
  obtain ⟨ao, c, b, off, rfl, hl, hm, hcell⟩ := hv.at
  have HC := Lib.hid hcell
  have HB := Lib.hid hB
  obtain ⟨r, hr⟩ : ∃ r, r = findI d (L.map Hd.dev) := ⟨_, rfl⟩
  rw [← hr]
  have HR := Lib.hid hr
  clear hcell hv hr hB
  go_enter Try.func61, Try.ntmps61
  go_wp2
  go_loopw [5, 8] (fun _ v8 wr => ∃ j : Nat, j ≤ L.length ∧ v8 = .int .i64 j ∧ d ∉ (L.map Hd.dev).take j ∧ Below w.heap.size w wr) (fun _ v8 _ => L.length - (intOf v8).toNat)
  case atStart => exact ⟨0, Nat.zero_le _, rfl, by simp, Below.refl _ _⟩
  case round =>
    obtain ⟨j, hj, rfl, hnot, hbel⟩ := hrel
    have HN := Lib.hid hnot
    have zr := hbel.size
    clear hnot
    by_cases hlt : j < L.length
    · obtain ⟨e1, e2, e3, e4, e5, hat⟩ := HC.out j hlt
      subst e1
      rw [← hbel.cell (p := ⟨b, _, none⟩) (cell_lt e2)] at e2
      rw [← hbel.cell (p := ⟨b, _, none⟩) (cell_lt e3)] at e3
      rw [← hbel.cell (p := ⟨b, _, none⟩) (cell_lt e4)] at e4
      rw [← hbel.cell (p := ⟨b, _, none⟩) (cell_lt e5)] at e5
      have hjm : j < (L.map Hd.dev).length := by rw [List.length_map]; exact hlt
      have hs := mem_take_succ (L.map Hd.dev) d j hjm
      have hgd : (L.map Hd.dev)[j] = (L.getD j default).dev := by rw [List.getElem_map, getD_at _ _ _ hlt]
      have hfd := fun h => findI_at (x := d) (ds := L.map Hd.dev) j hjm HN.out h
      rw [getD_at _ _ _ hjm, hgd] at hfd
      rw [hgd] at hs
      obtain ⟨hpd, hsd⟩ := hat
      obtain ⟨pa, pc, _, _, hpe, _⟩ := hpd.at
      obtain ⟨sa, sc, _, _, hse, _⟩ := hsd.at
      rw [hpe] at e3
      rw [hse] at e4
      have HS := Lib.hid hs
      have HF := Lib.hid hfd
      clear hs hgd hfd hpd hsd hpe hse
      generalize (L.getD j default).dev = dev at *
      generalize (L.getD j default).ps.length = pn at *
      generalize (L.getD j default).ss.length = sn at *
      generalize (L.getD j default).idx = idx at *
      have C62 := Lib.hid (isDev_any B d dev pa sa pn pc sn sc idx wr (HB.out.below hbel))
      by_cases hy : dev = d
      · have k1 : (dev == d) = true := by simp [hy]
        have c62 := C62.out
        rw [k1] at c62
        have C62' := Lib.hid c62
        obtain rfl : r = (j : Int) := by rw [HR.out]; exact HF.out hy
        clear hy c62 k1 C62
        go_wp2_with fail
        refine C62'.out.mono ?_
        rintro e w5 ⟨rfl, hb5⟩
        go_wp2
        go_ret
        exact ⟨rfl, hbel.trans (hb5.mono zr)⟩
      · have k1 : (dev == d) = false := by simp [hy]
        have c62 := C62.out
        rw [k1] at c62
        have C62' := Lib.hid c62
        have HY := Lib.hid hy
        clear hy c62 k1 C62
        go_wp2_with fail
        refine C62'.out.mono ?_
        rintro e w5 ⟨rfl, hb5⟩
        go_wp2
        go_roundw
        case rel => exact ⟨j + 1, by omega, by go_num, fun h => by (rcases HS.out.1 h with h | h; (exact HN.out h); (exact HY.out h.symm)), hbel.trans (hb5.mono zr)⟩
        case measure => simp [intOf]; omega
    · have hjl : L.length = j := by omega
      subst hjl
      have hn := HN.out
      rw [List.take_of_length_le (by rw [List.length_map]; exact Nat.le_refl _)] at hn
      obtain rfl : r = -1 := by rw [HR.out]; exact findI_none hn
      clear hn
      go_wp2
      go_ret
      exact ⟨rfl, hbel⟩

end Go.Proofs.Ytapjgjjmlbhanaa
