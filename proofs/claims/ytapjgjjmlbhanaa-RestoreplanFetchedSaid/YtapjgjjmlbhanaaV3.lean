/- Fetched: total; the goal with more pieces. -/
import Derived.Test.YtapjgjjmlbhanaaV2
import Derived.Test.YtapjgjjmlbhanaaQ2
namespace Go.Proofs.Ytapjgjjmlbhanaa
open Go.RowKit Go.Lib
set_option linter.unusedSimpArgs false

set_option maxRecDepth 100000 in
set_option maxHeartbeats 4000000 in
theorem total_any (v : Value) (ns : List Nd) (w : World) (hv : ReadsN w v ns) (hb : ∀ n ∈ ns, 0 ≤ n.d ∧ n.d ≤ 1000) (hl : ns.length ≤ 1000) :
    Calls Try.prog 35 #[v] w fun e w' => e = .returned (.int .i64 (totL ns)) ∧ w = w' := by
  obtain ⟨ao, c, b, off, rfl, hlc, hm, hcell⟩ := hv.at
  have HC := Lib.hid hcell
  have HB := Lib.hid hb
  obtain ⟨r, hr⟩ : ∃ r, r = totL ns := ⟨_, rfl⟩
  rw [← hr]
  have HR := Lib.hid hr
  have hbd : ∀ k, k ≤ ns.length → 0 ≤ totL (ns.take k) ∧ totL (ns.take k) ≤ k * 1000 := by
    intro k
    induction k with
    | zero => intro _; simp [totL]
    | succ k ih =>
      intro hk
      have := ih (by omega)
      have h1 := hb ns[k] (List.getElem_mem _)
      unfold totL at this ⊢
      rw [List.take_succ_eq_append_getElem (by omega), List.map_append, List.sum_append_int]
      simp only [List.map_cons, List.map_nil, List.sum_cons, List.sum_nil]
      omega
  have HBD := Lib.hid hbd
  clear hv hcell hr hb hbd
  generalize hn : ns.length = n at *
  have HN := Lib.hid hn
  clear hn
  go_enter Try.func35, Try.ntmps35
  go_wp2
  go_loopg [3, 4] n (fun gk v3 v4 wx => ∃ k : Nat, k + gk = n ∧ v4 = .int .i64 k ∧ v3 = .int .i64 (totL (ns.take k)) ∧ wx = w)
  case atStart => exact ⟨0, by omega, rfl, rfl, rfl⟩
  case round =>
    obtain ⟨k, hk, rfl, rfl, rfl⟩ := hrel
    cases gk with
    | zero =>
      obtain rfl : k = n := by omega
      have hr := HR.out
      rw [← List.take_length (l := ns), HN.out] at hr
      generalize totL (ns.take k) = s at *
      subst hr
      go_wp2
      go_ret
      exact ⟨rfl, rfl⟩
    | succ go =>
      have hkl : k < n := by omega
      obtain ⟨rfl, _, h2⟩ := HC.out k hkl
      have hst : totL (ns.take (k + 1)) = totL (ns.take k) + (ns.getD k default).d := by
        unfold totL
        rw [List.take_succ_eq_append_getElem (by rw [HN.out]; exact hkl), List.map_append, List.sum_append_int, getD_at _ _ _ (by rw [HN.out]; exact hkl)]
        simp
      have h0 := HBD.out k (by omega)
      have h1 := HB.out (ns.getD k default) (by rw [getD_at _ _ _ (by rw [HN.out]; exact hkl)]; exact List.getElem_mem _)
      have HST := Lib.hid hst
      clear hst
      generalize (ns.getD k default).d = d at *
      generalize totL (ns.take k) = s at *
      have hw : IntKind.i64.wrap (s + d) = s + d := wraps_i64 _ (by omega) (by omega)
      go_wp2
      go_roundg go
      case measure => omega
      case rel => exact ⟨k + 1, by omega, by go_num, by rw [HST.out], rfl⟩

/-- A goal in memory whose pieces are a row of the call's own. -/
structure HvAt (W : World) (B M : Nat) (c0 c1 c2 c4 : Value) (h : List Pc) (pv : Value) (w : World) : Prop where
  below : Below B W w
  size : B ≤ w.heap.size
  hb : B ≤ M
  cell : w.heap[M]? = some (.cells #[c0, c1, c2, pv, c4] 26 (0, 0))
  own : OwnP w B pv h
section
variable {W w w' : World} {B M : Nat} {c0 c1 c2 c4 pv : Value} {h : List Pc}
theorem HvAt.step (k : HvAt W B M c0 c1 c2 c4 h pv w) (hb : Below w.heap.size w w') : HvAt W B M c0 c1 c2 c4 h pv w' :=
  ⟨k.below.trans (hb.mono k.size), Nat.le_trans k.size hb.size, k.hb, (hb.block M (Array.getElem?_eq_some_iff.1 k.cell).1).trans k.cell, Own.below k.own hb⟩
theorem frozen_of {w : World} {M : Nat} {cs : Array Value} {t : TypeId} (h : w.heap[M]? = some (.cells cs t (0, 0))) (i : Nat) : w.frozen? ⟨M, i, none⟩ = false := by
  unfold World.frozen?
  simp only [h]
  simp
theorem HvAt.set {pv' : Value} (k : HvAt W B M c0 c1 c2 c4 h pv w) {h' : List Pc} (w9 : World) (hb : Below B w w9) (hs : w.heap.size ≤ w9.heap.size) (hM : w9.heap[M]? = w.heap[M]?) (ho : OwnP w9 B pv' h') : HvAt W B M c0 c1 c2 c4 h' pv' (w9.setCell ⟨M, 3, none⟩ pv') ∧ w9.heap[M]? = some (.cells #[c0, c1, c2, pv, c4] 26 (0, 0)) ∧ w9.frozen? ⟨M, 3, none⟩ = false := by
  have hc := hM.trans k.cell
  have hst := setCell_block (i := 3) hc pv'
  refine ⟨⟨(k.below.trans hb).setCell k.hb _, by rw [setCell_size]; exact Nat.le_trans k.size hs, k.hb, by rw [hst]; rfl, Own.same ho fun g hg => setCell_other w9 pv' (fun e => own_ne ho hc (by decide) (e ▸ hg))⟩, hc, frozen_of hc 3⟩
theorem HvAt.addP (k : HvAt W B M c0 c1 c2 c4 h pv w) (p : Pc) (hn : h.length ≤ 1000000000) :
    ∃ a l c w', (Builtin.append_ #[23, 23] 23 #[pv, .slice (some ⟨w.heap.size, 0, none⟩) 1 1]).run Try.prog (w.alloc (.cells #[.string p.st, .int .i64 p.ix] 68)) = .ok (.slice a l c) w' ∧ HvAt W B M c0 c1 c2 c4 (h ++ [p]) (.slice a l c) (w'.setCell ⟨M, 3, none⟩ (.slice a l c)) ∧
      w'.heap[M]? = some (.cells #[c0, c1, c2, pv, c4] 26 (0, 0)) ∧ w'.frozen? ⟨M, 3, none⟩ = false := by
  obtain ⟨v', w', r, o1, o2, o3, o4⟩ := k.own.append p hn k.size
  obtain ⟨a, c, rfl⟩ := OwnP.slice o1
  obtain ⟨q1, q2, q3⟩ := k.set w' o2 (by omega) (o3 M (Array.getElem?_eq_some_iff.1 k.cell).1 (own_ne k.own k.cell (by decide))) o1
  exact ⟨a, _, c, w', r, q1, q2, q3⟩
theorem lackTo'_bd {g : Gl} {hs : List Hd} (hok : Ok g hs) (devs : List Int) : ∀ n, n ≤ g.ns.length → ∀ x ∈ lackTo' g hs devs n, 0 ≤ x.d ∧ x.d ≤ 1000
  | 0, _ => by simp [lackTo']
  | n + 1, hn => by
    intro x hx
    unfold lackTo' at hx
    rcases List.mem_append.1 hx with e | e
    · exact lackTo'_bd hok devs n (by omega) x e
    · split at e
      · rename_i hpos
        rw [List.mem_singleton] at e
        subst e
        have hd := hok.2.1.2 (g.ns.getD n default) (by rw [getD_at _ _ _ (by omega)]; exact List.getElem_mem _)
        have h1 := ndR_at g hs devs (j := n) (by omega)
        rw [down_eq _ _ (by have := hd.1; omega)] at h1
        have := hd.2
        show 0 ≤ (ndR g hs devs).getD n 0 ∧ (ndR g hs devs).getD n 0 ≤ 1000
        omega
      · simp at e
end

end Go.Proofs.Ytapjgjjmlbhanaa
