/- add: a supply or-ed into another. -/
import Derived.Test.YtapjgjjmlbhanaaC1
import Derived.Test.YtapjgjjmlbhanaaB6
import Derived.StillTailTactics
import Derived.Laws.AppendOwn
namespace Go.Proofs.Ytapjgjjmlbhanaa
open Go.RowKit Go.Lib

def orS (s x : Sup) : Sup := ⟨fun k => s.pc k ||| x.pc k, fun k => s.sh k ||| x.sh k, s.ix || x.ix⟩
theorem orS_wf {s x : Sup} (h : s.Wf) (g : x.Wf) : (orS s x).Wf :=
  ⟨fun i => Nat.or_lt_two_pow (n := 16) (h.pc i) (g.pc i), fun i => Nat.or_lt_two_pow (n := 64) (h.sh i) (g.sh i)⟩

theorem Sup.cells_congr {s x : Sup} (h1 : ∀ k, k < 64 → s.pc k = x.pc k) (h2 : ∀ k, k < 4 → s.sh k = x.sh k) (h3 : s.ix = x.ix) : s.cells = x.cells := by
  unfold Sup.cells Sup.list
  congr 1
  refine List.map_congr_left fun i hi => ?_
  have hi := List.mem_range.1 hi
  unfold Sup.cell
  by_cases a : i < 64
  · rw [if_pos a, if_pos a, h1 i a]
  · rw [if_neg a, if_neg a]
    by_cases b : i < 68
    · rw [if_pos b, if_pos b, h2 _ (by omega)]
    · rw [if_neg b, if_neg b, h3]
theorem SupAt.congr {w : World} {b : Nat} {s x : Sup} (h : SupAt w b s) (h1 : ∀ k, k < 64 → s.pc k = x.pc k) (h2 : ∀ k, k < 4 → s.sh k = x.sh k) (h3 : s.ix = x.ix) : SupAt w b x := by
  unfold SupAt at h ⊢
  rw [← Sup.cells_congr h1 h2 h3]
  exact h

theorem Sup.set_at (s x : Sup) (i : Nat) (u : Value) (hi : i < 69) (h : x.cell i = u) (ho : ∀ k, k < 69 → k ≠ i → x.cell k = s.cell k) : s.cells.setIfInBounds i u = x.cells := by
  apply Array.ext_getElem?
  intro k
  by_cases hk : k < 69
  · rw [x.cells_at k hk, Array.getElem?_setIfInBounds]
    by_cases e : i = k
    · subst e
      rw [if_pos rfl, if_pos (by rw [s.cells_size]; exact hi), h]
    · rw [if_neg e, s.cells_at k hk, ho k hk (fun e' => e e'.symm)]
  · rw [Array.getElem?_eq_none (by rw [Array.size_setIfInBounds, s.cells_size]; omega), Array.getElem?_eq_none (by rw [x.cells_size]; omega)]

theorem SupAt.set {w : World} {b : Nat} {s : Sup} (h : SupAt w b s) (x : Sup) (i : Nat) (u : Value) (hi : i < 69) (hu : x.cell i = u) (ho : ∀ k, k < 69 → k ≠ i → x.cell k = s.cell k) : SupAt (w.setCell ⟨b, i, none⟩ u) b x := by
  have := setCell_block (i := i) h u
  rw [Sup.set_at s x i u hi hu ho] at this
  exact this
theorem SupAt.other {w : World} {b g i : Nat} {s : Sup} (h : SupAt w b s) (u : Value) (hne : b ≠ g) : SupAt (w.setCell ⟨g, i, none⟩ u) b s := (setCell_other w u hne).trans h
theorem SupAt.frozen {w : World} {b : Nat} {s : Sup} (h : SupAt w b s) (i : Nat) : w.frozen? ⟨b, i, none⟩ = false := by
  unfold World.frozen?
  have h' : w.heap[b]? = some (.cells s.cells 99 (0, 0)) := h
  simp only [h']
  simp

/-- Only block A, and what is new, has turned. -/
theorem grown_refl (w : World) (row : Option Nat) : w.grownBy w row := ⟨rfl, rfl, rfl, Nat.le_refl _, fun _ _ _ => rfl⟩
theorem grown_below {B A : Nat} {a w w' : World} (h : Below B a w) (g : w.grownBy w' (some A)) (hA : B ≤ A) (hB : B ≤ w.heap.size) : Below B a w' :=
  ⟨g.os.trans h.os, g.tape.trans h.tape, g.output.trans h.output, Nat.le_trans h.size g.size, fun i hi => by
    rw [g.block i (by omega) (by intro e; cases e; omega)]; exact h.block i hi⟩
theorem grown_set {a w : World} {A i : Nat} (g : a.grownBy w (some A)) (u : Value) : a.grownBy (w.setCell ⟨A, i, none⟩ u) (some A) :=
  ⟨g.os, g.tape, g.output, by rw [setCell_size]; exact g.size, fun k hk hne => by rw [setCell_other _ _ (fun e => hne (by rw [e]))]; exact g.block k hk hne⟩
theorem grown_drew {a w : World} {row : Option Nat} (g : a.grownBy w row) : a.grownBy w.drew row := ⟨g.os, g.tape, g.output, g.size, g.block⟩

theorem grown_alloc {a w : World} {row : Option Nat} (g : a.grownBy w row) (o : Obj) : a.grownBy (w.alloc o) row :=
  ⟨g.os, g.tape, g.output, by rw [World.size_alloc]; exact Nat.le_succ_of_le g.size, fun k hk hne => by rw [Below.heap_alloc w o k (Nat.lt_of_lt_of_le hk g.size)]; exact g.block k hk hne⟩

theorem or16 (a b : Nat) (ha : a < 65536) (hb : b < 65536) : bits .or .u16 (a : Int) (b : Int) = ((a ||| b : Nat) : Int) := (bits_nat .u16 16 (by decide) wraps_u16 a b ha hb).2
theorem or64 (a b : Nat) (ha : a < 18446744073709551616) (hb : b < 18446744073709551616) : bits .or .u64 (a : Int) (b : Int) = ((a ||| b : Nat) : Int) := bits_or_u64_nat a b ha hb

def mix1 (s x : Sup) (j : Nat) : Sup := ⟨fun k => if k < j then s.pc k ||| x.pc k else s.pc k, s.sh, s.ix⟩
def mix2 (s x : Sup) (j : Nat) : Sup := ⟨fun k => if k < 64 then s.pc k ||| x.pc k else s.pc k, fun k => if k < j then s.sh k ||| x.sh k else s.sh k, s.ix⟩

set_option maxRecDepth 100000 in
set_option maxHeartbeats 4000000 in
theorem add_any (A : Nat) (s x : Sup) (w : World) (hA : SupAt w A s) (hs : s.Wf) (hx : x.Wf) :
    Calls Try.prog 68 #[.pointer (some ⟨A, 0, none⟩), x.v] w fun e w' => e = .returned (.tuple #[]) ∧ SupAt w' A (orS s x) ∧ w.grownBy w' (some A) := by
  have alt := (Array.getElem?_eq_some_iff.1 hA).1
  have HS := Lib.hid hs
  have HX := Lib.hid hx
  clear hs hx
  have n0 := SupAt.new w x
  have a0 : SupAt (w.alloc (.cells x.cells 99)) A s := (Below.heap_alloc w _ A alt).trans hA
  have gw : w.grownBy (w.alloc (.cells x.cells 99)) (some A) := grown_alloc (grown_refl w _) _
  obtain ⟨X, hX⟩ : ∃ X, X = w.heap.size := ⟨_, rfl⟩
  have hne : X ≠ A := by omega
  have HXX := Lib.hid hX
  rw [← hX] at n0
  unfold Sup.v
  have N0 := Lib.hid n0
  have A0 := Lib.hid a0
  have GW := Lib.hid gw
  clear n0 a0 gw hA hX
  go_enter Try.func68, Try.ntmps68
  go_wp2
  rw [← HXX.out]
  generalize w.alloc (Obj.cells x.cells 99) = W at N0 A0 GW ⊢
  go_loopw [4, 6] (fun _ v6 wr => ∃ j : Nat, j ≤ 64 ∧ v6 = .int .i64 j ∧ SupAt wr X x ∧ SupAt wr A (mix1 s x j) ∧ w.grownBy wr (some A)) (fun _ v6 _ => 64 - (intOf v6).toNat)
  case atStart => exact ⟨0, by omega, rfl, N0.out, A0.out.congr (fun k _ => by simp [mix1]) (fun _ _ => rfl) rfl, GW.out⟩
  case round =>
    obtain ⟨j, hj, rfl, hnx, hax, hg⟩ := hrel
    have HN := Lib.hid hnx
    have HA := Lib.hid hax
    have HG := Lib.hid hg
    clear hnx hax hg
    by_cases hlt : j < 64
    · have c1 := HN.out.pc j hlt
      have c2 := HA.out.pc j hlt
      have e2 : (mix1 s x j).pc j = s.pc j := by simp [mix1]
      rw [e2] at c2
      have ho := or16 (s.pc j) (x.pc j) (HS.out.pc j) (HX.out.pc j)
      have fz : wr.drew.frozen? ⟨A, j, none⟩ = false := HA.out.frozen j
      have c2' : wr.drew.cell? ⟨A, j, none⟩ = some (.int .u16 (s.pc j)) := c2
      have q1 := HS.out.pc j
      have q2 := HX.out.pc j
      have hset : ∀ W, SupAt W A (mix1 s x j) → SupAt (W.setCell ⟨A, j, none⟩ (.int .u16 ((s.pc j ||| x.pc j : Nat)))) A (mix1 s x (j + 1)) := fun W h => h.set (mix1 s x (j + 1)) j _ (by omega) (by
          unfold Sup.cell; rw [if_pos hlt]; simp [mix1]) (fun k hk hne => by
          unfold Sup.cell
          by_cases a : k < 64
          · rw [if_pos a, if_pos a]
            have : (mix1 s x (j + 1)).pc k = (mix1 s x j).pc k := by
              simp only [mix1]
              by_cases b : k < j
              · rw [if_pos b, if_pos (by omega)]
              · rw [if_neg b, if_neg (by omega)]
            rw [this]
          · rw [if_neg a, if_neg a]; rfl)
      have HSET := Lib.hid hset
      clear hset e2
      generalize s.pc j ||| x.pc j = o at ho HSET
      generalize s.pc j = sj at *
      generalize x.pc j = xj at *
      go_wp2_with fail
      go_still_tail 14, (by kernel_rfl)
      change wpList _ _ _ _ _ wr.drew
      obtain ⟨w2, hw2⟩ : ∃ w2, w2 = wr.drew := ⟨_, rfl⟩
      have hn2 : SupAt w2 X x := by rw [hw2]; exact HN.out
      have ha2 : SupAt w2 A (mix1 s x j) := by rw [hw2]; exact HA.out
      have hg2 : w.grownBy w2 (some A) := by rw [hw2]; exact grown_drew HG.out
      rw [← hw2] at c2' fz ⊢
      have HN2 := Lib.hid hn2
      have HA2 := Lib.hid ha2
      have HG2 := Lib.hid hg2
      clear hw2 hn2 ha2 hg2 c1 c2
      go_wp2
      go_roundw
      case rel => exact ⟨j + 1, by omega, by go_num, HN2.out.other _ hne, HSET.out _ HA2.out, grown_set HG2.out _⟩
      case measure => simp [intOf]; omega
    · have hj64 : j = 64 := by omega
      subst hj64
      clear hlt hj
      rw [show ((64 : Nat) : Int) = 64 from rfl]
      go_wp2
      go_loopw [5, 24] (fun _ v24 wr => ∃ j : Nat, j ≤ 4 ∧ v24 = .int .i64 j ∧ SupAt wr X x ∧ SupAt wr A (mix2 s x j) ∧ w.grownBy wr (some A)) (fun _ v24 _ => 4 - (intOf v24).toNat)
      case atStart => exact ⟨0, by omega, rfl, HN.out, HA.out.congr (fun k hk => by simp [mix1, mix2]) (fun _ _ => by simp [mix1, mix2]) rfl, HG.out⟩
      case round =>
        obtain ⟨j, hj, rfl, hnx, hax, hg⟩ := hrel
        have HN := Lib.hid hnx
        have HA := Lib.hid hax
        have HG := Lib.hid hg
        clear hnx hax hg
        by_cases hlt : j < 4
        · have c1 := HN.out.sh j hlt
          have c2 := HA.out.sh j hlt
          have e2 : (mix2 s x j).sh j = s.sh j := by simp [mix2]
          rw [e2] at c2
          have ho := or64 (s.sh j) (x.sh j) (HS.out.sh j) (HX.out.sh j)
          have fz : wr.drew.frozen? ⟨A, 64 + j, none⟩ = false := HA.out.frozen _
          have c2' : wr.drew.cell? ⟨A, 64 + j, none⟩ = some (.int .u64 (s.sh j)) := c2
          have hset : ∀ W, SupAt W A (mix2 s x j) → SupAt (W.setCell ⟨A, 64 + j, none⟩ (.int .u64 ((s.sh j ||| x.sh j : Nat)))) A (mix2 s x (j + 1)) := fun W h => h.set (mix2 s x (j + 1)) (64 + j) _ (by omega) (by
              unfold Sup.cell; rw [if_neg (by omega), if_pos (by omega)]; simp [mix2]) (fun k hk hne => by
              unfold Sup.cell
              by_cases a : k < 64
              · rw [if_pos a, if_pos a]; rfl
              · rw [if_neg a, if_neg a]
                by_cases b : k < 68
                · rw [if_pos b, if_pos b]
                  have : (mix2 s x (j + 1)).sh (k - 64) = (mix2 s x j).sh (k - 64) := by
                    simp only [mix2]
                    by_cases c : k - 64 < j
                    · rw [if_pos c, if_pos (by omega)]
                    · rw [if_neg c, if_neg (by omega)]
                  rw [this]
                · rw [if_neg b, if_neg b]; rfl)
          have HSET := Lib.hid hset
          clear hset e2
          generalize s.sh j ||| x.sh j = o at ho HSET
          generalize s.sh j = sj at *
          generalize x.sh j = xj at *
          go_wp2_with fail
          go_still_tail 14, (by kernel_rfl)
          change wpList _ _ _ _ _ wr.drew
          obtain ⟨w2, hw2⟩ : ∃ w2, w2 = wr.drew := ⟨_, rfl⟩
          have hn2 : SupAt w2 X x := by rw [hw2]; exact HN.out
          have ha2 : SupAt w2 A (mix2 s x j) := by rw [hw2]; exact HA.out
          have hg2 : w.grownBy w2 (some A) := by rw [hw2]; exact grown_drew HG.out
          rw [← hw2] at c2' fz ⊢
          have HN2 := Lib.hid hn2
          have HA2 := Lib.hid ha2
          have HG2 := Lib.hid hg2
          clear hw2 hn2 ha2 hg2 c1 c2
          go_wp2
          go_roundw
          case rel => exact ⟨j + 1, by omega, by go_num, HN2.out.other _ hne, HSET.out _ HA2.out, grown_set HG2.out _⟩
          case measure => simp [intOf]; omega
        · have hj4 : j = 4 := by omega
          subst hj4
          clear hlt hj
          have c1 := HN.out.ix
          have c2 := HA.out.ix
          have fz := HA.out.frozen 68
          have hfin : SupAt (wr.setCell ⟨A, 68, none⟩ (.bool (s.ix || x.ix))) A (orS s x) := by
            refine HA.out.set (x := ⟨(mix2 s x 4).pc, (mix2 s x 4).sh, s.ix || x.ix⟩) (i := 68) _ (by omega) (by unfold Sup.cell; rw [if_neg (by omega), if_neg (by omega)]) (fun k hk hne => ?_) |>.congr (fun k hk => ?_) (fun k hk => ?_) rfl
            · unfold Sup.cell
              by_cases a : k < 64
              · rw [if_pos a, if_pos a]
              · rw [if_neg a, if_neg a]
                by_cases b : k < 68
                · rw [if_pos b, if_pos b]
                · omega
            · simp [mix2, orS, hk]
            · simp [mix2, orS, hk]
          have HF := Lib.hid hfin
          clear hfin
          have e2 : (mix2 s x 4).ix = s.ix := rfl
          rw [e2] at c2
          generalize s.ix = sx at *
          generalize x.ix = xx at *
          cases sx
          · go_wp2
            go_end0
            exact ⟨rfl, HF.out, grown_set HG.out _⟩
          · go_wp2
            go_end0
            exact ⟨rfl, HF.out, grown_set HG.out _⟩

end Go.Proofs.Ytapjgjjmlbhanaa
