/- Book.Count and Book.Last. -/
import Derived.Test.YtednejckcdiebaaE
import Derived.Deep.RegionWith
namespace Go.Proofs.Ytednejckcdiebaa
open Go.RowKit Go.Lib Go.ChangeMaps

/-- What 'k.met[ordered(a, b)]' finds: the pair, and the days at it. -/
theorem ordered_met (F : Nat → Prop) (k : Nat) (n N : Int) (M : Days) (w : World) (hB : IsBook w F k n N M) (a b : Int) :
    ∃ (mb : Nat) (ao : Option Addr) (c : Nat), w.cell? ⟨k, 1, none⟩ = some (.map (some mb)) ∧ 
    Calls Try.prog 37 #[.int .i64 a, .int .i64 b] w.drew fun e w' => e = .returned (.agg #[.int .i64 (min a b), .int .i64 (max a b)]) ∧ Below w.heap.size w w' ∧ w'.cell? ⟨k, 1, none⟩ = some (.map (some mb)) ∧
      (Instr.lookup 68 (.map (some mb)) (.agg #[.int .i64 (min a b), .int .i64 (max a b)]) false).run Try.prog w' = .ok (.slice ao (M (min a b) (max a b)).length c) w' ∧ Reads w' (.slice ao (M (min a b) (max a b)).length c) (M (min a b) (max a b)) := by
  have hB' := hB
  obtain ⟨mb, L, c, fk, fm, g1, g2, g3, g4, g5, g6⟩ := hB'
  obtain ⟨p, hp⟩ : ∃ p, p = min a b := ⟨_, rfl⟩
  obtain ⟨q, hq⟩ : ∃ q, q = max a b := ⟨_, rfl⟩
  have hrd := reads_of_row (g4 p q)
  obtain ⟨ao, cap, hlook, hcap, _⟩ := hrd
  refine ⟨mb, ao, cap, by rw [cell_of_block g1]; rfl, (ordered_any a b w.drew).mono fun e w' h => ?_⟩
  obtain ⟨h1, h2⟩ := h
  have hb : Below w.heap.size w w' := (Below.refl _ w).drew.trans h2
  have g2' : w'.heap[mb]? = some (Obj32 L c) := by rw [hb.block mb (Array.getElem?_eq_some_iff.1 g2).1]; exact g2
  have hl := run_lookup_pair g2' p q
  have hr := (reads_of_row (g4 p q)).below hb
  rw [hlook] at hl hr
  rw [← hp, ← hq] at h1 ⊢
  exact ⟨h1, hb, by rw [hb.cell (p := ⟨k, 1, none⟩) (Array.getElem?_eq_some_iff.1 g1).1, cell_of_block g1]; rfl, hl, hr⟩

set_option maxHeartbeats 1000000 in
theorem count_any (F : Nat → Prop) (k : Nat) (n N : Int) (M : Days) (w : World) (hB : IsBook w F k n N M) (a b : Int) :
    Calls Try.prog 19 #[.pointer (some ⟨k, 0, none⟩), .int .i64 a, .int .i64 b] w fun e w' => e = .returned (.int .i64 ((M (min a b) (max a b)).length : Nat)) ∧ Below w.heap.size w w' := by
  obtain ⟨mb, ao, c, hc1, cO⟩ := ordered_met F k n N M w hB a b
  generalize M (min a b) (max a b) = zs at cO ⊢
  have CO := Lib.hid cO
  clear cO hB
  go_enter Try.func19, Try.ntmps19
  go_wp2_with fail
  go_region_with (go_at_call 37; refine CO.out.mono ?_; rintro e w1 ⟨rfl, hb, hcc, hl, _⟩)
  all_goals
    go_wp2
    go_ret
    exact ⟨rfl, by (repeat' (first | (with_reducible exact Below.refl _ _) | (with_reducible assumption) | (with_reducible refine Below.alloc ?_ ?_ _) | (with_reducible refine Below.drew ?_) | (with_reducible refine below_drewN ?_ _) | (with_reducible refine Below.setCell ?_ ?_ _) | (with_reducible refine below_step ?_ (by with_reducible assumption) ?_) | go_size))⟩

theorem Reads.last {w : World} {ao : Option Addr} {c : Nat} {zs : List Int} (h : Reads w (.slice ao zs.length c) zs) (h0 : 0 < zs.length) : ∃ b off, ao = some ⟨b, off, none⟩ ∧ w.cell? ⟨b, off + (zs.length - 1), none⟩ = some (.int .i64 (zs.getD (zs.length - 1) 0)) := by
  obtain ⟨ao', c', e, _, hc⟩ := h
  cases e
  exact hc (zs.length - 1) (by omega)

set_option maxHeartbeats 1000000 in
theorem last_none (F : Nat → Prop) (k : Nat) (n N : Int) (M : Days) (w : World) (hB : IsBook w F k n N M) (a b : Int) (h : (M (min a b) (max a b)).length = 0) :
    Calls Try.prog 17 #[.pointer (some ⟨k, 0, none⟩), .int .i64 a, .int .i64 b] w fun e w' => e = .returned (.tuple #[.int .i64 0, .bool false]) ∧ Below w.heap.size w w' := by
  obtain ⟨mb, ao, c, hc1, cO⟩ := ordered_met F k n N M w hB a b
  rw [h] at cO
  have CO := Lib.hid cO
  clear cO hB h
  go_enter Try.func17, Try.ntmps17
  go_wp2_with fail
  go_region_with (go_at_call 37; refine CO.out.mono ?_; rintro e w1 ⟨rfl, hb, hcc, hl, _⟩)
  all_goals
    go_wp2
    go_ret2
    exact ⟨rfl, by (repeat' (first | (with_reducible exact Below.refl _ _) | (with_reducible assumption) | (with_reducible refine Below.alloc ?_ ?_ _) | (with_reducible refine Below.drew ?_) | (with_reducible refine below_drewN ?_ _) | (with_reducible refine Below.setCell ?_ ?_ _) | (with_reducible refine below_step ?_ (by with_reducible assumption) ?_) | go_size))⟩

set_option maxHeartbeats 1000000 in
theorem last_some (F : Nat → Prop) (k : Nat) (n N : Int) (M : Days) (w : World) (hB : IsBook w F k n N M) (a b : Int) (hb : (M (min a b) (max a b)).length ≤ 1000000) (h : 0 < (M (min a b) (max a b)).length) :
    Calls Try.prog 17 #[.pointer (some ⟨k, 0, none⟩), .int .i64 a, .int .i64 b] w fun e w' => e = .returned (.tuple #[.int .i64 ((M (min a b) (max a b)).getD ((M (min a b) (max a b)).length - 1) 0), .bool true]) ∧ Below w.heap.size w w' := by
  obtain ⟨mb, ao, c, hc1, cO⟩ := ordered_met F k n N M w hB a b
  generalize M (min a b) (max a b) = zs at cO hb h ⊢
  have hz : ((zs.length : Int) == 0) = false := by rw [beq_eq_false_iff_ne]; omega
  have CO := Lib.hid cO
  clear cO hB
  go_enter Try.func17, Try.ntmps17
  go_wp2_with fail
  go_region_with (go_at_call 37; refine CO.out.mono ?_; rintro e w1 ⟨rfl, hb, hcc, hl, hr⟩; obtain ⟨bk, off, rfl, hlast⟩ := hr.last h)
  all_goals
    go_wp2
    go_ret2
    exact ⟨rfl, by (repeat' (first | (with_reducible exact Below.refl _ _) | (with_reducible assumption) | (with_reducible refine Below.alloc ?_ ?_ _) | (with_reducible refine Below.drew ?_) | (with_reducible refine below_drewN ?_ _) | (with_reducible refine Below.setCell ?_ ?_ _) | (with_reducible refine below_step ?_ (by with_reducible assumption) ?_) | go_size))⟩

end Go.Proofs.Ytednejckcdiebaa
