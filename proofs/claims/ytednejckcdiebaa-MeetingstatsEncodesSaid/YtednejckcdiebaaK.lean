/- The methods of a book that only look: between, recent, weight, Rate, Within, Expected, Weight, Count, Last; and New. -/
import Derived.Test.YtednejckcdiebaaB
namespace Go.Proofs.Ytednejckcdiebaa
open Go.RowKit Go.Lib

theorem new_bad (n : Int) (w : World) (h : n < 2 ∨ 12 < n) :
    Calls Try.prog 36 #[.int .i64 n] w fun e w' => e = .returned (.tuple #[.pointer none, .int .i64 1]) ∧ w = w' := by
  by_cases h1 : n < 2
  · clear h
    go_enter Try.func36, Try.ntmps36
    go_wp2
    go_ret2
    exact ⟨rfl, rfl⟩
  · have h2 : 12 < n := by omega
    clear h
    go_enter Try.func36, Try.ntmps36
    go_wp2
    go_ret2
    exact ⟨rfl, rfl⟩

theorem book_new (w : World) (n : Int) : IsBook ((w.alloc (Obj32 [] 0)).alloc (.cells #[.int .i64 n, .map (some w.heap.size), .int .i64 (-1)] 70)) (fun b => w.heap.size ≤ b) (w.heap.size + 1) n (-1) (fun _ _ => []) := by
  refine ⟨w.heap.size, [], 0, by simp, by simp, ?_, ?_, ⟨by simp, by simp, by simp⟩, fun a b => World.ownsRow_nil _ _ _ _, fun a b g hg => by simp [look, seek, Value.ownBlock] at hg, fun a b a' b' g hg => by simp [look, seek, Value.ownBlock] at hg⟩
  · show ((w.heap.push _).push _)[_]? = _
    rw [Array.getElem?_push, Array.size_push, if_pos rfl]
  · show ((w.heap.push _).push _)[_]? = _
    rw [Array.getElem?_push, Array.size_push, if_neg (by omega), Array.getElem?_push, if_pos rfl]

theorem new_ok (n : Int) (w : World) (h1 : 2 ≤ n) (h2 : n ≤ 12) :
    Calls Try.prog 36 #[.int .i64 n] w fun e w' => e = .returned (.tuple #[.pointer (some ⟨w.heap.size + 1, 0, none⟩), .int .i64 0]) ∧ Below w.heap.size w w' ∧ IsBook w' (fun b => w.heap.size ≤ b) (w.heap.size + 1) n (-1) (fun _ _ => []) := by
  have hmm := @run_makeMap Try.prog
  have hk := book_new w n
  have HK := Lib.hid hk
  clear hk
  go_enter Try.func36, Try.ntmps36
  go_wp2
  go_ret2
  refine ⟨rfl, by (repeat' (first | (with_reducible exact Below.refl _ _) | (with_reducible assumption) | (with_reducible refine Below.alloc ?_ ?_ _) | (with_reducible refine Below.drew ?_) | (with_reducible refine below_drewN ?_ _) | (with_reducible refine Below.setCell ?_ ?_ _) | (with_reducible refine below_step ?_ (by with_reducible assumption) ?_) | go_size)), HK.out⟩

/-- The days of a list from one to another one. -/
def win (zs : List Int) (first last : Int) : List Int := (zs.drop (zs.countP (· < first))).take (zs.countP (· < last + 1) - zs.countP (· < first))

theorem countP_mono (zs : List Int) (x y : Int) (h : x ≤ y) : zs.countP (· < x) ≤ zs.countP (· < y) := by
  refine List.countP_mono_left fun z _ hz => ?_
  simp at hz ⊢
  omega

/-- The part of a slice of ints from f to t. -/
def cut (ao : Option Addr) (cap f t : Nat) : Value := .slice (if cap = f then ao else ao.map (·.add f)) (t - f) (cap - f)

theorem run_cut (ao : Option Addr) (l cap f t : Nat) (h1 : f ≤ t) (h2 : t ≤ cap) (w : World) : (Instr.slice 39 (.slice ao l cap) (some (.int .i64 f)) (some (.int .i64 t)) none).run Try.prog w = .ok (cut ao cap f t) w := by
  have hs : ∀ w, (sizeOf 3).run Try.prog w = .ok 1 w := fun w => by kernel_rfl
  simp [Instr.slice, run_underlying Try.underlying39, Instr.sliceBounds, Instr.sliceBound, asIntOf, h1, h2, Result.andThen, hs, cut]

theorem win_reads {w : World} {ao : Option Addr} {cap : Nat} {zs : List Int} (h : Reads w (.slice ao zs.length cap) zs) (f t : Nat) (h1 : f ≤ t) (h2 : t ≤ zs.length) :
    Reads w (cut ao cap f t) ((zs.drop f).take (t - f)) := by
  unfold cut
  obtain ⟨ao', c, e, hcap, hc⟩ := h
  cases e
  have hl : ((zs.drop f).take (t - f)).length = t - f := by simp; omega
  refine ⟨_, cap - f, by rw [hl], by rw [hl]; omega, fun j hj => ?_⟩
  rw [hl] at hj
  obtain ⟨b, off, e1, h3⟩ := hc (f + j) (by omega)
  subst e1
  have hlt : f < zs.length := by omega
  have e3 : ((zs.drop f).take (t - f)).getD j 0 = zs.getD (f + j) 0 := by
    simp [List.getD, hj, List.getElem?_drop]
  rw [e3, if_neg (by omega)]
  refine ⟨b, off + f, ?_, by rw [Nat.add_assoc]; exact h3⟩
  by_cases hf : f = 0
  · subst hf; simp [Addr.add]
  · simp [Addr.add, hf]

set_option maxHeartbeats 1000000 in
theorem between_any (F : Nat → Prop) (k : Nat) (n N : Int) (M : Days) (w : World) (hB : IsBook w F k n N M) (hR : Rise N M) (p q first last : Int) (h1 : -1000000 ≤ first) (h2 : first ≤ last + 1) (h3 : last ≤ 1000000) :
    Calls Try.prog 60 #[.pointer (some ⟨k, 0, none⟩), .agg #[.int .i64 p, .int .i64 q], .int .i64 first, .int .i64 last] w fun e w' => ∃ v, e = .returned v ∧ Reads w' v (win (M p q) first last) ∧ Below w.heap.size w w' := by
  have hlen := rise_length hR p q
  have hsort := rise_le hR p q
  obtain ⟨mb, L, c, fk, fm, hk, hm, hS, hrow, hf, hd⟩ := hB
  have klt := (Array.getElem?_eq_some_iff.1 hk).1
  have mlt := (Array.getElem?_eq_some_iff.1 hm).1
  obtain ⟨w1, hw1⟩ : ∃ w1, w1 = w.alloc (.cells #[.int .i64 p, .int .i64 q] 72) := ⟨_, rfl⟩
  have hb1 : Below w.heap.size w w1 := by rw [hw1]; exact (Below.refl _ w).alloc (Nat.le_refl _) _
  have hlk : ∀ j, (Instr.lookup 68 (.map (some mb)) (.agg #[.int .i64 p, .int .i64 q]) false).run Try.prog (w1.drewN j) = .ok (look L p q) (w1.drewN j) := fun j => run_lookup_pair (w := w1.drewN j) (by show w1.heap[mb]? = _; rw [hb1.block mb mlt]; exact hm) p q
  have hc1 : w1.cell? ⟨k, 1, none⟩ = some (.map (some mb)) := by rw [hb1.cell (p := ⟨k, 1, none⟩) klt, cell_of_block hk]; rfl
  have hrd := (reads_of_row (hrow p q)).below hb1
  obtain ⟨zs, hzs⟩ : ∃ zs, zs = M p q := ⟨_, rfl⟩
  rw [← hzs] at hlen hsort hrd ⊢
  clear hrow hf hd hS hm hk fk fm hR hzs
  have hrd' := hrd
  obtain ⟨ao, cap, hlook, hcap, hcell⟩ := hrd
  rw [hlook] at hlk hrd'
  obtain ⟨f, hf⟩ : ∃ f, f = zs.countP (· < first) := ⟨_, rfl⟩
  obtain ⟨t, ht⟩ : ∃ t, t = zs.countP (· < last + 1) := ⟨_, rfl⟩
  have hft : f ≤ t := by rw [hf, ht]; exact countP_mono zs _ _ h2
  have htl : t ≤ zs.length := by rw [ht]; exact List.countP_le_length
  have hwin := win_reads hrd' f t hft htl
  have hsl := run_cut ao zs.length cap f t hft (by omega)
  have c1 := bs_any (.slice ao zs.length cap) zs first
  have c2 := bs_any (.slice ao zs.length cap) zs (last + 1)
  rw [← hf] at c1
  rw [← ht] at c2
  have hres : Hid ((zs.drop f).take (t - f) = win zs first last) := by unfold win; rw [← hf, ← ht]; rfl
  have C1 := Lib.hid c1
  have C2 := Lib.hid c2
  have HW := Lib.hid hwin
  have HR := Lib.hid hrd'
  have HS := Lib.hid hsort
  rw [hw1] at hlk hc1
  have HW1 := Lib.hid hw1
  clear c1 c2 hwin hrd' hsort hf ht hcell hlook hw1
  go_enter Try.func60, Try.ntmps60
  go_wp2
  go_quiet (fail)
  go_wp2_with fail
  refine (C1.out _ ?_ (by omega) HS.out).mono ?_
  · have := HR.out; rw [HW1.out] at this; exact this
  rintro e w' ⟨rfl, rfl⟩
  go_wp2_with fail
  refine (C2.out _ ?_ (by omega) HS.out).mono ?_
  · have := HR.out; rw [HW1.out] at this; exact this
  rintro e w' ⟨rfl, rfl⟩
  go_wp2_with fail
  go_ret
  refine ⟨cut ao cap f t, rfl, ?_, ?_⟩
  · rw [← hres.out, ← HW1.out]; exact HW.out
  · (repeat' (first | (with_reducible exact Below.refl _ _) | (with_reducible assumption) | (with_reducible refine Below.alloc ?_ ?_ _) | (with_reducible refine Below.drew ?_) | (with_reducible refine below_drewN ?_ _) | (with_reducible refine Below.setCell ?_ ?_ _) | (with_reducible refine below_step ?_ (by with_reducible assumption) ?_) | go_size))

end Go.Proofs.Ytednejckcdiebaa
