/- The small methods of a book: New, has, asked. -/
import Derived.Test.YtednejckcdiebaaW1
namespace Go.Proofs.Ytednejckcdiebaa
open Go.RowKit Go.Lib

theorem has_any (k : Nat) (n d : Int) (w : World) (hc : w.cell? ⟨k, 0, none⟩ = some (.int .i64 n)) :
    Calls Try.prog 56 #[.pointer (some ⟨k, 0, none⟩), .int .i64 d] w fun e w' => e = .returned (.bool (decide (0 ≤ d ∧ d < n))) ∧ w = w' := by
  by_cases h1 : 0 ≤ d <;> by_cases h2 : d < n
  all_goals
    go_enter Try.func56, Try.ntmps56
    go_wp2
    go_returns
    exact ⟨by simp [*], rfl⟩

theorem bcell {W w1 : World} (hb : Below W.heap.size W w1) : (∀ b o, b < W.heap.size → w1.cell? ⟨b, o, none⟩ = W.cell? ⟨b, o, none⟩) ∧ (∀ b o, b < W.heap.size → w1.frozen? ⟨b, o, none⟩ = W.frozen? ⟨b, o, none⟩) :=
  ⟨fun b o h => hb.cell (p := ⟨b, o, none⟩) h, fun b o h => hb.frozen (p := ⟨b, o, none⟩) h⟩

theorem cell_lt {w : World} {b o : Nat} {v : Value} (h : w.cell? ⟨b, o, none⟩ = some v) : b < w.heap.size := by
  unfold World.cell? at h
  cases hh : w.heap[b]? with
  | none => rw [hh] at h; simp at h
  | some x => exact (Array.getElem?_eq_some_iff.1 hh).1

set_option maxHeartbeats 1000000 in
theorem asked_ok (k : Nat) (n a b d : Int) (w : World) (hc : w.cell? ⟨k, 0, none⟩ = some (.int .i64 n)) (h1 : 0 ≤ a) (h2 : a < n) (h3 : 0 ≤ b) (h4 : b < n) (h5 : a ≠ b) (h6 : 0 ≤ d) (h7 : d ≤ 999999) :
    Calls Try.prog 45 #[.pointer (some ⟨k, 0, none⟩), .int .i64 a, .int .i64 b, .int .i64 d] w fun e w' => e = .returned (.tuple #[.agg #[.int .i64 (min a b), .int .i64 (max a b)], .int .i64 0]) ∧ Below w.heap.size w w' := by
  have hlt := cell_lt hc
  have hc1 : ∀ o, (w.alloc o).cell? ⟨k, 0, none⟩ = some (.int .i64 n) := fun o => by rw [((Below.refl _ w).alloc (Nat.le_refl _) o).cell hlt]; exact hc
  have e1 : decide (0 ≤ a ∧ a < n) = true := by simp [*]
  have e2 : decide (0 ≤ b ∧ b < n) = true := by simp [*]
  have e3 : decide (0 ≤ d ∧ d ≤ 999999) = true := by simp [*]
  have e4 : (a == b) = false := by simp [*]
  go_enter Try.func45, Try.ntmps45
  go_wp2_with (first | (go_at_call 56; refine (has_any k n _ _ (hc1 _)).mono ?_; rintro e w' ⟨rfl, rfl⟩) | (go_at_call 57; refine (validDay_any _ _).mono ?_; rintro e w' ⟨rfl, rfl⟩) | (go_at_call 37; refine (ordered_any _ _ _).mono ?_; rintro e w' ⟨rfl, hb⟩; obtain ⟨hcc, hff⟩ := bcell hb))
  refine bodyPost_ret (v := .tuple #[.agg #[.int .i64 (min a b), .int .i64 (max a b)], .int .i64 0]) (by simp [results, Try.results45, go_sem, hcc]) rfl ⟨rfl, ?_⟩
  (repeat' (first | (with_reducible exact Below.refl _ _) | (with_reducible assumption) | (with_reducible refine Below.alloc ?_ ?_ _) | (with_reducible refine Below.drew ?_) | (with_reducible refine below_drewN ?_ _) | (with_reducible refine Below.setCell ?_ ?_ _) | (with_reducible refine below_step ?_ (by with_reducible assumption) ?_) | go_size))

set_option maxHeartbeats 1000000 in
theorem asked_bad (k : Nat) (n a b d : Int) (w : World) (hc : w.cell? ⟨k, 0, none⟩ = some (.int .i64 n)) (h : ¬ (0 ≤ a ∧ a < n ∧ 0 ≤ b ∧ b < n ∧ a ≠ b ∧ 0 ≤ d ∧ d ≤ 999999)) :
    Calls Try.prog 45 #[.pointer (some ⟨k, 0, none⟩), .int .i64 a, .int .i64 b, .int .i64 d] w fun e w' => e = .returned (.tuple #[.agg #[.int .i64 0, .int .i64 0], .int .i64 1]) ∧ Below w.heap.size w w' := by
  have hlt := cell_lt hc
  have hc1 : ∀ o, (w.alloc o).cell? ⟨k, 0, none⟩ = some (.int .i64 n) := fun o => by rw [((Below.refl _ w).alloc (Nat.le_refl _) o).cell hlt]; exact hc
  by_cases g1 : decide (0 ≤ a ∧ a < n) = true
  · by_cases g2 : decide (0 ≤ b ∧ b < n) = true
    · by_cases g3 : a = b
      · have e4 : (a == b) = true := by simp [*]
        subst g3
        clear h hc
        go_enter Try.func45, Try.ntmps45
        go_wp2_with (first | (go_at_call 56; refine (has_any k n _ _ (hc1 _)).mono ?_; rintro e w' ⟨rfl, rfl⟩) | (go_at_call 57; refine (validDay_any _ _).mono ?_; rintro e w' ⟨rfl, rfl⟩))
        go_returns
        refine ⟨rfl, ?_⟩
        (repeat' (first | (with_reducible exact Below.refl _ _) | (with_reducible assumption) | (with_reducible refine Below.alloc ?_ ?_ _) | (with_reducible refine Below.drew ?_) | (with_reducible refine below_drewN ?_ _) | (with_reducible refine Below.setCell ?_ ?_ _) | (with_reducible refine below_step ?_ (by with_reducible assumption) ?_) | go_size))
      · have e4 : (a == b) = false := by simp [*]
        have e3 : decide (0 ≤ d ∧ d ≤ 999999) = false := by simp at *; omega
        clear h hc
        go_enter Try.func45, Try.ntmps45
        go_wp2_with (first | (go_at_call 56; refine (has_any k n _ _ (hc1 _)).mono ?_; rintro e w' ⟨rfl, rfl⟩) | (go_at_call 57; refine (validDay_any _ _).mono ?_; rintro e w' ⟨rfl, rfl⟩))
        go_returns
        refine ⟨rfl, ?_⟩
        (repeat' (first | (with_reducible exact Below.refl _ _) | (with_reducible assumption) | (with_reducible refine Below.alloc ?_ ?_ _) | (with_reducible refine Below.drew ?_) | (with_reducible refine below_drewN ?_ _) | (with_reducible refine Below.setCell ?_ ?_ _) | (with_reducible refine below_step ?_ (by with_reducible assumption) ?_) | go_size))
    · have g2 : decide (0 ≤ b ∧ b < n) = false := by simpa using g2
      clear h hc
      go_enter Try.func45, Try.ntmps45
      go_wp2_with (first | (go_at_call 56; refine (has_any k n _ _ (hc1 _)).mono ?_; rintro e w' ⟨rfl, rfl⟩) | (go_at_call 57; refine (validDay_any _ _).mono ?_; rintro e w' ⟨rfl, rfl⟩))
      go_returns
      refine ⟨rfl, ?_⟩
      (repeat' (first | (with_reducible exact Below.refl _ _) | (with_reducible assumption) | (with_reducible refine Below.alloc ?_ ?_ _) | (with_reducible refine Below.drew ?_) | (with_reducible refine below_drewN ?_ _) | (with_reducible refine Below.setCell ?_ ?_ _) | (with_reducible refine below_step ?_ (by with_reducible assumption) ?_) | go_size))
  · have g1 : decide (0 ≤ a ∧ a < n) = false := by simpa using g1
    clear h hc
    go_enter Try.func45, Try.ntmps45
    go_wp2_with (first | (go_at_call 56; refine (has_any k n _ _ (hc1 _)).mono ?_; rintro e w' ⟨rfl, rfl⟩) | (go_at_call 57; refine (validDay_any _ _).mono ?_; rintro e w' ⟨rfl, rfl⟩))
    go_returns
    refine ⟨rfl, ?_⟩
    (repeat' (first | (with_reducible exact Below.refl _ _) | (with_reducible assumption) | (with_reducible refine Below.alloc ?_ ?_ _) | (with_reducible refine Below.drew ?_) | (with_reducible refine below_drewN ?_ _) | (with_reducible refine Below.setCell ?_ ?_ _) | (with_reducible refine below_step ?_ (by with_reducible assumption) ?_) | go_size))

end Go.Proofs.Ytednejckcdiebaa
