/- The law MeetingstatsMeet, walked. -/
import Derived.Test.YtednejckcdiebaaD
import Derived.Test.YtednejckcdiebaaX
namespace Go.Proofs.Ytednejckcdiebaa
open Go.RowKit Go.Lib Go.ChangeMaps

set_option maxRecDepth 100000 in
set_option maxHeartbeats 1000000 in
theorem meets_long (n : Int) (ao : Option Addr) (len c : Nat) (a b : Int) (w : World) (h : 60 < len) (hm : len ≤ 9223372036854775807) :
    Calls Try.prog 4 #[.int .i64 n, .slice ao len c, .int .i64 a, .int .i64 b] w fun e w' => e = .returned (.bool true) ∧ Below w.heap.size w w' := by
  have CA := Lib.hid awake_any
  go_enter Try.func4, Try.ntmps4
  go_wp2_with fail
  refine (CA.out _).mono ?_
  rintro e w1 ⟨rfl, hb1⟩
  go_wp2
  go_ret
  exact ⟨rfl, by (repeat' (first | (with_reducible exact Below.refl _ _) | (with_reducible assumption) | (with_reducible refine Below.alloc ?_ ?_ _) | (with_reducible refine Below.drew ?_) | (with_reducible refine below_drewN ?_ _) | (with_reducible refine Below.setCell ?_ ?_ _) | (with_reducible refine below_step ?_ (by with_reducible assumption) ?_) | go_size))⟩

set_option maxRecDepth 100000 in
set_option maxHeartbeats 1000000 in
theorem meets_bad (n : Int) (v : Value) (xs : List Mt) (a b : Int) (w : World) (hv : ReadsM w v xs) (h : xs.length ≤ 60) (hn : n < 2 ∨ 12 < n) :
    Calls Try.prog 4 #[.int .i64 n, v, .int .i64 a, .int .i64 b] w fun e w' => e = .returned (.bool true) ∧ Below w.heap.size w w' := by
  have CA := Lib.hid awake_any
  have CP := Lib.hid (fun v w => play_bad n v w hn)
  obtain ⟨ao, c, rfl, hcap, _⟩ := hv
  clear hn
  go_enter Try.func4, Try.ntmps4
  go_wp2_with fail
  refine (CP.out _ _).mono ?_
  rintro e w1 ⟨rfl, rfl⟩
  go_wp2_with fail
  refine (CA.out _).mono ?_
  rintro e w2 ⟨rfl, hb2⟩
  go_wp2
  go_ret
  exact ⟨rfl, by (repeat' (first | (with_reducible exact Below.refl _ _) | (with_reducible assumption) | (with_reducible refine Below.alloc ?_ ?_ _) | (with_reducible refine Below.drew ?_) | (with_reducible refine below_drewN ?_ _) | (with_reducible refine Below.setCell ?_ ?_ _) | (with_reducible refine below_step ?_ (by with_reducible assumption) ?_) | go_size))⟩

theorem IsBook.count {w : World} {F : Nat → Prop} {k : Nat} {n N : Int} {M : Days} {done : List Mt} (hB : IsBook w F k n N M) (hT : Track n done N M) (a b : Int) :
    Calls Try.prog 19 #[.pointer (some ⟨k, 0, none⟩), .int .i64 a, .int .i64 b] w fun e w' => e = .returned (.int .i64 ((refDays done a b).length : Nat)) ∧ Below w.heap.size w w' := by
  have := count_any F k n N M w hB a b
  rw [track_at hT] at this
  exact this

set_option maxRecDepth 100000 in
set_option maxHeartbeats 4000000 in
theorem meets_ok (n : Int) (v : Value) (xs : List Mt) (a b : Int) (w : World) (hv : ReadsM w v xs) (h : xs.length ≤ 60) (hn1 : 2 ≤ n) (hn2 : n ≤ 12) :
    Calls Try.prog 4 #[.int .i64 n, v, .int .i64 a, .int .i64 b] w fun e w' => e = .returned (.bool true) ∧ Below w.heap.size w w' := by
  have CA := Lib.hid awake_any
  have cP := play_ok n v xs w hn1 hn2 hv h
  obtain ⟨ao, c, rfl, hcap, _⟩ := hv
  have CP := Lib.hid cP
  clear cP
  go_enter Try.func4, Try.ntmps4
  go_wp2_with fail
  refine CP.out.mono ?_
  rintro e w1 ⟨k, dv, F, N, M, rfl, hb1, hB, hT, hF, hO⟩
  have z1 := hb1.size
  have hpl := played_length n xs
  generalize played n xs = done at hT hO hpl
  have hfit := hT.fit
  have hrd : ReadsM w1 dv done := readsM_of_row hO
  have hll := rise_length hT.rise (min a b) (max a b)
  have hdl := refDays_length done a b
  have eM := track_at hT a b
  by_cases hz : (refDays done a b).length = 0
  · have cL := last_none F k n N M w1 hB a b (by rw [eM]; exact hz)
    have cC := fun w h => IsBook.count (w := w) (F := F) (k := k) h hT a b
    rw [hz] at cC
    have CL := Lib.hid cL
    have CC := Lib.hid cC
    have HB := Lib.hid hB
    have HR := Lib.hid hrd
    have HZ := Lib.hid hz
    clear cL cC hB hrd hz eM hdl hll hO hT hfit
    cases hp : decide (0 ≤ a ∧ a < n ∧ 0 ≤ b ∧ b < n ∧ a ≠ b)
    · have HP := Lib.hid hp
      clear hp
      go_wp2_with fail
      refine CL.out.mono ?_
      rintro e w2 ⟨rfl, hb2⟩
      have z2 := hb2.size
      go_wp2_with fail
      refine (pair_any _ _ _ _).mono ?_
      rintro e w3 ⟨rfl, rfl⟩
      rw [HP.out]
      go_wp2_with fail
      refine (CA.out _).mono ?_
      rintro e w3 ⟨rfl, hb3⟩
      have z3 := hb3.size
      go_wp2_with fail
      refine (CC.out _ ((HB.out.below hb2).below hb3)).mono ?_
      rintro e w4 ⟨rfl, hb4⟩
      have z4 := hb4.size
      go_wp2
      go_ret
      exact ⟨rfl, by (repeat' (first | (with_reducible exact Below.refl _ _) | (with_reducible assumption) | (with_reducible refine Below.alloc ?_ ?_ _) | (with_reducible refine Below.drew ?_) | (with_reducible refine below_drewN ?_ _) | (with_reducible refine Below.setCell ?_ ?_ _) | (with_reducible refine below_step ?_ (by with_reducible assumption) ?_) | go_size))⟩
    · have HP := Lib.hid hp
      clear hp
      go_wp2_with fail
      refine CL.out.mono ?_
      rintro e w2 ⟨rfl, hb2⟩
      have z2 := hb2.size
      go_wp2_with fail
      refine (pair_any _ _ _ _).mono ?_
      rintro e w3 ⟨rfl, rfl⟩
      rw [HP.out]
      go_wp2_with fail
      refine (refDays_any dv done a b w2 (HR.out.below hb2) (by omega)).mono ?_
      rintro e w3 ⟨v3, rfl, hv3, hb3⟩
      have z3 := hb3.size
      have hrd3 := reads_of_row (ownsRow_zero hv3)
      clear hv3
      rw [List.length_eq_zero_iff.1 HZ.out] at hrd3
      obtain ⟨ao3, c3, rfl, _, _⟩ := hrd3
      go_wp2_with fail
      refine (CA.out _).mono ?_
      rintro e w4 ⟨rfl, hb4⟩
      have z4 := hb4.size
      go_wp2_with fail
      refine (CC.out _ (((HB.out.below hb2).below hb3).below hb4)).mono ?_
      rintro e w5 ⟨rfl, hb5⟩
      have z5 := hb5.size
      go_wp2
      go_ret
      exact ⟨rfl, by (repeat' (first | (with_reducible exact Below.refl _ _) | (with_reducible assumption) | (with_reducible refine Below.alloc ?_ ?_ _) | (with_reducible refine Below.drew ?_) | (with_reducible refine below_drewN ?_ _) | (with_reducible refine Below.setCell ?_ ?_ _) | (with_reducible refine below_step ?_ (by with_reducible assumption) ?_) | go_size))⟩
  · have hp : decide (0 ≤ a ∧ a < n ∧ 0 ≤ b ∧ b < n ∧ a ≠ b) = true := by
      rw [decide_eq_true_iff]
      refine Classical.byContradiction fun hne => hz ?_
      rw [refDays_none hfit a b hne]
      rfl
    have cL := last_some F k n N M w1 hB a b hll (by rw [eM]; omega)
    rw [eM] at cL
    have cC := fun w h => IsBook.count (w := w) (F := F) (k := k) h hT a b
    have cC' := fun w h => IsBook.count (w := w) (F := F) (k := k) h hT b a
    rw [refDays_comm done b a] at cC'
    have cD := fun w h => refDays_any dv done a b w h (by omega)
    have hz' : (((refDays done a b).length : Int) == 0) = false := by rw [beq_eq_false_iff_ne]; omega
    generalize refDays done a b = days at cL cC cC' cD hz hz' hdl
    obtain ⟨m, hm⟩ : ∃ m, days.length = m + 1 := ⟨days.length - 1, by omega⟩
    have e1 : days.length - 1 = m := by omega
    rw [e1] at cL
    obtain ⟨l, hl⟩ : ∃ l, l = days.getD m 0 := ⟨_, rfl⟩
    rw [← hl] at cL
    rw [hm] at cC cC' hz'
    have CL := Lib.hid cL
    have CC := Lib.hid cC
    have CC' := Lib.hid cC'
    have CD := Lib.hid cD
    have HB := Lib.hid hB
    have HR := Lib.hid hrd
    have HM := Lib.hid hm
    have HL := Lib.hid hl
    have HP := Lib.hid hp
    have hk : (m : Int) ≤ 59 := by omega
    clear cL cC cC' cD hB hrd hm hl hp hz eM hll hO hT hfit e1 hdl
    go_wp2_with fail
    refine CL.out.mono ?_
    rintro e w2 ⟨rfl, hb2⟩
    have z2 := hb2.size
    go_wp2_with fail
    refine (pair_any _ _ _ _).mono ?_
    rintro e w3 ⟨rfl, rfl⟩
    rw [HP.out]
    go_wp2_with fail
    refine (CD.out w2 (HR.out.below hb2)).mono ?_
    rintro e w3 ⟨v3, rfl, hv3, hb3⟩
    have z3 := hb3.size
    have hrd3 := reads_of_row (ownsRow_zero hv3)
    clear hv3
    obtain ⟨ao3, c3, rfl, hc3, hcell3⟩ := hrd3
    obtain ⟨g3, o3, rfl, hlast⟩ := hcell3 m (by have := HM.out; omega)
    rw [← HL.out] at hlast
    have HLa := Lib.hid hlast
    have hl3 := cell_lt hlast
    rw [HM.out] at hc3 ⊢
    clear hcell3 hlast
    go_wp2_with fail
    refine (CA.out _).mono ?_
    rintro e w4 ⟨rfl, hb4⟩
    have z4 := hb4.size
    go_wp2_with fail
    refine (CC.out _ (((HB.out.below hb2).below hb3).below hb4)).mono ?_
    rintro e w5 ⟨rfl, hb5⟩
    have z5 := hb5.size
    go_wp2_with fail
    refine (CC'.out _ ((((HB.out.below hb2).below hb3).below hb4).below hb5)).mono ?_
    rintro e w6 ⟨rfl, hb6⟩
    have z6 := hb6.size
    have hlast6 : w6.cell? ⟨g3, o3 + m, none⟩ = some (.int .i64 l) := by
      rw [hb6.cell (p := ⟨g3, _, none⟩) (by show g3 < _; omega), hb5.cell (p := ⟨g3, _, none⟩) (by show g3 < _; omega), hb4.cell (p := ⟨g3, _, none⟩) hl3]
      exact HLa.out
    go_wp2
    go_ret
    exact ⟨rfl, by (repeat' (first | (with_reducible exact Below.refl _ _) | (with_reducible assumption) | (with_reducible refine Below.alloc ?_ ?_ _) | (with_reducible refine Below.drew ?_) | (with_reducible refine below_drewN ?_ _) | (with_reducible refine Below.setCell ?_ ?_ _) | (with_reducible refine below_step ?_ (by with_reducible assumption) ?_) | go_size))⟩

/-- The law, at all inputs. -/
theorem meets_any (n : Int) (ao : Option Addr) (len c : Nat) (a b : Int) (w : World) (hm : len ≤ 9223372036854775807) (hv : len ≤ 60 → ∃ xs, xs.length = len ∧ ReadsM w (.slice ao len c) xs) :
    Calls Try.prog 4 #[.int .i64 n, .slice ao len c, .int .i64 a, .int .i64 b] w fun e w' => e = .returned (.bool true) ∧ Below w.heap.size w w' := by
  by_cases h : 60 < len
  · exact meets_long n ao len c a b w h hm
  · obtain ⟨xs, hx, hr⟩ := hv (by omega)
    by_cases hn : n < 2 ∨ 12 < n
    · exact meets_bad n _ xs a b w hr (by omega) hn
    · exact meets_ok n _ xs a b w hr (by omega) (by omega) (by omega)

end Go.Proofs.Ytednejckcdiebaa
