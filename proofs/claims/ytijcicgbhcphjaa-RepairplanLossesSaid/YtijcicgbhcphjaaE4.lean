/- The closures of Plan. -/
import Derived.Test.YtijcicgbhcphjaaE3
namespace Go.Proofs.Ytijcicgbhcphjaa
open Go.RowKit Go.Lib Go.ChangeMaps
set_option linter.unusedSimpArgs false

def btS (V : Vp) (gone : Nat → Bool) (i j : Nat) : Bool := decide (spareI V gone i < spareI V gone j)

set_option maxRecDepth 100000 in
set_option maxHeartbeats 2000000 in
theorem less46_any {lo hi p : Nat} {V : Vp} {gone : Nat → Bool} (i j S : Nat) (w : World) (hst : StAt w lo hi p V gone) (hi : i < V.held.length) (hj : j < V.held.length) (hS : w.cell? ⟨S, 0, none⟩ = some (.pointer (some ⟨p, 0, none⟩))) :
    Calls Try.prog 46 #[.int .i64 i, .int .i64 j, .pointer (some ⟨S, 0, none⟩)] w fun e w' => e = .returned (.bool (btS V gone i j)) ∧ Below w.heap.size w w' := by
  have HST := Lib.hid hst
  have C1 := Lib.hid (fun W (h : Below w.heap.size w W) => spare_any i W (hst.below h) hi)
  have C2 := Lib.hid (fun W (h : Below w.heap.size w W) => spare_any j W (hst.below h) hj)
  obtain ⟨r, hr⟩ : ∃ r, r = btS V gone i j := ⟨_, rfl⟩
  rw [← hr]
  have HR := Lib.hid (show r = decide (spareI V gone i < spareI V gone j) from hr)
  clear hr hst
  generalize spareI V gone i = x at *
  generalize spareI V gone j = y at *
  have hS' : w.drew.cell? ⟨S, 0, none⟩ = some (.pointer (some ⟨p, 0, none⟩)) := hS
  have hb0 : Below w.heap.size w w.drew := (Below.refl _ _).drew
  go_enter Try.func46, Try.ntmps46
  go_upto_region 1 with fail
  refine wp_region_held_drew (S := fun w' => w'.cell? ⟨S, 0, none⟩ = some (.pointer (some ⟨p, 0, none⟩))) (by kernel_rfl) hS' (fun hHeld => ?_)
  generalize w.drew = W at *
  refine wpAnyH_take (i := 0) (v := ?_) rfl (by kernel_rfl) (by kernel_rfl) (by kernel_rfl) (fun _ _ _ h => h) (Or.inl ⟨by rfl, ?_⟩) (by assumption) ?_
  rotate_left; · (intro w hSw; (try dsimp only at hSw); go_simp; try with_reducible rfl)
  try simp only [Act.put, List.getElem_toArray, List.getElem_cons_zero, List.getElem_cons_succ, List.setIfInBounds_toArray, List.set_cons_zero, List.set_cons_succ]
  refine wpAnyH_take (i := 1) (v := ?_) rfl (by kernel_rfl) (by kernel_rfl) (by kernel_rfl) (fun _ _ _ h => h) (Or.inl ⟨by rfl, ?_⟩) (by assumption) ?_
  rotate_left; · (intro w hSw; (try dsimp only at hSw); go_simp; try with_reducible rfl)
  try simp only [Act.put, List.getElem_toArray, List.getElem_cons_zero, List.getElem_cons_succ, List.setIfInBounds_toArray, List.set_cons_zero, List.set_cons_succ]
  refine wpAnyH_take (i := 3) (v := ?_) rfl (by kernel_rfl) (by kernel_rfl) (by kernel_rfl) (fun _ _ _ h => h) (Or.inl ⟨by rfl, ?_⟩) (by assumption) ?_
  rotate_left; · (intro w hSw; (try dsimp only at hSw); go_simp; try with_reducible rfl)
  try simp only [Act.put, List.getElem_toArray, List.getElem_cons_zero, List.getElem_cons_succ, List.setIfInBounds_toArray, List.set_cons_zero, List.set_cons_succ]
  refine wpAnyH_take (i := 4) (v := ?_) rfl (by kernel_rfl) (by kernel_rfl) (by kernel_rfl) (fun _ _ _ h => h) (Or.inl ⟨by rfl, ?_⟩) (by assumption) ?_
  rotate_left; · (intro w hSw; (try dsimp only at hSw); go_simp; try with_reducible rfl)
  try simp only [Act.put, List.getElem_toArray, List.getElem_cons_zero, List.getElem_cons_succ, List.setIfInBounds_toArray, List.set_cons_zero, List.set_cons_succ]
  refine wpAnyH_ready (rs := [2]) (by kernel_rfl) (by simp) ?_
  refine AllReadyH.cons rfl (fun K hK => ?_) AllReadyH.nil
  go_simp
  refine (C1.out W hb0).mono ?_
  rintro e w3 ⟨rfl, hb3⟩
  go_wp2_with fail
  have hS3 := (hb3.cell (p := ⟨S, 0, none⟩) (cell_lt hS')).trans hS'
  have hbw := hb0.trans (hb3.mono hb0.size)
  refine hK.out _ _ hS3 (fun hNew => ?_)
  clear hK K hNew hHeld
  have hHeld := hS3
  try simp only [Act.put, List.getElem_toArray, List.getElem_cons_zero, List.getElem_cons_succ, List.setIfInBounds_toArray, List.set_cons_zero, List.set_cons_succ]
  refine wpAnyH_ready (rs := [5]) (by kernel_rfl) (by simp) ?_
  refine AllReadyH.cons rfl (fun K hK => ?_) AllReadyH.nil
  go_simp
  refine (C2.out w3 hbw).mono ?_
  rintro e w4 ⟨rfl, hb4⟩
  go_wp2_with fail
  have hS4 := (hb4.cell (p := ⟨S, 0, none⟩) (cell_lt hS3)).trans hS3
  have hbw4 := hbw.trans (hb4.mono hbw.size)
  refine hK.out _ _ hS4 (fun hNew => ?_)
  clear hK K hNew hHeld
  have hHeld := hS4
  try simp only [Act.put, List.getElem_toArray, List.getElem_cons_zero, List.getElem_cons_succ, List.setIfInBounds_toArray, List.set_cons_zero, List.set_cons_succ]
  refine wpAnyH_take (i := 6) (v := ?_) rfl (by kernel_rfl) (by kernel_rfl) (by kernel_rfl) (fun _ _ _ h => h) (Or.inl ⟨by rfl, ?_⟩) (by assumption) ?_
  rotate_left; · (intro w hSw; (try dsimp only at hSw); go_simp; try with_reducible rfl)
  try simp only [Act.put, List.getElem_toArray, List.getElem_cons_zero, List.getElem_cons_succ, List.setIfInBounds_toArray, List.set_cons_zero, List.set_cons_succ]
  refine wpAnyH_take (i := 7) (v := ?_) rfl (by kernel_rfl) (by kernel_rfl) (by kernel_rfl) (fun _ _ _ h => h) (Or.inl ⟨by rfl, ?_⟩) (by assumption) ?_
  rotate_left; · (intro w hSw; (try dsimp only at hSw); go_simp; try with_reducible rfl)
  try simp only [Act.put, List.getElem_toArray, List.getElem_cons_zero, List.getElem_cons_succ, List.setIfInBounds_toArray, List.set_cons_zero, List.set_cons_succ]
  refine wpAnyH_done (by kernel_rfl) ?_ _
  go_wp2
  go_ret
  exact ⟨by rw [HR.out]; rfl, hbw4⟩

set_option maxRecDepth 100000 in
set_option maxHeartbeats 2000000 in
theorem best42_any (n : Nat) (al : Nat → Bool) (bt : Nat → Nat → Bool) (S : Nat) (w : World) (hn : n ≤ 100000)
    (H1 : ∀ i, i < n → ∀ W, Below w.heap.size w W → Calls Try.prog 42 #[.int .i64 (i : Nat), .pointer (some ⟨S, 0, none⟩)] W fun e w' => e = .returned (.bool (al i)) ∧ Below W.heap.size W w')
    (H2 : ∀ i j, i < n → j < n → ∀ W, Below w.heap.size w W → Calls Try.prog 46 #[.int .i64 (i : Nat), .int .i64 (j : Nat), .pointer (some ⟨S, 0, none⟩)] W fun e w' => e = .returned (.bool (bt i j)) ∧ Below W.heap.size W w') :
    Calls Try.prog 45 #[.int .i64 n, .func (.func 42) #[] #[.pointer (some ⟨S, 0, none⟩)], .func (.func 46) #[] #[.pointer (some ⟨S, 0, none⟩)]] w fun e w' => e = .returned (.int .i64 (bestTo al bt n)) ∧ Below w.heap.size w w' := by
  have HH1 := Lib.hid H1
  have HH2 := Lib.hid H2
  clear H1 H2
  go_enter Try.func45, Try.ntmps45
  go_wp2
  go_loopw [10, 7, 8] (fun v10 v7 _ wr => ∃ i : Nat, i ≤ n ∧ v10 = .int .i64 i ∧ v7 = .int .i64 (bestTo al bt i) ∧ Below w.heap.size w wr) (fun v10 _ _ _ => n - (intOf v10).toNat)
  case atStart => exact ⟨0, Nat.zero_le _, rfl, rfl, Below.refl _ _⟩
  case round =>
    obtain ⟨i, hi, rfl, rfl, hbel⟩ := hrel
    by_cases hlt : i < n
    · have c1 := HH1.out i hlt wr hbel
      have hrg := bestTo_range al bt i
      have hst : bestTo al bt (i + 1) = if al i = true ∧ (bestTo al bt i < 0 ∨ bt i (bestTo al bt i).toNat = true) then (i : Int) else bestTo al bt i := rfl
      have HST := Lib.hid hst
      have C1 := Lib.hid c1
      clear hst c1
      generalize bestTo al bt i = f at *
      generalize al i = a at *
      cases a
      · rw [if_neg (by simp)] at HST
        go_wp2_with fail
        refine C1.out.mono ?_
        rintro e w3 ⟨rfl, hb3⟩
        go_wp2
        go_roundw
        case rel => exact ⟨i + 1, by omega, by go_num, by rw [HST.out], hbel.trans (hb3.mono hbel.size)⟩
        case measure => simp [intOf]; omega
      · by_cases k1 : f < 0
        · rw [if_pos ⟨rfl, .inl k1⟩] at HST
          have q1 : decide (f < 0) = true := decide_eq_true k1
          clear k1
          go_wp2_with fail
          refine C1.out.mono ?_
          rintro e w3 ⟨rfl, hb3⟩
          go_wp2
          go_roundw
          case rel => exact ⟨i + 1, by omega, by go_num, by rw [HST.out], hbel.trans (hb3.mono hbel.size)⟩
          case measure => simp [intOf]; omega
        · obtain ⟨g, rfl⟩ : ∃ g : Nat, f = g := ⟨f.toNat, by omega⟩
          rw [Int.toNat_natCast] at HST
          have q1 : decide ((g : Int) < 0) = false := decide_eq_false k1
          have hgn : g < n := by omega
          have C2 := Lib.hid (HH2.out i g hlt hgn)
          go_wp2_with fail
          refine C1.out.mono ?_
          rintro e w3 ⟨rfl, hb3⟩
          have hbw := hbel.trans (hb3.mono hbel.size)
          go_wp2_with fail
          refine (C2.out w3 hbw).mono ?_
          rintro e w4 ⟨rfl, hb4⟩
          have hbw4 := hbw.trans (hb4.mono hbw.size)
          cases hb : bt i g
          · rw [hb] at HST
            rw [if_neg (by simp)] at HST
            go_wp2
            go_roundw
            case rel => exact ⟨i + 1, by omega, by go_num, by rw [HST.out], hbw4⟩
            case measure => simp [intOf]; omega
          · rw [hb] at HST
            rw [if_pos (by simp)] at HST
            go_wp2
            go_roundw
            case rel => exact ⟨i + 1, by omega, by go_num, by rw [HST.out], hbw4⟩
            case measure => simp [intOf]; omega
    · have hjl : i = n := by omega
      subst hjl
      go_wp2
      go_ret
      exact ⟨rfl, hbel⟩

end Go.Proofs.Ytijcicgbhcphjaa
