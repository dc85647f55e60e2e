/- best, target. -/
import Derived.Test.YtijcicgbhcphjaaE1
namespace Go.Proofs.Ytijcicgbhcphjaa
open Go.RowKit Go.Lib Go.ChangeMaps
set_option linter.unusedSimpArgs false

/-- The first of the numbers below m that is allowed and for which no other one is better. -/
def bestTo (al : Nat → Bool) (bt : Nat → Nat → Bool) : Nat → Int
  | 0 => -1
  | m + 1 => if al m = true ∧ (bestTo al bt m < 0 ∨ bt m (bestTo al bt m).toNat = true) then (m : Int) else bestTo al bt m
theorem bestTo_range (al : Nat → Bool) (bt : Nat → Nat → Bool) : ∀ m, -1 ≤ bestTo al bt m ∧ bestTo al bt m < m
  | 0 => by simp [bestTo]
  | m + 1 => by
    have := bestTo_range al bt m
    unfold bestTo
    split <;> omega

set_option maxRecDepth 100000 in
set_option maxHeartbeats 2000000 in
theorem can63_any {lo hi p : Nat} {V : Vp} {gone : Nat → Bool} (k d S K : Nat) (w : World) (hst : StAt w lo hi p V gone) (hk : k < V.held.length) (hS : w.cell? ⟨S, 0, none⟩ = some (.pointer (some ⟨p, 0, none⟩))) (hK : w.cell? ⟨K, 0, none⟩ = some (.int .i64 k)) :
    Calls Try.prog 63 #[.int .i64 d, .pointer (some ⟨S, 0, none⟩), .pointer (some ⟨K, 0, none⟩)] w fun e w' => e = .returned (.bool (canB V gone k d)) ∧ Below w.heap.size w w' := by
  have CC := Lib.hid (can_any k (d : Int) w hst hk)
  clear hst
  generalize canB V gone k d = r at *
  go_enter Try.func63, Try.ntmps63
  go_wp2_with fail
  refine CC.out.mono ?_
  rintro e w3 ⟨rfl, hb3⟩
  go_wp2
  go_ret
  exact ⟨rfl, hb3⟩

def btW (V : Vp) (c d : Nat) : Bool := decide (V.weight.getD d 0 < V.weight.getD c 0)

set_option maxRecDepth 100000 in
set_option maxHeartbeats 2000000 in
theorem more65_any {lo hi p : Nat} {V : Vp} {gone : Nat → Bool} (c d S : Nat) (w : World) (hst : StAt w lo hi p V gone) (hc : c < V.mem.length) (hd : d < V.mem.length) (hS : w.cell? ⟨S, 0, none⟩ = some (.pointer (some ⟨p, 0, none⟩))) :
    Calls Try.prog 65 #[.int .i64 c, .int .i64 d, .pointer (some ⟨S, 0, none⟩)] w fun e w' => e = .returned (.bool (btW V c d)) ∧ Below w.heap.size w w' := by
  have hok := hst.2.1
  obtain ⟨a1, a2, a3, a4, a5⟩ := hok.small
  obtain ⟨mv, hv, rv, wv, gv, mp, c0, c1, c2, c3, c4, c5, hM, hH, hR, hW, hG, hmp⟩ := hst.at
  obtain ⟨wa, wc, wb, wo, rfl, wl, wm, wcell⟩ := hW.at
  obtain ⟨e1, e2⟩ := wcell c (by omega)
  obtain ⟨_, e3⟩ := wcell d (by omega)
  subst e1
  have hS' : w.drew.cell? ⟨S, 0, none⟩ = some (.pointer (some ⟨p, 0, none⟩)) := hS
  have c3' : w.drew.cell? ⟨p, 3, none⟩ = some (.slice (some ⟨wb, wo, none⟩) V.weight.length wc) := c3
  have e2' : w.drew.cell? ⟨wb, wo + c, none⟩ = some (.int .i64 (V.weight.getD c 0)) := e2
  have e3' : w.drew.cell? ⟨wb, wo + d, none⟩ = some (.int .i64 (V.weight.getD d 0)) := e3
  have hcl : c < V.weight.length := by omega
  have hdl : d < V.weight.length := by omega
  obtain ⟨r, hr⟩ : ∃ r, r = btW V c d := ⟨_, rfl⟩
  rw [← hr]
  have HR := Lib.hid (show r = decide (V.weight.getD d 0 < V.weight.getD c 0) from hr)
  clear hr wcell hM hH hR hW hG hmp hst hok a5 c0 c1 c2 c4 c5 hS c3 e2 e3 a3 a4 hc hd
  generalize V.weight.getD d 0 = y at *
  generalize V.weight.getD c 0 = x at *
  generalize V.weight.length = n at *
  go_enter Try.func65, Try.ntmps65
  go_upto_region 1 with fail
  refine wp_region_held_drew (S := fun w' => w'.cell? ⟨S, 0, none⟩ = some (.pointer (some ⟨p, 0, none⟩)) ∧ w'.cell? ⟨p, 3, none⟩ = some (.slice (some ⟨wb, wo, none⟩) n wc) ∧ w'.cell? ⟨wb, wo + c, none⟩ = some (.int .i64 x) ∧ w'.cell? ⟨wb, wo + d, none⟩ = some (.int .i64 y)) (by kernel_rfl) ⟨hS', c3', e2', e3'⟩ (fun hHeld => ?_)
  refine wpAnyH_take (i := 0) (v := ?_) rfl (by kernel_rfl) (by kernel_rfl) (by kernel_rfl) (fun _ _ _ h => h) (Or.inl ⟨by rfl, ?_⟩) (by assumption) ?_
  rotate_left; · (intro w hSw; (try dsimp only at hSw); go_simp; try with_reducible rfl)
  try simp only [Act.put, List.getElem_toArray, List.getElem_cons_zero, List.getElem_cons_succ, List.setIfInBounds_toArray, List.set_cons_zero, List.set_cons_succ]
  refine wpAnyH_take (i := 1) (v := ?_) rfl (by kernel_rfl) (by kernel_rfl) (by kernel_rfl) (fun _ _ _ h => h) (Or.inl ⟨by rfl, ?_⟩) (by assumption) ?_
  rotate_left; · (intro w hSw; (try dsimp only at hSw); go_simp; try with_reducible rfl)
  try simp only [Act.put, List.getElem_toArray, List.getElem_cons_zero, List.getElem_cons_succ, List.setIfInBounds_toArray, List.set_cons_zero, List.set_cons_succ]
  refine wpAnyH_take (i := 2) (v := ?_) rfl (by kernel_rfl) (by kernel_rfl) (by kernel_rfl) (fun _ _ _ h => h) (Or.inl ⟨by rfl, ?_⟩) (by assumption) ?_
  rotate_left; · (intro w hSw; (try dsimp only at hSw); go_simp; try with_reducible rfl)
  try simp only [Act.put, List.getElem_toArray, List.getElem_cons_zero, List.getElem_cons_succ, List.setIfInBounds_toArray, List.set_cons_zero, List.set_cons_succ]
  refine wpAnyH_take (i := 3) (v := ?_) rfl (by kernel_rfl) (by kernel_rfl) (by kernel_rfl) (fun _ _ _ h => h) (Or.inl ⟨by rfl, ?_⟩) (by assumption) ?_
  rotate_left; · (intro w hSw; (try dsimp only at hSw); go_simp; try with_reducible rfl)
  try simp only [Act.put, List.getElem_toArray, List.getElem_cons_zero, List.getElem_cons_succ, List.setIfInBounds_toArray, List.set_cons_zero, List.set_cons_succ]
  refine wpAnyH_take (i := 4) (v := ?_) rfl (by kernel_rfl) (by kernel_rfl) (by kernel_rfl) (fun _ _ _ h => h) (Or.inl ⟨by rfl, ?_⟩) (by assumption) ?_
  rotate_left; · (intro w hSw; (try dsimp only at hSw); go_simp; try with_reducible rfl)
  try simp only [Act.put, List.getElem_toArray, List.getElem_cons_zero, List.getElem_cons_succ, List.setIfInBounds_toArray, List.set_cons_zero, List.set_cons_succ]
  refine wpAnyH_take (i := 5) (v := ?_) rfl (by kernel_rfl) (by kernel_rfl) (by kernel_rfl) (fun _ _ _ h => h) (Or.inl ⟨by rfl, ?_⟩) (by assumption) ?_
  rotate_left; · (intro w hSw; (try dsimp only at hSw); go_simp; try with_reducible rfl)
  try simp only [Act.put, List.getElem_toArray, List.getElem_cons_zero, List.getElem_cons_succ, List.setIfInBounds_toArray, List.set_cons_zero, List.set_cons_succ]
  refine wpAnyH_take (i := 6) (v := ?_) rfl (by kernel_rfl) (by kernel_rfl) (by kernel_rfl) (fun _ _ _ h => h) (Or.inl ⟨by rfl, ?_⟩) (by assumption) ?_
  rotate_left; · (intro w hSw; (try dsimp only at hSw); go_simp; try with_reducible rfl)
  try simp only [Act.put, List.getElem_toArray, List.getElem_cons_zero, List.getElem_cons_succ, List.setIfInBounds_toArray, List.set_cons_zero, List.set_cons_succ]
  refine wpAnyH_take (i := 7) (v := ?_) rfl (by kernel_rfl) (by kernel_rfl) (by kernel_rfl) (fun _ _ _ h => h) (Or.inl ⟨by rfl, ?_⟩) (by assumption) ?_
  rotate_left; · (intro w hSw; (try dsimp only at hSw); go_simp; try with_reducible rfl)
  try simp only [Act.put, List.getElem_toArray, List.getElem_cons_zero, List.getElem_cons_succ, List.setIfInBounds_toArray, List.set_cons_zero, List.set_cons_succ]
  refine wpAnyH_take (i := 8) (v := ?_) rfl (by kernel_rfl) (by kernel_rfl) (by kernel_rfl) (fun _ _ _ h => h) (Or.inl ⟨by rfl, ?_⟩) (by assumption) ?_
  rotate_left; · (intro w hSw; (try dsimp only at hSw); go_simp; try with_reducible rfl)
  try simp only [Act.put, List.getElem_toArray, List.getElem_cons_zero, List.getElem_cons_succ, List.setIfInBounds_toArray, List.set_cons_zero, List.set_cons_succ]
  refine wpAnyH_take (i := 9) (v := ?_) rfl (by kernel_rfl) (by kernel_rfl) (by kernel_rfl) (fun _ _ _ h => h) (Or.inl ⟨by rfl, ?_⟩) (by assumption) ?_
  rotate_left; · (intro w hSw; (try dsimp only at hSw); go_simp; try with_reducible rfl)
  try simp only [Act.put, List.getElem_toArray, List.getElem_cons_zero, List.getElem_cons_succ, List.setIfInBounds_toArray, List.set_cons_zero, List.set_cons_succ]
  refine wpAnyH_take (i := 10) (v := ?_) rfl (by kernel_rfl) (by kernel_rfl) (by kernel_rfl) (fun _ _ _ h => h) (Or.inl ⟨by rfl, ?_⟩) (by assumption) ?_
  rotate_left; · (intro w hSw; (try dsimp only at hSw); go_simp; try with_reducible rfl)
  try simp only [Act.put, List.getElem_toArray, List.getElem_cons_zero, List.getElem_cons_succ, List.setIfInBounds_toArray, List.set_cons_zero, List.set_cons_succ]
  refine wpAnyH_take (i := 11) (v := ?_) rfl (by kernel_rfl) (by kernel_rfl) (by kernel_rfl) (fun _ _ _ h => h) (Or.inl ⟨by rfl, ?_⟩) (by assumption) ?_
  rotate_left; · (intro w hSw; (try dsimp only at hSw); go_simp; try with_reducible rfl)
  try simp only [Act.put, List.getElem_toArray, List.getElem_cons_zero, List.getElem_cons_succ, List.setIfInBounds_toArray, List.set_cons_zero, List.set_cons_succ]
  refine wpAnyH_take (i := 12) (v := ?_) rfl (by kernel_rfl) (by kernel_rfl) (by kernel_rfl) (fun _ _ _ h => h) (Or.inl ⟨by rfl, ?_⟩) (by assumption) ?_
  rotate_left; · (intro w hSw; (try dsimp only at hSw); go_simp; try with_reducible rfl)
  try simp only [Act.put, List.getElem_toArray, List.getElem_cons_zero, List.getElem_cons_succ, List.setIfInBounds_toArray, List.set_cons_zero, List.set_cons_succ]
  refine wpAnyH_take (i := 13) (v := ?_) rfl (by kernel_rfl) (by kernel_rfl) (by kernel_rfl) (fun _ _ _ h => h) (Or.inl ⟨by rfl, ?_⟩) (by assumption) ?_
  rotate_left; · (intro w hSw; (try dsimp only at hSw); go_simp; try with_reducible rfl)
  try simp only [Act.put, List.getElem_toArray, List.getElem_cons_zero, List.getElem_cons_succ, List.setIfInBounds_toArray, List.set_cons_zero, List.set_cons_succ]
  refine wpAnyH_take (i := 14) (v := ?_) rfl (by kernel_rfl) (by kernel_rfl) (by kernel_rfl) (fun _ _ _ h => h) (Or.inl ⟨by rfl, ?_⟩) (by assumption) ?_
  rotate_left; · (intro w hSw; (try dsimp only at hSw); go_simp; try with_reducible rfl)
  try simp only [Act.put, List.getElem_toArray, List.getElem_cons_zero, List.getElem_cons_succ, List.setIfInBounds_toArray, List.set_cons_zero, List.set_cons_succ]
  refine wpAnyH_take (i := 15) (v := ?_) rfl (by kernel_rfl) (by kernel_rfl) (by kernel_rfl) (fun _ _ _ h => h) (Or.inl ⟨by rfl, ?_⟩) (by assumption) ?_
  rotate_left; · (intro w hSw; (try dsimp only at hSw); go_simp; try with_reducible rfl)
  try simp only [Act.put, List.getElem_toArray, List.getElem_cons_zero, List.getElem_cons_succ, List.setIfInBounds_toArray, List.set_cons_zero, List.set_cons_succ]
  refine wpAnyH_take (i := 16) (v := ?_) rfl (by kernel_rfl) (by kernel_rfl) (by kernel_rfl) (fun _ _ _ h => h) (Or.inl ⟨by rfl, ?_⟩) (by assumption) ?_
  rotate_left; · (intro w hSw; (try dsimp only at hSw); go_simp; try with_reducible rfl)
  try simp only [Act.put, List.getElem_toArray, List.getElem_cons_zero, List.getElem_cons_succ, List.setIfInBounds_toArray, List.set_cons_zero, List.set_cons_succ]
  refine wpAnyH_take (i := 17) (v := ?_) rfl (by kernel_rfl) (by kernel_rfl) (by kernel_rfl) (fun _ _ _ h => h) (Or.inl ⟨by rfl, ?_⟩) (by assumption) ?_
  rotate_left; · (intro w hSw; (try dsimp only at hSw); go_simp; try with_reducible rfl)
  try simp only [Act.put, List.getElem_toArray, List.getElem_cons_zero, List.getElem_cons_succ, List.setIfInBounds_toArray, List.set_cons_zero, List.set_cons_succ]
  refine wpAnyH_done (by kernel_rfl) ?_ _
  go_wp2
  go_ret
  exact ⟨by rw [HR.out]; rfl, (Below.refl _ _).drew⟩

set_option maxRecDepth 100000 in
set_option maxHeartbeats 2000000 in
theorem best63_any (n : Nat) (al : Nat → Bool) (bt : Nat → Nat → Bool) (S K : Nat) (w : World) (hn : n ≤ 100000)
    (H1 : ∀ i, i < n → ∀ W, Below w.heap.size w W → Calls Try.prog 63 #[.int .i64 (i : Nat), .pointer (some ⟨S, 0, none⟩), .pointer (some ⟨K, 0, none⟩)] W fun e w' => e = .returned (.bool (al i)) ∧ Below W.heap.size W w')
    (H2 : ∀ i j, i < n → j < n → ∀ W, Below w.heap.size w W → Calls Try.prog 65 #[.int .i64 (i : Nat), .int .i64 (j : Nat), .pointer (some ⟨S, 0, none⟩)] W fun e w' => e = .returned (.bool (bt i j)) ∧ Below W.heap.size W w') :
    Calls Try.prog 45 #[.int .i64 n, .func (.func 63) #[] #[.pointer (some ⟨S, 0, none⟩), .pointer (some ⟨K, 0, none⟩)], .func (.func 65) #[] #[.pointer (some ⟨S, 0, none⟩)]] w fun e w' => e = .returned (.int .i64 (bestTo al bt n)) ∧ Below w.heap.size w w' := by
  have HH1 := Lib.hid H1
  have HH2 := Lib.hid H2
  clear H1 H2
  go_enter Try.func45, Try.ntmps45
  go_wp2
  go_loopw [10, 7, 8] (fun v10 v7 _ wr => ∃ i : Nat, i ≤ n ∧ v10 = .int .i64 i ∧ v7 = .int .i64 (bestTo al bt i) ∧ Below w.heap.size w wr) (fun v10 _ _ _ => n - (intOf v10).toNat)
  case atStart => exact ⟨0, Nat.zero_le _, rfl, rfl, Below.refl _ _⟩
  case round =>
    obtain ⟨i, hi, rfl, rfl, hbel⟩ := hrel
    by_cases hlt : i < n
    · have c1 := HH1.out i hlt wr hbel
      have hrg := bestTo_range al bt i
      have hst : bestTo al bt (i + 1) = if al i = true ∧ (bestTo al bt i < 0 ∨ bt i (bestTo al bt i).toNat = true) then (i : Int) else bestTo al bt i := rfl
      have HST := Lib.hid hst
      have C1 := Lib.hid c1
      clear hst c1
      generalize bestTo al bt i = f at *
      generalize al i = a at *
      cases a
      · rw [if_neg (by simp)] at HST
        go_wp2_with fail
        refine C1.out.mono ?_
        rintro e w3 ⟨rfl, hb3⟩
        go_wp2
        go_roundw
        case rel => exact ⟨i + 1, by omega, by go_num, by rw [HST.out], hbel.trans (hb3.mono hbel.size)⟩
        case measure => simp [intOf]; omega
      · by_cases k1 : f < 0
        · rw [if_pos ⟨rfl, .inl k1⟩] at HST
          have q1 : decide (f < 0) = true := decide_eq_true k1
          clear k1
          go_wp2_with fail
          refine C1.out.mono ?_
          rintro e w3 ⟨rfl, hb3⟩
          go_wp2
          go_roundw
          case rel => exact ⟨i + 1, by omega, by go_num, by rw [HST.out], hbel.trans (hb3.mono hbel.size)⟩
          case measure => simp [intOf]; omega
        · obtain ⟨g, rfl⟩ : ∃ g : Nat, f = g := ⟨f.toNat, by omega⟩
          rw [Int.toNat_natCast] at HST
          have q1 : decide ((g : Int) < 0) = false := decide_eq_false k1
          have hgn : g < n := by omega
          have C2 := Lib.hid (HH2.out i g hlt hgn)
          go_wp2_with fail
          refine C1.out.mono ?_
          rintro e w3 ⟨rfl, hb3⟩
          have hbw := hbel.trans (hb3.mono hbel.size)
          go_wp2_with fail
          refine (C2.out w3 hbw).mono ?_
          rintro e w4 ⟨rfl, hb4⟩
          have hbw4 := hbw.trans (hb4.mono hbw.size)
          cases hb : bt i g
          · rw [hb] at HST
            rw [if_neg (by simp)] at HST
            go_wp2
            go_roundw
            case rel => exact ⟨i + 1, by omega, by go_num, by rw [HST.out], hbw4⟩
            case measure => simp [intOf]; omega
          · rw [hb] at HST
            rw [if_pos (by simp)] at HST
            go_wp2
            go_roundw
            case rel => exact ⟨i + 1, by omega, by go_num, by rw [HST.out], hbw4⟩
            case measure => simp [intOf]; omega
    · have hjl : i = n := by omega
      subst hjl
      go_wp2
      go_ret
      exact ⟨rfl, hbel⟩

end Go.Proofs.Ytijcicgbhcphjaa
