/- The reference's Recent and Within. -/
import Derived.Test.YtednejckcdiebaaQ
namespace Go.Proofs.Ytednejckcdiebaa
open Go.RowKit Go.Lib

def fresh (d : Int) (x : Int) : Bool := decide (x ≤ d ∧ d - 32 < x)

theorem win_count (zs : List Int) (d : Int) (hs : zs.Pairwise (· ≤ ·)) : (win zs (d - 32 + 1) d).length = zs.countP (fresh d) := by
  rw [win_filter zs _ _ hs (by omega), List.countP_eq_length_filter]
  congr 1
  refine List.filter_congr fun x _ => ?_
  unfold fresh
  rw [Bool.eq_iff_iff]
  simp
  omega

theorem count_snoc (zs : List Int) (p : Int → Bool) (j : Nat) (h : j < zs.length) : (zs.take (j + 1)).countP p = (zs.take j).countP p + if p (zs.getD j 0) then 1 else 0 := by
  rw [List.take_succ_eq_append_getElem h, List.countP_append]
  simp [List.countP_cons, List.getD, h]

theorem Reads.at {w : World} {v : Value} {zs : List Int} (h : Reads w v zs) : ∃ ao c b off, v = .slice ao zs.length c ∧ zs.length ≤ c ∧ ∀ j, j < zs.length → ao = some ⟨b, off, none⟩ ∧ w.cell? ⟨b, off + j, none⟩ = some (.int .i64 (zs.getD j 0)) := by
  obtain ⟨ao, c, rfl, hl, hc⟩ := h
  by_cases h0 : zs.length = 0
  · exact ⟨ao, c, 0, 0, rfl, hl, fun j hj => by omega⟩
  · obtain ⟨b, off, e, _⟩ := hc 0 (by omega)
    refine ⟨ao, c, b, off, rfl, hl, fun j hj => ?_⟩
    obtain ⟨b', off', e', h'⟩ := hc j hj
    rw [e] at e'
    cases e'
    exact ⟨e, h'⟩

set_option maxHeartbeats 1000000 in
theorem refRecent_any (v : Value) (zs : List Int) (d : Int) (w : World) (hv : Reads w v zs) (hlen : zs.length ≤ 1000000) (h0 : 0 ≤ d) (h1 : d ≤ 999999) :
    Calls Try.prog 24 #[v, .int .i64 d] w fun e w' => e = .returned (.int .i64 (zs.countP (fresh d) : Nat)) ∧ w = w' := by
  obtain ⟨ao, c, b, off, rfl, hl, hcell⟩ := hv.at
  have HC := Lib.hid hcell
  clear hcell hv
  go_enter Try.func24, Try.ntmps24
  go_wp2
  go_loop [5, 6] (fun v5 v6 => ∃ j : Nat, j ≤ zs.length ∧ v6 = .int .i64 j ∧ v5 = .int .i64 ((zs.take j).countP (fresh d) : Nat)) (fun _ v6 => zs.length - (intOf v6).toNat)
  case atStart => exact ⟨0, Nat.zero_le _, rfl, rfl⟩
  case round =>
    obtain ⟨j, hj, rfl, rfl⟩ := hrel
    by_cases hlt : j < zs.length
    · obtain ⟨e1, e2⟩ := HC.out j hlt
      subst e1
      have hs := count_snoc zs (fresh d) j hlt
      have hb : (zs.take j).countP (fresh d) ≤ j := by
        have := List.countP_le_length (p := fresh d) (l := zs.take j)
        simp at this
        omega
      have HS := Lib.hid hs
      clear hs
      generalize zs.getD j 0 = x at e2 HS
      generalize (zs.take j).countP (fresh d) = m at hb HS ⊢
      by_cases k1 : x ≤ d
      · by_cases k2 : d - 32 < x
        · have hf : fresh d x = true := by unfold fresh; simp [k1, k2]
          go_wp2
          go_round
          case rel => exact ⟨j + 1, by omega, by go_num, by rw [HS.out, hf]; go_num⟩
          case measure => simp [intOf]; omega
        · have hf : fresh d x = false := by unfold fresh; simp; omega
          go_wp2
          go_round
          case rel => exact ⟨j + 1, by omega, by go_num, by rw [HS.out, hf]; rfl⟩
          case measure => simp [intOf]; omega
      · have hf : fresh d x = false := by unfold fresh; simp; omega
        go_wp2
        go_round
        case rel => exact ⟨j + 1, by omega, by go_num, by rw [HS.out, hf]; rfl⟩
        case measure => simp [intOf]; omega
    · have hjl : j = zs.length := by omega
      subst hjl
      rw [List.take_length]
      go_wp2
      go_ret
      exact ⟨rfl, rfl⟩

set_option maxHeartbeats 2000000 in
theorem refWithin_any (m q : Nat) (w : World) (hm : (m : Int) ≤ 32) (hq : q ≤ 12) :
    Calls Try.prog 25 #[.int .i64 m, .int .i64 q] w fun e w' => e = .returned (chance m q) ∧ Below w.heap.size w w' := by
  have hq0 : (0 : Int) ≤ (q : Int) := by omega
  have hq1 : (q : Int) ≤ 12 := by omega
  go_enter Try.func25, Try.ntmps25
  go_wp2_with fail
  go_loop [5, 6, 7] (fun v15 v14 v36 => ∃ j : Nat, j ≤ q ∧ v36 = .int .i64 j ∧ v14 = .int .i64 (32 ^ j) ∧ v15 = .int .i64 ((32 - (m : Int)) ^ j)) (fun _ _ v36 => q - (intOf v36).toNat)
  case atStart => exact ⟨0, Nat.zero_le _, rfl, rfl, by rw [Int.pow_zero]⟩
  case round =>
    obtain ⟨j, hj, rfl, rfl, rfl⟩ := hrel
    by_cases hlt : j < q
    · obtain ⟨p1, p2, p3, p4⟩ := pow_bounds (32 - (m : Int)) (by omega) (by omega) j (by omega)
      obtain ⟨s1, s2, s3, s4⟩ := pow_bounds (32 - (m : Int)) (by omega) (by omega) (j + 1) (by omega)
      have e1 := pow_step 32 j
      have e2 := pow_step (32 - (m : Int)) j
      generalize hX : (32 : Int) ^ j = X at p2 p3 p4 e1 ⊢
      generalize hY : (32 - (m : Int)) ^ j = Y at p1 p2 e2 ⊢
      have E1 := Lib.hid e1
      have E2 := Lib.hid e2
      have hX32 : X * 32 ≤ 1152921504606846976 := by rw [← e1]; exact s3
      have S1 := Lib.hid s1
      have S2 := Lib.hid s2
      have S3 := Lib.hid s3
      clear e1 e2 hX hY s1 s2 s3 s4 p2
      go_wp2
      go_round
      case rel =>
        refine ⟨j + 1, by omega, by go_num, by rw [E1.out], ?_⟩
        have := S1.out
        have := S2.out
        have := S3.out
        rw [E2.out] at *
        rw [IntWalk.wrap64_in _ (by constructor <;> omega)]
      case measure => simp [intOf]; omega
    · obtain rfl : j = q := by omega
      obtain ⟨p1, p2, p3, p4⟩ := pow_bounds (32 - (m : Int)) (by omega) (by omega) j (by omega)
      generalize hX : (32 : Int) ^ j = X at p2 p3 p4 ⊢
      generalize hY : (32 - (m : Int)) ^ j = Y at p1 p2 ⊢
      have HCH := Lib.hid (show chance m j = fracV (X - Y) X by unfold chance; rw [hX, hY])
      clear hX hY
      go_wp2_with fail
      refine (lowest_any _ _ _ (by omega) (by omega) (by omega) (by omega)).mono ?_
      rintro e w2 ⟨rfl, hb2⟩
      have z2 := hb2.size
      obtain ⟨c2, f2⟩ := bcell hb2
      go_wp2
      refine bodyPost_ret (v := fracV (X - Y) X) (by simp [results, Try.results25, go_sem, c2, fracV]) rfl ⟨by rw [HCH.out], ?_⟩
      (repeat' (first | (with_reducible exact Below.refl _ _) | (with_reducible assumption) | (with_reducible refine Below.alloc ?_ ?_ _) | (with_reducible refine Below.drew ?_) | (with_reducible refine below_drewN ?_ _) | (with_reducible refine Below.setCell ?_ ?_ _) | (with_reducible refine below_step ?_ (by with_reducible assumption) ?_) | go_size))

end Go.Proofs.Ytednejckcdiebaa
