/- The reference's Encode. -/
import Derived.Test.YtednejckcdiebaaN4
import Derived.Deep.RegionHeld3
namespace Go.Proofs.Ytednejckcdiebaa
open Go.RowKit Go.Lib Go.ChangeMaps
set_option linter.unusedSimpArgs false

theorem refUintI (x : Int) (w : World) (h0 : 0 ≤ x) (hx : x ≤ 9223372036854775807) :
    Calls Try.prog 55 #[.int .i64 x] w fun e w' => ∃ u, e = .returned u ∧ OwnB w' w.heap.size u (encN x.toNat) ∧ Below w.heap.size w w' := by
  have := refUint_any x.toNat w (by omega)
  rw [show ((x.toNat : Nat) : Int) = x by omega] at this
  exact this
theorem encPairs_append (K : Days) (a b : List (Int × Int)) : encPairs K (a ++ b) = encPairs K a ++ encPairs K b := by simp [encPairs]
theorem encDays_le : ∀ (zs : List Int) (f : Bool) (last : Int), 0 ≤ last → DOk f last zs → (encDays last zs).length ≤ 10 * zs.length
  | [], _, _, _, _ => by simp [encDays]
  | d :: r, f, last, h0, h => by
    obtain ⟨h1, h2, h3, h4⟩ := h
    have := encDays_le r false d (by omega) h4
    have := encN_ten (n := (d - last).toNat) (by omega)
    simp only [encDays, List.length_append, List.length_cons]
    omega
theorem encPair_le {zs : List Int} (h : DOk true 0 zs) : (encPair zs).length ≤ 10 + 10 * zs.length := by
  have := encDays_le zs true 0 (by omega) h
  have := h.len0
  have := encN_ten (n := zs.length) (by omega)
  unfold encPair
  rw [List.length_append]
  omega
theorem encPairs_le (K : Days) (m : Nat) (hd : ∀ a b, DOk true 0 (K a b)) (hl : ∀ a b, (K a b).length ≤ m) : ∀ ps : List (Int × Int), (encPairs K ps).length ≤ (10 + 10 * m) * ps.length
  | [] => by simp [encPairs]
  | p :: r => by
    have := encPairs_le K m hd hl r
    have h1 := encPair_le (hd p.1 p.2)
    have h2 := hl p.1 p.2
    have e : encPairs K (p :: r) = encPair (K p.1 p.2) ++ encPairs K r := by simp [encPairs]
    rw [e, List.length_append, List.length_cons, Nat.mul_add, Nat.mul_one]
    omega
theorem encB_le {K : Days} {n m : Nat} (hn : n ≤ 12) (hd : ∀ a b, DOk true 0 (K a b)) (hl : ∀ a b, (K a b).length ≤ m) (hm : m ≤ 61) : (encB n K).length ≤ 100000 := by
  unfold encB
  have h1 := encN_ten (n := n) (by omega)
  have h2 := encPairs_le K m hd hl (pairL n)
  have h3 : (pairL n).length ≤ 144 := Nat.le_trans (pairTo_len n n) (Nat.mul_le_mul hn hn)
  have h4 : (10 + 10 * m) * (pairL n).length ≤ 620 * 144 := Nat.mul_le_mul (by omega) h3
  rw [List.length_append]
  omega

set_option maxRecDepth 100000 in
set_option maxHeartbeats 8000000 in
theorem refEncode_any (n : Nat) (dv : Value) (done : List Mt) (w : World) (hv : ReadsM w dv done) (hlen : done.length ≤ 60) (hn : n ≤ 12) (hd : ∀ a b, DOk true 0 (refDays done a b)) :
    Calls Try.prog 32 #[.int .i64 n, dv] w fun e w' => ∃ u, e = .returned u ∧ OwnB w' w.heap.size u (encB n (refDays done)) ∧ Below w.heap.size w w' := by
  have HV := Lib.hid hv
  have HD := Lib.hid hd
  have CU := Lib.hid (refUint_any n w (by omega))
  have CD := Lib.hid (fun W a b (h : Below w.heap.size w W) => refDays_any dv done a b W (hv.below h) hlen)
  have HRL := Lib.hid (fun a b => Nat.le_trans (refDays_length done a b) hlen)
  have HCL := Lib.hid (fun a b => show (encN n ++ encPairs (refDays done) (pairTo n a ++ pairIn a b)).length ≤ 100000 ∨ n < a ∨ n < b from by
    by_cases ha : n < a
    · exact .inr (.inl ha)
    by_cases hb : n < b
    · exact .inr (.inr hb)
    refine .inl ?_
    have h1 := encN_ten (n := n) (by omega)
    have h2 := encPairs_le (refDays done) 60 hd HRL.out (pairTo n a ++ pairIn a b)
    have h3 : (pairTo n a ++ pairIn a b).length ≤ 12 * 12 + 12 := by
      rw [List.length_append, pairIn_len]
      have := Nat.le_trans (pairTo_len n a) (Nat.mul_le_mul (show a ≤ 12 by omega) hn)
      omega
    have h4 : (10 + 10 * 60) * (pairTo n a ++ pairIn a b).length ≤ 610 * 156 := Nat.mul_le_mul (by omega) h3
    rw [List.length_append]
    omega)
  have hn' : (n : Int) ≤ 12 := by omega
  obtain ⟨K, hK⟩ : ∃ K, K = refDays done := ⟨_, rfl⟩
  rw [← hK] at HD HCL HRL ⊢
  have HKK := Lib.hid hK
  clear hv hd hK
  go_enter Try.func32, Try.ntmps32
  go_wp2_with fail
  refine CU.out.mono ?_
  rintro e w1 ⟨u1, rfl, o1, b1⟩
  have HO1 := Lib.hid o1
  have HB1 := Lib.hid b1
  obtain ⟨a1, c1, rfl⟩ := o1.slice
  clear CU o1 b1
  go_wp2
  go_loopw [5, 6, 7, 8, 9] (fun v5 v6 _ _ _ wr => ∃ a : Nat, a ≤ n ∧ v6 = .int .i64 a ∧ OwnB wr w.heap.size v5 (encN n ++ encPairs K (pairTo n a)) ∧ Below w.heap.size w wr) (fun _ v6 _ _ _ _ => n - (intOf v6).toNat)
  case atStart => exact ⟨0, Nat.zero_le _, rfl, by simpa [pairTo, encPairs] using HO1.out, HB1.out⟩
  case round =>
    obtain ⟨a, ha, rfl, hown, hbel⟩ := hrel
    have HO := Lib.hid hown
    have HB := Lib.hid hbel
    obtain ⟨a5, c5, rfl⟩ := hown.slice
    clear hown hbel
    by_cases hlt : a < n
    · have HST := Lib.hid (show pairTo n a ++ pairIn a (a + 1) = pairTo n a by simp [pairIn])
      have HSU := Lib.hid (pairTo_succ n a)
      obtain ⟨l5, hl5⟩ : ∃ l, l = (encN n ++ encPairs K (pairTo n a)).length := ⟨_, rfl⟩
      rw [← hl5] at HO ⊢
      clear hl5
      go_wp2
      go_loopw [5, 7, 8, 9] (fun v5 v7 _ _ wx => ∃ b : Nat, a + 1 ≤ b ∧ b ≤ n ∧ v7 = .int .i64 b ∧ OwnB wx w.heap.size v5 (encN n ++ encPairs K (pairTo n a ++ pairIn a b)) ∧ Below w.heap.size w wx) (fun _ v7 _ _ _ => n - (intOf v7).toNat)
      case atStart => exact ⟨a + 1, Nat.le_refl _, hlt, by go_num, by rw [HST.out]; exact HO.out, HB.out⟩
      case round =>
        obtain ⟨b, hb1, hb2, rfl, hown, hbel⟩ := hrel
        have HOB := Lib.hid hown
        have HBB := Lib.hid hbel
        obtain ⟨a6, c6, rfl⟩ := hown.slice
        clear hown hbel
        by_cases hbn : b < n
        · have HIS := Lib.hid (pairIn_succ a b (by omega))
          have HCB := Lib.hid (show (encN n ++ encPairs K (pairTo n a ++ pairIn a b)).length ≤ 100000 from (HCL.out a b).resolve_right (by omega))
          have HT := Lib.hid (show encN n ++ encPairs K (pairTo n a ++ pairIn a (b + 1)) = (encN n ++ encPairs K (pairTo n a ++ pairIn a b)) ++ encPair (K a b) by
            rw [HIS.out, ← List.append_assoc, encPairs_append]
            simp [encPairs])
          obtain ⟨cs, hcs⟩ : ∃ cs, cs = encN n ++ encPairs K (pairTo n a ++ pairIn a b) := ⟨_, rfl⟩
          rw [← hcs] at HOB HCB HT ⊢
          have CDD := Lib.hid (CD.out wr (a : Int) (b : Int) HBB.out)
          rw [← HKK.out] at CDD
          have HDK := Lib.hid (HD.out a b)
          have HZL := Lib.hid (HRL.out a b)
          generalize K (a : Int) (b : Int) = zs at *
          clear hcs
          go_wp2_with fail
          refine CDD.out.mono ?_
          rintro e w7 ⟨v7, rfl, o7, b7⟩
          have HO7 := Lib.hid (HOB.out.below b7)
          have HB7 := Lib.hid (HBB.out.trans (b7.mono HBB.out.size))
          have HR7 := Lib.hid (reads_of_row (ownsRow_zero o7))
          have hap : ∀ g, v7.ownBlock = some g → (Value.slice a6 cs.length c6).ownBlock ≠ some g := fun g hg => by
            rcases o7.2 with ⟨rfl, _⟩ | ⟨g', cap, cur, rfl, _, h4, _⟩
            · cases hg
            · cases hg
              exact own_ne HO7.out h4 (by decide)
          obtain ⟨ob, hob⟩ : ∃ ob, ob = (Value.slice a6 cs.length c6).ownBlock := ⟨_, rfl⟩
          rw [← hob] at hap
          have HK7 := Lib.hid (show Kept w7 w7 ob (Value.slice a6 cs.length c6) by rw [hob]; exact Kept.refl _ _)
          have HOBG := Lib.hid (show ∀ g, ob = some g → w.heap.size ≤ g from fun g hg => (HO7.out.lt g (by rw [← hob]; exact hg)).1)
          obtain ⟨da, dc, db, doff, rfl, _, hdcell⟩ := Reads.at HR7.out
          have DC := Lib.hid (show ∀ i, i < zs.length → da = some ⟨db, doff, none⟩ ∧ ∀ W v, Kept w7 W ob v → W.cell? ⟨db, doff + i, none⟩ = some (.int .i64 (zs.getD i 0)) from fun i hi => by
            obtain ⟨e, h1⟩ := hdcell i hi
            refine ⟨e, fun W v hk => ?_⟩
            have hb := hk.grown.block db (cell_lt h1) (fun e2 => hap db (by rw [e]; rfl) e2.symm)
            unfold World.cell? at h1 ⊢
            rw [hb]
            exact h1)
          have CU := Lib.hid (refUint_any zs.length w7 (by have := HZL.out; omega))
          clear o7 b7 hap hob hdcell CDD
          go_wp2_with fail
          refine CU.out.mono ?_
          rintro e w8 ⟨u8, rfl, o8, b8⟩
          have hlz := encN_ten (n := zs.length) (by have := HZL.out; omega)
          obtain ⟨v9, w9, r9, o9, b9, x9⟩ := (HO7.out.below b8).appendR (o8.reads (by omega)) (by have := HCB.out; omega) (by omega) (Nat.le_trans HB7.out.size b8.size)
          have HK9 := Lib.hid ((HK7.out.below b8).ext x9)
          have HO9 := Lib.hid o9
          have HT9 := Lib.hid (show cs ++ encPair zs = (cs ++ encN zs.length) ++ encDays 0 (zs.drop 0) by simp [encPair])
          clear CU o8 b8 o9 b9 x9 hlz
          obtain ⟨a9, c9, rfl⟩ := HO9.out.slice
          obtain ⟨l9, hl9⟩ : ∃ l, l = (cs ++ encN zs.length).length := ⟨_, rfl⟩
          rw [← hl9] at HO9 HK9 r9
          clear hl9
          go_wp2_with (at_builtin; refine wpList_append_run (by rfl) (.tmp 28) (.tmp 31) 56 (by rfl) _ u8 (.slice a9 l9 c9) w9 (by rfl) (by rfl) r9 ?_)
          obtain ⟨T, hT⟩ : ∃ T, T = cs ++ encPair zs := ⟨_, rfl⟩
          rw [← hT] at HT9 HT
          have HTL := Lib.hid (show T.length ≤ 101000 by
            rw [hT, List.length_append]
            have := encPair_le HDK.out
            have := HCB.out
            have := HZL.out
            omega)
          clear hT
          have hzl := HZL.out
          go_loopw [5, 9] (fun v5 v9 wx => ∃ (i : Nat) (last : Int) (f : Bool) (cs' : List Int), i ≤ zs.length ∧ v9 = .int .i64 i ∧ OwnB wx w.heap.size v5 cs' ∧ T = cs' ++ encDays last (zs.drop i) ∧ DOk f last (zs.drop i) ∧ (i = 0 → last = 0) ∧ (∀ i', i = i' + 1 → last = zs.getD i' 0) ∧ (0 ≤ last ∧ last ≤ 999999) ∧ Kept w7 wx ob v5) (fun _ v9 _ => zs.length - (intOf v9).toNat)
          case atStart => exact ⟨0, 0, true, _, Nat.zero_le _, rfl, HO9.out, HT9.out, HDK.out, fun _ => rfl, fun i' h => by omega, by omega, HK9.out⟩
          case round =>
            obtain ⟨i, last, f, cs', hi, rfl, hown, heq, hdk, hl0, hl1, hlast, hkp⟩ := hrel
            have HOI := Lib.hid hown
            have HEI := Lib.hid heq
            have HKI := Lib.hid hkp
            have HBI := Lib.hid (HB7.out.trans (hkp.to_below HB7.out.size HOBG.out))
            have HCL' := Lib.hid (show cs'.length ≤ 101000 by have h1 := congrArg List.length heq; have := HTL.out; simp only [List.length_append] at h1; omega)
            obtain ⟨a10, c10, hv10⟩ := hown.slice
            subst hv10
            by_cases hil : i < zs.length
            · obtain ⟨rfl, hdc⟩ := DC.out i hil
              have d0 := hdc _ _ hkp
              rw [drop_at hil (0 : Int)] at hdk HEI
              have HGD := Lib.hid (rfl : zs.getD i 0 = zs.getD i 0)
              obtain ⟨d, hd⟩ : ∃ d, d = zs.getD i 0 := ⟨_, rfl⟩
              rw [← hd] at d0 hdk HEI
              have HDD := Lib.hid hd
              obtain ⟨t1, t2, t3, t4⟩ := hdk
              have HT4 := Lib.hid t4
              have CU := Lib.hid (fun W => refUintI (d - last) W (by omega) (by omega))
              have hten := encN_ten (n := (d - last).toNat) (by omega)
              have HTEN := Lib.hid hten
              have HEN := Lib.hid (show T = (cs' ++ encN (d - last).toNat) ++ encDays d (zs.drop (i + 1)) by rw [HEI.out]; simp [encDays])
              obtain ⟨l10, hl10⟩ : ∃ l, l = cs'.length := ⟨_, rfl⟩
              rw [← hl10] at HOI HKI ⊢
              clear hl10 hdc hd t2 t4 hten heq hown HGD
              rcases Nat.eq_zero_or_pos i with hi0 | hi0
              · subst hi0
                have hlz := hl0 rfl
                subst hlz
                simp only [Int.sub_zero, Nat.add_zero] at CU d0
                clear hl0 hl1 hkp
                go_wp2_with fail
                refine (CU.out _).mono ?_
                rintro e w11 ⟨u11, rfl, o11, b11⟩
                obtain ⟨v12, w12, r12, o12, b12, x12⟩ := (HOI.out.below b11).appendR (o11.reads (by have := HTEN.out; simp only [Int.sub_zero] at this; omega)) (by have := HCL'.out; omega) (by have := HTEN.out; simp only [Int.sub_zero] at this; omega) (Nat.le_trans HBI.out.size b11.size)
                have HK12 := Lib.hid ((HKI.out.below b11).ext x12)
                have HO12 := Lib.hid o12
                simp only [Int.sub_zero] at HEN
                clear o11 b11 o12 b12 x12 CU
                go_wp2_with (at_builtin; refine wpList_append_run (by rfl) (.tmp 41) (.tmp 45) 56 (by rfl) _ u11 v12 w12 (by rfl) (by rfl) r12 ?_)
                go_roundw
                case rel => exact ⟨0 + 1, d, false, _, by omega, by go_num, HO12.out, HEN.out, HT4.out, fun h => by omega, fun i' h => by rw [show i' = 0 by omega]; exact HDD.out, by omega, HK12.out⟩
                case measure => simp [intOf]; omega
              · obtain ⟨i', rfl⟩ : ∃ i', i = i' + 1 := ⟨i - 1, by omega⟩
                have hlz := hl1 i' rfl
                obtain ⟨_, hdc⟩ := DC.out i' (by omega)
                have dp := hdc _ _ hkp
                rw [← hlz] at dp
                have p1 : (((i' : Int) + 1) == 0) = false := by simp; omega
                have hsb : IntKind.i64.wrap (i' : Int) = (i' : Int) := by rw [IntKind.wrap_i64]; omega
                have hm1 : i' < zs.length := by omega
                have hm0 : (0 : Int) ≤ (i' : Int) + 1 := by omega
                have hsw : IntKind.i64.wrap (d - last) = d - last := by rw [IntKind.wrap_i64]; omega
                have hDCK : ∀ W v, Kept w7 W ob v → W.cell? ⟨db, doff + (i' + 1), none⟩ = some (.int .i64 d) ∧ W.cell? ⟨db, doff + i', none⟩ = some (.int .i64 last) := fun W v hk => ⟨by rw [HDD.out]; exact (DC.out (i' + 1) hil).2 W v hk, by rw [hlz]; exact hdc W v hk⟩
                have HDCK := Lib.hid hDCK
                have hbd : Below wr.heap.size wr wr.drew := (Below.refl _ _).drew
                have HKD := Lib.hid (HKI.out.below hbd)
                have HOD := Lib.hid (HOI.out.below hbd)
                have HBD := Lib.hid HBI.out.drew
                clear hl0 hl1 hkp hlz hdc hDCK hbd
                go_upto_region 15 with fail
                have HSB0 : ∀ w' : World, Below (wr).drew.heap.size (wr).drew w' → (w'.cell? ⟨db, doff + (i' + 1), none⟩ = some (.int .i64 d) ∧ w'.cell? ⟨db, doff + i', none⟩ = some (.int .i64 last)) := fun w' hb => ⟨bc hb d0, bc hb dp⟩
                refine wp_region_held_drew (S := fun w' => w'.cell? ⟨db, doff + (i' + 1), none⟩ = some (.int .i64 d) ∧ w'.cell? ⟨db, doff + i', none⟩ = some (.int .i64 last)) (by kernel_rfl) (HSB0 _ (Below.refl _ _)) (fun hHeld => ?_)
                have HSB := Lib.hid HSB0
                clear HSB0
                generalize (wr).drew = Wd at *
                clear d0 dp
                refine wpAnyH_take (i := 0) (v := ?_) rfl (by kernel_rfl) (by kernel_rfl) (by kernel_rfl) (fun _ _ _ h => h) (Or.inl ⟨by rfl, ?_⟩) (by assumption) ?_
                rotate_left; · (intro w hSw; (try dsimp only at hSw); go_simp; try with_reducible rfl)
                try simp only [Act.put, List.getElem_toArray, List.getElem_cons_zero, List.getElem_cons_succ, List.setIfInBounds_toArray, List.set_cons_zero, List.set_cons_succ]
                refine wpAnyH_take (i := 1) (v := ?_) rfl (by kernel_rfl) (by kernel_rfl) (by kernel_rfl) (fun _ _ _ h => h) (Or.inl ⟨by rfl, ?_⟩) (by assumption) ?_
                rotate_left; · (intro w hSw; (try dsimp only at hSw); go_simp; try with_reducible rfl)
                try simp only [Act.put, List.getElem_toArray, List.getElem_cons_zero, List.getElem_cons_succ, List.setIfInBounds_toArray, List.set_cons_zero, List.set_cons_succ]
                refine wpAnyH_take (i := 2) (v := ?_) rfl (by kernel_rfl) (by kernel_rfl) (by kernel_rfl) (fun _ _ _ h => h) (Or.inl ⟨by rfl, ?_⟩) (by assumption) ?_
                rotate_left; · (intro w hSw; (try dsimp only at hSw); go_simp; try with_reducible rfl)
                try simp only [Act.put, List.getElem_toArray, List.getElem_cons_zero, List.getElem_cons_succ, List.setIfInBounds_toArray, List.set_cons_zero, List.set_cons_succ]
                refine wpAnyH_take (i := 3) (v := ?_) rfl (by kernel_rfl) (by kernel_rfl) (by kernel_rfl) (fun _ _ _ h => h) (Or.inl ⟨by rfl, ?_⟩) (by assumption) ?_
                rotate_left; · (intro w hSw; (try dsimp only at hSw); go_simp; try with_reducible rfl)
                try simp only [Act.put, List.getElem_toArray, List.getElem_cons_zero, List.getElem_cons_succ, List.setIfInBounds_toArray, List.set_cons_zero, List.set_cons_succ]
                refine wpAnyH_take (i := 4) (v := ?_) rfl (by kernel_rfl) (by kernel_rfl) (by kernel_rfl) (fun _ _ _ h => h) (Or.inl ⟨by rfl, ?_⟩) (by assumption) ?_
                rotate_left; · (intro w hSw; (try dsimp only at hSw); go_simp; try with_reducible rfl)
                try simp only [Act.put, List.getElem_toArray, List.getElem_cons_zero, List.getElem_cons_succ, List.setIfInBounds_toArray, List.set_cons_zero, List.set_cons_succ]
                refine wpAnyH_take (i := 5) (v := ?_) rfl (by kernel_rfl) (by kernel_rfl) (by kernel_rfl) (fun _ _ _ h => h) (Or.inl ⟨by rfl, ?_⟩) (by assumption) ?_
                rotate_left; · (intro w hSw; (try dsimp only at hSw); go_simp; try with_reducible rfl)
                try simp only [Act.put, List.getElem_toArray, List.getElem_cons_zero, List.getElem_cons_succ, List.setIfInBounds_toArray, List.set_cons_zero, List.set_cons_succ]
                refine wpAnyH_take (i := 6) (v := ?_) rfl (by kernel_rfl) (by kernel_rfl) (by kernel_rfl) (fun _ _ _ h => h) (Or.inl ⟨by rfl, ?_⟩) (by assumption) ?_
                rotate_left; · (intro w hSw; (try dsimp only at hSw); go_simp; try with_reducible rfl)
                try simp only [Act.put, List.getElem_toArray, List.getElem_cons_zero, List.getElem_cons_succ, List.setIfInBounds_toArray, List.set_cons_zero, List.set_cons_succ]
                refine wpAnyH_take (i := 7) (v := ?_) rfl (by kernel_rfl) (by kernel_rfl) (by kernel_rfl) (fun _ _ _ h => h) (Or.inl ⟨by rfl, ?_⟩) (by assumption) ?_
                rotate_left; · (intro w hSw; (try dsimp only at hSw); go_simp; try with_reducible rfl)
                try simp only [Act.put, List.getElem_toArray, List.getElem_cons_zero, List.getElem_cons_succ, List.setIfInBounds_toArray, List.set_cons_zero, List.set_cons_succ]
                refine wpAnyH_take (i := 8) (v := ?_) rfl (by kernel_rfl) (by kernel_rfl) (by kernel_rfl) (fun _ _ _ h => h) (Or.inl ⟨by rfl, ?_⟩) (by assumption) ?_
                rotate_left; · (intro w hSw; (try dsimp only at hSw); go_simp; try with_reducible rfl)
                try simp only [Act.put, List.getElem_toArray, List.getElem_cons_zero, List.getElem_cons_succ, List.setIfInBounds_toArray, List.set_cons_zero, List.set_cons_succ]
                refine wpAnyH_take (i := 9) (v := ?_) rfl (by kernel_rfl) (by kernel_rfl) (by kernel_rfl) (fun _ _ _ h => h) (Or.inl ⟨by rfl, ?_⟩) (by assumption) ?_
                rotate_left; · (intro w hSw; (try dsimp only at hSw); go_simp; try with_reducible rfl)
                try simp only [Act.put, List.getElem_toArray, List.getElem_cons_zero, List.getElem_cons_succ, List.setIfInBounds_toArray, List.set_cons_zero, List.set_cons_succ]
                refine wpAnyH_take (i := 10) (v := ?_) rfl (by kernel_rfl) (by kernel_rfl) (by kernel_rfl) (fun _ _ _ h => h) (Or.inl ⟨by rfl, ?_⟩) (by assumption) ?_
                rotate_left; · (intro w hSw; (try dsimp only at hSw); go_simp; try with_reducible rfl)
                try simp only [Act.put, List.getElem_toArray, List.getElem_cons_zero, List.getElem_cons_succ, List.setIfInBounds_toArray, List.set_cons_zero, List.set_cons_succ]
                refine wpAnyH_ready (rs := [11]) (by kernel_rfl) (by simp) ?_
                refine AllReadyH.cons rfl (fun K hK => ?_) AllReadyH.nil
                go_simp
                refine (CU.out _).mono ?_; rintro e w11 ⟨u11, rfl, o11, b11⟩
                go_wp2_with fail
                refine hK.out _ _ (HSB.out _ b11) (fun hNew => ?_)
                clear hK K hHeld
                have hHeld := hNew
                clear hNew
                try simp only [Act.put, List.getElem_toArray, List.getElem_cons_zero, List.getElem_cons_succ, List.setIfInBounds_toArray, List.set_cons_zero, List.set_cons_succ]
                obtain ⟨v12, w12, r12, o12, b12, x12⟩ := (HOD.out.below b11).appendR (o11.reads (by have := HTEN.out; omega)) (by have := HCL'.out; omega) (by have := HTEN.out; omega) (Nat.le_trans HBD.out.size b11.size)
                have HK12 := Lib.hid ((HKD.out.below b11).ext x12)
                have HO12 := Lib.hid o12
                refine wpAnyH_ready (rs := [12]) (by kernel_rfl) (by simp) ?_
                refine AllReadyH.cons rfl (fun K hK => ?_) AllReadyH.nil
                refine step_append_run (by rfl) (.tmp 47) (.tmp 58) 56 (by rfl) (.slice a10 l10 c10) u11 v12 w12 (by rfl) (by rfl) r12 ?_
                refine hK.out _ _ (HDCK.out _ _ HK12.out) (fun hNew => ?_)
                clear hK K hNew
                (try clear hHeld)
                have hHeld := HDCK.out _ _ HK12.out
                try simp only [Act.put, List.getElem_toArray, List.getElem_cons_zero, List.getElem_cons_succ, List.setIfInBounds_toArray, List.set_cons_zero, List.set_cons_succ]
                refine wpAnyH_take (i := 13) (v := ?_) rfl (by kernel_rfl) (by kernel_rfl) (by kernel_rfl) (fun _ _ _ h => h) (Or.inl ⟨by rfl, ?_⟩) (by assumption) ?_
                rotate_left; · (intro w hSw; (try dsimp only at hSw); go_simp; try with_reducible rfl)
                try simp only [Act.put, List.getElem_toArray, List.getElem_cons_zero, List.getElem_cons_succ, List.setIfInBounds_toArray, List.set_cons_zero, List.set_cons_succ]
                refine wpAnyH_done (by kernel_rfl) ?_ _
                clear hHeld HSB o11 b11 o12 b12 x12 r12 CU
                go_wp2
                go_roundw
                case rel => exact ⟨i' + 1 + 1, d, false, _, by omega, by go_num, HO12.out, HEN.out, HT4.out, fun h => by omega, fun i'' h => by rw [show i'' = i' + 1 by omega]; exact HDD.out, by omega, HK12.out⟩
                case measure => simp [intOf]; omega
            · have hd0 : zs.drop i = [] := List.drop_eq_nil_of_le (by omega)
              rw [hd0] at HEI
              have HE7 := Lib.hid (show T = cs' by rw [HEI.out]; simp [encDays])
              clear hown heq hkp hdk hd0 hl0 hl1
              go_wp2
              go_roundw
              case rel => exact ⟨b + 1, by omega, by omega, by go_num, by rw [HT.out, HE7.out]; exact HOI.out, HBI.out⟩
              case measure => simp [intOf]; omega
        · have hbb : b = n := by omega
          subst hbb
          rw [← HSU.out] at HOB
          go_wp2
          go_roundw
          case rel => exact ⟨a + 1, by omega, by go_num, by rw [HSU.out] at HOB ⊢; exact HOB.out, HBB.out⟩
          case measure => simp [intOf]; omega
    · have hjn : a = n := by omega
      subst hjn
      go_wp2
      go_ret
      exact ⟨_, rfl, HO.out, HB.out⟩

end Go.Proofs.Ytednejckcdiebaa
