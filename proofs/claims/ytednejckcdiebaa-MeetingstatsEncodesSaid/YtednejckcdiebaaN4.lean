/- The pairs of a book; Encode. -/
import Derived.Test.YtednejckcdiebaaN3
import Derived.Test.YtednejckcdiebaaT
namespace Go.Proofs.Ytednejckcdiebaa
open Go.RowKit Go.Lib Go.ChangeMaps
set_option linter.unusedSimpArgs false

def pairF (n a : Nat) : List (Int × Int) := (List.range' (a + 1) (n - (a + 1))).map fun b : Nat => ((a : Int), (b : Int))
def pairTo (n a : Nat) : List (Int × Int) := (List.range a).flatMap (pairF n)
def pairIn (a b : Nat) : List (Int × Int) := (List.range' (a + 1) (b - (a + 1))).map fun b : Nat => ((a : Int), (b : Int))
theorem pairTo_all (n : Nat) : pairTo n n = pairL n := rfl
theorem pairTo_succ (n a : Nat) : pairTo n (a + 1) = pairTo n a ++ pairIn a n := by
  unfold pairTo
  rw [List.range_succ, List.flatMap_append]
  simp [pairF, pairIn]
theorem pairIn_succ (a b : Nat) (h : a < b) : pairIn a (b + 1) = pairIn a b ++ [((a : Int), (b : Int))] := by
  unfold pairIn
  rw [show b + 1 - (a + 1) = (b - (a + 1)) + 1 by omega, List.range'_concat, List.map_append]
  simp only [List.map_cons, List.map_nil, Nat.one_mul, show a + 1 + (b - (a + 1)) = b by omega]
theorem pairIn_len (a b : Nat) : (pairIn a b).length = b - (a + 1) := by simp [pairIn]
theorem pairTo_len (n : Nat) : ∀ a : Nat, (pairTo n a).length ≤ a * n
  | 0 => by simp [pairTo]
  | a + 1 => by
    rw [pairTo_succ, List.length_append, pairIn_len, Nat.add_mul]
    have := pairTo_len n a
    omega

set_option maxRecDepth 100000 in
set_option maxHeartbeats 4000000 in
theorem pairs_any (k n : Nat) (w : World) (hc : w.cell? ⟨k, 0, none⟩ = some (.int .i64 n)) (hn : n ≤ 12) :
    Calls Try.prog 49 #[.pointer (some ⟨k, 0, none⟩)] w fun e w' => ∃ u, e = .returned u ∧ OwnP w' w.heap.size u (pairL n) ∧ Below w.heap.size w w' := by
  have HC := Lib.hid hc
  have hn' : (n : Int) ≤ 12 := by omega
  go_enter Try.func49, Try.ntmps49
  go_wp2
  go_loopw [3, 4, 5, 10] (fun v3 _ _ v10 wr => ∃ a : Nat, a ≤ n ∧ v10 = .int .i64 a ∧ OwnP wr w.heap.size v3 (pairTo n a) ∧ Below w.heap.size w wr) (fun _ _ _ v10 _ => n - (intOf v10).toNat)
  case atStart => exact ⟨0, Nat.zero_le _, rfl, OwnP.nil _ _, Below.refl _ _⟩
  case round =>
    obtain ⟨a, ha, rfl, hown, hbel⟩ := hrel
    have HO := Lib.hid hown
    have HB := Lib.hid hbel
    obtain ⟨a3, c3, rfl⟩ := hown.slice
    clear hown hbel
    by_cases hlt : a < n
    · have HST := Lib.hid (show pairTo n a ++ pairIn a (a + 1) = pairTo n a by simp [pairIn])
      have HSU := Lib.hid (pairTo_succ n a)
      have HLN := Lib.hid (show (pairTo n a).length ≤ 144 from Nat.le_trans (pairTo_len n a) (Nat.mul_le_mul (show a ≤ 12 by omega) hn))
      clear hc
      go_wp2
      go_loopw [3, 5] (fun v3 v5 wx => ∃ b : Nat, a + 1 ≤ b ∧ b ≤ n ∧ v5 = .int .i64 b ∧ OwnP wx w.heap.size v3 (pairTo n a ++ pairIn a b) ∧ Below w.heap.size w wx) (fun _ v5 _ => n - (intOf v5).toNat)
      case atStart => exact ⟨a + 1, Nat.le_refl _, hlt, by go_num, by rw [HST.out]; exact HO.out, HB.out⟩
      case round =>
        obtain ⟨b, hb1, hb2, rfl, hown, hbel⟩ := hrel
        have HOB := Lib.hid hown
        have HBB := Lib.hid hbel
        have hk := bc hbel HC.out
        obtain ⟨a4, c4, rfl⟩ := hown.slice
        by_cases hbn : b < n
        · have HIS := Lib.hid (pairIn_succ a b (by omega))
          obtain ⟨v6, w6, r6, o6, b6⟩ := hown.append (a : Int) (b : Int) (by rw [List.length_append, pairIn_len]; have := HLN.out; omega) hbel.size
          rw [List.append_assoc, ← HIS.out] at o6
          have HO6 := Lib.hid o6
          have HB6 := Lib.hid (HBB.out.trans b6)
          obtain ⟨a6, c6, rfl⟩ := o6.slice
          obtain ⟨l6, hl6⟩ : ∃ l, l = (pairTo n a ++ pairIn a (b + 1)).length := ⟨_, rfl⟩
          rw [← hl6] at HO6 r6
          obtain ⟨l4, hl4⟩ : ∃ l, l = (pairTo n a ++ pairIn a b).length := ⟨_, rfl⟩
          rw [← hl4] at r6 ⊢
          clear o6 b6 hown hbel hl6 hl4
          go_wp2_with (at_builtin; refine wpList_append_run (by rfl) (.tmp 23) (.tmp 27) 87 (by rfl) _ (.slice (some ⟨wr.heap.size, 0, none⟩) 1 1) (.slice a6 l6 c6) w6 (by rfl) (by rfl) r6 ?_)
          go_roundw
          case rel => exact ⟨b + 1, by omega, by omega, by go_num, HO6.out, HB6.out⟩
          case measure => simp [intOf]; omega
        · have hbb : b = n := by omega
          subst hbb
          rw [← HSU.out] at HOB
          clear hown hbel
          go_wp2
          go_roundw
          case rel => exact ⟨a + 1, by omega, by go_num, by rw [HSU.out] at HOB ⊢; exact HOB.out, HBB.out⟩
          case measure => simp [intOf]; omega
    · have hjn : a = n := by omega
      subst hjn
      clear hc
      go_wp2
      go_ret
      exact ⟨_, rfl, HO.out, HB.out⟩

theorem IsBook.met {w : World} {F : Nat → Prop} {k : Nat} {n N : Int} {M : Days} (hB : IsBook w F k n N M) (p q : Int) : ∃ mb ao c, Reads w (.slice ao (M p q).length c) (M p q) ∧ ∀ W, Below w.heap.size w W →
    W.cell? ⟨k, 1, none⟩ = some (.map (some mb)) ∧ ∀ j, (Instr.lookup 68 (.map (some mb)) (.agg #[.int .i64 p, .int .i64 q]) false).run Try.prog (W.drewN j) = .ok (.slice ao (M p q).length c) (W.drewN j) := by
  obtain ⟨mb, L, c, fk, fm, g1, g2, g3, g4, g5, g6⟩ := hB
  have hrd := reads_of_row (g4 p q)
  obtain ⟨ao, cap, hlook, _⟩ := id hrd
  rw [hlook] at hrd
  refine ⟨mb, ao, cap, hrd, fun W hb => ⟨by rw [cell_of_block (bb hb g1)]; rfl, fun j => ?_⟩⟩
  have := run_lookup_pair (w := W.drewN j) (bb hb g2) p q
  rw [hlook] at this
  exact this
theorem own_apartB {w : World} {b1 b2 : Nat} {v1 v2 : Value} {ps : List (Int × Int)} {bs : List Int} (h1 : OwnP w b1 v1 ps) (h2 : OwnB w b2 v2 bs) : ∀ g, v1.ownBlock = some g → v2.ownBlock ≠ some g := by
  intro g hg
  obtain ⟨xs, ⟨_, h3⟩, _⟩ := h1
  rcases h3 with ⟨rfl, _⟩ | ⟨g', cap, cur, rfl, _, h4, _⟩
  · cases hg
  · cases hg
    exact own_ne h2 h4 (by decide)
theorem appendNumberI (v : Value) (base : Nat) (bs : List Int) (x : Int) (w : World) (hv : OwnB w base v bs) (h0 : 0 ≤ x) (hx : x ≤ 9223372036854775807) (hl : bs.length ≤ 1000000) (hb : base ≤ w.heap.size) :
    Calls Try.prog 48 #[v, .int .i64 x] w fun e w' => ∃ u, e = .returned u ∧ OwnB w' base u (bs ++ encN x.toNat) ∧ Below base w w' ∧ Ext w w' v u := by
  have := appendNumber_any v base bs x.toNat w hv (by omega) hl hb
  rw [show ((x.toNat : Nat) : Int) = x by omega] at this
  exact this
theorem drop_at {α : Type} {l : List α} {i : Nat} (h : i < l.length) (d : α) : l.drop i = l.getD i d :: l.drop (i + 1) := by
  rw [List.getD, List.getElem?_eq_getElem h]
  exact List.drop_eq_getElem_cons h

set_option maxRecDepth 100000 in
set_option maxHeartbeats 8000000 in
theorem Encode_any (F : Nat → Prop) (k n : Nat) (N : Int) (M : Days) (w : World) (hB : IsBook w F k n N M) (hd : ∀ a b, DOk true 0 (M a b)) (hn : n ≤ 12) (hE : (encB n M).length ≤ 100000) :
    Calls Try.prog 30 #[.pointer (some ⟨k, 0, none⟩)] w fun e w' => ∃ u, e = .returned u ∧ OwnB w' w.heap.size u (encB n M) ∧ Below w.heap.size w w' := by
  have hc := hB.cell0
  have HB := Lib.hid hB
  have HD := Lib.hid hd
  have CN := Lib.hid (appendNumber_any (.slice none 0 0) w.heap.size [] n w (OwnB.nil _ _) (by omega) (by simp) (Nat.le_refl _))
  obtain ⟨E, hEE⟩ : ∃ E, E = encB n M := ⟨_, rfl⟩
  obtain ⟨ps, hps⟩ : ∃ ps, ps = pairL n := ⟨_, rfl⟩
  have HE0 := Lib.hid (show E = encN n ++ encPairs M ps by rw [hEE, hps]; rfl)
  have HPS := Lib.hid hps
  rw [← hEE] at hE ⊢
  have HEL := Lib.hid hE
  clear hB hd hEE hE hps
  go_enter Try.func30, Try.ntmps30
  go_wp2_with fail
  refine CN.out.mono ?_
  rintro e w1 ⟨u1, rfl, o1, b1, -⟩
  rw [List.nil_append] at o1
  have HO1 := Lib.hid o1
  have HB1 := Lib.hid b1
  have CP := Lib.hid (pairs_any k n w1 (bc b1 hc) hn)
  rw [← HPS.out] at CP
  obtain ⟨a1, c1, rfl⟩ := o1.slice
  clear CN o1 b1 hc
  go_wp2_with fail
  refine CP.out.mono ?_
  rintro e w2 ⟨u2, rfl, o2, b2⟩
  have HO2 := Lib.hid (HO1.out.below b2)
  have HB2 := Lib.hid (HB1.out.trans (b2.mono HB1.out.size))
  have hpl : ps.length ≤ 144 := by
    rw [HPS.out, ← pairTo_all]
    exact Nat.le_trans (pairTo_len n n) (Nat.mul_le_mul hn hn)
  obtain ⟨ob, hob⟩ : ∃ ob, ob = (Value.slice a1 (encN n).length c1).ownBlock := ⟨_, rfl⟩
  have HK2 := Lib.hid (show Kept w2 w2 ob (Value.slice a1 (encN n).length c1) by rw [hob]; exact Kept.refl _ _)
  have HOB := Lib.hid (show ∀ g, ob = some g → w.heap.size ≤ g from fun g hg => (HO2.out.lt g (by rw [← hob]; exact hg)).1)
  have hap := own_apartB o2 HO2.out
  rw [← hob] at hap
  obtain ⟨pa, pc, pb, po, rfl, _, _, hpcell⟩ := (o2.reads (by omega)).at
  have PC := Lib.hid (show ∀ i, i < ps.length → pa = some ⟨pb, po, none⟩ ∧ ∀ W v, Kept w2 W ob v → W.cell? ⟨pb, po + i * 2, none⟩ = some (.int .i64 (ps.getD i (0, 0)).1) ∧ W.cell? ⟨pb, po + i * 2 + 1, none⟩ = some (.int .i64 (ps.getD i (0, 0)).2) from fun i hi => by
    obtain ⟨e, h1, h2⟩ := hpcell i hi
    refine ⟨e, fun W v hk => ?_⟩
    have hb := hk.grown.block pb (cell_lt h1) (fun e2 => hap pb (by rw [e]; rfl) e2.symm)
    unfold World.cell? at h1 h2 ⊢
    rw [hb]
    exact ⟨h1, h2⟩)
  clear CP o2 b2 hpcell hob hap
  go_wp2
  go_loopw [3, 18] (fun v3 v18 wr => ∃ (i : Nat) (cs : List Int), i ≤ ps.length ∧ v18 = .int .i64 i ∧ OwnB wr w.heap.size v3 cs ∧ E = cs ++ encPairs M (ps.drop i) ∧ Kept w2 wr ob v3) (fun _ v18 _ => ps.length - (intOf v18).toNat)
  case atStart => exact ⟨0, _, Nat.zero_le _, rfl, HO2.out, HE0.out, HK2.out⟩
  case round =>
    obtain ⟨i, cs, hi, rfl, hown, heq, hkp⟩ := hrel
    have HO := Lib.hid hown
    have HEQ := Lib.hid heq
    have HKP := Lib.hid hkp
    have HBW := Lib.hid (HB2.out.trans (hkp.to_below HB2.out.size HOB.out))
    obtain ⟨a3, c3, rfl⟩ := hown.slice
    by_cases hlt : i < ps.length
    · obtain ⟨rfl, hpp⟩ := PC.out i hlt
      obtain ⟨p0, p1⟩ := hpp _ _ hkp
      have HDR := Lib.hid (drop_at hlt (0, 0))
      clear hpp
      generalize ps.getD i (0, 0) = pr at *
      obtain ⟨p, q⟩ := pr
      simp only at p0 p1
      have hA : Below wr.heap.size wr (wr.alloc (.cells #[.int .i64 p, .int .i64 q] 72)) := sb0 _
      have hx := heap_alloc_new wr (.cells #[.int .i64 p, .int .i64 q] 72)
      have HBA := Lib.hid (HBW.out.trans (hA.mono HBW.out.size))
      have HKA := Lib.hid (HKP.out.below hA)
      have HOA := Lib.hid (HO.out.below hA)
      obtain ⟨X, hX⟩ : ∃ X, X = wr.heap.size := ⟨_, rfl⟩
      have HX := Lib.hid hX
      rw [← hX] at hx
      obtain ⟨wa, hwa⟩ : ∃ wa, wa = wr.alloc (.cells #[.int .i64 p, .int .i64 q] 72) := ⟨_, rfl⟩
      rw [← hwa] at hx HBA HKA HOA
      have HWA := Lib.hid hwa
      have HXX := Lib.hid hx
      clear hA hX hwa hx hown heq hkp
      go_upto_region 5 with fail
      rw [← HWA.out]
      try rw [← HX.out]
      obtain ⟨mb, dao, dc, hrd, hmt⟩ := HB.out.met p q
      obtain ⟨m1, hlk⟩ := hmt wa HBA.out
      have x0 : wa.cell? ⟨X, 0, none⟩ = some (.int .i64 p) := by rw [cell_of_block HXX.out]; rfl
      have x1 : wa.cell? ⟨X, 1, none⟩ = some (.int .i64 q) := by rw [cell_of_block HXX.out]; rfl
      have HRDD := Lib.hid hrd
      have HDOK := Lib.hid (HD.out p q)
      have HEP := Lib.hid (show encPairs M (ps.drop i) = encN (M p q).length ++ (encDays 0 (M p q) ++ encPairs M (ps.drop (i + 1))) by rw [HDR.out]; simp [encPairs, encPair])
      rw [HEP.out] at HEQ
      generalize M p q = zs at *
      clear hrd p0 p1 hmt
      go_quiet (fail)
      generalize hV : wa.drewN nq = V
      have hbv : Below wa.heap.size wa V := by rw [← hV]; exact below_drewN (Below.refl _ _) _
      have HOV := Lib.hid (HOA.out.below hbv)
      have HBV := Lib.hid (HBA.out.trans (hbv.mono HBA.out.size))
      have HKV := Lib.hid (HKA.out.below hbv)
      have hzl := HDOK.out.len0
      have CA := Lib.hid (appendNumber_any _ w.heap.size cs zs.length V HOV.out (by omega) (by have h1 := congrArg List.length HEQ.out; have := HEL.out; simp only [List.length_append] at h1; omega) HBV.out.size)
      clear hV hbv m1 hlk x0 x1
      go_wp2_with fail
      refine CA.out.mono ?_
      rintro e w4 ⟨u4, rfl, o4, b4, x4⟩
      have HO4 := Lib.hid o4
      have HK4 := Lib.hid (HKV.out.ext x4)
      have HEQ4 := Lib.hid (show E = (cs ++ encN zs.length) ++ (encDays 0 (zs.drop 0) ++ encPairs M (ps.drop (i + 1))) by rw [HEQ.out]; simp)
      obtain ⟨_, _, db, doff, hde, _, hdcell⟩ := Reads.at HRDD.out
      cases hde
      have DC := Lib.hid hdcell
      clear o4 b4 x4 CA hdcell
      go_wp2
      go_loopw [3, 7, 34] (fun v3 v7 v34 wx => ∃ (j : Nat) (last : Int) (f : Bool) (cs' : List Int), j ≤ zs.length ∧ v34 = .int .i64 j ∧ v7 = .int .i64 last ∧ (0 ≤ last ∧ last ≤ 999999) ∧ OwnB wx w.heap.size v3 cs' ∧ E = cs' ++ (encDays last (zs.drop j) ++ encPairs M (ps.drop (i + 1))) ∧ DOk f last (zs.drop j) ∧ Kept w2 wx ob v3) (fun _ _ v34 _ => zs.length - (intOf v34).toNat)
      case atStart => exact ⟨0, 0, true, _, Nat.zero_le _, rfl, rfl, by omega, HO4.out, HEQ4.out, HDOK.out, HK4.out⟩
      case round =>
        obtain ⟨j, last, f, cs', hj, rfl, rfl, hlast, hown, heq, hdk, hkp⟩ := hrel
        have HOJ := Lib.hid hown
        have HEJ := Lib.hid heq
        have HKJ := Lib.hid hkp
        have hbw := HB2.out.trans (hkp.to_below HB2.out.size HOB.out)
        have HSJ := Lib.hid hbw.size
        obtain ⟨a5, c5, rfl⟩ := hown.slice
        by_cases hjl : j < zs.length
        · obtain ⟨rfl, d0⟩ := DC.out j hjl
          have d0 := bc hbw d0
          rw [drop_at hjl (0 : Int)] at hdk HEJ
          generalize zs.getD j 0 = d at *
          obtain ⟨t1, t2, t3, t4⟩ := hdk
          have HT4 := Lib.hid t4
          have CA := Lib.hid (appendNumberI _ w.heap.size cs' (d - last) wr HOJ.out (by omega) (by omega) (by have h1 := congrArg List.length HEJ.out; have := HEL.out; simp only [List.length_append] at h1; omega) HSJ.out)
          clear hown heq hkp hbw t2 t4
          go_wp2_with fail
          refine CA.out.mono ?_
          rintro e w6 ⟨u6, rfl, o6, b6, x6⟩
          have HO6 := Lib.hid o6
          have HK6 := Lib.hid (HKJ.out.ext x6)
          have HE6 := Lib.hid (show E = (cs' ++ encN (d - last).toNat) ++ (encDays d (zs.drop (j + 1)) ++ encPairs M (ps.drop (i + 1))) by rw [HEJ.out]; simp [encDays])
          clear o6 b6 x6 CA
          go_wp2
          go_roundw
          case rel => exact ⟨j + 1, d, false, _, by omega, by go_num, rfl, by omega, HO6.out, HE6.out, HT4.out, HK6.out⟩
          case measure => simp [intOf]; omega
        · have hd0 : zs.drop j = [] := List.drop_eq_nil_of_le (by omega)
          rw [hd0] at HEJ
          have HE7 := Lib.hid (show E = cs' ++ encPairs M (ps.drop (i + 1)) by rw [HEJ.out]; simp [encDays])
          clear hown heq hkp hbw hdk hd0
          go_wp2
          go_roundw
          case rel => exact ⟨i + 1, cs', by omega, by go_num, HOJ.out, HE7.out, HKJ.out⟩
          case measure => simp [intOf]; omega
    · have hd0 : ps.drop i = [] := List.drop_eq_nil_of_le (by omega)
      rw [hd0] at HEQ
      have HE7 := Lib.hid (show E = cs by rw [HEQ.out]; simp [encPairs])
      clear hown heq hkp hd0
      go_wp2
      go_ret
      exact ⟨_, rfl, by rw [HE7.out]; exact HO.out, HBW.out⟩

end Go.Proofs.Ytednejckcdiebaa
