/- Numbers written: extend, AppendUint, appendNumber, the reference's Uint. -/
import Derived.Test.YtednejckcdiebaaN2
namespace Go.Proofs.Ytednejckcdiebaa
open Go.RowKit Go.Lib Go.ChangeMaps
set_option linter.unusedSimpArgs false

theorem encN_le : ∀ (k n : Nat), n < 128 ^ (k + 1) → (encN n).length ≤ k + 1
  | 0, n, h => by rw [encN_small (by simpa using h)]; simp
  | k + 1, n, h => by
    by_cases hs : n < 128
    · rw [encN_small hs]; simp
    · rw [encN_big hs, List.length_cons]
      have := encN_le k (n / 128) (Nat.div_lt_of_lt_mul (by rw [Nat.mul_comm, ← Nat.pow_succ]; exact h))
      omega
theorem encN_ten {n : Nat} (h : n < 18446744073709551616) : (encN n).length ≤ 10 := encN_le 9 n (Nat.lt_of_lt_of_le h (by decide))

theorem or_all : ∀ x : Fin 256, bits BinOp.or IntKind.u8 ((x.val : Nat) : Int) 128 = ((x.val % 128 + 128 : Nat) : Int) := by decide +kernel
theorem or128 (m : Nat) : bits BinOp.or IntKind.u8 ((m : Int) % 256) 128 = ((m % 128 + 128 : Nat) : Int) := by
  have : bits BinOp.or IntKind.u8 ((m % 256 : Nat) : Int) 128 = ((m % 256 % 128 + 128 : Nat) : Int) := or_all ⟨m % 256, by omega⟩
  rw [show (m : Int) % 256 = ((m % 256 : Nat) : Int) by omega, this, show m % 256 % 128 = m % 128 by omega]
set_option maxRecDepth 100000 in
set_option maxHeartbeats 4000000 in
theorem extend_any (v : Value) (base : Nat) (bs : List Int) (n : Nat) (w : World) (hv : OwnB w base v bs) (hn : n < 18446744073709551616) (hl : bs.length ≤ 1000000) (hb : base ≤ w.heap.size) :
    Calls Try.prog 73 #[v, .int .u64 n] w fun e w' => ∃ u, e = .returned u ∧ OwnB w' base u (bs ++ encN n) ∧ Below base w w' := by
  have HV := Lib.hid hv
  obtain ⟨a0, c0, rfl⟩ := hv.slice
  have hlen := encN_ten hn
  have HLEN := Lib.hid hlen
  have HN := Lib.hid hn
  clear hv hlen hn
  go_enter Try.func73, Try.ntmps73
  go_wp2
  go_loopw [0, 1] (fun v0 v1 wr => ∃ (m : Nat) (cs : List Int), v1 = .int .u64 m ∧ m < 18446744073709551616 ∧ OwnB wr base v0 cs ∧ bs ++ encN n = cs ++ encN m ∧ Below base w wr) (fun _ v1 _ => (intOf v1).toNat)
  case atStart => exact ⟨n, bs, rfl, HN.out, HV.out, rfl, Below.refl _ _⟩
  case round =>
    obtain ⟨m, cs, rfl, hm, hown, heq, hbel⟩ := hrel
    have HO := Lib.hid hown
    have HEQ := Lib.hid heq
    have HBL := Lib.hid hbel
    have HCL := Lib.hid (show cs.length ≤ 1000010 by have h1 := congrArg List.length heq; have h2 := HLEN.out; have h3 := encN_len m; simp only [List.length_append] at h1; omega)
    have HSZ := Lib.hid (Nat.le_trans hb hbel.size)
    obtain ⟨a1, c1, rfl⟩ := hown.slice
    clear hown heq hbel
    by_cases h128 : 128 ≤ m
    · have q1 : (128 : Int) ≤ (m : Int) := by omega
      obtain ⟨y, hy⟩ : ∃ y : Int, y = ((m % 128 + 128 : Nat) : Int) := ⟨_, rfl⟩
      have hor : bits BinOp.or IntKind.u8 ((m : Int) % 256) 128 = y := by rw [hy]; exact or128 m
      have HY := Lib.hid hy
      obtain ⟨v6, w6, r6, o6, b6⟩ := HO.out.append y (by have := HCL.out; omega) HSZ.out
      obtain ⟨cs', hcs'⟩ : ∃ cs', cs' = cs ++ [y] := ⟨_, rfl⟩
      rw [← hcs'] at o6
      have HCS := Lib.hid hcs'
      have HO6 := Lib.hid o6
      have HB6 := Lib.hid (HBL.out.trans b6)
      have HEQ6 := Lib.hid (show bs ++ encN n = cs' ++ encN (m / 128) by rw [HEQ.out, HCS.out, encN_big (by omega), ← HY.out]; simp)
      obtain ⟨a6, c6, rfl⟩ := o6.slice
      clear o6 b6 hy hcs'
      go_wp2_with (at_builtin; refine wpList_append_run (by rfl) (.tmp 7) (.tmp 11) 56 (by rfl) _ (.slice (some ⟨wr.heap.size, 0, none⟩) 1 1) (.slice a6 cs'.length c6) w6 (by rfl) (by rfl) r6 ?_)
      go_roundw
      case rel => exact ⟨m / 128, cs', congrArg _ (by omega), by omega, HO6.out, HEQ6.out, HB6.out⟩
      case measure => simp only [intOf]; omega
    · have q1 : ¬ (128 : Int) ≤ (m : Int) := by omega
      obtain ⟨v6, w6, r6, o6, b6⟩ := HO.out.append (m : Int) (by have := HCL.out; omega) HSZ.out
      have HO6 := Lib.hid o6
      have HB6 := Lib.hid (HBL.out.trans b6)
      have HEQ6 := Lib.hid (show bs ++ encN n = cs ++ [(m : Int)] by rw [HEQ.out, encN_small (by omega)])
      clear o6 b6
      go_wp2_with (at_builtin; refine wpList_append_run (by rfl) (.tmp 15) (.tmp 18) 56 (by rfl) _ (.slice (some ⟨wr.heap.size, 0, none⟩) 1 1) v6 w6 (by rfl) (by rfl) r6 ?_)
      go_ret
      exact ⟨_, rfl, by rw [HEQ6.out]; exact HO6.out, HB6.out⟩

theorem mk_bytes (w : World) : ∃ w', (Instr.makeSlice 56 (.int .i64 0) (.int .i64 10)).run Try.prog w = .ok (.slice (some ⟨w.heap.size, 0, none⟩) 0 10) w' ∧ OwnB w' w.heap.size (.slice (some ⟨w.heap.size, 0, none⟩) 0 10) [] ∧ Below w.heap.size w w' := by
  have hi : (Try.prog.info? 5).map (fun i => (i.zero, i.size, i.bytes)) = some (some (.int .u8 0), 1, 1) := by kernel_rfl
  obtain ⟨i, h1, h2, h3, h4⟩ := info_parts hi
  obtain ⟨w', r, o, g⟩ := run_makeSlice_owned (P := Try.prog) w w.heap.size 56 5 i (.int .u8 0) 1 Try.underlying56 h1 h2 h3 .i64 .i64 10 (by omega) (by rw [h4]; omega) (by unfold maxLen; omega) (Nat.le_refl _)
  exact ⟨w', r, ⟨[], o, fun i j hi => absurd hi (Nat.not_lt_zero _)⟩, ⟨g.os, g.tape, g.output, g.size, fun b hb => g.block b hb (by simp)⟩⟩

theorem info5 : (Try.prog.info? 5).map (fun i => (i.zero, i.size, i.bytes)) = some (some (.int .u8 0), 1, 1) := by kernel_rfl

set_option maxRecDepth 100000 in
set_option maxHeartbeats 4000000 in
theorem appendUint_any (n : Nat) (w : World) (hn : n < 18446744073709551616) :
    Calls Try.prog 65 #[.slice none 0 0, .int .u64 n] w fun e w' => ∃ u, e = .returned u ∧ OwnB w' w.heap.size u (encN n) ∧ Below w.heap.size w w' := by
  obtain ⟨w4, r4, o4, b4⟩ := mk_bytes w
  have CE := Lib.hid (extend_any _ w.heap.size [] n w4 o4 hn (by simp) b4.size)
  have HB := Lib.hid b4
  obtain ⟨i0, hi, _⟩ := info_parts info5
  obtain ⟨xs, hown, _⟩ := o4
  have hx := run_append_nilsrc (ty := 56) Try.underlying56 hi hown 0
  clear b4 hown hi
  go_enter Try.func65, Try.ntmps65
  go_wp2_with (at_builtin; refine wpList_append_run (by rfl) (.tmp 8) (.tmp 9) 56 (by rfl) _ (.slice none 0 0) (.slice (some ⟨w.heap.size, 0, none⟩) 0 10) w4 (by rfl) (by rfl) hx ?_)
  refine CE.out.mono ?_
  rintro e w5 ⟨u, rfl, o5, b5⟩
  have HO := Lib.hid o5
  have HB5 := Lib.hid (HB.out.trans b5)
  clear CE o5 b5
  go_wp2
  go_ret
  exact ⟨u, rfl, HO.out, HB5.out⟩

set_option maxRecDepth 100000 in
set_option maxHeartbeats 4000000 in
theorem appendNumber_any (v : Value) (base : Nat) (bs : List Int) (n : Nat) (w : World) (hv : OwnB w base v bs) (hn : n ≤ 9223372036854775807) (hl : bs.length ≤ 1000000) (hb : base ≤ w.heap.size) :
    Calls Try.prog 48 #[v, .int .i64 n] w fun e w' => ∃ u, e = .returned u ∧ OwnB w' base u (bs ++ encN n) ∧ Below base w w' ∧ Ext w w' v u := by
  have CA := Lib.hid (appendUint_any n w (by omega))
  have HV := Lib.hid hv
  have HEN := Lib.hid (encN_ten (n := n) (by omega))
  obtain ⟨a0, c0, rfl⟩ := hv.slice
  clear hv
  have hcv : IntKind.u64.wrap (n : Int) = (n : Int) := by rw [IntKind.wrap_u64]; omega
  go_enter Try.func48, Try.ntmps48
  go_wp2_with fail
  refine CA.out.mono ?_
  rintro e w4 ⟨u, rfl, o4, b4⟩
  obtain ⟨v5, w5, r5, o5, b5, x5⟩ := (HV.out.below b4).appendR (o4.reads (by have := HEN.out; omega)) (by omega) (by have := HEN.out; omega) (Nat.le_trans hb b4.size)
  have HO := Lib.hid o5
  have HB5 := Lib.hid ((b4.mono hb).trans b5)
  have HX := Lib.hid (x5.after b4 (fun g hg => (HV.out.lt g hg).2))
  clear o4 o5 b4 b5 x5 CA
  go_wp2_with (at_builtin; refine wpList_append_run (by rfl) (.tmp 5) (.tmp 8) 56 (by rfl) _ u v5 w5 (by rfl) (by rfl) r5 ?_)
  go_ret
  exact ⟨_, rfl, HO.out, HB5.out, HX.out⟩

set_option maxRecDepth 100000 in
set_option maxHeartbeats 4000000 in
theorem refUint_any (n : Nat) (w : World) (hn : n ≤ 9223372036854775807) :
    Calls Try.prog 55 #[.int .i64 n] w fun e w' => ∃ u, e = .returned u ∧ OwnB w' w.heap.size u (encN n) ∧ Below w.heap.size w w' := by
  have HLEN := Lib.hid (encN_ten (n := n) (by omega))
  have HV := Lib.hid (show OwnB (w.alloc (.cells #[] 5)) w.heap.size (.slice (some ⟨w.heap.size, 0, none⟩) 0 0) [] from Own.lit0 _ _ _ _ _ (Nat.le_refl _))
  have HB0 := Lib.hid (sb0 (w := w) (.cells #[] 5))
  have HN := Lib.hid hn
  clear hn
  go_enter Try.func55, Try.ntmps55
  go_wp2
  go_loopw [0, 3] (fun v0 v3 wr => ∃ (m : Nat) (cs : List Int), v0 = .int .i64 m ∧ m ≤ 9223372036854775807 ∧ OwnB wr w.heap.size v3 cs ∧ encN n = cs ++ encN m ∧ Below w.heap.size w wr) (fun v0 _ _ => (intOf v0).toNat)
  case atStart => exact ⟨n, [], rfl, HN.out, HV.out, rfl, HB0.out⟩
  case round =>
    obtain ⟨m, cs, rfl, hm, hown, heq, hbel⟩ := hrel
    have HO := Lib.hid hown
    have HEQ := Lib.hid heq
    have HBL := Lib.hid hbel
    have HCL := Lib.hid (show cs.length ≤ 10 by have h1 := congrArg List.length heq; have h2 := HLEN.out; have h3 := encN_len m; simp only [List.length_append] at h1; omega)
    have HSZ := Lib.hid hbel.size
    obtain ⟨a1, c1, rfl⟩ := hown.slice
    clear hown heq hbel
    by_cases h128 : 128 ≤ m
    · have q1 : (127 : Int) < (m : Int) := by omega
      obtain ⟨v6, w6, r6, o6, b6⟩ := HO.out.append ((m : Int) % 128 + 128) (by have := HCL.out; omega) HSZ.out
      obtain ⟨cs', hcs'⟩ : ∃ cs', cs' = cs ++ [(m : Int) % 128 + 128] := ⟨_, rfl⟩
      rw [← hcs'] at o6
      have HCS := Lib.hid hcs'
      have HO6 := Lib.hid o6
      have HB6 := Lib.hid (HBL.out.trans b6)
      have HEQ6 := Lib.hid (show encN n = cs' ++ encN (m / 128) by rw [HEQ.out, HCS.out, encN_big (by omega), show ((m % 128 + 128 : Nat) : Int) = (m : Int) % 128 + 128 by omega]; simp)
      obtain ⟨a6, c6, rfl⟩ := o6.slice
      clear o6 b6 hcs'
      go_wp2_with (at_builtin; refine wpList_append_run (by rfl) (.tmp 7) (.tmp 12) 56 (by rfl) _ (.slice (some ⟨wr.heap.size, 0, none⟩) 1 1) (.slice a6 cs'.length c6) w6 (by rfl) (by rfl) r6 ?_)
      go_roundw
      case rel => exact ⟨m / 128, cs', congrArg _ (by omega), by omega, HO6.out, HEQ6.out, HB6.out⟩
      case measure => simp only [intOf]; omega
    · have q1 : ¬ (127 : Int) < (m : Int) := by omega
      obtain ⟨v6, w6, r6, o6, b6⟩ := HO.out.append (m : Int) (by have := HCL.out; omega) HSZ.out
      have HO6 := Lib.hid o6
      have HB6 := Lib.hid (HBL.out.trans b6)
      have HEQ6 := Lib.hid (show encN n = cs ++ [(m : Int)] by rw [HEQ.out, encN_small (by omega)])
      clear o6 b6
      go_wp2_with (at_builtin; refine wpList_append_run (by rfl) (.tmp 16) (.tmp 19) 56 (by rfl) _ (.slice (some ⟨wr.heap.size, 0, none⟩) 1 1) v6 w6 (by rfl) (by rfl) r6 ?_)
      go_ret
      exact ⟨_, rfl, by rw [HEQ6.out]; exact HO6.out, HB6.out⟩

end Go.Proofs.Ytednejckcdiebaa
