/- A reader; number. -/
import Derived.Test.YtednejckcdiebaaN5
import Derived.Defers
import Derived.Laws.BitsAllLaws
namespace Go.Proofs.Ytednejckcdiebaa
open Go.RowKit Go.Lib Go.ChangeMaps
set_option linter.unusedSimpArgs false

/-- A reader in block R: the bytes D, read up to off; its error. -/
def RdAt (w : World) (R : Nat) (a : Option Addr) (c db doff : Nat) (D : List Int) (off : Nat) (err : Int) : Prop :=
  (∃ last, w.heap[R]? = some (.cells #[.slice a D.length c, .int .i64 off, .int .i64 last, .int .i64 err] 104)) ∧ off ≤ D.length ∧ db ≠ R ∧
    ∀ i, i < D.length → a = some ⟨db, doff, none⟩ ∧ w.cell? ⟨db, doff + i, none⟩ = some (.int .u8 (D.getD i 0))
theorem RdAt.below {w w' : World} {R : Nat} {a : Option Addr} {c db doff : Nat} {D : List Int} {off : Nat} {err : Int} (h : RdAt w R a c db doff D off err) (hb : Below w.heap.size w w') : RdAt w' R a c db doff D off err := by
  obtain ⟨⟨last, h1⟩, h2, h3, h4⟩ := h
  exact ⟨⟨last, bb hb h1⟩, h2, h3, fun i hi => ⟨(h4 i hi).1, bc hb (h4 i hi).2⟩⟩
theorem setCell_at' {w : World} {b i : Nat} {cs : Array Value} {t : TypeId} {fr : Nat × Nat} (h : w.heap[b]? = some (.cells cs t fr)) (v : Value) : (w.setCell ⟨b, i, none⟩ v).heap[b]? = some (.cells (cs.setIfInBounds i v) t fr) := by
  unfold World.setCell
  simp [Array.getElem?_modify, h]
theorem setCell_other' (w : World) {b i g : Nat} (v : Value) (h : g ≠ b) : (w.setCell ⟨b, i, none⟩ v).heap[g]? = w.heap[g]? := Below.heap_setCell w ⟨b, i, none⟩ v g h
theorem RdAt.seek {w : World} {R : Nat} {a : Option Addr} {c db doff : Nat} {D : List Int} {off : Nat} {err : Int} (h : RdAt w R a c db doff D off err) (o : Nat) (ho : o ≤ D.length) : RdAt (w.setCell ⟨R, 1, none⟩ (.int .i64 o)) R a c db doff D o err := by
  obtain ⟨⟨last, h1⟩, h2, h3, h4⟩ := h
  refine ⟨⟨last, setCell_at' h1 _⟩, ho, h3, fun i hi => ⟨(h4 i hi).1, ?_⟩⟩
  have := (h4 i hi).2
  unfold World.cell? at this ⊢
  rw [setCell_other' w _ h3]
  exact this
theorem drop_cons {D : List Int} {o : Nat} (h : o < D.length) : D.drop o = D.getD o 0 :: D.drop (o + 1) := drop_at h 0
/-- The groups join without touching. -/
theorem or_join {n x k : Nat} (h : n < 2 ^ k) : n ||| x * 2 ^ k = n + x * 2 ^ k := by
  have := Nat.shiftLeft_add_eq_or_of_lt h x
  rw [Nat.shiftLeft_eq] at this
  rw [Nat.or_comm, ← this, Nat.add_comm]

theorem and_all : ∀ x : Fin 256, bits BinOp.and IntKind.u8 ((x.val : Nat) : Int) 127 = ((x.val % 128 : Nat) : Int) := by decide +kernel
theorem group (acc i : Nat) (b : Int) (h0 : 0 ≤ b) (h1 : b ≤ 255) (hi : i ≤ 9) (hacc : acc < 128 ^ i) :
    ∃ z : Nat, bits BinOp.or IntKind.u64 (acc : Int) (IntKind.u64.wrap (IntKind.u64.wrap (bits BinOp.and IntKind.u8 b 127) * 2 ^ (7 * i))) = (z : Int) ∧ z < 18446744073709551616 ∧ (i ≤ 8 ∨ b.toNat % 128 ≤ 1 → z = acc + b.toNat % 128 * 128 ^ i) := by
  obtain ⟨x, hx⟩ : ∃ x, x = b.toNat % 128 := ⟨_, rfl⟩
  have hx2 : x < 128 := by omega
  have ha : bits BinOp.and IntKind.u8 b 127 = ((x : Nat) : Int) := by
    have : bits BinOp.and IntKind.u8 ((b.toNat : Nat) : Int) 127 = ((b.toNat % 128 : Nat) : Int) := and_all ⟨b.toNat, by omega⟩
    rw [show ((b.toNat : Nat) : Int) = b by omega] at this
    rw [this, hx]
  have hp : 128 ^ i = 2 ^ (7 * i) := by rw [Nat.pow_mul]
  have hle : 2 ^ (7 * i) ≤ 9223372036854775808 := by
    have := Nat.pow_le_pow_right (n := 2) (by omega) (show 7 * i ≤ 63 by omega)
    exact Nat.le_trans this (by decide)
  rw [← hx]
  rw [hp] at hacc ⊢
  generalize hP : 2 ^ (7 * i) = P at *
  have hpi : (2 : Int) ^ (7 * i) = (P : Int) := by rw [← hP]; simp
  have w1 : IntKind.u64.wrap ((x : Nat) : Int) = (x : Int) := by rw [IntKind.wrap_u64]; omega
  have w2 : IntKind.u64.wrap ((x : Int) * (P : Int)) = ((x * P % 18446744073709551616 : Nat) : Int) := by
    rw [IntKind.wrap_u64, ← Int.natCast_mul]
    rfl
  rw [ha, w1, hpi, w2]
  have hy : x * P % 18446744073709551616 < 18446744073709551616 := Nat.mod_lt _ (by omega)
  refine ⟨acc ||| (x * P % 18446744073709551616), u64_or_nat _ _ (by omega) hy, Nat.or_lt_two_pow (n := 64) (by omega) hy, fun h => ?_⟩
  have hlt : x * P < 18446744073709551616 := by
    rcases h with h | h
    · have h56 : P ≤ 72057594037927936 := by
        rw [← hP]
        exact Nat.le_trans (Nat.pow_le_pow_right (n := 2) (by omega) (show 7 * i ≤ 56 by omega)) (by decide)
      have := Nat.mul_le_mul (show x ≤ 127 by omega) h56
      omega
    · have := Nat.mul_le_mul h (Nat.le_refl P)
      omega
  rw [Nat.mod_eq_of_lt hlt, ← hP]
  exact or_join (by rw [hP]; exact hacc)

set_option maxRecDepth 100000 in
set_option maxHeartbeats 8000000 in
theorem number_any (R : Nat) (a : Option Addr) (c db doff : Nat) (D : List Int) (off : Nat) (err : Int) (w : World) (h : RdAt w R a c db doff D off err) (hD : Byt D) (hl : D.length ≤ 1000000) :
    Calls Try.prog 67 #[.pointer (some ⟨R, 0, none⟩)] w fun e w' => w.grownBy w' (some R) ∧
      ((∃ v r, numG 0 0 (D.drop off) = some (v, r) ∧ r.length ≤ D.length ∧ D.drop (D.length - r.length) = r ∧ e = .returned (.tuple #[.int .u64 (v : Nat), .int .i64 0]) ∧ RdAt w' R a c db doff D (D.length - r.length) err) ∨
        (numG 0 0 (D.drop off) = none ∧ e = .returned (.tuple #[.int .u64 0, .int .i64 3]) ∧ ∃ o, RdAt w' R a c db doff D o err)) := by
  have H := Lib.hid h
  have HD := Lib.hid hD
  clear h hD
  go_enter Try.func67, Try.ntmps67
  go_wp2
  go_loopw [2, 6] (fun v2 v6 wr => ∃ (i acc : Nat), i ≤ 10 ∧ v6 = .int .i64 i ∧ v2 = .int .u64 acc ∧ acc < 128 ^ i ∧ off + i ≤ D.length ∧ numG 0 0 (D.drop off) = numG i acc (D.drop (off + i)) ∧ RdAt wr R a c db doff D (off + i) err ∧ w.grownBy wr (some R)) (fun _ v6 _ => 10 - (intOf v6).toNat)
  case atStart => exact ⟨0, 0, by omega, rfl, rfl, by simp, H.out.2.1, rfl, H.out, gb_of (Below.refl _ _) _⟩
  case round =>
    obtain ⟨i, acc, hi, rfl, rfl, hacc, hol, hnum, hrd, hgb⟩ := hrel
    have HRD := Lib.hid hrd
    have HGB := Lib.hid hgb
    have HNUM := Lib.hid hnum
    have HACC := Lib.hid hacc
    clear hrd hgb hnum hacc
    by_cases hi10 : i < 10
    · obtain ⟨⟨last, hblk⟩, _, hdb, hcell⟩ := HRD.out
      obtain ⟨o, ho⟩ : ∃ o, o = off + i := ⟨_, rfl⟩
      have HOO := Lib.hid ho
      rw [← ho] at HRD HNUM hblk hol
      have c0 : wr.cell? ⟨R, 0, none⟩ = some (.slice a D.length c) := by rw [cell_of_block hblk]; rfl
      have c1 : wr.cell? ⟨R, 1, none⟩ = some (.int .i64 o) := by rw [cell_of_block hblk]; rfl
      have hbd : Below wr.heap.size wr wr.drew := (Below.refl _ _).drew
      have HRDD := Lib.hid (HRD.out.below hbd)
      have HGBD := Lib.hid (HGB.out.trans (gb_of hbd (some R)))
      have HC := Lib.hid hcell
      clear ho hblk hdb hcell hbd
      by_cases hend : o < D.length
      · have q0 : ((o : Int) == (D.length : Int)) = false := by simp; omega
        have q0n : (o == D.length) = false := by simp; omega
        go_upto_region 4 with fail
        have HSB0 : ∀ w' : World, Below (wr).drew.heap.size (wr).drew w' → (w'.cell? ⟨R, 0, none⟩ = some (.slice a D.length c) ∧ w'.cell? ⟨R, 1, none⟩ = some (.int .i64 o)) := fun w' hb => ⟨bc hb c0, bc hb c1⟩
        refine wp_region_held_drew (S := fun w' => w'.cell? ⟨R, 0, none⟩ = some (.slice a D.length c) ∧ w'.cell? ⟨R, 1, none⟩ = some (.int .i64 o)) (by kernel_rfl) (HSB0 _ (Below.refl _ _)) (fun hHeld => ?_)
        have HSB := Lib.hid HSB0
        clear HSB0
        generalize (wr).drew = Wd at *
        clear c0 c1
        refine wpAnyH_take (i := 0) (v := ?_) rfl (by kernel_rfl) (by kernel_rfl) (by kernel_rfl) (fun _ _ _ h => h) (Or.inl ⟨by rfl, ?_⟩) (by assumption) ?_
        rotate_left; · (intro w hSw; (try dsimp only at hSw); go_simp; try with_reducible rfl)
        try simp only [Act.put, List.getElem_toArray, List.getElem_cons_zero, List.getElem_cons_succ, List.setIfInBounds_toArray, List.set_cons_zero, List.set_cons_succ]
        refine wpAnyH_take (i := 1) (v := ?_) rfl (by kernel_rfl) (by kernel_rfl) (by kernel_rfl) (fun _ _ _ h => h) (Or.inl ⟨by rfl, ?_⟩) (by assumption) ?_
        rotate_left; · (intro w hSw; (try dsimp only at hSw); go_simp; try with_reducible rfl)
        try simp only [Act.put, List.getElem_toArray, List.getElem_cons_zero, List.getElem_cons_succ, List.setIfInBounds_toArray, List.set_cons_zero, List.set_cons_succ]
        refine wpAnyH_take (i := 2) (v := ?_) rfl (by kernel_rfl) (by kernel_rfl) (by kernel_rfl) (fun _ _ _ h => h) (Or.inl ⟨by rfl, ?_⟩) (by assumption) ?_
        rotate_left; · (intro w hSw; (try dsimp only at hSw); go_simp; try with_reducible rfl)
        try simp only [Act.put, List.getElem_toArray, List.getElem_cons_zero, List.getElem_cons_succ, List.setIfInBounds_toArray, List.set_cons_zero, List.set_cons_succ]
        refine wpAnyH_take (i := 3) (v := ?_) rfl (by kernel_rfl) (by kernel_rfl) (by kernel_rfl) (fun _ _ _ h => h) (Or.inl ⟨by rfl, ?_⟩) (by assumption) ?_
        rotate_left; · (intro w hSw; (try dsimp only at hSw); go_simp; try with_reducible rfl)
        try simp only [Act.put, List.getElem_toArray, List.getElem_cons_zero, List.getElem_cons_succ, List.setIfInBounds_toArray, List.set_cons_zero, List.set_cons_succ]
        refine wpAnyH_take (i := 4) (v := ?_) rfl (by kernel_rfl) (by kernel_rfl) (by kernel_rfl) (fun _ _ _ h => h) (Or.inl ⟨by rfl, ?_⟩) (by assumption) ?_
        rotate_left; · (intro w hSw; (try dsimp only at hSw); go_simp; try with_reducible rfl)
        try simp only [Act.put, List.getElem_toArray, List.getElem_cons_zero, List.getElem_cons_succ, List.setIfInBounds_toArray, List.set_cons_zero, List.set_cons_succ]
        refine wpAnyH_take (i := 5) (v := ?_) rfl (by kernel_rfl) (by kernel_rfl) (by kernel_rfl) (fun _ _ _ h => h) (Or.inl ⟨by rfl, ?_⟩) (by assumption) ?_
        rotate_left; · (intro w hSw; (try dsimp only at hSw); go_simp; try with_reducible rfl)
        try simp only [Act.put, List.getElem_toArray, List.getElem_cons_zero, List.getElem_cons_succ, List.setIfInBounds_toArray, List.set_cons_zero, List.set_cons_succ]
        refine wpAnyH_take (i := 6) (v := ?_) rfl (by kernel_rfl) (by kernel_rfl) (by kernel_rfl) (fun _ _ _ h => h) (Or.inl ⟨by rfl, ?_⟩) (by assumption) ?_
        rotate_left; · (intro w hSw; (try dsimp only at hSw); go_simp; try with_reducible rfl)
        try simp only [Act.put, List.getElem_toArray, List.getElem_cons_zero, List.getElem_cons_succ, List.setIfInBounds_toArray, List.set_cons_zero, List.set_cons_succ]
        refine wpAnyH_take (i := 7) (v := ?_) rfl (by kernel_rfl) (by kernel_rfl) (by kernel_rfl) (fun _ _ _ h => h) (Or.inl ⟨by rfl, ?_⟩) (by assumption) ?_
        rotate_left; · (intro w hSw; (try dsimp only at hSw); go_simp; try with_reducible rfl)
        try simp only [Act.put, List.getElem_toArray, List.getElem_cons_zero, List.getElem_cons_succ, List.setIfInBounds_toArray, List.set_cons_zero, List.set_cons_succ]
        refine wpAnyH_take (i := 8) (v := ?_) rfl (by kernel_rfl) (by kernel_rfl) (by kernel_rfl) (fun _ _ _ h => h) (Or.inl ⟨by rfl, ?_⟩) (by assumption) ?_
        rotate_left; · (intro w hSw; (try dsimp only at hSw); go_simp; try with_reducible rfl)
        try simp only [Act.put, List.getElem_toArray, List.getElem_cons_zero, List.getElem_cons_succ, List.setIfInBounds_toArray, List.set_cons_zero, List.set_cons_succ]
        refine wpAnyH_take (i := 9) (v := ?_) rfl (by kernel_rfl) (by kernel_rfl) (by kernel_rfl) (fun _ _ _ h => h) (Or.inl ⟨by rfl, ?_⟩) (by assumption) ?_
        rotate_left; · (intro w hSw; (try dsimp only at hSw); go_simp; try with_reducible rfl)
        try simp only [Act.put, List.getElem_toArray, List.getElem_cons_zero, List.getElem_cons_succ, List.setIfInBounds_toArray, List.set_cons_zero, List.set_cons_succ]
        refine wpAnyH_done (by kernel_rfl) ?_ _
        clear hHeld HSB
        clear q0 q0n
        obtain ⟨⟨last, hblk⟩, _, hdb, hcell⟩ := HRDD.out
        have c0 : Wd.cell? ⟨R, 0, none⟩ = some (.slice a D.length c) := by rw [cell_of_block hblk]; rfl
        have c1 : Wd.cell? ⟨R, 1, none⟩ = some (.int .i64 o) := by rw [cell_of_block hblk]; rfl
        obtain ⟨rfl, cb⟩ := hcell o hend
        have HB := Lib.hid (HD.out (D.getD o 0) (by rw [List.getD, List.getElem?_eq_getElem hend]; exact List.getElem_mem hend))
        have HDC := Lib.hid (drop_cons hend)
        obtain ⟨b, hb⟩ : ∃ b, b = D.getD o 0 := ⟨_, rfl⟩
        rw [← hb] at cb HB HDC
        rw [HDC.out] at HNUM
        have hbd : Below Wd.heap.size Wd Wd.drew := (Below.refl _ _).drew
        have HRE := Lib.hid (HRDD.out.below hbd)
        have HGE := Lib.hid (HGBD.out.trans (gb_of hbd (some R)))
        have hoi : (o : Int) < (D.length : Int) := by omega
        clear hblk hdb hcell hb hbd
        go_upto_region 6 with fail
        have HSB0 : ∀ w' : World, Below (Wd).drew.heap.size (Wd).drew w' → (w'.cell? ⟨R, 0, none⟩ = some (.slice (some ⟨db, doff, none⟩) D.length c) ∧ w'.cell? ⟨R, 1, none⟩ = some (.int .i64 o) ∧ w'.cell? ⟨db, doff + o, none⟩ = some (.int .u8 b)) := fun w' hb => ⟨bc hb c0, bc hb c1, bc hb cb⟩
        refine wp_region_held_drew (S := fun w' => w'.cell? ⟨R, 0, none⟩ = some (.slice (some ⟨db, doff, none⟩) D.length c) ∧ w'.cell? ⟨R, 1, none⟩ = some (.int .i64 o) ∧ w'.cell? ⟨db, doff + o, none⟩ = some (.int .u8 b)) (by kernel_rfl) (HSB0 _ (Below.refl _ _)) (fun hHeld => ?_)
        have HSB := Lib.hid HSB0
        clear HSB0
        generalize (Wd).drew = We at *
        clear c0 c1 cb
        refine wpAnyH_take (i := 0) (v := ?_) rfl (by kernel_rfl) (by kernel_rfl) (by kernel_rfl) (fun _ _ _ h => h) (Or.inl ⟨by rfl, ?_⟩) (by assumption) ?_
        rotate_left; · (intro w hSw; (try dsimp only at hSw); go_simp; try with_reducible rfl)
        try simp only [Act.put, List.getElem_toArray, List.getElem_cons_zero, List.getElem_cons_succ, List.setIfInBounds_toArray, List.set_cons_zero, List.set_cons_succ]
        refine wpAnyH_take (i := 1) (v := ?_) rfl (by kernel_rfl) (by kernel_rfl) (by kernel_rfl) (fun _ _ _ h => h) (Or.inl ⟨by rfl, ?_⟩) (by assumption) ?_
        rotate_left; · (intro w hSw; (try dsimp only at hSw); go_simp; try with_reducible rfl)
        try simp only [Act.put, List.getElem_toArray, List.getElem_cons_zero, List.getElem_cons_succ, List.setIfInBounds_toArray, List.set_cons_zero, List.set_cons_succ]
        refine wpAnyH_take (i := 2) (v := ?_) rfl (by kernel_rfl) (by kernel_rfl) (by kernel_rfl) (fun _ _ _ h => h) (Or.inl ⟨by rfl, ?_⟩) (by assumption) ?_
        rotate_left; · (intro w hSw; (try dsimp only at hSw); go_simp; try with_reducible rfl)
        try simp only [Act.put, List.getElem_toArray, List.getElem_cons_zero, List.getElem_cons_succ, List.setIfInBounds_toArray, List.set_cons_zero, List.set_cons_succ]
        refine wpAnyH_take (i := 3) (v := ?_) rfl (by kernel_rfl) (by kernel_rfl) (by kernel_rfl) (fun _ _ _ h => h) (Or.inl ⟨by rfl, ?_⟩) (by assumption) ?_
        rotate_left; · (intro w hSw; (try dsimp only at hSw); go_simp; try with_reducible rfl)
        try simp only [Act.put, List.getElem_toArray, List.getElem_cons_zero, List.getElem_cons_succ, List.setIfInBounds_toArray, List.set_cons_zero, List.set_cons_succ]
        refine wpAnyH_take (i := 4) (v := ?_) rfl (by kernel_rfl) (by kernel_rfl) (by kernel_rfl) (fun _ _ _ h => h) (Or.inl ⟨by rfl, ?_⟩) (by assumption) ?_
        rotate_left; · (intro w hSw; (try dsimp only at hSw); go_simp; try with_reducible rfl)
        try simp only [Act.put, List.getElem_toArray, List.getElem_cons_zero, List.getElem_cons_succ, List.setIfInBounds_toArray, List.set_cons_zero, List.set_cons_succ]
        refine wpAnyH_take (i := 5) (v := ?_) rfl (by kernel_rfl) (by kernel_rfl) (by kernel_rfl) (fun _ _ _ h => h) (Or.inl ⟨by rfl, ?_⟩) (by assumption) ?_
        rotate_left; · (intro w hSw; (try dsimp only at hSw); go_simp; try with_reducible rfl)
        try simp only [Act.put, List.getElem_toArray, List.getElem_cons_zero, List.getElem_cons_succ, List.setIfInBounds_toArray, List.set_cons_zero, List.set_cons_succ]
        refine wpAnyH_take (i := 6) (v := ?_) rfl (by kernel_rfl) (by kernel_rfl) (by kernel_rfl) (fun _ _ _ h => h) (Or.inl ⟨by rfl, ?_⟩) (by assumption) ?_
        rotate_left; · (intro w hSw; (try dsimp only at hSw); go_simp; try with_reducible rfl)
        try simp only [Act.put, List.getElem_toArray, List.getElem_cons_zero, List.getElem_cons_succ, List.setIfInBounds_toArray, List.set_cons_zero, List.set_cons_succ]
        refine wpAnyH_take (i := 7) (v := ?_) rfl (by kernel_rfl) (by kernel_rfl) (by kernel_rfl) (fun _ _ _ h => h) (Or.inl ⟨by rfl, ?_⟩) (by assumption) ?_
        rotate_left; · (intro w hSw; (try dsimp only at hSw); go_simp; try with_reducible rfl)
        try simp only [Act.put, List.getElem_toArray, List.getElem_cons_zero, List.getElem_cons_succ, List.setIfInBounds_toArray, List.set_cons_zero, List.set_cons_succ]
        refine wpAnyH_take (i := 8) (v := ?_) rfl (by kernel_rfl) (by kernel_rfl) (by kernel_rfl) (fun _ _ _ h => h) (Or.inl ⟨by rfl, ?_⟩) (by assumption) ?_
        rotate_left; · (intro w hSw; (try dsimp only at hSw); go_simp; try with_reducible rfl)
        try simp only [Act.put, List.getElem_toArray, List.getElem_cons_zero, List.getElem_cons_succ, List.setIfInBounds_toArray, List.set_cons_zero, List.set_cons_succ]
        refine wpAnyH_take (i := 9) (v := ?_) rfl (by kernel_rfl) (by kernel_rfl) (by kernel_rfl) (fun _ _ _ h => h) (Or.inl ⟨by rfl, ?_⟩) (by assumption) ?_
        rotate_left; · (intro w hSw; (try dsimp only at hSw); go_simp; try with_reducible rfl)
        try simp only [Act.put, List.getElem_toArray, List.getElem_cons_zero, List.getElem_cons_succ, List.setIfInBounds_toArray, List.set_cons_zero, List.set_cons_succ]
        refine wpAnyH_take (i := 10) (v := ?_) rfl (by kernel_rfl) (by kernel_rfl) (by kernel_rfl) (fun _ _ _ h => h) (Or.inl ⟨by rfl, ?_⟩) (by assumption) ?_
        rotate_left; · (intro w hSw; (try dsimp only at hSw); go_simp; try with_reducible rfl)
        try simp only [Act.put, List.getElem_toArray, List.getElem_cons_zero, List.getElem_cons_succ, List.setIfInBounds_toArray, List.set_cons_zero, List.set_cons_succ]
        refine wpAnyH_done (by kernel_rfl) ?_ _
        clear hHeld HSB
        obtain ⟨⟨last, hblk⟩, _⟩ := HRE.out
        have c1 : We.cell? ⟨R, 1, none⟩ = some (.int .i64 o) := by rw [cell_of_block hblk]; rfl
        have f1 : We.frozen? ⟨R, 1, none⟩ = false := free_of_block hblk 1
        have HRF := Lib.hid (HRE.out.seek (o + 1) (by omega))
        have HGF := Lib.hid (show w.grownBy (We.setCell ⟨R, 1, none⟩ (.int .i64 ((o + 1 : Nat) : Int))) (some R) from
          ⟨HGE.out.os, HGE.out.tape, HGE.out.output, by rw [World.size_setCell]; exact HGE.out.size, fun k hk hne => (setCell_other' _ _ (fun e => hne (by rw [e]))).trans (HGE.out.block k hk hne)⟩)
        obtain ⟨Wf, hWf⟩ : ∃ Wf, Wf = We.setCell ⟨R, 1, none⟩ (.int .i64 ((o + 1 : Nat) : Int)) := ⟨_, rfl⟩
        rw [← hWf] at HRF HGF
        have HWF := Lib.hid (show We.setCell ⟨R, 1, none⟩ (.int .i64 ((o : Int) + 1)) = Wf by rw [hWf]; rfl)
        clear hblk hWf
        go_upto_region 8 with fail
        rw [HWF.out]
        clear c1 f1
        go_upto_region 9 with fail
        obtain ⟨b1, b2⟩ := HB.out
        obtain ⟨z, hz, hz1, hz2⟩ := group acc i b b1 b2 (by omega) HACC.out
        rw [hz]
        have HZ1 := Lib.hid hz1
        have HZ2 := Lib.hid hz2
        clear hz hz1 hz2
        by_cases hbig : 128 ≤ b
        · have HN2 := Lib.hid (show numG i acc (b :: D.drop (o + 1)) = numG (i + 1) z (D.drop (o + 1)) by
            simp only [numG]
            rw [if_neg (by omega), if_pos hbig]
            rcases Nat.lt_or_ge i 9 with h9 | h9
            · rw [HZ2.out (.inl (by omega)), show (b - 128).toNat = b.toNat % 128 by omega]
            · rw [show i + 1 = 10 by omega, numG_ten, numG_ten])
          have HZ3 := Lib.hid (show z < 128 ^ (i + 1) by
            rcases Nat.lt_or_ge i 9 with h9 | h9
            · rw [HZ2.out (.inl (by omega)), Nat.pow_succ]
              have h1 := HACC.out
              have h2 := Nat.mul_le_mul (show b.toNat % 128 ≤ 127 by omega) (Nat.le_refl (128 ^ i))
              omega
            · have : i = 9 := by omega
              subst this
              exact Nat.lt_of_lt_of_le HZ1.out (by decide))
          clear hoi
          go_wp2
          go_roundw
          case rel => exact ⟨i + 1, z, by omega, by go_num, rfl, HZ3.out, by have := HOO.out; omega, by rw [HNUM.out, HN2.out, HOO.out]; rfl, by have := HRF.out; rw [HOO.out] at this; exact this, HGF.out⟩
          case measure => simp [intOf]; omega
        · have hbig' : ¬ 128 ≤ b := hbig
          by_cases hi0 : i = 0
          · subst hi0
            have HGOOD := Lib.hid (show ¬ ((0 < 0 ∧ b = 0) ∨ (0 = 9 ∧ 1 < b)) by omega)
            have HZV := Lib.hid (show z = acc + b.toNat * 128 ^ 0 by rw [HZ2.out (.inl (by omega)), show b.toNat % 128 = b.toNat by omega])
            go_wp2
            go_ret2
            exact ⟨HGF.out, .inl ⟨_, _, by rw [HNUM.out]; simp only [numG]; rw [if_neg (by omega), if_neg (by omega), if_neg HGOOD.out], by rw [List.length_drop]; omega, by rw [List.length_drop]; congr 1; omega, by rw [HZV.out]; rfl, by rw [List.length_drop, show D.length - (D.length - (o + 1)) = o + 1 by omega]; exact HRF.out⟩⟩
          · have hi1 : (0 : Int) < (i : Int) := by omega
            by_cases hb0 : b = 0
            · have HBAD := Lib.hid (show (0 < i ∧ b = 0) ∨ (i = 9 ∧ 1 < b) from .inl ⟨by omega, hb0⟩)
              have p1 : (b == 0) = true := by simp [hb0]
              clear hb0
              go_wp2
              go_ret2
              exact ⟨HGF.out, .inr ⟨by rw [HNUM.out]; simp only [numG]; rw [if_neg (by omega), if_neg (by omega), if_pos HBAD.out], rfl, _, HRF.out⟩⟩
            · have p1 : (b == 0) = false := by simp [hb0]
              by_cases hi9 : i = 9
              · have p2 : ((i : Int) == 9) = true := by simp; omega
                by_cases hb1 : 1 < b
                · have HBAD := Lib.hid (show (0 < i ∧ b = 0) ∨ (i = 9 ∧ 1 < b) from .inr ⟨hi9, hb1⟩)
                  clear hi9
                  go_wp2
                  go_ret2
                  exact ⟨HGF.out, .inr ⟨by rw [HNUM.out]; simp only [numG]; rw [if_neg (by omega), if_neg (by omega), if_pos HBAD.out], rfl, _, HRF.out⟩⟩
                · have HGOOD := Lib.hid (show ¬ ((0 < i ∧ b = 0) ∨ (i = 9 ∧ 1 < b)) by omega)
                  have HZV := Lib.hid (show z = acc + b.toNat * 128 ^ i by rw [HZ2.out (.inr (by omega)), show b.toNat % 128 = b.toNat by omega])
                  clear hi9
                  go_wp2
                  go_ret2
                  exact ⟨HGF.out, .inl ⟨_, _, by rw [HNUM.out]; simp only [numG]; rw [if_neg (by omega), if_neg (by omega), if_neg HGOOD.out], by rw [List.length_drop]; omega, by rw [List.length_drop]; congr 1; omega, by rw [HZV.out]; rfl, by rw [List.length_drop, show D.length - (D.length - (o + 1)) = o + 1 by omega]; exact HRF.out⟩⟩
              · have p2 : ((i : Int) == 9) = false := by simp; omega
                have HGOOD := Lib.hid (show ¬ ((0 < i ∧ b = 0) ∨ (i = 9 ∧ 1 < b)) by omega)
                have HZV := Lib.hid (show z = acc + b.toNat * 128 ^ i by rw [HZ2.out (.inl (by omega)), show b.toNat % 128 = b.toNat by omega])
                go_wp2
                go_ret2
                exact ⟨HGF.out, .inl ⟨_, _, by rw [HNUM.out]; simp only [numG]; rw [if_neg (by omega), if_neg (by omega), if_neg HGOOD.out], by rw [List.length_drop]; omega, by rw [List.length_drop]; congr 1; omega, by rw [HZV.out]; rfl, by rw [List.length_drop, show D.length - (D.length - (o + 1)) = o + 1 by omega]; exact HRF.out⟩⟩
      · have hoe : o = D.length := by omega
        have HEND := Lib.hid (show numG i acc (D.drop o) = none by rw [List.drop_eq_nil_of_le (by omega)]; rfl)
        have q0 : ((o : Int) == (D.length : Int)) = true := by simp; omega
        have q0n : (o == D.length) = true := by simp; omega
        clear hoe hend hol
        go_upto_region 4 with fail
        have HSB0 : ∀ w' : World, Below (wr).drew.heap.size (wr).drew w' → (w'.cell? ⟨R, 0, none⟩ = some (.slice a D.length c) ∧ w'.cell? ⟨R, 1, none⟩ = some (.int .i64 o)) := fun w' hb => ⟨bc hb c0, bc hb c1⟩
        refine wp_region_held_drew (S := fun w' => w'.cell? ⟨R, 0, none⟩ = some (.slice a D.length c) ∧ w'.cell? ⟨R, 1, none⟩ = some (.int .i64 o)) (by kernel_rfl) (HSB0 _ (Below.refl _ _)) (fun hHeld => ?_)
        have HSB := Lib.hid HSB0
        clear HSB0
        generalize (wr).drew = Wd at *
        clear c0 c1
        refine wpAnyH_take (i := 0) (v := ?_) rfl (by kernel_rfl) (by kernel_rfl) (by kernel_rfl) (fun _ _ _ h => h) (Or.inl ⟨by rfl, ?_⟩) (by assumption) ?_
        rotate_left; · (intro w hSw; (try dsimp only at hSw); go_simp; try with_reducible rfl)
        try simp only [Act.put, List.getElem_toArray, List.getElem_cons_zero, List.getElem_cons_succ, List.setIfInBounds_toArray, List.set_cons_zero, List.set_cons_succ]
        refine wpAnyH_take (i := 1) (v := ?_) rfl (by kernel_rfl) (by kernel_rfl) (by kernel_rfl) (fun _ _ _ h => h) (Or.inl ⟨by rfl, ?_⟩) (by assumption) ?_
        rotate_left; · (intro w hSw; (try dsimp only at hSw); go_simp; try with_reducible rfl)
        try simp only [Act.put, List.getElem_toArray, List.getElem_cons_zero, List.getElem_cons_succ, List.setIfInBounds_toArray, List.set_cons_zero, List.set_cons_succ]
        refine wpAnyH_take (i := 2) (v := ?_) rfl (by kernel_rfl) (by kernel_rfl) (by kernel_rfl) (fun _ _ _ h => h) (Or.inl ⟨by rfl, ?_⟩) (by assumption) ?_
        rotate_left; · (intro w hSw; (try dsimp only at hSw); go_simp; try with_reducible rfl)
        try simp only [Act.put, List.getElem_toArray, List.getElem_cons_zero, List.getElem_cons_succ, List.setIfInBounds_toArray, List.set_cons_zero, List.set_cons_succ]
        refine wpAnyH_take (i := 3) (v := ?_) rfl (by kernel_rfl) (by kernel_rfl) (by kernel_rfl) (fun _ _ _ h => h) (Or.inl ⟨by rfl, ?_⟩) (by assumption) ?_
        rotate_left; · (intro w hSw; (try dsimp only at hSw); go_simp; try with_reducible rfl)
        try simp only [Act.put, List.getElem_toArray, List.getElem_cons_zero, List.getElem_cons_succ, List.setIfInBounds_toArray, List.set_cons_zero, List.set_cons_succ]
        refine wpAnyH_take (i := 4) (v := ?_) rfl (by kernel_rfl) (by kernel_rfl) (by kernel_rfl) (fun _ _ _ h => h) (Or.inl ⟨by rfl, ?_⟩) (by assumption) ?_
        rotate_left; · (intro w hSw; (try dsimp only at hSw); go_simp; try with_reducible rfl)
        try simp only [Act.put, List.getElem_toArray, List.getElem_cons_zero, List.getElem_cons_succ, List.setIfInBounds_toArray, List.set_cons_zero, List.set_cons_succ]
        refine wpAnyH_take (i := 5) (v := ?_) rfl (by kernel_rfl) (by kernel_rfl) (by kernel_rfl) (fun _ _ _ h => h) (Or.inl ⟨by rfl, ?_⟩) (by assumption) ?_
        rotate_left; · (intro w hSw; (try dsimp only at hSw); go_simp; try with_reducible rfl)
        try simp only [Act.put, List.getElem_toArray, List.getElem_cons_zero, List.getElem_cons_succ, List.setIfInBounds_toArray, List.set_cons_zero, List.set_cons_succ]
        refine wpAnyH_take (i := 6) (v := ?_) rfl (by kernel_rfl) (by kernel_rfl) (by kernel_rfl) (fun _ _ _ h => h) (Or.inl ⟨by rfl, ?_⟩) (by assumption) ?_
        rotate_left; · (intro w hSw; (try dsimp only at hSw); go_simp; try with_reducible rfl)
        try simp only [Act.put, List.getElem_toArray, List.getElem_cons_zero, List.getElem_cons_succ, List.setIfInBounds_toArray, List.set_cons_zero, List.set_cons_succ]
        refine wpAnyH_take (i := 7) (v := ?_) rfl (by kernel_rfl) (by kernel_rfl) (by kernel_rfl) (fun _ _ _ h => h) (Or.inl ⟨by rfl, ?_⟩) (by assumption) ?_
        rotate_left; · (intro w hSw; (try dsimp only at hSw); go_simp; try with_reducible rfl)
        try simp only [Act.put, List.getElem_toArray, List.getElem_cons_zero, List.getElem_cons_succ, List.setIfInBounds_toArray, List.set_cons_zero, List.set_cons_succ]
        refine wpAnyH_take (i := 8) (v := ?_) rfl (by kernel_rfl) (by kernel_rfl) (by kernel_rfl) (fun _ _ _ h => h) (Or.inl ⟨by rfl, ?_⟩) (by assumption) ?_
        rotate_left; · (intro w hSw; (try dsimp only at hSw); go_simp; try with_reducible rfl)
        try simp only [Act.put, List.getElem_toArray, List.getElem_cons_zero, List.getElem_cons_succ, List.setIfInBounds_toArray, List.set_cons_zero, List.set_cons_succ]
        refine wpAnyH_take (i := 9) (v := ?_) rfl (by kernel_rfl) (by kernel_rfl) (by kernel_rfl) (fun _ _ _ h => h) (Or.inl ⟨by rfl, ?_⟩) (by assumption) ?_
        rotate_left; · (intro w hSw; (try dsimp only at hSw); go_simp; try with_reducible rfl)
        try simp only [Act.put, List.getElem_toArray, List.getElem_cons_zero, List.getElem_cons_succ, List.setIfInBounds_toArray, List.set_cons_zero, List.set_cons_succ]
        refine wpAnyH_done (by kernel_rfl) ?_ _
        clear hHeld HSB q0 q0n
        go_wp2
        go_ret2
        exact ⟨HGBD.out, .inr ⟨by rw [HNUM.out, HEND.out], rfl, _, HRDD.out⟩⟩
    · have hie : i = 10 := by omega
      subst hie
      go_wp2
      go_ret2
      exact ⟨HGB.out, .inr ⟨by rw [HNUM.out, numG_ten], rfl, _, HRD.out⟩⟩

end Go.Proofs.Ytednejckcdiebaa
