/- Bits counted, plain. -/
import Derived.Lib.Tables
import Derived.Test.YtapjgjjmlbhanaaA1
import Derived.Laws.BitsLemmas
import Derived.Laws.Bits64b
namespace Go.Proofs.Ytapjgjjmlbhanaa

/-- How many of the first n bits are set. -/
def pop (n x : Nat) : Nat := (List.range n).countP fun k => x.testBit k

theorem pop_add (m n x : Nat) : pop (m + n) x = pop m x + pop n (x / 2 ^ m) := by
  unfold pop
  rw [List.range_add, List.countP_append, List.countP_map]
  congr 1
  refine List.countP_congr fun k _ => ?_
  simp [Nat.testBit_div_two_pow, Nat.add_comm]

theorem pop_mod (n x : Nat) : pop n (x % 2 ^ n) = pop n x := by
  unfold pop
  refine List.countP_congr fun k hk => ?_
  rw [Nat.testBit_mod_two_pow]
  simp [List.mem_range.1 hk]

theorem pop_le (n x : Nat) : pop n x ≤ n := by
  have := List.countP_le_length (p := fun k => x.testBit k) (l := List.range n)
  simpa [pop] using this

theorem pop8_pop : ∀ n : Fin 256, Lib.pop8 (n.val : Int) = (pop 8 n.val : Int) := by decide +kernel

theorem pop16 (x : Nat) : pop 16 x = pop 8 (x % 256) + pop 8 (x / 256 % 256) := by
  have h := pop_add 8 8 x
  have h1 := pop_mod 8 x
  have h2 := pop_mod 8 (x / 256)
  simp only [Nat.reducePow, Nat.reduceAdd] at h h1 h2
  rw [h, h1, h2]

/-- The same byte n times. -/
def rep (c : Nat) : Nat → Nat
  | 0 => 0
  | n + 1 => c + 256 * rep c n
/-- A function of each byte. -/
def mapB (g : Nat → Nat) : Nat → Nat → Nat
  | 0, _ => 0
  | n + 1, x => g (x % 256) + 256 * mapB g n (x / 256)

theorem and_byte (x c M : Nat) (hc : c < 256) : x &&& (c + 256 * M) = (x % 256 &&& c) + 256 * (x / 256 &&& M) := by
  have h1 : (x &&& (c + 256 * M)) % 2 ^ 8 = x % 256 &&& c := by
    rw [Nat.and_mod_two_pow]
    congr 1
    simp only [Nat.reducePow]
    omega
  have h2 : (x &&& (c + 256 * M)) / 2 ^ 8 = x / 256 &&& M := by
    rw [Nat.and_div_two_pow]
    congr 1
    simp only [Nat.reducePow]
    omega
  simp only [Nat.reducePow] at h1 h2
  omega

theorem half_byte : ∀ b : Fin 256, ∀ t : Fin 2, ((b.val / 2 + 128 * t.val) &&& 85) = (b.val / 2 &&& 85) := by decide +kernel
theorem quar_byte : ∀ b : Fin 256, ∀ t : Fin 4, ((b.val / 4 + 64 * t.val) &&& 51) = (b.val / 4 &&& 51) := by decide +kernel

theorem and_rep (c : Nat) (hc : c < 256) : ∀ n x, x &&& rep c n = mapB (fun b => b &&& c) n x
  | 0, x => by simp [rep, mapB]
  | n + 1, x => by rw [rep, mapB, and_byte _ _ _ hc, and_rep c hc n]

theorem half_rep : ∀ n x, (x / 2) &&& rep 85 n = mapB (fun b => b / 2 &&& 85) n x
  | 0, x => by simp [rep, mapB]
  | n + 1, x => by
    rw [rep, mapB, and_byte _ _ _ (by omega)]
    have h1 : x / 2 / 256 = x / 256 / 2 := by omega
    have h2 : x / 2 % 256 = x % 256 / 2 + 128 * (x / 256 % 2) := by omega
    rw [h1, h2, half_rep n, half_byte ⟨x % 256, by omega⟩ ⟨x / 256 % 2, by omega⟩]

theorem quar_rep : ∀ n x, (x / 4) &&& rep 51 n = mapB (fun b => b / 4 &&& 51) n x
  | 0, x => by simp [rep, mapB]
  | n + 1, x => by
    rw [rep, mapB, and_byte _ _ _ (by omega)]
    have h1 : x / 4 / 256 = x / 256 / 4 := by omega
    have h2 : x / 4 % 256 = x % 256 / 4 + 64 * (x / 256 % 4) := by omega
    rw [h1, h2, quar_rep n, quar_byte ⟨x % 256, by omega⟩ ⟨x / 256 % 4, by omega⟩]

theorem mapB_add (g h : Nat → Nat) : ∀ n x, mapB g n x + mapB h n x = mapB (fun b => g b + h b) n x
  | 0, x => rfl
  | n + 1, x => by rw [mapB, mapB, mapB, ← mapB_add g h n]; omega

theorem mapB_byte (g : Nat → Nat) (hg : ∀ b, b < 256 → g b < 256) (n x : Nat) : mapB g (n + 1) x % 256 = g (x % 256) ∧ mapB g (n + 1) x / 256 = mapB g n (x / 256) := by
  have := hg (x % 256) (by omega)
  rw [mapB]
  omega

theorem mapB_comp (g h : Nat → Nat) (hg : ∀ b, b < 256 → g b < 256) : ∀ n x, mapB h n (mapB g n x) = mapB (fun b => h (g b)) n x
  | 0, x => rfl
  | n + 1, x => by
    obtain ⟨h1, h2⟩ := mapB_byte g hg n x
    rw [mapB, h1, h2, mapB_comp g h hg n, mapB]

/-- The first two steps, byte by byte. -/
def g1 (b : Nat) : Nat := (b / 2 &&& 85) + (b &&& 85)
def g2 (b : Nat) : Nat := (b / 4 &&& 51) + (b &&& 51)
theorem g12_byte : ∀ b : Fin 256, g1 b.val < 256 ∧ g2 (g1 b.val) % 16 ≤ 4 ∧ g2 (g1 b.val) / 16 ≤ 4 ∧ g2 (g1 b.val) % 16 + g2 (g1 b.val) / 16 = pop 8 b.val := by decide +kernel

theorem nib_rep (g : Nat → Nat) (hg : ∀ b, b < 256 → g b % 16 ≤ 4 ∧ g b / 16 ≤ 4) : ∀ n x, (mapB g n x / 16 + mapB g n x) &&& rep 15 n = mapB (fun b => g b % 16 + g b / 16) n x ∧ mapB g n x % 16 ≤ 4
  | 0, x => by simp [rep, mapB]
  | n + 1, x => by
    obtain ⟨i1, i2⟩ := nib_rep g hg n (x / 256)
    obtain ⟨k1, k2⟩ := hg (x % 256) (by omega)
    rw [rep, mapB, mapB]
    rw [and_byte _ _ _ (by omega)]
    generalize hb : g (x % 256) = b at k1 k2
    generalize mapB g n (x / 256) = H at i1 i2
    have e1 : ((b + 256 * H) / 16 + (b + 256 * H)) / 256 = H / 16 + H := by omega
    have e2 : ((b + 256 * H) / 16 + (b + 256 * H)) % 256 = 16 * (b / 16 + H % 16) + (b % 16 + b / 16) := by omega
    rw [e1, e2, i1]
    have e3 : 16 * (b / 16 + H % 16) + (b % 16 + b / 16) &&& 15 = b % 16 + b / 16 := by
      have := Nat.and_two_pow_sub_one_eq_mod (16 * (b / 16 + H % 16) + (b % 16 + b / 16)) 4
      simp only [Nat.reducePow, Nat.reduceSub] at this
      rw [this]
      omega
    rw [e3]
    exact ⟨rfl, by omega⟩

theorem reps : rep 85 8 = 6148914691236517205 ∧ rep 51 8 = 3689348814741910323 ∧ rep 15 8 = 1085102592571150095 := by decide +kernel

theorem g12_lt : ∀ b, b < 256 → g1 b < 256 := fun b h => (g12_byte ⟨b, h⟩).1

/-- The number behind the third step. -/
theorem swar3 (x : Nat) (y1 y2 : Nat) (h1 : y1 = (x / 2 &&& 6148914691236517205) + (x &&& 6148914691236517205)) (h2 : y2 = (y1 / 4 &&& 3689348814741910323) + (y1 &&& 3689348814741910323)) :
    (y2 / 16 + y2) &&& 1085102592571150095 = mapB (pop 8) 8 x ∧ y1 < 18446744073709551616 ∧ y2 ≤ 4919131752989213764 := by
  obtain ⟨r1, r2, r3⟩ := reps
  rw [← r1, half_rep, and_rep _ (by omega), mapB_add] at h1
  have e1 : y1 = mapB g1 8 x := h1
  rw [← r2, quar_rep, and_rep _ (by omega), mapB_add] at h2
  have e2 : y2 = mapB g2 8 y1 := h2
  rw [e1, mapB_comp g1 g2 g12_lt] at e2
  have hn := (nib_rep (fun b => g2 (g1 b)) (fun b hb => ⟨(g12_byte ⟨b, hb⟩).2.1, (g12_byte ⟨b, hb⟩).2.2.1⟩) 8 x).1
  rw [← e2, r3] at hn
  have hcongr : ∀ n z, mapB (fun b => g2 (g1 b) % 16 + g2 (g1 b) / 16) n z = mapB (pop 8) n z := by
    intro n
    induction n with
    | zero => intro z; rfl
    | succ n ih => intro z; rw [mapB, mapB, ih, (g12_byte ⟨z % 256, by omega⟩).2.2.2]
  have hlt : ∀ (g : Nat → Nat) (c : Nat), (∀ b, b < 256 → g b ≤ c) → ∀ n z, mapB g n z ≤ rep c n := by
    intro g c hc n
    induction n with
    | zero => intro z; exact Nat.le_refl _
    | succ n ih =>
      intro z
      have := ih (z / 256)
      have := hc (z % 256) (by omega)
      rw [mapB, rep]
      omega
  refine ⟨by rw [hn, hcongr], ?_, ?_⟩
  · rw [e1]
    have := hlt g1 255 (fun b hb => by have := g12_lt b hb; omega) 8 x
    have e : rep 255 8 = 18446744073709551615 := by decide +kernel
    omega
  · rw [e2]
    have := hlt (fun b => g2 (g1 b)) 68 (fun b hb => by have := (g12_byte ⟨b, hb⟩).2.1; have := (g12_byte ⟨b, hb⟩).2.2.1; show g2 (g1 b) ≤ 68; simp only at *; omega) 8 x
    have e : rep 68 8 = 4919131752989213764 := by decide +kernel
    omega

/-- The last three steps. -/
theorem swar6 (x y3 y4 y5 y6 : Nat) (h3 : y3 = mapB (pop 8) 8 x) (h4 : y4 = y3 + y3 / 256) (h5 : y5 = y4 + y4 / 65536) (h6 : y6 = y5 + y5 / 4294967296) :
    y6 % 128 = pop 64 x ∧ y3 ≤ 578721382704613384 ∧ y4 ≤ 600000000000000000 ∧ y5 ≤ 600010000000000000 ∧ y6 ≤ 600020000000000000 := by
  have hp : pop 64 x = pop 8 (x % 256) + (pop 8 (x / 256 % 256) + (pop 8 (x / 256 / 256 % 256) + (pop 8 (x / 256 / 256 / 256 % 256) + (pop 8 (x / 256 / 256 / 256 / 256 % 256) + (pop 8 (x / 256 / 256 / 256 / 256 / 256 % 256) + (pop 8 (x / 256 / 256 / 256 / 256 / 256 / 256 % 256) + pop 8 (x / 256 / 256 / 256 / 256 / 256 / 256 / 256 % 256))))))) := by
    have hm : ∀ z, pop 8 (z % 256) = pop 8 z := fun z => pop_mod 8 z
    have ha : ∀ n z, pop (8 + n) z = pop 8 z + pop n (z / 256) := fun n z => pop_add 8 n z
    simp only [hm]
    rw [show 64 = 8 + (8 + (8 + (8 + (8 + (8 + (8 + 8)))))) from rfl, ha, ha, ha, ha, ha, ha, ha]
  have l0 := pop_le 8 (x % 256)
  have l1 := pop_le 8 (x / 256 % 256)
  have l2 := pop_le 8 (x / 256 / 256 % 256)
  have l3 := pop_le 8 (x / 256 / 256 / 256 % 256)
  have l4 := pop_le 8 (x / 256 / 256 / 256 / 256 % 256)
  have l5 := pop_le 8 (x / 256 / 256 / 256 / 256 / 256 % 256)
  have l6 := pop_le 8 (x / 256 / 256 / 256 / 256 / 256 / 256 % 256)
  have l7 := pop_le 8 (x / 256 / 256 / 256 / 256 / 256 / 256 / 256 % 256)
  simp only [mapB] at h3
  rw [hp]
  generalize pop 8 (x % 256) = p0 at *
  generalize pop 8 (x / 256 % 256) = p1 at *
  generalize pop 8 (x / 256 / 256 % 256) = p2 at *
  generalize pop 8 (x / 256 / 256 / 256 % 256) = p3 at *
  generalize pop 8 (x / 256 / 256 / 256 / 256 % 256) = p4 at *
  generalize pop 8 (x / 256 / 256 / 256 / 256 / 256 % 256) = p5 at *
  generalize pop 8 (x / 256 / 256 / 256 / 256 / 256 / 256 % 256) = p6 at *
  generalize pop 8 (x / 256 / 256 / 256 / 256 / 256 / 256 / 256 % 256) = p7 at *
  have e4 : y3 / 256 = p1 + 256 * (p2 + 256 * (p3 + 256 * (p4 + 256 * (p5 + 256 * (p6 + 256 * p7))))) := by omega
  have f4 : y4 = (p0 + p1) + 256 * ((p1 + p2) + 256 * ((p2 + p3) + 256 * ((p3 + p4) + 256 * ((p4 + p5) + 256 * ((p5 + p6) + 256 * ((p6 + p7) + 256 * p7)))))) := by omega
  have f5 : y4 / 65536 = (p2 + p3) + 256 * ((p3 + p4) + 256 * ((p4 + p5) + 256 * ((p5 + p6) + 256 * ((p6 + p7) + 256 * p7)))) := by omega
  have g5 : y5 = (p0 + p1 + p2 + p3) + 256 * ((p1 + p2 + p3 + p4) + 256 * ((p2 + p3 + p4 + p5) + 256 * ((p3 + p4 + p5 + p6) + 256 * ((p4 + p5 + p6 + p7) + 256 * ((p5 + p6 + p7) + 256 * ((p6 + p7) + 256 * p7)))))) := by omega
  have f6 : y5 / 4294967296 = (p4 + p5 + p6 + p7) + 256 * ((p5 + p6 + p7) + 256 * ((p6 + p7) + 256 * p7)) := by omega
  refine ⟨?_, ?_, ?_, ?_, ?_⟩
  · rw [h6, f6, g5]; omega
  · omega
  · omega
  · omega
  · omega

end Go.Proofs.Ytapjgjjmlbhanaa

/- Small functions of the library and of the reference: Compare, Index, Contains, Ints, OnesCount16. -/
namespace Go.Proofs.Ytapjgjjmlbhanaa
open Go.RowKit Go.Lib

theorem isNaN_any (x : Int) (w : World) : Calls Try.prog 74 #[.int .i64 x] w fun e w' => e = .returned (.bool false) ∧ w = w' := by
  go_enter Try.func74, Try.ntmps74
  go_wp2
  go_returns
  exact ⟨by simp, rfl⟩

/-- cmp.Compare. -/
def cmpI (x y : Int) : Int := if x < y then -1 else if y < x then 1 else 0

theorem compare_any (x y : Int) (w : World) : Calls Try.prog 58 #[.int .i64 x, .int .i64 y] w fun e w' => e = .returned (.int .i64 (cmpI x y)) ∧ w = w' := by
  by_cases h1 : x < y
  · have e1 : cmpI x y = -1 := by unfold cmpI; rw [if_pos h1]
    rw [e1]
    clear e1
    go_enter Try.func58, Try.ntmps58
    go_wp2_with (go_at_call 74; refine (isNaN_any _ _).mono ?_; rintro e w' ⟨rfl, rfl⟩)
    go_ret
    exact ⟨rfl, rfl⟩
  · by_cases h2 : y < x
    · have e1 : cmpI x y = 1 := by unfold cmpI; rw [if_neg h1, if_pos h2]
      rw [e1]
      clear e1
      go_enter Try.func58, Try.ntmps58
      go_wp2_with (go_at_call 74; refine (isNaN_any _ _).mono ?_; rintro e w' ⟨rfl, rfl⟩)
      go_ret
      exact ⟨rfl, rfl⟩
    · have e1 : cmpI x y = 0 := by unfold cmpI; rw [if_neg h1, if_neg h2]
      rw [e1]
      clear e1
      go_enter Try.func58, Try.ntmps58
      go_wp2_with (go_at_call 74; refine (isNaN_any _ _).mono ?_; rintro e w' ⟨rfl, rfl⟩)
      go_ret
      exact ⟨rfl, rfl⟩

set_option maxHeartbeats 1000000 in
/-- slices.Index: at least 0 where the element is there. -/
theorem index_any (v : Value) (zs : List Int) (x : Int) (w : World) (hv : ReadsI w v zs) :
    Calls Try.prog 78 #[v, .int .i64 x] w fun e w' => (∃ i : Int, e = .returned (.int .i64 i) ∧ decide (0 ≤ i) = decide (x ∈ zs)) ∧ w = w' := by
  obtain ⟨ao, c, b, off, rfl, hl, hm, hcell⟩ := hv.at
  have HC := Lib.hid hcell
  clear hcell hv
  obtain ⟨r, hr⟩ : ∃ r, r = decide (x ∈ zs) := ⟨_, rfl⟩
  rw [← hr]
  have HR := Lib.hid hr
  clear hr
  obtain ⟨R, hRR⟩ : ∃ R : Ending → Prop, R = fun e => ∃ i : Int, e = .returned (.int .i64 i) ∧ decide (0 ≤ i) = r := ⟨_, rfl⟩
  have hRi : ∀ i : Int, decide (0 ≤ i) = r → R (.returned (.int .i64 i)) := fun i h => by rw [hRR]; exact ⟨i, rfl, h⟩
  suffices h : Calls Try.prog 78 #[Value.slice ao (zs.length) c, .int .i64 x] w fun e w' => R e ∧ w = w' by
    refine h.mono ?_
    rintro e w' ⟨h1, h2⟩
    rw [hRR] at h1
    exact ⟨h1, h2⟩
  have HRI := Lib.hid hRi
  clear hRi hRR
  go_enter Try.func78, Try.ntmps78
  go_wp2
  go_loop [5, 8] (fun _ v8 => ∃ j : Nat, j ≤ zs.length ∧ v8 = .int .i64 j ∧ x ∉ zs.take j) (fun _ v8 => zs.length - (intOf v8).toNat)
  case atStart => exact ⟨0, Nat.zero_le _, rfl, by simp⟩
  case round =>
    obtain ⟨j, hj, rfl, hnot⟩ := hrel
    have HN := Lib.hid hnot
    clear hnot
    by_cases hlt : j < zs.length
    · obtain ⟨e1, e2⟩ := HC.out j hlt
      subst e1
      have hg := getD_at zs j 0 hlt
      have hs := mem_take_succ zs x j hlt
      have HS := Lib.hid hs
      rw [hg] at e2
      have hmem : zs[j] ∈ zs := List.getElem_mem hlt
      have HM := Lib.hid hmem
      clear hs hg hmem
      generalize zs[j] = y at e2 HS HM
      by_cases hy : x = y
      · have k1 : (x == y) = true := by simp [hy]
        obtain rfl : r = true := by rw [HR.out]; exact decide_eq_true (by rw [hy]; exact HM.out)
        clear hy
        go_wp2
        go_ret
        exact ⟨HRI.out _ (by simp), rfl⟩
      · have k1 : (x == y) = false := by simp [hy]
        have HY := Lib.hid hy
        clear hy
        go_wp2
        go_round
        case rel => exact ⟨j + 1, by omega, by go_num, fun h => by (rcases HS.out.1 h with h | h; (exact HN.out h); (exact HY.out h))⟩
        case measure => simp [intOf]; omega
    · have hjl : j = zs.length := by omega
      subst hjl
      have hn := HN.out
      rw [List.take_length] at hn
      obtain rfl : r = false := by rw [HR.out]; exact decide_eq_false hn
      clear hn
      go_wp2
      go_ret
      exact ⟨HRI.out _ (by decide), rfl⟩

theorem slContains_any (v : Value) (zs : List Int) (x : Int) (w : World) (hv : ReadsI w v zs) :
    Calls Try.prog 69 #[v, .int .i64 x] w fun e w' => e = .returned (.bool (decide (x ∈ zs))) ∧ w = w' := by
  have CI := Lib.hid (index_any v zs x w hv)
  clear hv
  go_enter Try.func69, Try.ntmps69
  go_wp2_with fail
  refine CI.out.mono ?_
  rintro e w' ⟨⟨i, rfl, hi⟩, rfl⟩
  have HI := Lib.hid hi
  clear hi
  go_wp2
  go_ret
  exact ⟨by rw [← HI.out]; rfl, rfl⟩

theorem wraps_u16 (n : Int) (h₀ : 0 ≤ n) (h₁ : n < 2 ^ 16) : IntKind.u16.wrap n = n := by
  simp [IntKind.wrap, IntKind.bits, IntKind.signed]
  omega

theorem pop8_of (n : Nat) (h : n < 256) : pop8 (n : Int) = (pop 8 n : Int) := pop8_pop ⟨n, h⟩

set_option maxRecDepth 100000 in
set_option maxHeartbeats 4000000 in
theorem ones16_any (n : Nat) (w : World) (h1 : n ≤ 65535) :
    Calls Try.prog 71 #[.int .u16 n] w fun e w' => e = .returned (.int .i64 (pop 16 n : Nat)) ∧ ∃ q, w' = w.drewN q := by
  have hp := pop16 n
  have p1 := pop8_of (n % 256) (by omega)
  have p2 := pop8_of (n / 256) (by omega)
  have l1 := pop_le 8 (n % 256)
  have l2 := pop_le 8 (n / 256)
  rw [Nat.mod_eq_of_lt (show n / 256 < 256 by omega)] at hp
  rw [hp]
  have hk := bits_mask .u16 16 (by decide) wraps_u16 8 (by decide) (n : Int) (by omega) (by omega)
  rw [show ((2 : Int) ^ 8 - 1) = 255 from rfl, show ((2 : Int) ^ 8) = 256 from rfl] at hk
  have c1 : ((n / 256 : Nat) : Int) = (n : Int) / 256 := by omega
  have c2 : ((n % 256 : Nat) : Int) = (n : Int) % 256 := by omega
  rw [c1] at p2
  rw [c2] at p1
  have q1 : 0 ≤ (n : Int) / 256 := by omega
  have q2 : (n : Int) / 256 ≤ 255 := by omega
  have q3 : 0 ≤ (n : Int) % 256 := by omega
  have q4 : (n : Int) % 256 ≤ 255 := by omega
  clear c1 c2 hp
  generalize pop 8 (n % 256) = a at *
  generalize pop 8 (n / 256) = b at *
  have m1 : IntKind.u8.wrap ((b : Int) + a) = (b : Int) + a := by rw [IntKind.wrap_u8]; omega
  have m2 : IntKind.i64.wrap ((b : Int) + a) = (b : Int) + a := by rw [IntKind.wrap_i64]; omega
  go_enter Try.func71, Try.ntmps71
  go_wp2_with fail
  simp only [List.append_eq, List.cons_append, List.nil_append, Lib.fold_pop8tab]
  go_quiet (fail)
  go_wp2
  go_ret
  refine ⟨?_, _, rfl⟩
  first | rfl | (refine congrArg Ending.returned ?_; show Value.int _ _ = Value.int _ _; congr 1; omega)

set_option maxHeartbeats 1000000 in
theorem ints_any (v u : Value) (zs ys : List Int) (w : World) (hv : ReadsI w v zs) (hu : ReadsI w u ys) :
    Calls Try.prog 25 #[v, u] w fun e w' => e = .returned (.bool (decide (zs = ys))) ∧ ∃ q, w' = w.drewN q := by
  obtain ⟨ao, c, b, off, rfl, hl, hm, hcell⟩ := hv.at
  obtain ⟨ao', c', b', off', rfl, hl', hm', hcell'⟩ := hu.at
  have HC := Lib.hid hcell
  have HC' := Lib.hid hcell'
  clear hcell hv hcell' hu
  obtain ⟨r, hr⟩ : ∃ r, r = decide (zs = ys) := ⟨_, rfl⟩
  rw [← hr]
  have HR := Lib.hid hr
  clear hr
  by_cases hn : zs.length = ys.length
  · obtain ⟨n, hnn⟩ : ∃ n, n = ys.length := ⟨_, rfl⟩
    rw [hn] at hl hm HC ⊢
    have HN := Lib.hid hn
    rw [← hnn] at hl hm HC hl' hm' HC' ⊢
    have HNN := Lib.hid hnn
    clear hn hnn
    have ext : (∀ i, i < n → zs.getD i 0 = ys.getD i 0) → zs = ys := fun h => by
      refine List.ext_getElem HN.out fun i h1 h2 => ?_
      have := h i (by rw [HNN.out]; exact h2)
      rw [getD_at _ _ _ h1, getD_at _ _ _ h2] at this
      exact this
    have HE := Lib.hid ext
    clear ext
    go_enter Try.func25, Try.ntmps25
    go_wp2
    go_loopw [5] (fun v5 wr => ∃ j q : Nat, j ≤ n ∧ v5 = .int .i64 j ∧ (∀ i, i < j → zs.getD i 0 = ys.getD i 0) ∧ wr = w.drewN q) (fun v5 _ => n - (intOf v5).toNat)
    case atStart => exact ⟨0, 0, Nat.zero_le _, rfl, fun i hi => by omega, rfl⟩
    case round =>
      obtain ⟨j, q, hj, rfl, hall, rfl⟩ := hrel
      have HA := Lib.hid hall
      clear hall
      by_cases hlt : j < n
      · obtain ⟨e1, e2⟩ := HC.out j hlt
        obtain ⟨e1', e2'⟩ := HC'.out j hlt
        subst e1 e1'
        have hne : zs.getD j 0 ≠ ys.getD j 0 → r = false := fun h => by rw [HR.out]; exact decide_eq_false fun e => h (by rw [e])
        have hnx : zs.getD j 0 = ys.getD j 0 → ∀ i, i < j + 1 → zs.getD i 0 = ys.getD i 0 := fun h i hi => by
          by_cases e : i = j
          · subst e; exact h
          · exact HA.out i (by omega)
        have H1 := Lib.hid hne
        have H2 := Lib.hid hnx
        clear hne hnx
        generalize zs.getD j 0 = x at e2 H1 H2
        generalize ys.getD j 0 = y at e2' H1 H2
        by_cases hxy : x = y
        · have k1 : (x != y) = false := by simp [hxy]
          have H3 := Lib.hid (H2.out hxy)
          clear hxy
          go_wp2
          go_quiet (fail)
          go_wp2
          go_roundw
          case rel => exact ⟨j + 1, _, by omega, by go_num, H3.out, rfl⟩
          case measure => simp [intOf]; omega
        · have k1 : (x != y) = true := by simp [hxy]
          have hr := H1.out hxy
          subst hr
          clear hxy
          go_wp2
          go_quiet (fail)
          go_wp2
          go_ret
          exact ⟨rfl, _, World.drewN_drewN ..⟩
      · have hjl : j = n := by omega
        subst hjl
        obtain rfl : r = true := by rw [HR.out]; exact decide_eq_true (HE.out HA.out)
        go_wp2
        go_ret
        exact ⟨rfl, _, rfl⟩
  · have hrf : r = false := by rw [HR.out]; exact decide_eq_false fun e => hn (by rw [e])
    subst hrf
    have k1 : (zs.length == ys.length) = false := by simp [hn]
    have k2 : ((zs.length : Int) != (ys.length : Int)) = true := by simp; omega
    go_enter Try.func25, Try.ntmps25
    go_wp2
    go_ret
    exact ⟨rfl, 0, rfl⟩

end Go.Proofs.Ytapjgjjmlbhanaa

/- bits.OnesCount64, walked. -/
namespace Go.Proofs.Ytapjgjjmlbhanaa
open Go.RowKit Go.Lib

theorem wraps_i64 (n : Int) (h₀ : 0 ≤ n) (h₁ : n < 2 ^ 63) : IntKind.i64.wrap n = n := by
  rw [IntKind.wrap_i64]; omega
theorem wraps_u64 (n : Int) (h₀ : 0 ≤ n) (h₁ : n < 18446744073709551616) : IntKind.u64.wrap n = n := by
  simp [IntKind.wrap, IntKind.bits, IntKind.signed]
  omega

set_option maxRecDepth 100000 in
set_option maxHeartbeats 4000000 in
theorem ones64_any (x : Nat) (w : World) (h1 : x < 18446744073709551616) :
    Calls Try.prog 70 #[.int .u64 x] w fun e w' => e = .returned (.int .i64 (pop 64 x : Nat)) ∧ w = w' := by
  obtain ⟨y1, hy1⟩ : ∃ y1, y1 = (x / 2 &&& 6148914691236517205) + (x &&& 6148914691236517205) := ⟨_, rfl⟩
  obtain ⟨y2, hy2⟩ : ∃ y2, y2 = (y1 / 4 &&& 3689348814741910323) + (y1 &&& 3689348814741910323) := ⟨_, rfl⟩
  obtain ⟨s1, s2, s3⟩ := swar3 x y1 y2 hy1 hy2
  obtain ⟨y3, hy3⟩ : ∃ y3, y3 = (y2 / 16 + y2) &&& 1085102592571150095 := ⟨_, rfl⟩
  obtain ⟨y4, hy4⟩ : ∃ y4, y4 = y3 + y3 / 256 := ⟨_, rfl⟩
  obtain ⟨y5, hy5⟩ : ∃ y5, y5 = y4 + y4 / 65536 := ⟨_, rfl⟩
  obtain ⟨y6, hy6⟩ : ∃ y6, y6 = y5 + y5 / 4294967296 := ⟨_, rfl⟩
  obtain ⟨t1, t2, t3, t4, t5⟩ := swar6 x y3 y4 y5 y6 (hy3.trans s1) hy4 hy5 hy6
  -- each step in the walk's words
  have c2 : ((x / 2 : Nat) : Int) = (x : Int) / 2 := by omega
  have a1 := bits_and_u64_nat (x / 2) 6148914691236517205 (by omega) (by omega)
  have a2 := bits_and_u64_nat x 6148914691236517205 (by omega) (by omega)
  rw [c2] at a1
  have b1 : IntKind.u64.wrap (((x / 2 &&& 6148914691236517205 : Nat) : Int) + ((x &&& 6148914691236517205 : Nat) : Int)) = (y1 : Int) := by rw [wraps_u64 _ (by omega) (by omega)]; omega
  have c4 : ((y1 / 4 : Nat) : Int) = (y1 : Int) / 4 := by omega
  have a3 := bits_and_u64_nat (y1 / 4) 3689348814741910323 (by omega) (by omega)
  have a4 := bits_and_u64_nat y1 3689348814741910323 (by omega) (by omega)
  rw [c4] at a3
  have b2 : IntKind.u64.wrap (((y1 / 4 &&& 3689348814741910323 : Nat) : Int) + ((y1 &&& 3689348814741910323 : Nat) : Int)) = (y2 : Int) := by rw [wraps_u64 _ (by omega) (by omega)]; omega
  have b3 : IntKind.u64.wrap ((y2 : Int) / 16 + y2) = ((y2 / 16 + y2 : Nat) : Int) := by rw [wraps_u64 _ (by omega) (by omega)]; omega
  have a5 := bits_and_u64_nat (y2 / 16 + y2) 1085102592571150095 (by omega) (by omega)
  rw [← hy3] at a5
  have b4 : IntKind.u64.wrap ((y3 : Int) + (y3 : Int) / 256) = (y4 : Int) := by rw [wraps_u64 _ (by omega) (by omega)]; omega
  have b5 : IntKind.u64.wrap ((y4 : Int) + (y4 : Int) / 65536) = (y5 : Int) := by rw [wraps_u64 _ (by omega) (by omega)]; omega
  have b6 : IntKind.u64.wrap ((y5 : Int) + (y5 : Int) / 4294967296) = (y6 : Int) := by rw [wraps_u64 _ (by omega) (by omega)]; omega
  have a6 := bits_mask .i64 63 (by decide) wraps_i64 7 (by decide) (y6 : Int) (by omega) (by omega)
  rw [show ((2 : Int) ^ 7 - 1) = 127 from rfl, show ((2 : Int) ^ 7) = 128 from rfl] at a6
  have e6 : (y6 : Int) % 128 = ((pop 64 x : Nat) : Int) := by omega
  rw [e6] at a6
  have n6 : IntKind.i64.wrap (y6 : Int) = y6 := by rw [IntKind.wrap_i64]; omega
  rw [show ((6148914691236517205 : Nat) : Int) = 6148914691236517205 from rfl] at a1 a2
  rw [show ((3689348814741910323 : Nat) : Int) = 3689348814741910323 from rfl] at a3 a4
  rw [show ((1085102592571150095 : Nat) : Int) = 1085102592571150095 from rfl] at a5
  generalize (x / 2 &&& 6148914691236517205) = u1 at a1 b1 hy1
  generalize (x &&& 6148914691236517205) = u2 at a2 b1 hy1
  generalize (y1 / 4 &&& 3689348814741910323) = u3 at a3 b2 hy2
  generalize (y1 &&& 3689348814741910323) = u4 at a4 b2 hy2
  generalize (y2 / 16 + y2) = u5 at a5 b3 hy3
  generalize pop 64 x = p at *
  clear hy1 hy2 hy3 hy4 hy5 hy6 s1 c2 c4 e6 t1
  go_enter Try.func70, Try.ntmps70
  go_wp2
  go_ret
  exact ⟨rfl, rfl⟩

end Go.Proofs.Ytapjgjjmlbhanaa
