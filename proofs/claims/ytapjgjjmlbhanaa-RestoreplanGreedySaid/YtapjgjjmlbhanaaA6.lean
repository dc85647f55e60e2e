/- Bits counted, plain. -/
import Derived.Lib.Tables
namespace Go.Proofs.Ytapjgjjmlbhanaa

/-- How many of the first n bits are set. -/
def pop (n x : Nat) : Nat := (List.range n).countP fun k => x.testBit k

theorem pop_add (m n x : Nat) : pop (m + n) x = pop m x + pop n (x / 2 ^ m) := by
  unfold pop
  rw [List.range_add, List.countP_append, List.countP_map]
  congr 1
  refine List.countP_congr fun k _ => ?_
  simp [Nat.testBit_div_two_pow, Nat.add_comm]

theorem pop_mod (n x : Nat) : pop n (x % 2 ^ n) = pop n x := by
  unfold pop
  refine List.countP_congr fun k hk => ?_
  rw [Nat.testBit_mod_two_pow]
  simp [List.mem_range.1 hk]

theorem pop_le (n x : Nat) : pop n x ≤ n := by
  have := List.countP_le_length (p := fun k => x.testBit k) (l := List.range n)
  simpa [pop] using this

theorem pop8_pop : ∀ n : Fin 256, Lib.pop8 (n.val : Int) = (pop 8 n.val : Int) := by decide +kernel

theorem pop16 (x : Nat) : pop 16 x = pop 8 (x % 256) + pop 8 (x / 256 % 256) := by
  have h := pop_add 8 8 x
  have h1 := pop_mod 8 x
  have h2 := pop_mod 8 (x / 256)
  simp only [Nat.reducePow, Nat.reduceAdd] at h h1 h2
  rw [h, h1, h2]

/-- The same byte n times. -/
def rep (c : Nat) : Nat → Nat
  | 0 => 0
  | n + 1 => c + 256 * rep c n
/-- A function of each byte. -/
def mapB (g : Nat → Nat) : Nat → Nat → Nat
  | 0, _ => 0
  | n + 1, x => g (x % 256) + 256 * mapB g n (x / 256)

theorem and_byte (x c M : Nat) (hc : c < 256) : x &&& (c + 256 * M) = (x % 256 &&& c) + 256 * (x / 256 &&& M) := by
  have h1 : (x &&& (c + 256 * M)) % 2 ^ 8 = x % 256 &&& c := by
    rw [Nat.and_mod_two_pow]
    congr 1
    simp only [Nat.reducePow]
    omega
  have h2 : (x &&& (c + 256 * M)) / 2 ^ 8 = x / 256 &&& M := by
    rw [Nat.and_div_two_pow]
    congr 1
    simp only [Nat.reducePow]
    omega
  simp only [Nat.reducePow] at h1 h2
  omega

theorem half_byte : ∀ b : Fin 256, ∀ t : Fin 2, ((b.val / 2 + 128 * t.val) &&& 85) = (b.val / 2 &&& 85) := by decide +kernel
theorem quar_byte : ∀ b : Fin 256, ∀ t : Fin 4, ((b.val / 4 + 64 * t.val) &&& 51) = (b.val / 4 &&& 51) := by decide +kernel

theorem and_rep (c : Nat) (hc : c < 256) : ∀ n x, x &&& rep c n = mapB (fun b => b &&& c) n x
  | 0, x => by simp [rep, mapB]
  | n + 1, x => by rw [rep, mapB, and_byte _ _ _ hc, and_rep c hc n]

theorem half_rep : ∀ n x, (x / 2) &&& rep 85 n = mapB (fun b => b / 2 &&& 85) n x
  | 0, x => by simp [rep, mapB]
  | n + 1, x => by
    rw [rep, mapB, and_byte _ _ _ (by omega)]
    have h1 : x / 2 / 256 = x / 256 / 2 := by omega
    have h2 : x / 2 % 256 = x % 256 / 2 + 128 * (x / 256 % 2) := by omega
    rw [h1, h2, half_rep n, half_byte ⟨x % 256, by omega⟩ ⟨x / 256 % 2, by omega⟩]

theorem quar_rep : ∀ n x, (x / 4) &&& rep 51 n = mapB (fun b => b / 4 &&& 51) n x
  | 0, x => by simp [rep, mapB]
  | n + 1, x => by
    rw [rep, mapB, and_byte _ _ _ (by omega)]
    have h1 : x / 4 / 256 = x / 256 / 4 := by omega
    have h2 : x / 4 % 256 = x % 256 / 4 + 64 * (x / 256 % 4) := by omega
    rw [h1, h2, quar_rep n, quar_byte ⟨x % 256, by omega⟩ ⟨x / 256 % 4, by omega⟩]

theorem mapB_add (g h : Nat → Nat) : ∀ n x, mapB g n x + mapB h n x = mapB (fun b => g b + h b) n x
  | 0, x => rfl
  | n + 1, x => by rw [mapB, mapB, mapB, ← mapB_add g h n]; omega

theorem mapB_byte (g : Nat → Nat) (hg : ∀ b, b < 256 → g b < 256) (n x : Nat) : mapB g (n + 1) x % 256 = g (x % 256) ∧ mapB g (n + 1) x / 256 = mapB g n (x / 256) := by
  have := hg (x % 256) (by omega)
  rw [mapB]
  omega

theorem mapB_comp (g h : Nat → Nat) (hg : ∀ b, b < 256 → g b < 256) : ∀ n x, mapB h n (mapB g n x) = mapB (fun b => h (g b)) n x
  | 0, x => rfl
  | n + 1, x => by
    obtain ⟨h1, h2⟩ := mapB_byte g hg n x
    rw [mapB, h1, h2, mapB_comp g h hg n, mapB]

/-- The first two steps, byte by byte. -/
def g1 (b : Nat) : Nat := (b / 2 &&& 85) + (b &&& 85)
def g2 (b : Nat) : Nat := (b / 4 &&& 51) + (b &&& 51)
theorem g12_byte : ∀ b : Fin 256, g1 b.val < 256 ∧ g2 (g1 b.val) % 16 ≤ 4 ∧ g2 (g1 b.val) / 16 ≤ 4 ∧ g2 (g1 b.val) % 16 + g2 (g1 b.val) / 16 = pop 8 b.val := by decide +kernel

theorem nib_rep (g : Nat → Nat) (hg : ∀ b, b < 256 → g b % 16 ≤ 4 ∧ g b / 16 ≤ 4) : ∀ n x, (mapB g n x / 16 + mapB g n x) &&& rep 15 n = mapB (fun b => g b % 16 + g b / 16) n x ∧ mapB g n x % 16 ≤ 4
  | 0, x => by simp [rep, mapB]
  | n + 1, x => by
    obtain ⟨i1, i2⟩ := nib_rep g hg n (x / 256)
    obtain ⟨k1, k2⟩ := hg (x % 256) (by omega)
    rw [rep, mapB, mapB]
    rw [and_byte _ _ _ (by omega)]
    generalize hb : g (x % 256) = b at k1 k2
    generalize mapB g n (x / 256) = H at i1 i2
    have e1 : ((b + 256 * H) / 16 + (b + 256 * H)) / 256 = H / 16 + H := by omega
    have e2 : ((b + 256 * H) / 16 + (b + 256 * H)) % 256 = 16 * (b / 16 + H % 16) + (b % 16 + b / 16) := by omega
    rw [e1, e2, i1]
    have e3 : 16 * (b / 16 + H % 16) + (b % 16 + b / 16) &&& 15 = b % 16 + b / 16 := by
      have := Nat.and_two_pow_sub_one_eq_mod (16 * (b / 16 + H % 16) + (b % 16 + b / 16)) 4
      simp only [Nat.reducePow, Nat.reduceSub] at this
      rw [this]
      omega
    rw [e3]
    exact ⟨rfl, by omega⟩

theorem reps : rep 85 8 = 6148914691236517205 ∧ rep 51 8 = 3689348814741910323 ∧ rep 15 8 = 1085102592571150095 := by decide +kernel

theorem g12_lt : ∀ b, b < 256 → g1 b < 256 := fun b h => (g12_byte ⟨b, h⟩).1

/-- The number behind the third step. -/
theorem swar3 (x : Nat) (y1 y2 : Nat) (h1 : y1 = (x / 2 &&& 6148914691236517205) + (x &&& 6148914691236517205)) (h2 : y2 = (y1 / 4 &&& 3689348814741910323) + (y1 &&& 3689348814741910323)) :
    (y2 / 16 + y2) &&& 1085102592571150095 = mapB (pop 8) 8 x ∧ y1 < 18446744073709551616 ∧ y2 ≤ 4919131752989213764 := by
  obtain ⟨r1, r2, r3⟩ := reps
  rw [← r1, half_rep, and_rep _ (by omega), mapB_add] at h1
  have e1 : y1 = mapB g1 8 x := h1
  rw [← r2, quar_rep, and_rep _ (by omega), mapB_add] at h2
  have e2 : y2 = mapB g2 8 y1 := h2
  rw [e1, mapB_comp g1 g2 g12_lt] at e2
  have hn := (nib_rep (fun b => g2 (g1 b)) (fun b hb => ⟨(g12_byte ⟨b, hb⟩).2.1, (g12_byte ⟨b, hb⟩).2.2.1⟩) 8 x).1
  rw [← e2, r3] at hn
  have hcongr : ∀ n z, mapB (fun b => g2 (g1 b) % 16 + g2 (g1 b) / 16) n z = mapB (pop 8) n z := by
    intro n
    induction n with
    | zero => intro z; rfl
    | succ n ih => intro z; rw [mapB, mapB, ih, (g12_byte ⟨z % 256, by omega⟩).2.2.2]
  have hlt : ∀ (g : Nat → Nat) (c : Nat), (∀ b, b < 256 → g b ≤ c) → ∀ n z, mapB g n z ≤ rep c n := by
    intro g c hc n
    induction n with
    | zero => intro z; exact Nat.le_refl _
    | succ n ih =>
      intro z
      have := ih (z / 256)
      have := hc (z % 256) (by omega)
      rw [mapB, rep]
      omega
  refine ⟨by rw [hn, hcongr], ?_, ?_⟩
  · rw [e1]
    have := hlt g1 255 (fun b hb => by have := g12_lt b hb; omega) 8 x
    have e : rep 255 8 = 18446744073709551615 := by decide +kernel
    omega
  · rw [e2]
    have := hlt (fun b => g2 (g1 b)) 68 (fun b hb => by have := (g12_byte ⟨b, hb⟩).2.1; have := (g12_byte ⟨b, hb⟩).2.2.1; show g2 (g1 b) ≤ 68; simp only at *; omega) 8 x
    have e : rep 68 8 = 4919131752989213764 := by decide +kernel
    omega

/-- The last three steps. -/
theorem swar6 (x y3 y4 y5 y6 : Nat) (h3 : y3 = mapB (pop 8) 8 x) (h4 : y4 = y3 + y3 / 256) (h5 : y5 = y4 + y4 / 65536) (h6 : y6 = y5 + y5 / 4294967296) :
    y6 % 128 = pop 64 x ∧ y3 ≤ 578721382704613384 ∧ y4 ≤ 600000000000000000 ∧ y5 ≤ 600010000000000000 ∧ y6 ≤ 600020000000000000 := by
  have hp : pop 64 x = pop 8 (x % 256) + (pop 8 (x / 256 % 256) + (pop 8 (x / 256 / 256 % 256) + (pop 8 (x / 256 / 256 / 256 % 256) + (pop 8 (x / 256 / 256 / 256 / 256 % 256) + (pop 8 (x / 256 / 256 / 256 / 256 / 256 % 256) + (pop 8 (x / 256 / 256 / 256 / 256 / 256 / 256 % 256) + pop 8 (x / 256 / 256 / 256 / 256 / 256 / 256 / 256 % 256))))))) := by
    have hm : ∀ z, pop 8 (z % 256) = pop 8 z := fun z => pop_mod 8 z
    have ha : ∀ n z, pop (8 + n) z = pop 8 z + pop n (z / 256) := fun n z => pop_add 8 n z
    simp only [hm]
    rw [show 64 = 8 + (8 + (8 + (8 + (8 + (8 + (8 + 8)))))) from rfl, ha, ha, ha, ha, ha, ha, ha]
  have l0 := pop_le 8 (x % 256)
  have l1 := pop_le 8 (x / 256 % 256)
  have l2 := pop_le 8 (x / 256 / 256 % 256)
  have l3 := pop_le 8 (x / 256 / 256 / 256 % 256)
  have l4 := pop_le 8 (x / 256 / 256 / 256 / 256 % 256)
  have l5 := pop_le 8 (x / 256 / 256 / 256 / 256 / 256 % 256)
  have l6 := pop_le 8 (x / 256 / 256 / 256 / 256 / 256 / 256 % 256)
  have l7 := pop_le 8 (x / 256 / 256 / 256 / 256 / 256 / 256 / 256 % 256)
  simp only [mapB] at h3
  rw [hp]
  generalize pop 8 (x % 256) = p0 at *
  generalize pop 8 (x / 256 % 256) = p1 at *
  generalize pop 8 (x / 256 / 256 % 256) = p2 at *
  generalize pop 8 (x / 256 / 256 / 256 % 256) = p3 at *
  generalize pop 8 (x / 256 / 256 / 256 / 256 % 256) = p4 at *
  generalize pop 8 (x / 256 / 256 / 256 / 256 / 256 % 256) = p5 at *
  generalize pop 8 (x / 256 / 256 / 256 / 256 / 256 / 256 % 256) = p6 at *
  generalize pop 8 (x / 256 / 256 / 256 / 256 / 256 / 256 / 256 % 256) = p7 at *
  have e4 : y3 / 256 = p1 + 256 * (p2 + 256 * (p3 + 256 * (p4 + 256 * (p5 + 256 * (p6 + 256 * p7))))) := by omega
  have f4 : y4 = (p0 + p1) + 256 * ((p1 + p2) + 256 * ((p2 + p3) + 256 * ((p3 + p4) + 256 * ((p4 + p5) + 256 * ((p5 + p6) + 256 * ((p6 + p7) + 256 * p7)))))) := by omega
  have f5 : y4 / 65536 = (p2 + p3) + 256 * ((p3 + p4) + 256 * ((p4 + p5) + 256 * ((p5 + p6) + 256 * ((p6 + p7) + 256 * p7)))) := by omega
  have g5 : y5 = (p0 + p1 + p2 + p3) + 256 * ((p1 + p2 + p3 + p4) + 256 * ((p2 + p3 + p4 + p5) + 256 * ((p3 + p4 + p5 + p6) + 256 * ((p4 + p5 + p6 + p7) + 256 * ((p5 + p6 + p7) + 256 * ((p6 + p7) + 256 * p7)))))) := by omega
  have f6 : y5 / 4294967296 = (p4 + p5 + p6 + p7) + 256 * ((p5 + p6 + p7) + 256 * ((p6 + p7) + 256 * p7)) := by omega
  refine ⟨?_, ?_, ?_, ?_, ?_⟩
  · rw [h6, f6, g5]; omega
  · omega
  · omega
  · omega
  · omega

end Go.Proofs.Ytapjgjjmlbhanaa
