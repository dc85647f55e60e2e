/- Sorted lists are one; the example, plain. -/
import Derived.Test.YtapjgjjmlbhanaaH6
import Derived.Test.YtapjgjjmlbhanaaJ1
import Derived.Test.YtapjgjjmlbhanaaX1
namespace Go.Proofs.Ytapjgjjmlbhanaa
open Go.RowKit Go.Lib

theorem eq_of_sorted {α : Type} (key : α → Int) : ∀ {L M : List α}, L.Perm M → L.Pairwise (fun a b => key a < key b) → M.Pairwise (fun a b => key a < key b) → L = M
  | [], M, h, _, _ => (List.nil_perm.1 h).symm
  | a :: l, [], h, _, _ => absurd h.length_eq (by simp)
  | a :: l, b :: m, h, h1, h2 => by
    have h1' := List.pairwise_cons.1 h1
    have h2' := List.pairwise_cons.1 h2
    have e : a = b := by
      rcases List.mem_cons.1 (h.mem_iff.1 (List.mem_cons_self (a := a) (l := l))) with e | hm
      · exact e
      · rcases List.mem_cons.1 (h.mem_iff.2 (List.mem_cons_self (a := b) (l := m))) with e | hl
        · exact e.symm
        · have := h1'.1 b hl
          have := h2'.1 a hm
          omega
    subst e
    rw [eq_of_sorted key (List.Perm.cons_inv h) h1'.2 h2'.2]

theorem sorted_leK {d : List Nat} (hd : d.Nodup) (h : ∀ a ∈ d, a < 4096) : (d.mergeSort leK).Pairwise (fun a b => keyS a < keyS b) := by
  have hp := List.mergeSort_perm d leK
  have hs : (d.mergeSort leK).Pairwise (fun a b => leK a b = true) := List.pairwise_mergeSort (fun a b c h1 h2 => by
    unfold leK at *; simp at *; omega) (fun a b => by unfold leK; simp; omega) _
  have hn := hp.nodup_iff.2 hd
  refine (hs.and hn).imp_of_mem fun {a b} ha hb ⟨h1, h2⟩ => ?_
  unfold leK at h1
  have h1 : keyS a ≤ keyS b := by simpa using h1
  have hne : keyS a ≠ keyS b := fun e => h2 (keyS_inj (h a (hp.mem_iff.1 ha)) (h b (hp.mem_iff.1 hb)) e)
  omega
theorem suffL_sorted (g : Gl) {L : List Hd} (h12 : L.length ≤ 12) : (suffL g L).Pairwise (fun a b => keyS a < keyS b) :=
  sorted_leK (List.nodup_range.filter _) fun a ha => by have := sfTo_lt a ha; have := two12 h12; omega
theorem suffL_eq {g : Gl} {L : List Hd} (h12 : L.length ≤ 12) {d : List Nat} (hd : d.Perm (sfTo g L (2 ^ L.length))) (hs : d.Pairwise (fun a b => keyS a < keyS b)) : suffL g L = d :=
  eq_of_sorted keyS ((List.mergeSort_perm _ _).trans hd.symm) (suffL_sorted g h12) hs

theorem eq_of_devs {L hs : List Hd} (h : L.Perm hs) (h1 : (L.map Hd.dev).Pairwise (· < ·)) (h2 : (hs.map Hd.dev).Pairwise (· < ·)) : L = hs :=
  eq_of_sorted Hd.dev h (List.pairwise_map.1 h1) (List.pairwise_map.1 h2)

def sB : ByteArray := ⟨#[115]⟩
def exG (nv : Value) (thr : Int) : Gl := ⟨nv, thr, false, .slice none 0 0, .slice none 0 0, [⟨sB, 2⟩], [], []⟩
def exH (p1 s1 p2 s2 p3 : Value) : List Hd := [⟨1, p1, s1, false, [⟨sB, 0⟩], [1]⟩, ⟨2, p2, s2, false, [⟨sB, 1⟩], [2]⟩, ⟨3, p3, .slice none 0 0, false, [⟨sB, 0⟩, ⟨sB, 1⟩], []⟩]

section
variable (nv p1 s1 p2 s2 p3 : Value)
theorem ex_sf2 : sfTo (exG nv 2) (exH p1 s1 p2 s2 p3) 8 = [3, 7] := by kernel_rfl
theorem ex_sf0 : sfTo (exG nv 0) (exH p1 s1 p2 s2 p3) 8 = [3, 4, 5, 6, 7] := by kernel_rfl
theorem ex_suff2 : suffL (exG nv 2) (exH p1 s1 p2 s2 p3) = [3, 7] := suffL_eq (by show 3 ≤ 12; omega) (by rw [show 2 ^ (exH p1 s1 p2 s2 p3).length = 8 from rfl, ex_sf2]) (by decide +kernel)
theorem ex_suff0 : suffL (exG nv 0) (exH p1 s1 p2 s2 p3) = [4, 3, 5, 6, 7] := suffL_eq (by show 3 ≤ 12; omega) (by rw [show 2 ^ (exH p1 s1 p2 s2 p3).length = 8 from rfl, ex_sf0]; decide +kernel) (by decide +kernel)
theorem ex_min0 : (minL (exG nv 0) (exH p1 s1 p2 s2 p3)).map (devL (exH p1 s1 p2 s2 p3)) = [[3], [1, 2]] := by
  unfold minL
  rw [ex_suff0]
  kernel_rfl
theorem ex_greedy : greedyL (exG nv 2) (exH p1 s1 p2 s2 p3) = [1, 2] := by kernel_rfl
theorem ex_all : sufB (exG nv 2) (exH p1 s1 p2 s2 p3) (2 ^ (exH p1 s1 p2 s2 p3).length - 1) = true := by kernel_rfl
theorem ex_fet : fetL (exG nv 2) (exH p1 s1 p2 s2 p3) [3, 1] = [(3, ⟨sB, 0⟩), (3, ⟨sB, 1⟩)] := by kernel_rfl
theorem ex_ok (thr : Int) (h0 : 0 ≤ thr) (h1 : thr ≤ 255) : Ok (exG nv thr) (exH p1 s1 p2 s2 p3) := by
  refine ⟨⟨by show 1 ≤ 64; omega, ⟨h0, h1⟩, by show 3 ≤ 12; omega⟩, ?_, ⟨?_, ?_⟩, ?_⟩
  · exact of_decide_eq_true (by kernel_rfl)
  · exact of_decide_eq_true (by kernel_rfl)
  · exact of_decide_eq_true (by kernel_rfl)
  · exact of_decide_eq_true (by kernel_rfl)
end

/-- The example's memory reads as the example. -/
theorem ex_goal {N : Nat} {w : World} {nv : Value} {thr : Int} (h : Blk N w nv 1 #[sS, .int .i64 2] 80) : GlAt w (exG nv thr) := by
  obtain ⟨g, rfl, _, hg⟩ := h
  refine ⟨⟨some ⟨g, 0, none⟩, 1, rfl, Nat.le_refl _, by show 1 ≤ _; omega, fun _ => ⟨g, 0, rfl, fun i j hi hj => ?_⟩⟩, ⟨none, 0, rfl, Nat.le_refl _, by show 0 ≤ _; omega, fun h => absurd h (by show ¬ 0 < 0; omega)⟩, ⟨none, 0, rfl, Nat.le_refl _, by show 0 ≤ _; omega, fun h => absurd h (by show ¬ 0 < 0; omega)⟩⟩
  rw [cell_of_row w g _ _ _ _ hg]
  obtain rfl : i = 0 := by have : i < 1 := hi; omega
  match j, hj with
  | 0, _ => rfl
  | 1, _ => rfl
theorem blk_pieces {N : Nat} {w : World} {v : Value} {ps : List Pc} {cs : Array Value} (h : Blk N w v ps.length cs 68) (hn : ps.length ≤ 100) (hc : ∀ i j, i < ps.length → j < 2 → cs[i * 2 + j]? = some (match j with | 0 => Value.string (ps.getD i default).st | _ => .int .i64 (ps.getD i default).ix)) : ReadsP w v ps := by
  obtain ⟨g, rfl, _, hg⟩ := h
  refine ⟨some ⟨g, 0, none⟩, ps.length, rfl, Nat.le_refl _, by omega, fun _ => ⟨g, 0, rfl, fun i j hi hj => ?_⟩⟩
  rw [cell_of_row w g _ _ _ _ hg, Nat.zero_add]
  exact hc i j hi hj
theorem blk_ints {N : Nat} {w : World} {v : Value} {zs : List Int} {cs : Array Value} (h : Blk N w v zs.length cs 3) (hn : zs.length ≤ 100) (hc : ∀ i, i < zs.length → cs[i]? = some (.int .i64 (zs.getD i 0))) : ReadsI w v zs := by
  obtain ⟨g, rfl, _, hg⟩ := h
  refine ⟨some ⟨g, 0, none⟩, zs.length, rfl, Nat.le_refl _, by omega, fun _ => ⟨g, 0, rfl, fun i j hi hj => ?_⟩⟩
  rw [cell_of_row w g _ _ _ _ hg, Nat.zero_add, Nat.mul_one]
  obtain rfl : j = 0 := by omega
  exact hc i hi
theorem ex_list {N : Nat} {w : World} {v : Value} (h : HFct N w v) : ∃ p1 s1 p2 s2 p3, ReadsH w v (exH p1 s1 p2 s2 p3) := by
  obtain ⟨p1, s1, p2, s2, p3, ⟨g, rfl, _, hg⟩, h1, h2, h3, h4, h5⟩ := h
  refine ⟨p1, s1, p2, s2, p3, ⟨some ⟨g, 0, none⟩, 3, rfl, Nat.le_refl _, by show 3 ≤ _; omega, fun _ => ⟨g, 0, rfl, fun i j hi hj => ?_⟩⟩, fun x hx => ?_⟩
  · have hi : i < 3 := hi
    rw [cell_of_row w g _ _ _ _ hg, Nat.zero_add]
    match i, j, hi, hj with
    | 0, 0, _, _ => rfl
    | 0, 1, _, _ => rfl
    | 0, 2, _, _ => rfl
    | 0, 3, _, _ => rfl
    | 1, 0, _, _ => rfl
    | 1, 1, _, _ => rfl
    | 1, 2, _, _ => rfl
    | 1, 3, _, _ => rfl
    | 2, 0, _, _ => rfl
    | 2, 1, _, _ => rfl
    | 2, 2, _, _ => rfl
    | 2, 3, _, _ => rfl
  · simp only [exH, List.mem_cons, List.mem_nil_iff, or_false] at hx
    rcases hx with rfl | rfl | rfl
    · exact ⟨blk_pieces h1 (by simp) (fun i j hi hj => by
        obtain rfl : i = 0 := by simp at hi; exact hi
        match j, hj with
        | 0, _ => rfl
        | 1, _ => rfl), blk_ints h2 (by simp) (fun i hi => by
        obtain rfl : i = 0 := by simp at hi; exact hi
        rfl)⟩
    · exact ⟨blk_pieces h3 (by simp) (fun i j hi hj => by
        obtain rfl : i = 0 := by simp at hi; exact hi
        match j, hj with
        | 0, _ => rfl
        | 1, _ => rfl), blk_ints h4 (by simp) (fun i hi => by
        obtain rfl : i = 0 := by simp at hi; exact hi
        rfl)⟩
    · exact ⟨blk_pieces h5 (by simp) (fun i j hi hj => by
        have hi : i < 2 := hi
        match i, j, hi, hj with
        | 0, 0, _, _ => rfl
        | 0, 1, _, _ => rfl
        | 1, 0, _, _ => rfl
        | 1, 1, _, _ => rfl), ⟨none, 0, rfl, Nat.le_refl _, by show 0 ≤ _; omega, fun h => absurd h (by show ¬ 0 < 0; omega)⟩⟩

end Go.Proofs.Ytapjgjjmlbhanaa
