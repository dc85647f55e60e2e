/- Fewer, plain. -/
import Derived.Test.YtapjgjjmlbhanaaU2
import Derived.Test.YtapjgjjmlbhanaaM5
import Derived.Test.YtapjgjjmlbhanaaN5
namespace Go.Proofs.Ytapjgjjmlbhanaa
open Go.RowKit Go.Lib
set_option linter.unusedSimpArgs false

theorem existsL {hs : List Hd} (hok : HdsOk hs) : ∃ L : List Hd, L.Perm hs ∧ (L.map Hd.dev).Pairwise (· < ·) := by
  refine ⟨hs.mergeSort fun a b => decide (a.dev ≤ b.dev), List.mergeSort_perm _ _, ?_⟩
  have hp := List.mergeSort_perm hs fun a b => decide (a.dev ≤ b.dev)
  have h1 : (hs.mergeSort fun a b => decide (a.dev ≤ b.dev)).Pairwise (fun a b => decide (a.dev ≤ b.dev) = true) := List.pairwise_mergeSort (fun a b c h1 h2 => by simp at *; omega) (fun a b => by simp; omega) _
  have hn : ((hs.mergeSort fun a b => decide (a.dev ≤ b.dev)).map Hd.dev).Nodup := ((hp.map _).nodup_iff).2 hok.1
  rw [List.nodup_iff_pairwise_ne, List.pairwise_map] at hn
  rw [List.pairwise_map]
  refine (h1.and hn).imp fun {a b} ⟨h1, h2⟩ => ?_
  have := of_decide_eq_true h1
  omega
theorem len_le_of_sub : ∀ {l m : List Int}, l.Nodup → (∀ x ∈ l, x ∈ m) → l.length ≤ m.length
  | [], m, _, _ => Nat.zero_le _
  | a :: l, m, h, hs => by
    have h' := List.nodup_cons.1 h
    have ha := hs a (by simp)
    have := len_le_of_sub (l := l) (m := m.erase a) h'.2 (fun x hx => by
      rw [List.mem_erase_of_ne (show x ≠ a from fun e => h'.1 (by rw [← e]; exact hx))]
      exact hs x (by simp [hx]))
    rw [List.length_erase_of_mem ha] at this
    have := List.length_pos_of_mem ha
    rw [List.length_cons]
    omega
theorem devTo_count (L : List Hd) (set : Nat) : ∀ n, (devTo L set n).length = (List.range n).countP fun i => set.testBit i
  | 0 => rfl
  | n + 1 => by
    have hst : devTo L set (n + 1) = devTo L set n ++ if set / 2 ^ n % 2 = 1 then [(L.getD n default).dev] else [] := rfl
    rw [hst, List.length_append, devTo_count L set n, List.range_succ, List.countP_append, List.countP_singleton]
    by_cases h : set.testBit n = true
    · rw [if_pos ((bit_test set n).2 h), if_pos h]; rfl
    · rw [if_neg (fun e => h ((bit_test set n).1 e)), if_neg h]; rfl
theorem pop_small : ∀ m : Fin 7, ∀ a : Fin 64, a.val < 2 ^ m.val → ((List.range m.val).countP fun i => a.val.testBit i) = pop 64 a.val := by decide +kernel
theorem devL_len {L : List Hd} (h6 : L.length ≤ 6) {a : Nat} (ha : a < 2 ^ L.length) : (devL L a).length = pop 64 a := by
  have hp : 2 ^ L.length ≤ 2 ^ 6 := Nat.pow_le_pow_right (by omega) h6
  unfold devL
  rw [devTo_count]
  exact pop_small ⟨L.length, by omega⟩ ⟨a, by omega⟩ ha
theorem devTo_nodup {L : List Hd} (hsd : (L.map Hd.dev).Pairwise (· < ·)) (set : Nat) : ∀ n, n ≤ L.length → (devTo L set n).Nodup
  | 0, _ => List.nodup_nil
  | n + 1, hn => by
    have hst : devTo L set (n + 1) = devTo L set n ++ if set / 2 ^ n % 2 = 1 then [(L.getD n default).dev] else [] := rfl
    rw [hst, List.nodup_append]
    refine ⟨devTo_nodup hsd set n (by omega), by split <;> simp, fun a ha b hb e => ?_⟩
    split at hb
    · rw [List.mem_singleton] at hb
      obtain ⟨i, h1, _, h3⟩ := (devTo_mem L set a n).1 ha
      have := dev_inj hsd (i := i) (j := n) (by omega) (by omega) (by rw [h3, e, hb])
      omega
    · simp at hb
theorem keyS_pop {a b : Nat} (h : keyS a ≤ keyS b) : pop 64 a ≤ pop 64 b := by
  have h1 := revB_lt 12 a
  have h2 := revB_lt 12 b
  unfold keyS at h
  omega

section
variable {g : Gl} {hs : List Hd}
/-- The set that Fewest answers. -/
def mdOf (g : Gl) (hs : List Hd) : List Int := (minOut g hs).headD []
theorem md_at {L : List Hd} (hok : Ok g hs) (hp : L.Perm hs) (hsd : (L.map Hd.dev).Pairwise (· < ·)) (h6 : L.length ≤ 6) (hz : sufE g hs = 0) : ∃ a r, suffL g L = a :: r ∧ a < 2 ^ L.length ∧ sufB g L a = true ∧ mdOf g hs = devL L a ∧ isMinR g hs (mdOf g hs) = true := by
  cases hq : suffL g L with
  | nil => exact absurd hz ((suff_some hok hp hsd).1 hq)
  | cons a r =>
    obtain ⟨t, ht⟩ := minL_head h6 hq
    have hm : mdOf g hs = devL L a := by
      unfold mdOf minOut
      rw [if_pos hz, minR_eq hok hp hsd h6, ht]
      rfl
    obtain ⟨h1, h2⟩ := (suffL_mem (g := g) (L := L) a).1 (by rw [hq]; simp)
    refine ⟨a, r, rfl, h1, h2, hm, ?_⟩
    have hmem : mdOf g hs ∈ minR g hs := by
      rw [hm, minR_eq hok hp hsd h6, ht]
      simp
    exact (List.mem_filter.1 hmem).2
theorem md_suff (hok : Ok g hs) (h6 : hs.length ≤ 6) (hz : sufE g hs = 0) : sumR g hs (mdOf g hs) = 0 := by
  obtain ⟨L, hp, hsd⟩ := existsL hok.2.2.2
  obtain ⟨a, r, _, _, _, _, hm⟩ := md_at hok hp hsd (by rw [hp.length_eq]; exact h6) hz
  unfold isMinR at hm
  rw [Bool.and_eq_true] at hm
  exact of_decide_eq_true hm.1
theorem md_less (hok : Ok g hs) (h6 : hs.length ≤ 6) (hz : sufE g hs = 0) (k : Nat) (hk : k < (mdOf g hs).length) : ¬ sumR g hs (withoutL (mdOf g hs) k) = 0 := by
  obtain ⟨L, hp, hsd⟩ := existsL hok.2.2.2
  obtain ⟨a, r, _, _, _, _, hm⟩ := md_at hok hp hsd (by rw [hp.length_eq]; exact h6) hz
  unfold isMinR needTo at hm
  rw [Bool.and_eq_true, List.all_eq_true] at hm
  have := of_decide_eq_true (hm.2 k (List.mem_range.2 hk))
  omega
theorem md_few (hok : Ok g hs) (h6 : hs.length ≤ 6) (hz : sufE g hs = 0) (other : List Int) (ho : sumR g hs other = 0) : (mdOf g hs).length ≤ other.length := by
  obtain ⟨L, hp, hsd⟩ := existsL hok.2.2.2
  have hl : L.length ≤ 6 := by rw [hp.length_eq]; exact h6
  obtain ⟨a, r, hq, ha, _, hm, _⟩ := md_at hok hp hsd hl hz
  have hs1 := setN_lt other L L.length
  have hs2 : sufB g L (setN other L L.length) = true := by
    unfold sufB
    rw [sumL_eq hok hp, ho]
    rfl
  have hmem := (suffL_mem (g := g) (L := L) _).2 ⟨hs1, hs2⟩
  have hsrt := suffL_sorted g (L := L) (by omega)
  rw [hq] at hmem hsrt
  have hkey : keyS a ≤ keyS (setN other L L.length) := by
    rcases List.mem_cons.1 hmem with e | hm
    · rw [e]; exact Int.le_refl _
    · exact Int.le_of_lt ((List.pairwise_cons.1 hsrt).1 _ hm)
  have h1 := keyS_pop hkey
  rw [← devL_len hl ha, ← devL_len hl hs1, ← hm] at h1
  refine Nat.le_trans h1 (len_le_of_sub (devTo_nodup hsd _ _ (Nat.le_refl _)) fun x hx => ?_)
  unfold devL at hx
  rw [devTo_mem] at hx
  obtain ⟨i, hi, hb, rfl⟩ := hx
  rw [setN_bit, decide_eq_true_eq] at hb
  exact hb.2
theorem costS_three {L : List Hd} {pl : List Nat} (hpl : pl.Perm (List.range hs.length)) (hlen : L.length = pl.length) (set : Nat) : ∀ n, n ≤ pl.length → costTo pl (List.replicate hs.length 3) set n = 3 * ((devTo L set n).length : Int)
  | 0, _ => rfl
  | n + 1, hn => by
    have hst : devTo L set (n + 1) = devTo L set n ++ if set / 2 ^ n % 2 = 1 then [(L.getD n default).dev] else [] := rfl
    have hp : pl.getD n 0 < hs.length := by
      rw [getD_at _ _ _ (by omega)]
      exact List.mem_range.1 (hpl.mem_iff.1 (List.getElem_mem _))
    rw [hst, List.length_append, costTo, costS_three hpl hlen set n (by omega)]
    have h3 : (List.replicate hs.length (3 : Int)).getD (pl.getD n 0) 0 = 3 := by
      rw [getD_at _ _ _ (by rw [List.length_replicate]; exact hp), List.getElem_replicate]
    rw [h3]
    split
    · simp; omega
    · simp
theorem fold_keep {pl : List Nat} {cs : List Int} {a : Nat} : ∀ r : List Nat, (∀ s ∈ r, costS pl cs a ≤ costS pl cs s) → r.foldl (minS pl cs) a = a
  | [], _ => rfl
  | s :: r, h => by
    have h1 := h s (by simp)
    rw [List.foldl_cons, show minS pl cs a s = a by unfold minS; rw [if_neg (by omega)]]
    exact fold_keep r fun x hx => h x (by simp [hx])
theorem md_cheap {L : List Hd} {pl : List Nat} (hok : Ok g hs) (hp : L.Perm hs) (hpl : pl.Perm (List.range hs.length)) (hsd : (L.map Hd.dev).Pairwise (· < ·)) (h6 : hs.length ≤ 6) (hz : sufE g hs = 0) :
    devL L (chL pl (List.replicate hs.length 3) (suffL g L)) = mdOf g hs ∧ costS pl (List.replicate hs.length 3) (chL pl (List.replicate hs.length 3) (suffL g L)) = 3 * ((mdOf g hs).length : Int) := by
  have hl : L.length ≤ 6 := by rw [hp.length_eq]; exact h6
  have hlen : L.length = pl.length := by rw [hp.length_eq, hpl.length_eq, List.length_range]
  obtain ⟨a, r, hq, ha, _, hm, _⟩ := md_at hok hp hsd hl hz
  have hc : ∀ s, costS pl (List.replicate hs.length 3) s = 3 * ((devL L s).length : Int) := fun s => by
    unfold costS devL
    rw [costS_three hpl hlen s _ (Nat.le_refl _), hlen]
  have hsrt := suffL_sorted g (L := L) (by omega)
  have hlt := suffL_lt (g := g) (L := L)
  rw [hq] at hsrt hlt
  have e : chL pl (List.replicate hs.length 3) (suffL g L) = a := by
    rw [hq]
    refine fold_keep r fun s hs' => ?_
    rw [hc, hc, devL_len hl ha, devL_len hl (hlt s (by simp [hs']))]
    have := keyS_pop (Int.le_of_lt ((List.pairwise_cons.1 hsrt).1 s hs'))
    omega
  rw [e, hc, hm]
  exact ⟨rfl, rfl⟩

theorem grd_suff {L : List Hd} (hok : Ok g hs) (hp : L.Perm hs) (hsd : (L.map Hd.dev).Pairwise (· < ·)) (hall : sufB g L (2 ^ L.length - 1) = true) : ∀ f set, set < 2 ^ L.length → unset set L.length ≤ f → sumR g hs (devL L set ++ grd g L f set) = 0
  | 0, set, hset, hu => by
    have e := unset_zero (by omega) hset
    unfold grd
    rw [List.append_nil, sumR_devL hok hp hsd hset, e]
    exact of_decide_eq_true hall
  | f + 1, set, hset, hu => by
    unfold grd
    by_cases hq : sufB g L set = true
    · rw [if_pos hq, List.append_nil, sumR_devL hok hp hsd hset]
      exact of_decide_eq_true hq
    · rw [if_neg hq]
      rcases pickG_spec g L set L.length with ⟨_, h2⟩ | ⟨i, hi, h2, h3⟩
      · exact absurd (by rw [unset_zero h2 hset]; exact hall) hq
      · rw [h2]
        have hor := unset_or hi h3
        have hlt : set ||| 2 ^ i < 2 ^ L.length := Nat.or_lt_two_pow hset (Nat.pow_lt_pow_right (by omega) hi)
        have ih := grd_suff hok hp hsd hall f (set ||| 2 ^ i) hlt (by omega)
        rw [← sumR_same hok (devs := devL L (set ||| 2 ^ i) ++ grd g L f (set ||| 2 ^ i)) (fun x => ?_)] at ih
        · exact ih
        · have hm : x ∈ devL L (set ||| 2 ^ i) ↔ x ∈ devL L set ∨ x ∈ devL L (2 ^ i) := by
            unfold devL
            rw [devTo_mem, devTo_mem, devTo_mem]
            constructor
            · rintro ⟨j, a, b, c⟩
              rw [Nat.testBit_or, Bool.or_eq_true] at b
              rcases b with b | b
              · exact .inl ⟨j, a, b, c⟩
              · exact .inr ⟨j, a, b, c⟩
            · rintro (⟨j, a, b, c⟩ | ⟨j, a, b, c⟩)
              · exact ⟨j, a, by rw [Nat.testBit_or, b]; rfl, c⟩
              · exact ⟨j, a, by rw [Nat.testBit_or, b, Bool.or_true], c⟩
          rw [List.mem_append, List.mem_append, List.mem_append, hm, or_assoc]
theorem greedy_suff {L : List Hd} (hok : Ok g hs) (hp : L.Perm hs) (hsd : (L.map Hd.dev).Pairwise (· < ·)) (hall : sufB g L (2 ^ L.length - 1) = true) : sumR g hs (greedyL g L) = 0 := by
  have h := grd_suff hok hp hsd hall L.length 0 Nat.one_le_two_pow (by
    unfold unset
    have := List.countP_le_length (p := fun i => !(0 : Nat).testBit i) (l := List.range L.length)
    rw [List.length_range] at this
    exact this)
  have e : devL L 0 = [] := by
    have : ∀ n, devTo L 0 n = [] := by
      intro n
      induction n with
      | zero => rfl
      | succ n ih =>
        have hst : devTo L 0 (n + 1) = devTo L 0 n ++ if 0 / 2 ^ n % 2 = 1 then [(L.getD n default).dev] else [] := rfl
        rw [hst, ih, Nat.zero_div]
        simp
    exact this _
  rw [e, List.nil_append] at h
  exact h
end

end Go.Proofs.Ytapjgjjmlbhanaa
