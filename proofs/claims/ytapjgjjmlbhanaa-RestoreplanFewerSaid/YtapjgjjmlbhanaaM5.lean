/- Minimal: the reference's answer is the code's. -/
import Derived.Test.YtapjgjjmlbhanaaM1
import Derived.Test.YtapjgjjmlbhanaaK1
import Derived.Test.YtapjgjjmlbhanaaH5
namespace Go.Proofs.Ytapjgjjmlbhanaa
open Go.RowKit Go.Lib
set_option linter.unusedSimpArgs false

/-- The sets of n of m holdings from the i-th on, as bits, in order. -/
def setsB : Nat → Nat → Nat → List Nat
  | _, _, 0 => [0]
  | _, 0, _ + 1 => []
  | i, m + 1, n + 1 => (setsB (i + 1) m n).map (2 ^ i + ·) ++ setsB (i + 1) m (n + 1)
def allBTo (m : Nat) : Nat → List Nat
  | 0 => []
  | n + 1 => allBTo m n ++ setsB 0 m n
/-- All sets of m holdings, in order. -/
def allB (m : Nat) : List Nat := allBTo m (m + 1)

theorem allB_ok : ∀ m : Fin 7, (allB m.val).Pairwise (fun a b => keyS a < keyS b) ∧ (allB m.val).isPerm (List.range (2 ^ m.val)) = true := by decide +kernel
theorem allB_sorted {m : Nat} (h : m ≤ 6) : (allB m).Pairwise (fun a b => keyS a < keyS b) := (allB_ok ⟨m, by omega⟩).1
theorem allB_perm {m : Nat} (h : m ≤ 6) : (allB m).Perm (List.range (2 ^ m)) := List.isPerm_iff.1 (allB_ok ⟨m, by omega⟩).2

set_option maxRecDepth 100000 in
theorem allL_eq : ∀ (L : List Hd), L.length ≤ 6 → allL (L.map Hd.dev) = (allB L.length).map (devL L)
  | [], _ => by kernel_rfl
  | [_], _ => by kernel_rfl
  | [_, _], _ => by kernel_rfl
  | [_, _, _], _ => by kernel_rfl
  | [_, _, _, _], _ => by kernel_rfl
  | [_, _, _, _, _], _ => by kernel_rfl
  | [_, _, _, _, _, _], _ => by kernel_rfl
  | _ :: _ :: _ :: _ :: _ :: _ :: _ :: _, h => by simp only [List.length_cons] at h; omega

/-- The sets with one device less. -/
def lessB (n a : Nat) : List Nat := ((List.range n).filter fun i => decide (a / 2 ^ i % 2 = 1)).map fun i => a - 2 ^ i
set_option maxRecDepth 100000 in
theorem without_eq : ∀ (L : List Hd), L.length ≤ 6 → (List.range (2 ^ L.length)).map (fun a => (List.range (devL L a).length).map (withoutL (devL L a))) = (List.range (2 ^ L.length)).map (fun a => (lessB L.length a).map (devL L))
  | [], _ => by kernel_rfl
  | [_], _ => by kernel_rfl
  | [_, _], _ => by kernel_rfl
  | [_, _, _], _ => by kernel_rfl
  | [_, _, _, _], _ => by kernel_rfl
  | [_, _, _, _, _], _ => by kernel_rfl
  | [_, _, _, _, _, _], _ => by kernel_rfl
  | _ :: _ :: _ :: _ :: _ :: _ :: _ :: _, h => by simp only [List.length_cons] at h; omega
theorem without_at {L : List Hd} (h : L.length ≤ 6) {a : Nat} (ha : a < 2 ^ L.length) : (List.range (devL L a).length).map (withoutL (devL L a)) = (lessB L.length a).map (devL L) := by
  have := congrArg (fun l => l[a]?) (without_eq L h)
  simp only [List.getElem?_map, List.getElem?_range ha, Option.map_some, Option.some.injEq] at this
  exact this

theorem devTo_mem (L : List Hd) (set : Nat) (x : Int) : ∀ n, x ∈ devTo L set n ↔ ∃ i, i < n ∧ set.testBit i = true ∧ (L.getD i default).dev = x
  | 0 => by simp [devTo]
  | n + 1 => by
    have ih := devTo_mem L set x n
    have hst : devTo L set (n + 1) = devTo L set n ++ if set / 2 ^ n % 2 = 1 then [(L.getD n default).dev] else [] := rfl
    rw [hst, List.mem_append, ih]
    constructor
    · rintro (⟨i, h1, h2, h3⟩ | h)
      · exact ⟨i, by omega, h2, h3⟩
      · split at h
        · rename_i hb
          exact ⟨n, by omega, (bit_test set n).1 hb, (List.mem_singleton.1 h).symm⟩
        · simp at h
    · rintro ⟨i, h1, h2, h3⟩
      by_cases e : i = n
      · subst e
        right
        rw [if_pos ((bit_test set i).2 h2), h3]
        simp
      · exact .inl ⟨i, by omega, h2, h3⟩
theorem dev_inj {L : List Hd} (hsd : (L.map Hd.dev).Pairwise (· < ·)) {i j : Nat} (hi : i < L.length) (hj : j < L.length) (h : (L.getD i default).dev = (L.getD j default).dev) : i = j := by
  rw [getD_at _ _ _ hi, getD_at _ _ _ hj] at h
  rw [List.pairwise_iff_getElem] at hsd
  have e : ∀ k (hk : k < L.length), (L.map Hd.dev)[k]'(by rw [List.length_map]; exact hk) = L[k].dev := fun k hk => by rw [List.getElem_map]
  rcases Nat.lt_trichotomy i j with hl | hl | hl
  · have := hsd i j (by rw [List.length_map]; omega) (by rw [List.length_map]; omega) hl
    rw [e i hi, e j hj] at this
    omega
  · exact hl
  · have := hsd j i (by rw [List.length_map]; omega) (by rw [List.length_map]; omega) hl
    rw [e i hi, e j hj] at this
    omega
theorem setN_devL {L : List Hd} (hsd : (L.map Hd.dev).Pairwise (· < ·)) {a : Nat} (ha : a < 2 ^ L.length) : setN (devL L a) L L.length = a := by
  refine Nat.eq_of_testBit_eq fun m => ?_
  rw [setN_bit]
  by_cases hm : m < L.length
  · rw [Bool.eq_iff_iff, decide_eq_true_eq]
    unfold devL
    rw [devTo_mem]
    constructor
    · rintro ⟨_, i, h1, h2, h3⟩
      rw [← dev_inj hsd h1 hm h3]
      exact h2
    · intro h
      exact ⟨hm, m, hm, h, rfl⟩
  · rw [decide_eq_false (fun h => hm h.1)]
    exact (Nat.testBit_lt_two_pow (Nat.lt_of_lt_of_le ha (Nat.pow_le_pow_right (by omega) (by omega)))).symm
theorem sumR_devL {g : Gl} {hs L : List Hd} (hok : Ok g hs) (hp : L.Perm hs) (hsd : (L.map Hd.dev).Pairwise (· < ·)) {a : Nat} (ha : a < 2 ^ L.length) : sumR g hs (devL L a) = sumL g L a := by
  rw [← sumL_eq hok hp, setN_devL hsd ha]

theorem suffL_all {g : Gl} {L : List Hd} (h : L.length ≤ 6) : suffL g L = (allB L.length).filter (sufB g L) :=
  suffL_eq (by omega) ((allB_perm h).filter _) ((allB_sorted h).filter _)
theorem suffL_mem {g : Gl} {L : List Hd} (a : Nat) : a ∈ suffL g L ↔ a < 2 ^ L.length ∧ sufB g L a = true := by
  unfold suffL
  rw [(List.mergeSort_perm _ _).mem_iff]
  unfold sfTo
  rw [List.mem_filter, List.mem_range]

theorem isMinR_eq {g : Gl} {hs L : List Hd} (hok : Ok g hs) (hp : L.Perm hs) (hsd : (L.map Hd.dev).Pairwise (· < ·)) (h6 : L.length ≤ 6) {a : Nat} (ha : a < 2 ^ L.length) :
    isMinR g hs (devL L a) = (isMin L.length (suffL g L) a && sufB g L a) := by
  have h1 : decide (sumR g hs (devL L a) = 0) = sufB g L a := by rw [sumR_devL hok hp hsd ha]; rfl
  have h2 : needTo g hs (devL L a) (devL L a).length = isMin L.length (suffL g L) a := by
    have e1 : needTo g hs (devL L a) (devL L a).length = ((List.range (devL L a).length).map (withoutL (devL L a))).all fun x => decide (0 < sumR g hs x) := by
      unfold needTo
      rw [List.all_map]
      rfl
    rw [e1, without_at h6 ha]
    unfold lessB isMin
    rw [List.map_map, List.all_map, List.all_filter]
    congr 1
    funext i
    unfold canLeave keyI
    simp only [Function.comp]
    by_cases hb : a / 2 ^ i % 2 = 1
    · rw [if_pos hb, decide_eq_true hb]
      have hlt : a - 2 ^ i < 2 ^ L.length := Nat.lt_of_le_of_lt (Nat.sub_le _ _) ha
      show (!true || decide (0 < sumR g hs (devL L (a - 2 ^ i)))) = _
      simp only [sumR_devL hok hp hsd hlt]
      have hnn := (sumR_bd hok (devL L (a - 2 ^ i))).1
      rw [sumR_devL hok hp hsd hlt] at hnn
      rw [show decide (a - 2 ^ i ∈ suffL g L) = sufB g L (a - 2 ^ i) by
        rw [Bool.eq_iff_iff, decide_eq_true_eq, suffL_mem]
        exact ⟨fun h => h.2, fun h => ⟨hlt, h⟩⟩]
      unfold sufB
      rw [Bool.eq_iff_iff]
      simp
      omega
    · rw [if_neg hb, decide_eq_false hb]
      simp
  unfold isMinR
  rw [h1, h2, Bool.and_comm]
theorem minR_eq {g : Gl} {hs L : List Hd} (hok : Ok g hs) (hp : L.Perm hs) (hsd : (L.map Hd.dev).Pairwise (· < ·)) (h6 : L.length ≤ 6) : minR g hs = (minL g L).map (devL L) := by
  unfold minR minL
  rw [devsOf_eq hok.2.2.2 hp hsd, allL_eq L h6, List.filter_map]
  congr 1
  rw [show (suffL g L).filter (isMin L.length (suffL g L)) = ((allB L.length).filter (sufB g L)).filter (isMin L.length (suffL g L)) by rw [← suffL_all h6], List.filter_filter]
  refine List.filter_congr fun a ha => ?_
  have := List.mem_range.1 ((allB_perm h6).mem_iff.1 ha)
  exact isMinR_eq hok hp hsd h6 this

/-- The first of the sets that suffice is the first minimal one. -/
theorem minL_head {g : Gl} {L : List Hd} (h6 : L.length ≤ 6) {a : Nat} {r : List Nat} (h : suffL g L = a :: r) : ∃ t, minL g L = a :: t := by
  have hs := suffL_sorted g (L := L) (by omega)
  have hall := suffL_lt (g := g) (L := L)
  unfold minL
  rw [h] at hs hall
  have ha := hall a (by simp)
  have hm : isMin L.length (a :: r) a = true := by
    unfold isMin
    rw [List.all_eq_true]
    intro i hi
    rw [List.mem_range] at hi
    unfold canLeave
    by_cases hb : a / 2 ^ i % 2 = 1
    · rw [decide_eq_true hb, Bool.true_and, Bool.not_eq_true', decide_eq_false_iff_not]
      unfold keyI
      rw [if_pos hb]
      have hk : ∀ (a : Fin 64) (i : Fin 6), a.val / 2 ^ i.val % 2 = 1 → keyS (a.val - 2 ^ i.val) < keyS a.val ∧ a.val - 2 ^ i.val ≠ a.val := by decide +kernel
      have hp6 : 2 ^ L.length ≤ 2 ^ 6 := Nat.pow_le_pow_right (by omega) h6
      obtain ⟨k1, k2⟩ := hk ⟨a, by omega⟩ ⟨i, by omega⟩ hb
      simp only at k1 k2
      intro hmem
      rcases List.mem_cons.1 hmem with e | hmem
      · exact k2 e
      · have := (List.pairwise_cons.1 hs).1 _ hmem
        omega
    · rw [decide_eq_false hb]; rfl
  rw [h, List.filter_cons, hm, if_pos rfl]
  exact ⟨_, rfl⟩

end Go.Proofs.Ytapjgjjmlbhanaa

/- Fewest and Minimal, all answers. -/
namespace Go.Proofs.Ytapjgjjmlbhanaa
open Go.RowKit Go.Lib
set_option linter.unusedSimpArgs false

set_option maxRecDepth 100000 in
set_option maxHeartbeats 2000000 in
theorem minimal_bad (g : Gl) (v : Value) (hs : List Hd) (w : World) (hg : GlAt w g) (hv : ReadsH w v hs) (hok : ¬ Ok g hs) :
    Calls Try.prog 26 #[g.v, v] w fun e w' => e = .returned (.tuple #[.slice none 0 0, .int .i64 1]) ∧ Below w.heap.size w w' := by
  have cc := fun W h1 h2 => read_bad g v hs W h1 h2 hok
  obtain ⟨na, n1, nc, pa, n2, pc, sa, n3, sc, e1⟩ := hg.val
  obtain ⟨ao, n4, c4, rfl⟩ := hv.val
  rw [e1] at cc ⊢
  have CC := Lib.hid cc
  have HG := Lib.hid hg
  have HV := Lib.hid hv
  clear hg hv hok cc e1
  go_enter Try.func26, Try.ntmps26
  go_wp2_with fail
  go_step3
  go_wp2_with fail
  refine (CC.out _ (HG.out.below (by (repeat' (first | (with_reducible exact Below.refl _ _) | (with_reducible assumption) | (with_reducible refine Below.alloc ?_ ?_ _) | (with_reducible refine Below.drew ?_) | (with_reducible refine below_drewN ?_ _) | (with_reducible refine Below.setCell ?_ ?_ _) | (with_reducible refine below_step ?_ (by with_reducible assumption) ?_) | go_size)))) (HV.out.below (by (repeat' (first | (with_reducible exact Below.refl _ _) | (with_reducible assumption) | (with_reducible refine Below.alloc ?_ ?_ _) | (with_reducible refine Below.drew ?_) | (with_reducible refine below_drewN ?_ _) | (with_reducible refine Below.setCell ?_ ?_ _) | (with_reducible refine below_step ?_ (by with_reducible assumption) ?_) | go_size))))).mono ?_
  rintro e w1 ⟨rfl, hb⟩
  go_wp2
  rw [Exit.noGoto_ret]
  go_ret2
  exact ⟨rfl, by (repeat' (first | (with_reducible exact Below.refl _ _) | (with_reducible assumption) | (with_reducible refine Below.alloc ?_ ?_ _) | (with_reducible refine Below.drew ?_) | (with_reducible refine below_drewN ?_ _) | (with_reducible refine Below.setCell ?_ ?_ _) | (with_reducible refine below_step ?_ (by with_reducible assumption) ?_) | go_size))⟩

theorem devL_sub {hs L : List Hd} (hok : HdsOk hs) (hp : L.Perm hs) (hsd : (L.map Hd.dev).Pairwise (· < ·)) (a : Nat) : ∀ x ∈ devL L a, x ∈ devsOf hs := by
  intro x hx
  unfold devL at hx
  rw [devTo_mem] at hx
  obtain ⟨i, hi, _, rfl⟩ := hx
  rw [devsOf_eq hok hp hsd, getD_at _ _ _ hi]
  exact List.mem_map_of_mem (List.getElem_mem hi)
theorem suff_some {g : Gl} {hs L : List Hd} (hok : Ok g hs) (hp : L.Perm hs) (hsd : (L.map Hd.dev).Pairwise (· < ·)) : suffL g L = [] ↔ sufE g hs ≠ 0 := by
  rw [sufE_short hok hp hsd]
  constructor
  · intro h
    rw [if_neg]
    · decide
    · intro hall
      have : 2 ^ L.length - 1 ∈ suffL g L := (suffL_mem _).2 ⟨by have := Nat.one_le_two_pow (n := L.length); omega, hall⟩
      rw [h] at this
      simp at this
  · intro h
    cases hq : suffL g L with
    | nil => rfl
    | cons a r =>
      exfalso
      apply h
      rw [if_pos]
      obtain ⟨h1, h2⟩ := (suffL_mem (g := g) (L := L) a).1 (by rw [hq]; simp)
      rw [sufB_all hok hp hsd, decide_eq_true_eq]
      have e1 : sumR g hs (devL L a) = 0 := by
        rw [sumR_devL hok hp hsd h1]
        exact of_decide_eq_true h2
      have e2 := sumR_anti (g := g) (hs := hs) hok (devL_sub hok.2.2.2 hp hsd a)
      have e3 := (sumR_bd hok (devsOf hs)).1
      omega
/-- What Minimal answers. -/
def minOut (g : Gl) (hs : List Hd) : List (List Int) := if sufE g hs = 0 then minR g hs else []
theorem sufE_bad {g : Gl} {hs : List Hd} (hok : ¬ Ok g hs) : sufE g hs = 1 := by unfold sufE; rw [if_neg hok]

theorem fewest_two (g : Gl) (v : Value) (hs : List Hd) (w : World) (hg : GlAt w g) (hv : ReadsH w v hs) (h6 : Ok g hs → hs.length ≤ 6) :
    Calls Try.prog 20 #[g.v, v] w fun e w' => ∃ u, e = .returned (.tuple #[u, .int .i64 (sufE g hs)]) ∧ ReadsI w' u ((minOut g hs).headD []) ∧ Below w.heap.size w w' := by
  by_cases hok : Ok g hs
  · refine (fewest_ok g v hs w hg hv hok).mono ?_
    rintro e w' ⟨L, hp, hsd, ⟨h1, rfl, hb⟩ | ⟨a, r, u, h1, rfl, hr, hb⟩⟩
    · have hl : L.length ≤ 6 := by rw [hp.length_eq]; exact h6 hok
      have hne := (suff_some hok hp hsd).1 h1
      have he : sufE g hs = 10 := by
        have := sufE_short hok hp hsd
        split at this
        · exact absurd this hne
        · exact this
      refine ⟨_, by rw [he], ?_, hb⟩
      unfold minOut
      rw [if_neg hne]
      exact (OwnI.nil w' 0).reads (by simp)
    · have hl : L.length ≤ 6 := by rw [hp.length_eq]; exact h6 hok
      have he : sufE g hs = 0 := by
        refine Decidable.byContradiction fun hne => ?_
        have := (suff_some hok hp hsd).2 hne
        rw [h1] at this
        simp at this
      refine ⟨_, by rw [he], ?_, hb⟩
      unfold minOut
      rw [if_pos he, minR_eq hok hp hsd hl]
      obtain ⟨t, ht⟩ := minL_head hl h1
      rw [ht]
      exact hr
  · refine (fewest_bad g v hs w hg hv hok).mono ?_
    rintro e w' ⟨rfl, hb⟩
    refine ⟨_, by rw [sufE_bad hok], ?_, hb⟩
    unfold minOut
    rw [if_neg (by rw [sufE_bad hok]; decide)]
    exact (OwnI.nil w' 0).reads (by simp)
theorem minimal_two (g : Gl) (v : Value) (hs : List Hd) (w : World) (hg : GlAt w g) (hv : ReadsH w v hs) (h6 : Ok g hs → hs.length ≤ 6) :
    Calls Try.prog 26 #[g.v, v] w fun e w' => ∃ u, e = .returned (.tuple #[u, .int .i64 (sufE g hs)]) ∧ ReadsLL w' u (minOut g hs) ∧ (sufE g hs = 0 → minOut g hs ≠ []) ∧ Below w.heap.size w w' := by
  by_cases hok : Ok g hs
  · refine (minimal_ok g v hs w hg hv hok (h6 hok)).mono ?_
    rintro e w' ⟨L, hp, hsd, ⟨h1, rfl, hb⟩ | ⟨h1, u, rfl, hr, hb⟩⟩
    · have hne := (suff_some hok hp hsd).1 h1
      have he : sufE g hs = 10 := by
        have := sufE_short hok hp hsd
        split at this
        · exact absurd this hne
        · exact this
      refine ⟨_, by rw [he], ?_, fun h => absurd h hne, hb⟩
      unfold minOut
      rw [if_neg hne]
      exact (OwnLL.nil w' 0).reads (by simp) (by simp)
    · have hl : L.length ≤ 6 := by rw [hp.length_eq]; exact h6 hok
      have he : sufE g hs = 0 := by
        refine Decidable.byContradiction fun hne => h1 ((suff_some hok hp hsd).2 hne)
      have hm : minOut g hs = (minL g L).map (devL L) := by
        unfold minOut
        rw [if_pos he, minR_eq hok hp hsd hl]
      refine ⟨_, by rw [he], by rw [hm]; exact hr, fun _ => ?_, hb⟩
      rw [hm]
      cases hq : suffL g L with
      | nil => exact absurd hq h1
      | cons a r =>
        obtain ⟨t, ht⟩ := minL_head hl hq
        rw [ht]
        simp
  · refine (minimal_bad g v hs w hg hv hok).mono ?_
    rintro e w' ⟨rfl, hb⟩
    have hne : sufE g hs ≠ 0 := by rw [sufE_bad hok]; decide
    refine ⟨_, by rw [sufE_bad hok], ?_, fun h => absurd h hne, hb⟩
    unfold minOut
    rw [if_neg hne]
    exact (OwnLL.nil w' 0).reads (by simp) (by simp)

end Go.Proofs.Ytapjgjjmlbhanaa
