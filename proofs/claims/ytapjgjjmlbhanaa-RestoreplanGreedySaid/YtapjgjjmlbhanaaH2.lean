/- sufficient: all sets that suffice, in order. -/
import Derived.Test.YtapjgjjmlbhanaaH1
import Derived.Test.YtapjgjjmlbhanaaG2
import Derived.Test.YtapjgjjmlbhanaaS2
namespace Go.Proofs.Ytapjgjjmlbhanaa
open Go.RowKit Go.Lib Go.Sort

def leK (a b : Nat) : Bool := decide (keyS a ≤ keyS b)
/-- The first n sets that suffice. -/
def sfTo (g : Gl) (L : List Hd) (n : Nat) : List Nat := (List.range n).filter (sufB g L)
/-- All sets that suffice, in order. -/
def suffL (g : Gl) (L : List Hd) : List Nat := (sfTo g L (2 ^ L.length)).mergeSort leK
theorem sfTo_succ (g : Gl) (L : List Hd) (n : Nat) : sfTo g L (n + 1) = sfTo g L n ++ if sufB g L n = true then [n] else [] := by
  unfold sfTo
  rw [List.range_succ, List.filter_append, List.filter_cons, List.filter_nil]
theorem sfTo_lt {g : Gl} {L : List Hd} {n : Nat} : ∀ a ∈ sfTo g L n, a < n := fun _ ha => List.mem_range.1 (List.mem_filter.1 ha).1
theorem sfTo_len (g : Gl) (L : List Hd) (n : Nat) : (sfTo g L n).length ≤ n := by
  have := List.length_filter_le (sufB g L) (List.range n)
  rw [List.length_range] at this
  exact this

theorem grown_below3 {B : Nat} {row : Option Nat} {a w w' : World} (h : Below B a w) (g : w.grownBy w' row) (hrow : ∀ k, row = some k → B ≤ k) (hB : B ≤ w.heap.size) : Below B a w' :=
  ⟨g.os.trans h.os, g.tape.trans h.tape, g.output.trans h.output, Nat.le_trans h.size g.size, fun i hi => by
    rw [g.block i (by omega) (by intro e; have := hrow i e.symm; omega)]; exact h.block i hi⟩

theorem sortSets_any (base : Nat) (u : Value) (W : World) (d : List Nat) (hd : ∀ a ∈ d, a < 4096) (hlen : d.length ≤ 4096) (hown : OwnI W base u (d.map fun a : Nat => (a : Int))) :
    Calls Try.prog 65 #[u, .func (.func 72) #[] #[]] W fun e w' => e = .returned (.tuple #[]) ∧ OwnI w' base u ((d.mergeSort leK).map fun a : Nat => (a : Int)) ∧ W.grownBy w' u.ownBlock := by
  obtain ⟨d', hd'⟩ : ∃ d' : List (Fin 4096), d'.map (·.val) = d := ⟨d.pmap (fun a h => ⟨a, h⟩) hd, by rw [List.map_pmap]; simp⟩
  have hl' : d'.length = d.length := by rw [← hd', List.length_map]
  have eg : ∀ args w, (callFunc 72 args).run Try.prog w = .ok (.enter 72 args) w := enters_of Try.func72 (by kernel_rfl) rfl
  have hown' : Own W base 3 u 1 d'.length (fun i _ => (fun x : Fin 4096 => Value.int .i64 (x.val : Nat)) (d'.getD i default)) := by
    have h := hown
    unfold OwnI at h
    rw [List.length_map, ← hl'] at h
    refine h.congr fun i j hi hj => ?_
    rw [getD_at _ _ _ (by rw [List.length_map, ← hl']; exact hi), getD_at _ _ _ hi, List.getElem_map]
    simp only [← hd', List.getElem_map]
  have := sort_own (fun x : Fin 4096 => Value.int .i64 (x.val : Nat)) (fun _ => rfl) (fun a b => cmpI (keyS a.val) (keyS b.val)) (swoKey fun x : Fin 4096 => keyS x.val) (fun x y h1 h2 => by
    rw [ltCmp (fun x : Fin 4096 => keyS x.val)] at h1 h2
    simp at h1 h2
    exact Fin.ext (keyS_inj x.2 y.2 (by omega))) 72 #[] eg d' (by omega) base u W hown' (fun W' _ x y => (compareS_any x.val y.val W' x.2 y.2).mono fun e w' ⟨h1, h2⟩ => ⟨h1, 0, h2.symm⟩)
  refine this.mono ?_
  rintro e w' ⟨rfl, h1, h2⟩
  have hm : (d'.mergeSort fun x y => !(ltOf fun a b : Fin 4096 => cmpI (keyS a.val) (keyS b.val)) y x).map (·.val) = d.mergeSort leK := by
    rw [← hd']
    refine List.map_mergeSort fun a _ b _ => ?_
    rw [ltCmp (fun x : Fin 4096 => keyS x.val)]
    unfold leK
    rw [Bool.eq_iff_iff]
    simp
  have hl2 : (d'.mergeSort fun x y => !(ltOf fun a b : Fin 4096 => cmpI (keyS a.val) (keyS b.val)) y x).length = d'.length := List.length_mergeSort ..
  rw [← hm]
  generalize (d'.mergeSort fun x y => !(ltOf fun a b : Fin 4096 => cmpI (keyS a.val) (keyS b.val)) y x) = ts at *
  refine ⟨rfl, ?_, h2⟩
  unfold OwnI
  rw [List.length_map, List.length_map, hl2]
  refine h1.congr fun i j hi hj => ?_
  rw [getD_at _ _ _ (by rw [hl2]; exact hi), getD_at _ _ _ (by rw [List.length_map, List.length_map, hl2]; exact hi), List.getElem_map, List.getElem_map]

set_option maxRecDepth 100000 in
set_option maxHeartbeats 4000000 in
theorem sufficient_plan {g : Gl} {hs : List Hd} {b : Nat} {x : PlanV} {pl : List Nat} {L : List Hd} {w : World} (hok : Ok g hs) (h : PlanOf g hs b x pl L w) :
    Calls Try.prog 50 #[.pointer (some ⟨b, 0, none⟩)] w fun e w' => ∃ v, e = .returned v ∧ OwnI w' w.heap.size v ((suffL g L).map fun a : Nat => (a : Int)) ∧ Below w.heap.size w w' := by
  have hl := h.len
  have h12 := hok.1.2.2
  have hl12 : L.length ≤ 12 := by omega
  have C53 := Lib.hid (all_plan hok h)
  have hp : 2 ^ L.length ≤ 2 ^ 12 := Nat.pow_le_pow_right (by omega) hl12
  rw [show (2 : Nat) ^ 12 = 4096 from rfl] at hp
  have hp0 : 1 ≤ 2 ^ L.length := Nat.one_le_two_pow
  have CS := Lib.hid (fun (w' : World) (hb : Below w.heap.size w w') (j : Nat) (hj : j < 4096) => suffices_plan (w := w') hok (h.below hb) j hj)
  obtain ⟨Q, hQ⟩ : ∃ Q, Q = suffL g L := ⟨_, rfl⟩
  have hQ2 := hQ
  unfold suffL at hQ2
  obtain ⟨N, hN⟩ : ∃ N, N = 2 ^ L.length - 1 := ⟨_, rfl⟩
  rw [← hN] at C53
  have hN1 : 2 ^ L.length = N + 1 := by omega
  rw [hN1] at hQ2
  rw [← hQ]
  have HQ := Lib.hid hQ2
  have hN4 : N < 4096 := by omega
  clear h hok hl h12 hl12 hp hp0 hQ hQ2 hN hN1
  go_enter Try.func50, Try.ntmps50
  go_wp2_with fail
  refine C53.out.mono ?_
  rintro e w' ⟨rfl, rfl⟩
  go_wp2
  go_loopw [2, 3, 7] (fun v2 _ v7 wr => ∃ j : Nat, j ≤ N + 1 ∧ v7 = .int .i64 j ∧ OwnI wr w.heap.size v2 ((sfTo g L j).map fun a : Nat => (a : Int)) ∧ Below w.heap.size w wr) (fun _ _ v7 _ => N + 1 - (intOf v7).toNat)
  case atStart => exact ⟨0, Nat.zero_le _, rfl, OwnI.nil _ _, Below.refl _ _⟩
  case round =>
    obtain ⟨j, hj, rfl, hown, hbel⟩ := hrel
    have zr := hbel.size
    have HO := Lib.hid hown
    clear hown
    by_cases hlt : j < N + 1
    · have hst := sfTo_succ g L j
      have hln := sfTo_len g L j
      have cs := CS.out wr hbel j (by omega)
      by_cases hq : sufB g L j = true
      · rw [hq] at cs
        rw [if_pos hq] at hst
        have HST := Lib.hid hst
        have CC := Lib.hid cs
        clear hst cs hq
        go_wp2_with fail
        refine CC.out.mono ?_
        rintro e w5 ⟨rfl, hb5⟩
        have z5 := hb5.size
        obtain ⟨v3, w3, r3, o1, o2, o3, o4⟩ := (HO.out.below hb5).append (j : Int) (by rw [List.length_map]; omega) (Nat.le_trans zr z5)
        have O1 := Lib.hid o1
        have hb05 := hbel.trans (hb5.mono zr)
        clear o1 o3
        go_wp2_with (at_builtin; refine wpList_append_run (by rfl) (.tmp 13) (.tmp 15) 24 (by rfl) _ (.slice (some ⟨w5.heap.size, 0, none⟩) 1 1) v3 w3 (by rfl) (by rfl) r3 ?_)
        go_roundw
        case rel => exact ⟨j + 1, by omega, by go_num, by rw [HST.out, List.map_append]; exact O1.out, hb05.trans o2⟩
        case measure => simp [intOf]; omega
      · have hq0 : sufB g L j = false := by simpa using hq
        rw [hq0] at cs
        rw [if_neg hq, List.append_nil] at hst
        have HST := Lib.hid hst
        have CC := Lib.hid cs
        clear hst cs hq hq0
        go_wp2_with fail
        refine CC.out.mono ?_
        rintro e w5 ⟨rfl, hb5⟩
        go_wp2_with fail
        go_roundw
        case rel => exact ⟨j + 1, by omega, by go_num, by rw [HST.out]; exact HO.out.below hb5, hbel.trans (hb5.mono zr)⟩
        case measure => simp [intOf]; omega
    · have hjl : j = N + 1 := by omega
      subst hjl
      have hln := sfTo_len g L (N + 1)
      have CT := Lib.hid (sortSets_any w.heap.size _ wr (sfTo g L (N + 1)) (fun a ha => by have := sfTo_lt a ha; omega) (by omega) HO.out)
      have hlt := HO.out.lt
      have HLT := Lib.hid hlt
      clear hlt hln
      go_wp2_with fail
      refine CT.out.mono ?_
      rintro e w6 ⟨rfl, ho, hg⟩
      have b6 := grown_below3 hbel hg (fun k hk => (HLT.out k hk).1) zr
      have HO6 := Lib.hid ho
      clear ho hg
      go_wp2
      go_ret
      exact ⟨_, rfl, by rw [HQ.out]; exact HO6.out, b6⟩

end Go.Proofs.Ytapjgjjmlbhanaa
