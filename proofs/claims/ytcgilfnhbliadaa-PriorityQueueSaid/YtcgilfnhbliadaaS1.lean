/- slices.SortFunc, laid at tasks; a row of the call's own, sorted. -/
import Derived.Shelf.SlSortCmp.NoneTotal
import Derived.Test.YtcgilfnhbliadaaB2
import Derived.Test.YtcgilfnhbliadaaP2
import Derived.Sort.OwnSortedInts
namespace Go.Proofs
open Go.Shelf
def Try.laysSort_ren : Go.Shelf.Ren := ⟨fun | 6 => 51 | 15 => 57 | 14 => 56 | 28 => 66 | 29 => 67 | 20 => 58 | 21 => 59 | 22 => 60 | 23 => 61 | 24 => 62 | 25 => 63 | 26 => 64 | 27 => 65 | 46 => 68 | 47 => 69 | 48 => 70 | 49 => 71 | 50 => 72 | 57 => 73 | n => n, fun | 22 => 36 | 24 => 27 | 25 => 30 | 3 => 3 | 39 => 96 | 0 => 0 | 53 => 106 | 55 => 108 | 4 => 4 | 46 => 99 | 45 => 98 | 50 => 103 | 5 => 5 | 9 => 9 | 66 => 109 | 70 => 113 | 76 => 115 | 77 => 116 | n => n, fun | n => n⟩
theorem Try.laysSort : Go.Proofs.SlLaysF0.n6 Try.prog Try.laysSort_ren := {
  mixed := by kernel_rfl
  f6 := ⟨Try.f51.name, by decide, Try.func51.trans (congrArg some (by kernel_rfl))⟩
  f14 := ⟨Try.f56.name, by decide, Try.func56.trans (congrArg some (by kernel_rfl))⟩
  f15 := Try.func57.trans (congrArg some (by kernel_rfl))
  f20 := ⟨Try.f58.name, by decide, Try.func58.trans (congrArg some (by kernel_rfl))⟩
  f21 := ⟨Try.f59.name, by decide, Try.func59.trans (congrArg some (by kernel_rfl))⟩
  f22 := ⟨Try.f60.name, by decide, Try.func60.trans (congrArg some (by kernel_rfl))⟩
  f23 := ⟨Try.f61.name, by decide, Try.func61.trans (congrArg some (by kernel_rfl))⟩
  f24 := ⟨Try.f62.name, by decide, Try.func62.trans (congrArg some (by kernel_rfl))⟩
  f25 := ⟨Try.f63.name, by decide, Try.func63.trans (congrArg some (by kernel_rfl))⟩
  f26 := ⟨Try.f64.name, by decide, Try.func64.trans (congrArg some (by kernel_rfl))⟩
  f27 := ⟨Try.f65.name, by decide, Try.func65.trans (congrArg some (by kernel_rfl))⟩
  f28 := Try.func66.trans (congrArg some (by kernel_rfl))
  f29 := Try.func67.trans (congrArg some (by kernel_rfl))
  f46 := ⟨Try.f68.name, by decide, Try.func68.trans (congrArg some (by kernel_rfl))⟩
  f47 := Try.func69.trans (congrArg some (by kernel_rfl))
  f48 := Try.func70.trans (congrArg some (by kernel_rfl))
  f49 := ⟨Try.f71.name, by decide, Try.func71.trans (congrArg some (by kernel_rfl))⟩
  f50 := ⟨Try.f72.name, by decide, Try.func72.trans (congrArg some (by kernel_rfl))⟩
  f57 := ⟨Try.f73.name, by decide, Try.func73.trans (congrArg some (by kernel_rfl))⟩
  t0 := Try.underlying0
  a0 := Try.isAgg0
  z0 := Try.sizeOf0
  v0 := Try.zeroValue0
  t3 := Try.underlying3
  a3 := Try.isAgg3
  z3 := Try.sizeOf3
  v3 := Try.zeroValue3
  t4 := Try.underlying4
  a4 := Try.isAgg4
  z4 := Try.sizeOf4
  v4 := Try.zeroValue4
  t5 := Try.underlying5
  a5 := Try.isAgg5
  z5 := Try.sizeOf5
  v5 := Try.zeroValue5
  t9 := Try.underlying9
  a9 := Try.isAgg9
  z9 := Try.sizeOf9
  v9 := Try.zeroValue9
  t22 := Try.underlying36
  a22 := Try.isAgg36
  z22 := Try.sizeOf36
  v22 := Try.zeroValue36
  t25 := Try.underlying30
  a25 := Try.isAgg30
  z25 := Try.sizeOf30
  v25 := Try.zeroValue30
  t39 := Try.underlying96
  a39 := Try.isAgg96
  z39 := Try.sizeOf96
  v39 := Try.zeroValue96
  t45 := Try.underlying98
  a45 := Try.isAgg98
  z45 := Try.sizeOf98
  v45 := Try.zeroValue98
  t46 := Try.underlying99
  a46 := Try.isAgg99
  z46 := Try.sizeOf99
  v46 := Try.zeroValue99
  t50 := Try.underlying103
  a50 := Try.isAgg103
  z50 := Try.sizeOf103
  v50 := Try.zeroValue103
  t53 := Try.underlying106
  a53 := Try.isAgg106
  z53 := Try.sizeOf106
  v53 := Try.zeroValue106
  t55 := Try.underlying108
  a55 := Try.isAgg108
  z55 := Try.sizeOf108
  v55 := Try.zeroValue108
  t66 := Try.underlying109
  a66 := Try.isAgg109
  z66 := Try.sizeOf109
  v66 := Try.zeroValue109
  t70 := Try.underlying113
  a70 := Try.isAgg113
  z70 := Try.sizeOf113
  v70 := Try.zeroValue113
  t76 := Try.underlying115
  a76 := Try.isAgg115
  z76 := Try.sizeOf115
  v76 := Try.zeroValue115
  t77 := Try.underlying116
  a77 := Try.isAgg116
  z77 := Try.sizeOf116
  v77 := Try.zeroValue116 }
end Go.Proofs

namespace Go.Proofs.Ytcgilfnhbliadaa
open Go.RowKit Go.Lib Go.Sort
set_option linter.unusedSimpArgs false

/-- A valid task's cells. -/
abbrev TV : Type := { t : Tk // TOk t }
def tv0 : TV := ⟨⟨⟨#[0, 0, 0, 0, 0, 0, 0, 0, 0, 0, 0, 0, 0, 0, 0, 0, 0, 0, 0, 0, 0, 0, 0, 0, 0, 0, 0, 0, 0, 0, 0, 0]⟩, 0, 0, 0, 1, 1, 0⟩, by decide +kernel⟩
instance : Inhabited TV := ⟨tv0⟩
def encT (x : TV) : List Value := [.string x.1.st, .int .i64 x.1.ix, .int .i64 x.1.size, .int .i64 x.1.spare, .int .i64 x.1.num, .int .i64 x.1.den, .int .i64 x.1.day]
def cfT (x y : TV) : Int := cmpT x.1 y.1
theorem encT_agg (x : TV) : Value.agg (encT x).toArray = x.1.v := rfl
theorem encT_cell (x : TV) (ts : List Tk) (i j : Nat) (h : ts.getD i default = x.1) (hj : j < 7) : (encT x)[j]! = tkCell ts i j := by
  unfold tkCell encT
  rw [h]
  rcases (show j = 0 ∨ j = 1 ∨ j = 2 ∨ j = 3 ∨ j = 4 ∨ j = 5 ∨ j = 6 by omega) with rfl | rfl | rfl | rfl | rfl | rfl | rfl <;> rfl
theorem ltT (x y : TV) : ltOf cfT x y = decide (cmpT x.1 y.1 < 0) := rfl
theorem swoT : SWO (ltOf cfT) where
  irrefl x := by rw [ltT, cmpT_cm.self x.1]; rfl
  trans x y z h1 h2 := by
    rw [ltT] at *
    simp only [decide_eq_true_eq] at *
    exact cmpT_trans x.2 y.2 z.2 h1 h2
  ntrans x y z h1 h2 := by
    rw [ltT] at *
    simp only [decide_eq_false_iff_not] at *
    intro h
    rcases (total_plain z.2 y.2 x.2).2.2.2 with a | a | a | a
    · exact h2 (by have := (total_plain y.2 z.2 y.2).1; omega)
    · exact h1 (by have := (total_plain x.2 y.2 x.2).1; omega)
    · have := (total_plain x.2 z.2 x.2).1; omega
    · have := (total_plain x.2 z.2 x.2).1; omega
theorem totT (x y : TV) (h1 : ltOf cfT x y = false) (h2 : ltOf cfT y x = false) : x = y := by
  rw [ltT] at h1 h2
  simp only [decide_eq_false_iff_not] at h1 h2
  have := (total_plain x.2 y.2 x.2).1
  exact Subtype.ext (cmpT_eq x.2 y.2 (by omega))

/-- What is new behind the old blocks, and draws: a world grown. -/
theorem grow_of {w w' : World} (h : Below w.heap.size w w') (hd : w.drawn ≤ w'.drawn) : ∃ q os, w' = grow (w.drewN q) os := by
  refine ⟨w'.drawn - w.drawn, (w'.heap.toList.drop w.heap.size).toArray, ?_⟩
  have hheap : w'.heap = w.heap ++ (w'.heap.toList.drop w.heap.size).toArray := by
    apply Array.ext_getElem?
    intro i
    rw [Array.getElem?_append]
    by_cases hi : i < w.heap.size
    · rw [if_pos hi]; exact h.block i hi
    · rw [if_neg hi]
      simp only [List.getElem?_toArray, List.getElem?_drop]
      rw [show w.heap.size + (i - w.heap.size) = i by omega, Array.getElem?_toList]
  have hdr : w'.drawn = w.drawn + (w'.drawn - w.drawn) := by omega
  obtain ⟨hp, tp, dr, os, out⟩ := w'
  obtain ⟨hp0, tp0, dr0, os0, out0⟩ := w
  obtain ⟨h1, h2, h3, _, _⟩ := h
  simp only at h1 h2 h3 hheap hdr
  subst h1 h2 h3
  unfold grow World.drewN
  simp only
  rw [← hheap, ← hdr]
theorem cmpLaysT (blk off size : Nat) (w : World) : CmpLays Try.prog 14 #[] encT 7 cfT blk off size w := fun _ _ _ _ x y =>
  (compare_drawn x.1 y.1 _ x.2 y.2).mono fun _ _ ⟨he, hb, hd⟩ => ⟨he, grow_of hb hd⟩

theorem grown_refl (w : World) (r : Option Nat) : w.grownBy w r := ⟨rfl, rfl, rfl, Nat.le_refl _, fun _ _ _ => rfl⟩
theorem heap_sortedG {α : Type} [Inhabited α] (enc : α → Value) {w : World} {g n : Nat} {os : Array Obj} {cur : Array Value} {e : TypeId} {fr : Nat × Nat} (d : Array α) (hb : w.heap[g]? = some (.cells cur e fr)) :
    (grow (putRow enc (Sort.ahead w n) g 0 d) os).heap[g]? = some (.cells (putCells enc 0 d cur) e fr) := by
  have hg : g < w.heap.size := (Array.getElem?_eq_some_iff.1 hb).1
  rw [heap_grow_old _ _ (by simpa using hg)]
  simp [putRow, mapBlock, Sort.ahead, Array.getElem?_modify, hb, onCells]
theorem grownBy_sortedG {α : Type} [Inhabited α] (enc : α → Value) {w : World} {g n : Nat} {os : Array Obj} (d : Array α) : w.grownBy (grow (putRow enc (Sort.ahead w n) g 0 d) os) (some g) := by
  refine ⟨rfl, rfl, rfl, by simp, fun k hk hne => ?_⟩
  rw [heap_grow_old _ _ (by simpa using hk)]
  have : g ≠ k := fun e => hne (by rw [e])
  simp [putRow, mapBlock, Sort.ahead, Array.getElem?_modify, this]
theorem take_putCellsG (cur : Array Value) (ts : List Value) (h : ts.length ≤ cur.size) : (putCells id 0 ts.toArray cur).toList.take ts.length = ts := by
  apply List.ext_getElem?
  intro j
  by_cases hj : j < ts.length
  · rw [List.getElem?_take_of_lt hj, Array.getElem?_toList]
    simp [putCells, hj, show j < cur.size by omega]
  · rw [List.getElem?_take_eq_none (by omega), List.getElem?_eq_none (by omega)]
theorem flat_at (d : Array TV) (ts : List Tk) (hl : ts.length = d.size) (hv : ∀ i, i < ts.length → ts.getD i default = (d[i]!).1) (i j : Nat) (hi : i < ts.length) (hj : j < 7) : (flatK encT 7 d).toList[i * 7 + j]? = some (tkCell ts i j) := by
  have lt : i * 7 + j < d.size * 7 := by omega
  have g := get_flatK encT 7 d (i * 7 + j) lt
  have hs : i * 7 + j < (flatK encT 7 d).size := by rw [size_flatK]; exact lt
  rw [Array.getElem?_toList, Array.getElem?_eq_getElem hs]
  rw [getElem!_pos (flatK encT 7 d) (i * 7 + j) hs] at g
  rw [g, show (i * 7 + j) / 7 = i by omega, show (i * 7 + j) % 7 = j by omega, encT_cell _ ts i j (hv i hi) hj]

set_option maxHeartbeats 1000000 in
/-- A row of tasks of the call's own, sorted. -/
theorem sort_own (ts : List Tk) (hok : AllOk ts) (hn : ts.length < 4611686018427387904) (base : Nat) (u : Value) (W : World) (hown : OwnT 27 W base u ts) :
    Calls Try.prog 51 #[u, .func (.func 14) #[] #[]] W fun e w' => e = .returned (.tuple #[]) ∧ ∃ us : List Tk, us.Perm ts ∧ us.Pairwise (fun x y => ¬ cmpT y x < 0) ∧ OwnT 27 w' base u us ∧ W.grownBy w' u.ownBlock := by
  have h0 := hown
  obtain ⟨xs, ⟨hl, h2⟩, h3⟩ := h0
  by_cases hz : ts.length = 0
  · have hd0 : ts = [] := List.length_eq_zero_iff.1 hz
    subst hd0
    obtain ⟨a, c, rfl⟩ := hown.slice
    refine (AnyF.slices_SortFunc_none Try.laysSort a c (.func (.func 14) #[] #[]) W).mono ?_
    rintro e w' ⟨rfl, rfl⟩
    exact ⟨rfl, [], List.Perm.refl _, List.Pairwise.nil, hown, grown_refl _ _⟩
  · rcases h2 with ⟨_, h0⟩ | ⟨b, cap, cur, rfl, hb, hblk, hcap, hmax, hsz, htake⟩
    · exact absurd h0 hz
    · have hblt := (Array.getElem?_eq_some_iff.1 hblk).1
      obtain ⟨d, hd⟩ : ∃ d : Array TV, d = (ts.attach.map fun t => (⟨t.1, hok t.1 t.2⟩ : TV)).toArray := ⟨_, rfl⟩
      have hds : d.size = ts.length := by rw [hd, List.size_toArray, List.length_map, List.length_attach]
      have hdv : ∀ i, i < ts.length → ts.getD i default = (d[i]!).1 := fun i hi => by
        rw [getElem!_pos d i (by omega), getD_at _ _ _ hi]
        subst hd
        rw [List.getElem_toArray, List.getElem_map, List.getElem_attach]
      have hdl : d.toList.map (fun x : TV => x.1) = ts := by
        rw [hd]
        rw [List.map_map]
        exact List.attach_map_subtype_val ts
      have hH : HoldsK encT 7 W b 0 d := by
        intro c hc
        rw [size_flatK, hds] at hc
        have hx := h3 (c / 7) (c % 7) (by omega) (by omega)
        rw [show c / 7 * 7 + c % 7 = c by omega, ← htake, List.getElem?_take_of_lt (by omega), Array.getElem?_toList] at hx
        refine ⟨?_, ?_⟩
        · rw [Nat.zero_add, cell_of_row W b c _ _ _ hblk, hx]
          have hf := flat_at d ts hds.symm hdv (c / 7) (c % 7) (by omega) (by omega)
          rw [show c / 7 * 7 + c % 7 = c by omega, Array.getElem?_toList] at hf
          have hs : c < (flatK encT 7 d).size := by rw [size_flatK]; omega
          rw [Array.getElem?_eq_getElem hs] at hf
          rw [getElem!_pos (flatK encT 7 d) c hs]
          exact hf.symm
        · unfold World.frozen?
          simp [hblk]
      have eg : ∀ args w, (callFunc 14 args).run Try.prog w = .ok (.enter 14 args) w := enters_of Try.func14 (by kernel_rfl) rfl
      have hcon := AnyQ.slices_SortFunc_total Try.laysSort 7 Try.isAgg27 Try.sizeOf27 encT (fun _ => rfl) (fun x v hv => by
        simp [encT] at hv
        rcases hv with rfl | rfl | rfl | rfl | rfl | rfl | rfl <;> rfl) cfT swoT 14 #[] b 0 cap d W eg (cmpLaysT b 0 d.size W) hH hblt (by omega) totT
      rw [hds] at hcon
      refine Calls.mono hcon ?_
      rintro e w' ⟨rfl, n, os, rfl⟩
      have hperm := List.mergeSort_perm d.toList (fun x y => !(ltOf cfT) y x)
      have hsorted : (List.mergeSort d.toList (fun x y => !(ltOf cfT) y x)).Pairwise (fun x y => (!(ltOf cfT) y x) = true) := by
        refine List.pairwise_mergeSort (fun a b c h1 h2 => ?_) (fun a b => ?_) _
        · simp only [Bool.not_eq_true'] at *
          exact swoT.ntrans _ _ _ h2 h1
        · cases h : ltOf cfT b a with
          | false => rfl
          | true =>
            cases h' : ltOf cfT a b with
            | false => rfl
            | true => have := swoT.trans _ _ _ h h'; rw [swoT.irrefl] at this; cases this
      generalize (List.mergeSort d.toList (fun x y => !(ltOf cfT) y x)) = rs at *
      have hrl : rs.length = ts.length := by rw [hperm.length_eq, Array.length_toList, hds]
      obtain ⟨us, hus⟩ : ∃ us : List Tk, us = rs.map (fun x : TV => x.1) := ⟨_, rfl⟩
      have hul : us.length = ts.length := by rw [hus, List.length_map, hrl]
      have huv : ∀ i, i < us.length → us.getD i default = (rs.toArray[i]!).1 := fun i hi => by
        rw [getElem!_pos rs.toArray i (by simp; omega), getD_at _ _ _ hi]
        subst hus
        simp
      refine ⟨rfl, us, ?_, ?_, ?_, grownBy_sortedG id _⟩
      · rw [hus, ← hdl]; exact hperm.map _
      · rw [hus, List.pairwise_map]
        refine hsorted.imp fun {x y} h => ?_
        rw [ltT] at h
        simpa using h
      · have hfl : (flatK encT 7 rs.toArray).toList.length = us.length * 7 := by rw [Array.length_toList, size_flatK]; simp; omega
        refine ⟨(flatK encT 7 rs.toArray).toList, ⟨hfl, .inr ⟨b, cap, _, by rw [hul], hb, heap_sortedG id _ hblk, by omega, hmax, by simp [putCells, hsz], ?_⟩⟩, fun i j hi hj => ?_⟩
        · have hcl : us.length * 7 ≤ cur.size := by rw [hsz]; exact Nat.mul_le_mul_right 7 (by omega)
          have := take_putCellsG cur (flatK encT 7 rs.toArray).toList (by rw [hfl]; exact hcl)
          rw [hfl, Array.toArray_toList] at this
          exact this
        · exact flat_at rs.toArray us (by simp; omega) huv i j hi hj

end Go.Proofs.Ytcgilfnhbliadaa
