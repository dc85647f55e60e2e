/- Contracts of the library that are laid at this program by the kit's tool. -/
import Derived.Shelf.SlSortCmp.NoneTotal
import Derived.Test.YtapjgjjmlbhanaaProg
import Derived.Test.YtapjgjjmlbhanaaB6
import Derived.Test.YtapjgjjmlbhanaaD1
import Derived.Sort.OwnSortedInts
namespace Go.Proofs
open Go.Shelf
def Try.laysSlF6_f65_ren : Go.Shelf.Ren := ⟨fun | 6 => 65 | 15 => 77 | 14 => 76 | 28 => 88 | 29 => 89 | 20 => 80 | 21 => 81 | 22 => 82 | 23 => 83 | 24 => 84 | 25 => 85 | 26 => 86 | 27 => 87 | 46 => 91 | 47 => 92 | 48 => 93 | 49 => 94 | 50 => 95 | 57 => 96 | n => n, fun | 22 => 24 | 24 => 3 | 25 => 121 | 3 => 3 | 39 => 140 | 0 => 0 | 53 => 151 | 55 => 96 | 4 => 4 | 46 => 145 | 45 => 144 | 50 => 103 | 5 => 5 | 9 => 9 | 66 => 152 | 70 => 156 | 76 => 158 | 77 => 159 | n => n, fun | n => n⟩
theorem Try.laysSlF6_f65 : Go.Proofs.SlLaysF.n6 Try.prog Try.laysSlF6_f65_ren := {
  mixed := by kernel_rfl
  f6 := ⟨Try.f65.name, by decide, Try.func65.trans (congrArg some (by kernel_rfl))⟩
  f14 := ⟨Try.f76.name, by decide, Try.func76.trans (congrArg some (by kernel_rfl))⟩
  f15 := Try.func77.trans (congrArg some (by kernel_rfl))
  f20 := ⟨Try.f80.name, by decide, Try.func80.trans (congrArg some (by kernel_rfl))⟩
  f21 := ⟨Try.f81.name, by decide, Try.func81.trans (congrArg some (by kernel_rfl))⟩
  f22 := ⟨Try.f82.name, by decide, Try.func82.trans (congrArg some (by kernel_rfl))⟩
  f23 := ⟨Try.f83.name, by decide, Try.func83.trans (congrArg some (by kernel_rfl))⟩
  f24 := ⟨Try.f84.name, by decide, Try.func84.trans (congrArg some (by kernel_rfl))⟩
  f25 := ⟨Try.f85.name, by decide, Try.func85.trans (congrArg some (by kernel_rfl))⟩
  f26 := ⟨Try.f86.name, by decide, Try.func86.trans (congrArg some (by kernel_rfl))⟩
  f27 := ⟨Try.f87.name, by decide, Try.func87.trans (congrArg some (by kernel_rfl))⟩
  f28 := Try.func88.trans (congrArg some (by kernel_rfl))
  f29 := Try.func89.trans (congrArg some (by kernel_rfl))
  f46 := ⟨Try.f91.name, by decide, Try.func91.trans (congrArg some (by kernel_rfl))⟩
  f47 := Try.func92.trans (congrArg some (by kernel_rfl))
  f48 := Try.func93.trans (congrArg some (by kernel_rfl))
  f49 := ⟨Try.f94.name, by decide, Try.func94.trans (congrArg some (by kernel_rfl))⟩
  f50 := ⟨Try.f95.name, by decide, Try.func95.trans (congrArg some (by kernel_rfl))⟩
  f57 := ⟨Try.f96.name, by decide, Try.func96.trans (congrArg some (by kernel_rfl))⟩
  t0 := Try.underlying0
  a0 := Try.isAgg0
  z0 := Try.sizeOf0
  v0 := Try.zeroValue0
  t3 := Try.underlying3
  a3 := Try.isAgg3
  z3 := Try.sizeOf3
  v3 := Try.zeroValue3
  t4 := Try.underlying4
  a4 := Try.isAgg4
  z4 := Try.sizeOf4
  v4 := Try.zeroValue4
  t5 := Try.underlying5
  a5 := Try.isAgg5
  z5 := Try.sizeOf5
  v5 := Try.zeroValue5
  t9 := Try.underlying9
  a9 := Try.isAgg9
  z9 := Try.sizeOf9
  v9 := Try.zeroValue9
  t22 := Try.underlying24
  a22 := Try.isAgg24
  z22 := Try.sizeOf24
  v22 := Try.zeroValue24
  a24 := Try.isAgg3
  z24 := Try.sizeOf3
  t25 := Try.underlying121
  a25 := Try.isAgg121
  z25 := Try.sizeOf121
  v25 := Try.zeroValue121
  t39 := Try.underlying140
  a39 := Try.isAgg140
  z39 := Try.sizeOf140
  v39 := Try.zeroValue140
  t45 := Try.underlying144
  a45 := Try.isAgg144
  z45 := Try.sizeOf144
  v45 := Try.zeroValue144
  t46 := Try.underlying145
  a46 := Try.isAgg145
  z46 := Try.sizeOf145
  v46 := Try.zeroValue145
  t50 := Try.underlying103
  a50 := Try.isAgg103
  z50 := Try.sizeOf103
  v50 := Try.zeroValue103
  t53 := Try.underlying151
  a53 := Try.isAgg151
  z53 := Try.sizeOf151
  v53 := Try.zeroValue151
  t55 := Try.underlying96
  a55 := Try.isAgg96
  z55 := Try.sizeOf96
  v55 := Try.zeroValue96
  t66 := Try.underlying152
  a66 := Try.isAgg152
  z66 := Try.sizeOf152
  v66 := Try.zeroValue152
  t70 := Try.underlying156
  a70 := Try.isAgg156
  z70 := Try.sizeOf156
  v70 := Try.zeroValue156
  t76 := Try.underlying158
  a76 := Try.isAgg158
  z76 := Try.sizeOf158
  v76 := Try.zeroValue158
  t77 := Try.underlying159
  a77 := Try.isAgg159
  z77 := Try.sizeOf159
  v77 := Try.zeroValue159 }
open Go.RowKit Go.Lib Go.Sort in
theorem Try.slices_SortFunc_total {α : Type} [Inhabited α] (enc : α → Value) (h1 : OneCell enc) (cf : α → α → Int) (hO : SWO (ltOf cf)) (g : Nat) (cb : Array Value) (blk off cap : Nat) (d : Array α) (w : World) (eg : ∀ args w, (callFunc g args).run Try.prog w = .ok (.enter g args) w) (hcmp : CmpLays1 Try.prog g cb enc cf blk off d.size w) (hH : Holds enc w blk off d) (hblk : blk < w.heap.size) (hsz : d.size < 4611686018427387904) (hT : ∀ x y, (ltOf cf) x y = false → (ltOf cf) y x = false → x = y) :
    Calls Try.prog 65 #[.slice (some ⟨blk, off, none⟩) d.size cap, .func (.func g) #[] cb] w fun e w' =>
      e = .returned (.tuple #[]) ∧ ∃ n os, w' = sortWorld enc w blk off n (d.toList.mergeSort fun x y => !(ltOf cf) y x).toArray os := Any.slices_SortFunc_total Try.laysSlF6_f65 enc h1 cf hO g cb blk off cap d w eg hcmp hH hblk hsz hT
def Try.laysSlF06_f65_ren : Go.Shelf.Ren := ⟨fun | 6 => 65 | 15 => 77 | 14 => 76 | 28 => 88 | 29 => 89 | 20 => 80 | 21 => 81 | 22 => 82 | 23 => 83 | 24 => 84 | 25 => 85 | 26 => 86 | 27 => 87 | 46 => 91 | 47 => 92 | 48 => 93 | 49 => 94 | 50 => 95 | 57 => 96 | n => n, fun | 22 => 24 | 24 => 3 | 25 => 121 | 3 => 3 | 39 => 140 | 0 => 0 | 53 => 151 | 55 => 96 | 4 => 4 | 46 => 145 | 45 => 144 | 50 => 103 | 5 => 5 | 9 => 9 | 66 => 152 | 70 => 156 | 76 => 158 | 77 => 159 | n => n, fun | n => n⟩
theorem Try.laysSlF06_f65 : Go.Proofs.SlLaysF0.n6 Try.prog Try.laysSlF06_f65_ren := {
  mixed := by kernel_rfl
  f6 := ⟨Try.f65.name, by decide, Try.func65.trans (congrArg some (by kernel_rfl))⟩
  f14 := ⟨Try.f76.name, by decide, Try.func76.trans (congrArg some (by kernel_rfl))⟩
  f15 := Try.func77.trans (congrArg some (by kernel_rfl))
  f20 := ⟨Try.f80.name, by decide, Try.func80.trans (congrArg some (by kernel_rfl))⟩
  f21 := ⟨Try.f81.name, by decide, Try.func81.trans (congrArg some (by kernel_rfl))⟩
  f22 := ⟨Try.f82.name, by decide, Try.func82.trans (congrArg some (by kernel_rfl))⟩
  f23 := ⟨Try.f83.name, by decide, Try.func83.trans (congrArg some (by kernel_rfl))⟩
  f24 := ⟨Try.f84.name, by decide, Try.func84.trans (congrArg some (by kernel_rfl))⟩
  f25 := ⟨Try.f85.name, by decide, Try.func85.trans (congrArg some (by kernel_rfl))⟩
  f26 := ⟨Try.f86.name, by decide, Try.func86.trans (congrArg some (by kernel_rfl))⟩
  f27 := ⟨Try.f87.name, by decide, Try.func87.trans (congrArg some (by kernel_rfl))⟩
  f28 := Try.func88.trans (congrArg some (by kernel_rfl))
  f29 := Try.func89.trans (congrArg some (by kernel_rfl))
  f46 := ⟨Try.f91.name, by decide, Try.func91.trans (congrArg some (by kernel_rfl))⟩
  f47 := Try.func92.trans (congrArg some (by kernel_rfl))
  f48 := Try.func93.trans (congrArg some (by kernel_rfl))
  f49 := ⟨Try.f94.name, by decide, Try.func94.trans (congrArg some (by kernel_rfl))⟩
  f50 := ⟨Try.f95.name, by decide, Try.func95.trans (congrArg some (by kernel_rfl))⟩
  f57 := ⟨Try.f96.name, by decide, Try.func96.trans (congrArg some (by kernel_rfl))⟩
  t0 := Try.underlying0
  a0 := Try.isAgg0
  z0 := Try.sizeOf0
  v0 := Try.zeroValue0
  t3 := Try.underlying3
  a3 := Try.isAgg3
  z3 := Try.sizeOf3
  v3 := Try.zeroValue3
  t4 := Try.underlying4
  a4 := Try.isAgg4
  z4 := Try.sizeOf4
  v4 := Try.zeroValue4
  t5 := Try.underlying5
  a5 := Try.isAgg5
  z5 := Try.sizeOf5
  v5 := Try.zeroValue5
  t9 := Try.underlying9
  a9 := Try.isAgg9
  z9 := Try.sizeOf9
  v9 := Try.zeroValue9
  t22 := Try.underlying24
  a22 := Try.isAgg24
  z22 := Try.sizeOf24
  v22 := Try.zeroValue24
  t25 := Try.underlying121
  a25 := Try.isAgg121
  z25 := Try.sizeOf121
  v25 := Try.zeroValue121
  t39 := Try.underlying140
  a39 := Try.isAgg140
  z39 := Try.sizeOf140
  v39 := Try.zeroValue140
  t45 := Try.underlying144
  a45 := Try.isAgg144
  z45 := Try.sizeOf144
  v45 := Try.zeroValue144
  t46 := Try.underlying145
  a46 := Try.isAgg145
  z46 := Try.sizeOf145
  v46 := Try.zeroValue145
  t50 := Try.underlying103
  a50 := Try.isAgg103
  z50 := Try.sizeOf103
  v50 := Try.zeroValue103
  t53 := Try.underlying151
  a53 := Try.isAgg151
  z53 := Try.sizeOf151
  v53 := Try.zeroValue151
  t55 := Try.underlying96
  a55 := Try.isAgg96
  z55 := Try.sizeOf96
  v55 := Try.zeroValue96
  t66 := Try.underlying152
  a66 := Try.isAgg152
  z66 := Try.sizeOf152
  v66 := Try.zeroValue152
  t70 := Try.underlying156
  a70 := Try.isAgg156
  z70 := Try.sizeOf156
  v70 := Try.zeroValue156
  t76 := Try.underlying158
  a76 := Try.isAgg158
  z76 := Try.sizeOf158
  v76 := Try.zeroValue158
  t77 := Try.underlying159
  a77 := Try.isAgg159
  z77 := Try.sizeOf159
  v77 := Try.zeroValue159 }
open Go.RowKit Go.Lib Go.Sort in
theorem Try.slices_SortFunc_none {α : Type} [Inhabited α] (p : Option Addr) (cap : Nat) (fv : Value) (w : World) :
    Calls Try.prog 65 #[.slice p 0 cap, fv] w fun e w' => e = .returned (.tuple #[]) ∧ w' = w := AnyF.slices_SortFunc_none Try.laysSlF06_f65 p cap fv w
end Go.Proofs

/- A row of the call's own, sorted by slices.SortFunc. -/
namespace Go.Proofs.Ytapjgjjmlbhanaa
open Go.RowKit Go.Lib Go.Sort

section
variable {α : Type} [Inhabited α] (enc : α → Value)
theorem heap_sortedG {w : World} {g n : Nat} {os : Array Obj} {cur : Array Value} {e : TypeId} {fr : Nat × Nat} (d : Array α) (hb : w.heap[g]? = some (.cells cur e fr)) :
    (grow (putRow enc (Sort.ahead w n) g 0 d) os).heap[g]? = some (.cells (putCells enc 0 d cur) e fr) := by
  have hg : g < w.heap.size := (Array.getElem?_eq_some_iff.1 hb).1
  rw [heap_grow_old _ _ (by simpa using hg)]
  simp [putRow, mapBlock, Sort.ahead, Array.getElem?_modify, hb, onCells]
theorem grownBy_sortedG {w : World} {g n : Nat} {os : Array Obj} (d : Array α) : w.grownBy (grow (putRow enc (Sort.ahead w n) g 0 d) os) (some g) := by
  refine ⟨rfl, rfl, rfl, by simp, fun k hk hne => ?_⟩
  rw [heap_grow_old _ _ (by simpa using hk)]
  have : g ≠ k := fun e => hne (by rw [e])
  simp [putRow, mapBlock, Sort.ahead, Array.getElem?_modify, this]
theorem take_putCellsG (cur : Array Value) (ts : List α) (h : ts.length ≤ cur.size) : (putCells enc 0 ts.toArray cur).toList.take ts.length = ts.map enc := by
  apply List.ext_getElem?
  intro j
  by_cases hj : j < ts.length
  · rw [List.getElem?_take_of_lt hj, Array.getElem?_toList]
    simp [putCells, hj, show j < cur.size by omega]
  · rw [List.getElem?_take_eq_none (by omega), List.getElem?_eq_none (by simp; omega)]

/-- A row of the call's own, sorted. -/
theorem sort_own (he : OneCell enc) (cf : α → α → Int) (hO : SWO (ltOf cf)) (hT : ∀ x y, (ltOf cf) x y = false → (ltOf cf) y x = false → x = y) (g : Nat) (cb : Array Value) (eg : ∀ args w, (callFunc g args).run Try.prog w = .ok (.enter g args) w)
    (d : List α) (hd : d.length < 4611686018427387904) (base : Nat) (u : Value) (W : World) (hown : Own W base 3 u 1 d.length (fun i _ => enc (d.getD i default)))
    (hcmp : ∀ W', W.grownBy W' u.ownBlock → ∀ x y, Calls Try.prog g (#[enc x, enc y] ++ cb) W' fun e w' => e = .returned (.int .i64 (cf x y)) ∧ ∃ q, w' = W'.drewN q) :
    Calls Try.prog 65 #[u, .func (.func g) #[] cb] W fun e w' => e = .returned (.tuple #[]) ∧ Own w' base 3 u 1 d.length (fun i _ => enc ((d.mergeSort fun x y => !(ltOf cf) y x).getD i default)) ∧ W.grownBy w' u.ownBlock := by
  have h0 := hown
  obtain ⟨xs, ⟨hl, h2⟩, h3⟩ := h0
  by_cases hz : d.length = 0
  · have hd0 : d = [] := List.length_eq_zero_iff.1 hz
    subst hd0
    obtain ⟨a, l, c, rfl⟩ := hown.slice
    have hl0 : l = 0 := by
      rcases h2 with ⟨e, _⟩ | ⟨_, _, _, e, _⟩
      · cases e; rfl
      · cases e; rfl
    subst hl0
    refine (Try.slices_SortFunc_none (α := α) a c (.func (.func g) #[] cb) W).mono ?_
    rintro e w' ⟨rfl, rfl⟩
    exact ⟨rfl, hown.congr fun i j hi => by simp at hi, grown_refl _ _⟩
  · rcases h2 with ⟨_, h0⟩ | ⟨b, cap, cur, rfl, hb, hblk, hcap, hmax, hsz, htake⟩
    · exact absurd h0 hz
    · have hblt := (Array.getElem?_eq_some_iff.1 hblk).1
      have hH : Holds enc W b 0 d.toArray := by
        intro j hj
        have hj' : j < d.length := by simpa using hj
        have hx := h3 j 0 hj' (by omega)
        simp only [Nat.mul_one, Nat.add_zero] at hx
        rw [← htake, Nat.mul_one, List.getElem?_take_of_lt (by omega), Array.getElem?_toList] at hx
        refine ⟨?_, ?_⟩
        · rw [Nat.zero_add, cell_of_row W b j _ _ _ hblk, hx]
          simp [List.getD, hj']
        · unfold World.frozen?
          simp [hblk]
      have hC : CmpLays1 Try.prog g cb enc cf b 0 d.toArray.size W := fun m os dk _ x y => (hcmp (sortWorld enc W b 0 m dk os) (grownBy_sortedG enc dk) x y).mono fun e w' ⟨h1, q, h2⟩ => ⟨h1, q, #[], by rw [h2, grow_empty]⟩
      have hcon := Try.slices_SortFunc_total enc he cf hO g cb b 0 cap d.toArray W eg hC hH hblt (by simpa using hd) hT
      rw [List.size_toArray] at hcon
      refine hcon.mono ?_
      rintro e w' ⟨rfl, n, os, rfl⟩
      have hlen : (d.mergeSort fun x y => !(ltOf cf) y x).length = d.length := List.length_mergeSort ..
      generalize (d.mergeSort fun x y => !(ltOf cf) y x) = ts at hlen ⊢
      refine ⟨rfl, ⟨ts.map enc, ⟨by simp [hlen], .inr ⟨b, cap, _, rfl, hb, heap_sortedG enc _ hblk, hcap, hmax, by simp [putCells, hsz], ?_⟩⟩, fun i j hi hj => ?_⟩, grownBy_sortedG enc _⟩
      · rw [Nat.mul_one, ← hlen]; exact take_putCellsG enc cur ts (by omega)
      · obtain rfl : j = 0 := by omega
        simp [List.getD, show i < ts.length by omega]
end

theorem ltCmp {α : Type} (key : α → Int) (x y : α) : ltOf (fun a b => cmpI (key a) (key b)) x y = decide (key x < key y) := by
  unfold ltOf cmpI
  by_cases h1 : key x < key y
  · simp [h1]
  · by_cases h2 : key y < key x <;> simp [h1, h2]
theorem swoKey {α : Type} (key : α → Int) : SWO (ltOf fun a b : α => cmpI (key a) (key b)) where
  irrefl x := by rw [ltCmp]; simp
  trans x y z h1 h2 := by rw [ltCmp] at *; simp at *; omega
  ntrans x y z h1 h2 := by rw [ltCmp] at *; simp at *; omega

/-- The places of n holdings, sorted by their devices. -/
theorem sortPlaces_any (n t b off c base : Nat) (ao : Option Addr) (u : Value) (dev : Nat → Int) (W : World) (hn : n ≤ 12) (hown : Own W base 3 u 1 n (fun i _ => .int .i64 i)) (ht : W.cell? ⟨t, 0, none⟩ = some (.slice ao n c))
    (hc : ∀ i, i < n → ao = some ⟨b, off, none⟩ ∧ W.cell? ⟨b, off + i * 4, none⟩ = some (.int .i64 (dev i))) (hinj : ∀ i j, i < n → j < n → dev i = dev j → i = j) (hne : u.ownBlock ≠ some t) (hneb : 0 < n → u.ownBlock ≠ some b) :
    Calls Try.prog 65 #[u, .func (.func 66) #[] #[.pointer (some ⟨t, 0, none⟩)]] W fun e w' => e = .returned (.tuple #[]) ∧ ∃ pl : List Nat, pl.Perm (List.range n) ∧ (pl.map dev).Pairwise (· < ·) ∧ Own w' base 3 u 1 n (fun i _ => .int .i64 (pl.getD i 0)) ∧ W.grownBy w' u.ownBlock := by
  by_cases hz : n = 0
  · subst hz
    obtain ⟨a, l, c', rfl⟩ := hown.slice
    have hl0 : l = 0 := by
      obtain ⟨xs, ⟨_, h2⟩, _⟩ := hown
      rcases h2 with ⟨e, _⟩ | ⟨_, _, _, e, _⟩
      · cases e; rfl
      · cases e; rfl
    subst hl0
    refine (Try.slices_SortFunc_none (α := Nat) a c' _ W).mono ?_
    rintro e w' ⟨rfl, rfl⟩
    exact ⟨rfl, [], by simp, by simp, hown.congr fun i j hi => by omega, grown_refl _ _⟩
  · obtain ⟨m, rfl⟩ : ∃ m, n = m + 1 := ⟨n - 1, by omega⟩
    have hlen : (List.finRange (m + 1)).length = m + 1 := List.length_finRange
    have hown' : Own W base 3 u 1 (List.finRange (m + 1)).length (fun i _ => (fun x : Fin (m + 1) => Value.int .i64 (x.val : Nat)) ((List.finRange (m + 1)).getD i default)) := by
      rw [hlen]
      refine hown.congr fun i j hi hj => ?_
      rw [getD_at _ _ _ (by rw [hlen]; exact hi)]
      simp
    have tlt := cell_lt ht
    have eg : ∀ args w, (callFunc 66 args).run Try.prog w = .ok (.enter 66 args) w := enters_of Try.func66 (by kernel_rfl) rfl
    have := sort_own (fun x : Fin (m + 1) => Value.int .i64 (x.val : Nat)) (fun _ => rfl) (fun a b => cmpI (dev a.val) (dev b.val)) (swoKey fun x : Fin (m + 1) => dev x.val) (fun x y h1 h2 => by
      rw [ltCmp (fun x : Fin (m + 1) => dev x.val)] at h1 h2
      simp at h1 h2
      exact Fin.ext (hinj _ _ x.2 y.2 (by omega))) 66 #[.pointer (some ⟨t, 0, none⟩)] eg (List.finRange (m + 1)) (by rw [hlen]; omega) base u W hown' (fun W' hg x y => by
      obtain ⟨h1, h2⟩ := hc x.val x.2
      obtain ⟨_, h3⟩ := hc y.val y.2
      subst h1
      have hb := hneb (by omega)
      have blt := cell_lt h2
      refine less66 t b off c (m + 1) x.val y.val (dev x.val) (dev y.val) W' ?_ x.2 y.2 ?_ ?_
      · exact (World.cell?_of_block (hg.block t tlt (fun e => hne e.symm))).trans ht
      · exact (World.cell?_of_block (hg.block b blt (fun e => hb e.symm))).trans h2
      · exact (World.cell?_of_block (hg.block b blt (fun e => hb e.symm))).trans h3)
    rw [hlen] at this
    refine this.mono ?_
    rintro e w' ⟨rfl, h1, h2⟩
    have hperm := List.mergeSort_perm (List.finRange (m + 1)) (fun x y => !(ltOf fun a b : Fin (m + 1) => cmpI (dev a.val) (dev b.val)) y x)
    have hsorted : (List.mergeSort (List.finRange (m + 1)) (fun x y => !(ltOf fun a b : Fin (m + 1) => cmpI (dev a.val) (dev b.val)) y x)).Pairwise (fun x y => (!(ltOf fun a b : Fin (m + 1) => cmpI (dev a.val) (dev b.val)) y x) = true) := by
      refine List.pairwise_mergeSort (fun a b c h1 h2 => ?_) (fun a b => ?_) _
      · rw [ltCmp (fun x : Fin (m + 1) => dev x.val)] at *
        simp at *
        omega
      · rw [ltCmp (fun x : Fin (m + 1) => dev x.val), ltCmp (fun x : Fin (m + 1) => dev x.val)]
        simp
        omega
    generalize (List.mergeSort (List.finRange (m + 1)) (fun x y => !(ltOf fun a b : Fin (m + 1) => cmpI (dev a.val) (dev b.val)) y x)) = ts at *
    have hts : ts.length = m + 1 := by rw [hperm.length_eq, hlen]
    refine ⟨rfl, ts.map (·.val), ?_, ?_, h1.congr fun i j hi hj => ?_, h2⟩
    · refine (hperm.map _).trans ?_
      rw [show (List.finRange (m + 1)).map (·.val) = List.range (m + 1) from List.ext_getElem (by simp) (by simp)]
    · rw [List.map_map, List.pairwise_map]
      have hnd : ts.Nodup := hperm.nodup_iff.2 (List.nodup_finRange _)
      refine (hsorted.and hnd).imp fun {x y} ⟨h3, h4⟩ => ?_
      rw [ltCmp (fun x : Fin (m + 1) => dev x.val)] at h3
      simp at h3
      show dev x.val < dev y.val
      have : dev x.val ≠ dev y.val := fun e => h4 (Fin.ext (hinj _ _ x.2 y.2 e))
      omega
    · rw [getD_at _ _ _ (by omega), getD_at _ _ _ (by rw [List.length_map]; omega), List.getElem_map]

end Go.Proofs.Ytapjgjjmlbhanaa
