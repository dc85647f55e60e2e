/- sufficient: all sets that suffice, in order. -/
import Derived.Test.YtapjgjjmlbhanaaH1
import Derived.Test.YtapjgjjmlbhanaaG2
import Derived.Test.YtapjgjjmlbhanaaS1
import Derived.Test.YtapjgjjmlbhanaaD2
import Derived.Deep.LoopGhost
import Derived.WalkMore
namespace Go.Proofs.Ytapjgjjmlbhanaa
open Go.RowKit Go.Lib Go.Sort

def leK (a b : Nat) : Bool := decide (keyS a ≤ keyS b)
/-- The first n sets that suffice. -/
def sfTo (g : Gl) (L : List Hd) (n : Nat) : List Nat := (List.range n).filter (sufB g L)
/-- All sets that suffice, in order. -/
def suffL (g : Gl) (L : List Hd) : List Nat := (sfTo g L (2 ^ L.length)).mergeSort leK
theorem sfTo_succ (g : Gl) (L : List Hd) (n : Nat) : sfTo g L (n + 1) = sfTo g L n ++ if sufB g L n = true then [n] else [] := by
  unfold sfTo
  rw [List.range_succ, List.filter_append, List.filter_cons, List.filter_nil]
theorem sfTo_lt {g : Gl} {L : List Hd} {n : Nat} : ∀ a ∈ sfTo g L n, a < n := fun _ ha => List.mem_range.1 (List.mem_filter.1 ha).1
theorem sfTo_len (g : Gl) (L : List Hd) (n : Nat) : (sfTo g L n).length ≤ n := by
  have := List.length_filter_le (sufB g L) (List.range n)
  rw [List.length_range] at this
  exact this

theorem grown_below3 {B : Nat} {row : Option Nat} {a w w' : World} (h : Below B a w) (g : w.grownBy w' row) (hrow : ∀ k, row = some k → B ≤ k) (hB : B ≤ w.heap.size) : Below B a w' :=
  ⟨g.os.trans h.os, g.tape.trans h.tape, g.output.trans h.output, Nat.le_trans h.size g.size, fun i hi => by
    rw [g.block i (by omega) (by intro e; have := hrow i e.symm; omega)]; exact h.block i hi⟩

theorem sortSets_any (base : Nat) (u : Value) (W : World) (d : List Nat) (hd : ∀ a ∈ d, a < 4096) (hlen : d.length ≤ 4096) (hown : OwnI W base u (d.map fun a : Nat => (a : Int))) :
    Calls Try.prog 65 #[u, .func (.func 72) #[] #[]] W fun e w' => e = .returned (.tuple #[]) ∧ OwnI w' base u ((d.mergeSort leK).map fun a : Nat => (a : Int)) ∧ W.grownBy w' u.ownBlock := by
  obtain ⟨d', hd'⟩ : ∃ d' : List (Fin 4096), d'.map (·.val) = d := ⟨d.pmap (fun a h => ⟨a, h⟩) hd, by rw [List.map_pmap]; simp⟩
  have hl' : d'.length = d.length := by rw [← hd', List.length_map]
  have eg : ∀ args w, (callFunc 72 args).run Try.prog w = .ok (.enter 72 args) w := enters_of Try.func72 (by kernel_rfl) rfl
  have hown' : Own W base 3 u 1 d'.length (fun i _ => (fun x : Fin 4096 => Value.int .i64 (x.val : Nat)) (d'.getD i default)) := by
    have h := hown
    unfold OwnI at h
    rw [List.length_map, ← hl'] at h
    refine h.congr fun i j hi hj => ?_
    rw [getD_at _ _ _ (by rw [List.length_map, ← hl']; exact hi), getD_at _ _ _ hi, List.getElem_map]
    simp only [← hd', List.getElem_map]
  have := sort_own (fun x : Fin 4096 => Value.int .i64 (x.val : Nat)) (fun _ => rfl) (fun a b => cmpI (keyS a.val) (keyS b.val)) (swoKey fun x : Fin 4096 => keyS x.val) (fun x y h1 h2 => by
    rw [ltCmp (fun x : Fin 4096 => keyS x.val)] at h1 h2
    simp at h1 h2
    exact Fin.ext (keyS_inj x.2 y.2 (by omega))) 72 #[] eg d' (by omega) base u W hown' (fun W' _ x y => (compareS_any x.val y.val W' x.2 y.2).mono fun e w' ⟨h1, h2⟩ => ⟨h1, 0, h2.symm⟩)
  refine this.mono ?_
  rintro e w' ⟨rfl, h1, h2⟩
  have hm : (d'.mergeSort fun x y => !(ltOf fun a b : Fin 4096 => cmpI (keyS a.val) (keyS b.val)) y x).map (·.val) = d.mergeSort leK := by
    rw [← hd']
    refine List.map_mergeSort fun a _ b _ => ?_
    rw [ltCmp (fun x : Fin 4096 => keyS x.val)]
    unfold leK
    rw [Bool.eq_iff_iff]
    simp
  have hl2 : (d'.mergeSort fun x y => !(ltOf fun a b : Fin 4096 => cmpI (keyS a.val) (keyS b.val)) y x).length = d'.length := List.length_mergeSort ..
  rw [← hm]
  generalize (d'.mergeSort fun x y => !(ltOf fun a b : Fin 4096 => cmpI (keyS a.val) (keyS b.val)) y x) = ts at *
  refine ⟨rfl, ?_, h2⟩
  unfold OwnI
  rw [List.length_map, List.length_map, hl2]
  refine h1.congr fun i j hi hj => ?_
  rw [getD_at _ _ _ (by rw [hl2]; exact hi), getD_at _ _ _ (by rw [List.length_map, List.length_map, hl2]; exact hi), List.getElem_map, List.getElem_map]

set_option maxRecDepth 100000 in
set_option maxHeartbeats 4000000 in
theorem sufficient_plan {g : Gl} {hs : List Hd} {b : Nat} {x : PlanV} {pl : List Nat} {L : List Hd} {w : World} (hok : Ok g hs) (h : PlanOf g hs b x pl L w) :
    Calls Try.prog 50 #[.pointer (some ⟨b, 0, none⟩)] w fun e w' => ∃ v, e = .returned v ∧ OwnI w' w.heap.size v ((suffL g L).map fun a : Nat => (a : Int)) ∧ Below w.heap.size w w' := by
  have hl := h.len
  have h12 := hok.1.2.2
  have hl12 : L.length ≤ 12 := by omega
  have C53 := Lib.hid (all_plan hok h)
  have hp : 2 ^ L.length ≤ 2 ^ 12 := Nat.pow_le_pow_right (by omega) hl12
  rw [show (2 : Nat) ^ 12 = 4096 from rfl] at hp
  have hp0 : 1 ≤ 2 ^ L.length := Nat.one_le_two_pow
  have CS := Lib.hid (fun (w' : World) (hb : Below w.heap.size w w') (j : Nat) (hj : j < 4096) => suffices_plan (w := w') hok (h.below hb) j hj)
  obtain ⟨Q, hQ⟩ : ∃ Q, Q = suffL g L := ⟨_, rfl⟩
  have hQ2 := hQ
  unfold suffL at hQ2
  obtain ⟨N, hN⟩ : ∃ N, N = 2 ^ L.length - 1 := ⟨_, rfl⟩
  rw [← hN] at C53
  have hN1 : 2 ^ L.length = N + 1 := by omega
  rw [hN1] at hQ2
  rw [← hQ]
  have HQ := Lib.hid hQ2
  have hN4 : N < 4096 := by omega
  clear h hok hl h12 hl12 hp hp0 hQ hQ2 hN hN1
  go_enter Try.func50, Try.ntmps50
  go_wp2_with fail
  refine C53.out.mono ?_
  rintro e w' ⟨rfl, rfl⟩
  go_wp2
  go_loopw [2, 3, 7] (fun v2 _ v7 wr => ∃ j : Nat, j ≤ N + 1 ∧ v7 = .int .i64 j ∧ OwnI wr w.heap.size v2 ((sfTo g L j).map fun a : Nat => (a : Int)) ∧ Below w.heap.size w wr) (fun _ _ v7 _ => N + 1 - (intOf v7).toNat)
  case atStart => exact ⟨0, Nat.zero_le _, rfl, OwnI.nil _ _, Below.refl _ _⟩
  case round =>
    obtain ⟨j, hj, rfl, hown, hbel⟩ := hrel
    have zr := hbel.size
    have HO := Lib.hid hown
    clear hown
    by_cases hlt : j < N + 1
    · have hst := sfTo_succ g L j
      have hln := sfTo_len g L j
      have cs := CS.out wr hbel j (by omega)
      by_cases hq : sufB g L j = true
      · rw [hq] at cs
        rw [if_pos hq] at hst
        have HST := Lib.hid hst
        have CC := Lib.hid cs
        clear hst cs hq
        go_wp2_with fail
        refine CC.out.mono ?_
        rintro e w5 ⟨rfl, hb5⟩
        have z5 := hb5.size
        obtain ⟨v3, w3, r3, o1, o2, o3, o4⟩ := (HO.out.below hb5).append (j : Int) (by rw [List.length_map]; omega) (Nat.le_trans zr z5)
        have O1 := Lib.hid o1
        have hb05 := hbel.trans (hb5.mono zr)
        clear o1 o3
        go_wp2_with (at_builtin; refine wpList_append_run (by rfl) (.tmp 13) (.tmp 15) 24 (by rfl) _ (.slice (some ⟨w5.heap.size, 0, none⟩) 1 1) v3 w3 (by rfl) (by rfl) r3 ?_)
        go_roundw
        case rel => exact ⟨j + 1, by omega, by go_num, by rw [HST.out, List.map_append]; exact O1.out, hb05.trans o2⟩
        case measure => simp [intOf]; omega
      · have hq0 : sufB g L j = false := by simpa using hq
        rw [hq0] at cs
        rw [if_neg hq, List.append_nil] at hst
        have HST := Lib.hid hst
        have CC := Lib.hid cs
        clear hst cs hq hq0
        go_wp2_with fail
        refine CC.out.mono ?_
        rintro e w5 ⟨rfl, hb5⟩
        go_wp2_with fail
        go_roundw
        case rel => exact ⟨j + 1, by omega, by go_num, by rw [HST.out]; exact HO.out.below hb5, hbel.trans (hb5.mono zr)⟩
        case measure => simp [intOf]; omega
    · have hjl : j = N + 1 := by omega
      subst hjl
      have hln := sfTo_len g L (N + 1)
      have CT := Lib.hid (sortSets_any w.heap.size _ wr (sfTo g L (N + 1)) (fun a ha => by have := sfTo_lt a ha; omega) (by omega) HO.out)
      have hlt := HO.out.lt
      have HLT := Lib.hid hlt
      clear hlt hln
      go_wp2_with fail
      refine CT.out.mono ?_
      rintro e w6 ⟨rfl, ho, hg⟩
      have b6 := grown_below3 hbel hg (fun k hk => (HLT.out k hk).1) zr
      have HO6 := Lib.hid ho
      clear ho hg
      go_wp2
      go_ret
      exact ⟨_, rfl, by rw [HQ.out]; exact HO6.out, b6⟩

end Go.Proofs.Ytapjgjjmlbhanaa

/- Fewest. -/
namespace Go.Proofs.Ytapjgjjmlbhanaa
open Go.RowKit Go.Lib

theorem GlAt.val {w : World} {g : Gl} (h : GlAt w g) : ∃ (na : Option Addr) (n1 nc : Nat) (pa : Option Addr) (n2 pc : Nat) (sa : Option Addr) (n3 sc : Nat), g.v = .agg #[.slice na n1 nc, .int .i64 g.thr, .bool g.idx, .slice pa n2 pc, .slice sa n3 sc] := by
  obtain ⟨h1, h2, h3⟩ := h
  obtain ⟨na, nc, _, _, e1, _⟩ := h1.at
  obtain ⟨pa, pc, _, _, e2, _⟩ := h2.at
  obtain ⟨sa, sc, _, _, e3, _⟩ := h3.at
  exact ⟨na, _, nc, pa, _, pc, sa, _, sc, by unfold Gl.v; rw [e1, e2, e3]⟩
theorem ReadsH.val {w : World} {v : Value} {hs : List Hd} (h : ReadsH w v hs) : ∃ ao n c, v = .slice ao n c := by
  obtain ⟨ao, c, _, _, e, _⟩ := h.at
  exact ⟨ao, _, c, e⟩
theorem ReadsI.val {w : World} {v : Value} {xs : List Int} (h : ReadsI w v xs) : ∃ ao n c, v = .slice ao n c := by
  obtain ⟨ao, c, _, _, e, _⟩ := h.at
  exact ⟨ao, _, c, e⟩

set_option maxRecDepth 100000 in
set_option maxHeartbeats 2000000 in
theorem fewest_bad (g : Gl) (v : Value) (hs : List Hd) (w : World) (hg : GlAt w g) (hv : ReadsH w v hs) (hok : ¬ Ok g hs) :
    Calls Try.prog 20 #[g.v, v] w fun e w' => e = .returned (.tuple #[.slice none 0 0, .int .i64 1]) ∧ Below w.heap.size w w' := by
  have cc := fun W h1 h2 => read_bad g v hs W h1 h2 hok
  obtain ⟨na, n1, nc, pa, n2, pc, sa, n3, sc, e1⟩ := hg.val
  obtain ⟨ao, n4, c4, rfl⟩ := hv.val
  rw [e1] at cc ⊢
  have CC := Lib.hid cc
  have HG := Lib.hid hg
  have HV := Lib.hid hv
  clear hg hv hok cc e1
  go_enter Try.func20, Try.ntmps20
  go_wp2_with fail
  refine (CC.out _ (HG.out.below (by (repeat' (first | (with_reducible exact Below.refl _ _) | (with_reducible assumption) | (with_reducible refine Below.alloc ?_ ?_ _) | (with_reducible refine Below.drew ?_) | (with_reducible refine below_drewN ?_ _) | (with_reducible refine Below.setCell ?_ ?_ _) | (with_reducible refine below_step ?_ (by with_reducible assumption) ?_) | go_size)))) (HV.out.below (by (repeat' (first | (with_reducible exact Below.refl _ _) | (with_reducible assumption) | (with_reducible refine Below.alloc ?_ ?_ _) | (with_reducible refine Below.drew ?_) | (with_reducible refine below_drewN ?_ _) | (with_reducible refine Below.setCell ?_ ?_ _) | (with_reducible refine below_step ?_ (by with_reducible assumption) ?_) | go_size))))).mono ?_
  rintro e w1 ⟨rfl, hb⟩
  go_wp2
  go_ret2
  exact ⟨rfl, by (repeat' (first | (with_reducible exact Below.refl _ _) | (with_reducible assumption) | (with_reducible refine Below.alloc ?_ ?_ _) | (with_reducible refine Below.drew ?_) | (with_reducible refine below_drewN ?_ _) | (with_reducible refine Below.setCell ?_ ?_ _) | (with_reducible refine below_step ?_ (by with_reducible assumption) ?_) | go_size))⟩

/-- What Fewest answers. -/
def FewestPost (g : Gl) (L : List Hd) (w : World) (e : Ending) (w' : World) : Prop :=
  (suffL g L = [] ∧ e = .returned (.tuple #[.slice none 0 0, .int .i64 10]) ∧ Below w.heap.size w w') ∨
  (∃ a r v, suffL g L = a :: r ∧ e = .returned (.tuple #[v, .int .i64 0]) ∧ ReadsI w' v (devL L a) ∧ Below w.heap.size w w')

theorem suffL_lt {g : Gl} {L : List Hd} : ∀ a ∈ suffL g L, a < 2 ^ L.length := fun _ ha => sfTo_lt _ ((List.mergeSort_perm _ _).mem_iff.1 ha)
theorem suffL_len (g : Gl) (L : List Hd) : (suffL g L).length ≤ 2 ^ L.length := by
  unfold suffL
  rw [List.length_mergeSort]
  exact sfTo_len g L _
theorem two12 {n : Nat} (h : n ≤ 12) : 2 ^ n ≤ 4096 := by
  have hp : 2 ^ n ≤ 2 ^ 12 := Nat.pow_le_pow_right (by omega) h
  exact hp
theorem devL_le (L : List Hd) (set : Nat) : (devL L set).length ≤ L.length := devTo_le L set _

set_option maxRecDepth 100000 in
set_option maxHeartbeats 4000000 in
theorem fewest_ok (g : Gl) (v : Value) (hs : List Hd) (w : World) (hg : GlAt w g) (hv : ReadsH w v hs) (hok : Ok g hs) :
    Calls Try.prog 20 #[g.v, v] w fun e w' => ∃ L : List Hd, L.Perm hs ∧ (L.map Hd.dev).Pairwise (· < ·) ∧ FewestPost g L w e w' := by
  have cc := fun W h1 h2 => read_ok g v hs W h1 h2 hok
  obtain ⟨na, n1, nc, pa, n2, pc, sa, n3, sc, e1⟩ := hg.val
  obtain ⟨ao, n4, c4, rfl⟩ := hv.val
  rw [e1] at cc ⊢
  have CC := Lib.hid cc
  have HG := Lib.hid hg
  have HV := Lib.hid hv
  have HOK := Lib.hid hok
  clear hg hv hok cc e1
  go_enter Try.func20, Try.ntmps20
  go_wp2_with fail
  refine (CC.out _ (HG.out.below (by (repeat' (first | (with_reducible exact Below.refl _ _) | (with_reducible assumption) | (with_reducible refine Below.alloc ?_ ?_ _) | (with_reducible refine Below.drew ?_) | (with_reducible refine below_drewN ?_ _) | (with_reducible refine Below.setCell ?_ ?_ _) | (with_reducible refine below_step ?_ (by with_reducible assumption) ?_) | go_size)))) (HV.out.below (by (repeat' (first | (with_reducible exact Below.refl _ _) | (with_reducible assumption) | (with_reducible refine Below.alloc ?_ ?_ _) | (with_reducible refine Below.drew ?_) | (with_reducible refine below_drewN ?_ _) | (with_reducible refine Below.setCell ?_ ?_ _) | (with_reducible refine below_step ?_ (by with_reducible assumption) ?_) | go_size))))).mono ?_
  rintro e w1 ⟨b, x, pl, L, rfl, hpo, hb⟩
  have hw1 : Below w.heap.size w w1 := by (repeat' (first | (with_reducible exact Below.refl _ _) | (with_reducible assumption) | (with_reducible refine Below.alloc ?_ ?_ _) | (with_reducible refine Below.drew ?_) | (with_reducible refine below_drewN ?_ _) | (with_reducible refine Below.setCell ?_ ?_ _) | (with_reducible refine below_step ?_ (by with_reducible assumption) ?_) | go_size))
  have hl12 : L.length ≤ 12 := by have := hpo.len; have := HOK.out.1.2.2; omega
  have hp12 := two12 hl12
  have PO := Lib.hid hpo
  have HPL := Lib.hid hpo.permL
  have HSD := Lib.hid hpo.sorted
  have C50 := Lib.hid (sufficient_plan HOK.out hpo)
  clear hpo hb
  have z1 := hw1.size
  go_wp2_with fail
  refine C50.out.mono ?_
  rintro e w2 ⟨u, rfl, ho, hb2⟩
  have hw2 : Below w.heap.size w w2 := hw1.trans (hb2.mono z1)
  have hln := suffL_len g L
  have hlt := suffL_lt (g := g) (L := L)
  obtain ⟨Q, hQ⟩ : ∃ Q, Q = suffL g L := ⟨_, rfl⟩
  rw [← hQ] at ho hln hlt
  have HQ := Lib.hid hQ
  clear hQ
  have hri : ReadsI w2 u (Q.map fun a : Nat => (a : Int)) := ho.reads (by rw [List.length_map]; omega)
  obtain ⟨ua, uc, ub, uoff, rfl, hul, hum, hucell⟩ := hri.at
  rw [List.length_map] at hul hum hucell
  cases Q with
  | nil =>
    clear hri ho hucell hlt hln hul hum
    go_wp2_with fail
    go_ret2
    exact ⟨L, HPL.out, HSD.out, .inl ⟨HQ.out.symm, rfl, hw2⟩⟩
  | cons a r =>
    obtain ⟨e1, e2⟩ := hucell 0 (by simp)
    subst e1
    have e2' : w2.cell? ⟨ub, uoff, none⟩ = some (.int .i64 (a : Int)) := e2
    have ha : a < 4096 := by have := hlt a (by simp); omega
    have C51 := Lib.hid (devices_plan HOK.out (PO.out.below hb2) a ha)
    rw [List.length_map, List.length_cons] at *
    have z2 := hb2.size
    clear hri ho hucell hlt hln e2
    have hrl : 0 < r.length + 1 := by omega
    generalize r.length + 1 = rl at *
    have hrl0 : ((rl : Int) == 0) = false := by simp; omega
    go_wp2_with fail
    refine C51.out.mono ?_
    rintro e w3 ⟨u3, rfl, ho3, hb3⟩
    have hri3 := ho3.reads (by have := devL_le L a; omega)
    have hw3 : Below w.heap.size w w3 := hw2.trans (hb3.mono (Nat.le_trans z1 z2))
    obtain ⟨a3, c3, _, _, e3, _⟩ := hri3.at
    rw [e3] at hri3
    have H3 := Lib.hid hri3
    clear ho3 hri3
    go_wp2
    go_ret2
    exact ⟨L, HPL.out, HSD.out, .inr ⟨a, r, _, HQ.out.symm, rfl, H3.out, hw3⟩⟩

end Go.Proofs.Ytapjgjjmlbhanaa

/- Minimal: rows of rows; the sets that are minimal. -/
namespace Go.Proofs.Ytapjgjjmlbhanaa
open Go.RowKit Go.Lib Go.ChangeMaps

theorem own_ne_map {w : World} {base : Nat} {e : TypeId} {v : Value} {k n : Nat} {f : Nat → Nat → Value} (h : Own w base e v k n f) {b : Nat} {es : Array MapEntry} {q : Nat} (hb : w.heap[b]? = some (.map es q)) : v.ownBlock ≠ some b := by
  obtain ⟨xs, ⟨_, h2⟩, _⟩ := h
  rcases h2 with ⟨rfl, _⟩ | ⟨g, cap, cur, rfl, _, h3, _⟩
  · simp [Value.ownBlock]
  · intro e
    simp [Value.ownBlock] at e
    subst e
    rw [h3] at hb
    cases hb
theorem own_apart' {w : World} {b1 b2 : Nat} {e1 e2 : TypeId} {v1 v2 : Value} {k1 k2 n1 n2 : Nat} {f1 f2 : Nat → Nat → Value} (h1 : Own w b1 e1 v1 k1 n1 f1) (h2 : Own w b2 e2 v2 k2 n2 f2) (he : e1 ≠ e2) : ∀ g, v1.ownBlock = some g → v2.ownBlock ≠ some g := by
  intro g hg
  obtain ⟨xs, ⟨_, h3⟩, _⟩ := h1
  rcases h3 with ⟨rfl, _⟩ | ⟨g', cap, cur, rfl, _, h4, _⟩
  · cases hg
  · cases hg
    exact own_ne h2 h4 he

/-- A row of rows of numbers, all of the call's own. -/
def OwnLL (w : World) (base : Nat) (v : Value) (xss : List (List Int)) : Prop :=
  ∃ vs : List Value, vs.length = xss.length ∧ Own w base 24 v 1 xss.length (fun i _ => vs.getD i undef) ∧ ∀ i, i < xss.length → OwnI w base (vs.getD i undef) (xss.getD i [])
theorem OwnLL.nil (w : World) (base : Nat) : OwnLL w base (.slice none 0 0) [] := ⟨[], rfl, Own.nil _ _ _ _ _, fun i hi => by simp at hi⟩
theorem OwnLL.below {w w' : World} {base : Nat} {v : Value} {xss : List (List Int)} (h : OwnLL w base v xss) (hb : Below w.heap.size w w') : OwnLL w' base v xss := by
  obtain ⟨vs, h1, h2, h3⟩ := h
  exact ⟨vs, h1, h2.below hb, fun i hi => (h3 i hi).below hb⟩
theorem OwnI.slice {w : World} {base : Nat} {v : Value} {ds : List Int} (h : OwnI w base v ds) : ∃ a c, v = .slice a ds.length c := by
  obtain ⟨xs, ⟨h0, h2⟩, _⟩ := h
  rcases h2 with ⟨rfl, h⟩ | ⟨g, cap, cur, rfl, _⟩
  · rw [h]; exact ⟨_, _, rfl⟩
  · exact ⟨_, _, rfl⟩
theorem OwnLL.append {V : World} {base : Nat} {v u : Value} {xss : List (List Int)} {ds : List Int} (h : OwnLL V base v xss) (hu : OwnI V base u ds) (hn : xss.length ≤ 1000000000) (hbase : base ≤ V.heap.size) :
    ∃ v' w', (Builtin.append_ #[57, 57] 57 #[v, .slice (some ⟨V.heap.size, 0, none⟩) 1 1]).run Try.prog (V.alloc (.cells #[u] 24)) = .ok v' w' ∧ OwnLL w' base v' (xss ++ [ds]) ∧ Below base V w' ∧
      (∀ b, b < V.heap.size → v.ownBlock ≠ some b → w'.heap[b]? = V.heap[b]?) ∧ V.heap.size + 1 ≤ w'.heap.size := by
  obtain ⟨vs, h1, h2, h3⟩ := h
  have h' : Own V base 24 v 1 xss.length fun i _ => (vs ++ [u]).getD i undef := Own.congr h2 fun i j hi hj => by rw [getD_at _ _ _ (by omega), getD_at _ _ _ (by rw [List.length_append]; omega), List.getElem_append_left (by omega)]
  obtain ⟨a, c, eu⟩ := hu.slice
  obtain ⟨v3, w3, r3, o1, o2, o3, o4, o5⟩ := Own.append (V := V) (t := 57) (e := 24) (z := .slice none 0 0) (k := 1) (bytes := 24) Try.underlying57 (by kernel_rfl) rfl (by omega) (by omega) h' 57 [u] rfl (fun q hq => by
    obtain rfl : q = 0 := by omega
    rw [← h1]; simp [List.getD]) (by intro x hx; simp at hx; subst hx; rw [eu]; rfl) hn hbase
  have sm : ∀ {x : Value} {ys : List Int}, OwnI V base x ys → OwnI w3 base x ys := fun hx => Own.same hx fun g hg => o3 g (Own.lt hx g hg).2 (own_apart' hx h2 (by decide) g hg)
  refine ⟨v3, w3, r3, ⟨vs ++ [u], by simp [h1], by rw [List.length_append]; exact o1, fun i hi => ?_⟩, o2, o3, o5⟩
  by_cases hi' : i < xss.length
  · rw [getD_at _ _ _ (by rw [List.length_append]; omega), getD_at _ _ _ hi, List.getElem_append_left (by omega), List.getElem_append_left hi']
    have := h3 i hi'
    rw [getD_at _ _ _ (by omega), getD_at _ _ _ hi'] at this
    exact sm this
  · have e : i = xss.length := by rw [List.length_append] at hi; simp at hi; omega
    subst e
    rw [getD_at _ _ _ (by rw [List.length_append]; simp; omega), getD_at _ _ _ hi, List.getElem_append_right (by omega), List.getElem_append_right (by omega)]
    simp
    exact sm hu

theorem OwnLL.slice {w : World} {base : Nat} {v : Value} {xss : List (List Int)} (h : OwnLL w base v xss) : ∃ a c, v = .slice a xss.length c := by
  obtain ⟨vs, h1, ⟨xs, ⟨h0, h2⟩, _⟩, _⟩ := h
  rcases h2 with ⟨rfl, h⟩ | ⟨g, cap, cur, rfl, _⟩
  · rw [h]; exact ⟨_, _, rfl⟩
  · exact ⟨_, _, rfl⟩
theorem Own.base {w : World} {b b' : Nat} {e : TypeId} {v : Value} {k n : Nat} {f : Nat → Nat → Value} (h : Own w b e v k n f) (hb : b' ≤ b) : Own w b' e v k n f := by
  obtain ⟨xs, ⟨h0, h2⟩, h3⟩ := h
  refine ⟨xs, ⟨h0, ?_⟩, h3⟩
  rcases h2 with h2 | ⟨g, cap, cur, e1, e2, e3⟩
  · exact .inl h2
  · exact .inr ⟨g, cap, cur, e1, Nat.le_trans hb e2, e3⟩

/-- Rows of rows, read. -/
def ReadsLL (w : World) (v : Value) (xss : List (List Int)) : Prop := ∃ vs : List Value, vs.length = xss.length ∧ RowAt w v 1 xss.length (fun i _ => vs.getD i undef) ∧ ∀ i, i < xss.length → ReadsI w (vs.getD i undef) (xss.getD i [])
theorem OwnLL.reads {w : World} {base : Nat} {v : Value} {xss : List (List Int)} (h : OwnLL w base v xss) (hn : xss.length ≤ 4611686018427387904) (hm : ∀ x ∈ xss, x.length ≤ 4611686018427387904) : ReadsLL w v xss := by
  obtain ⟨vs, h1, h2, h3⟩ := h
  exact ⟨vs, h1, h2.row hn, fun i hi => (h3 i hi).reads (hm _ (by rw [getD_at _ _ _ hi]; exact List.getElem_mem hi))⟩
theorem ReadsLL.below {w w' : World} {v : Value} {xss : List (List Int)} (h : ReadsLL w v xss) (hb : Below w.heap.size w w') : ReadsLL w' v xss := by
  obtain ⟨vs, h1, h2, h3⟩ := h
  exact ⟨vs, h1, RowAt.below h2 hb, fun i hi => (h3 i hi).below hb⟩

/-- A set without a holding. -/
def keyI (a i : Nat) : Nat := if a / 2 ^ i % 2 = 1 then a - 2 ^ i else a
theorem andNot_i64 : ∀ (a : Fin 64) (i : Fin 6), bits .andNot .i64 (a.val : Int) ((2 ^ i.val : Nat) : Int) = ((keyI a.val i.val : Nat) : Int) := by decide +kernel
/-- Of this set the holding i can be left out. -/
def canLeave (Q : List Nat) (a i : Nat) : Bool := decide (a / 2 ^ i % 2 = 1) && decide (keyI a i ∈ Q)
/-- No holding of the set can be left out. -/
def isMin (n : Nat) (Q : List Nat) (a : Nat) : Bool := (List.range n).all fun i => !canLeave Q a i
def minL (g : Gl) (L : List Hd) : List Nat := (suffL g L).filter (isMin L.length (suffL g L))
theorem suffL_nodup (g : Gl) (L : List Hd) : (suffL g L).Nodup := ((List.mergeSort_perm _ _).nodup_iff).2 (List.nodup_range.filter _)

end Go.Proofs.Ytapjgjjmlbhanaa
