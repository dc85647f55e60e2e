/- suffices, all, devices: what a plan computes of its sets. -/
import Derived.Test.YtapjgjjmlbhanaaG1
import Derived.Test.YtapjgjjmlbhanaaC5
namespace Go.Proofs.Ytapjgjjmlbhanaa
open Go.RowKit Go.Lib

/-- What is there with a set of the holdings. -/
def ofL (g : Gl) (L : List Hd) (set : Nat) : Sup := ofP (supOf g.ns g.ps g.ss (!g.idx)) (L.map fun h => supOf g.ns h.ps h.ss h.idx) set L.length
def sumL (g : Gl) (L : List Hd) (set : Nat) : Int := sumS g.thr g.ns (ofL g L set)
def sufB (g : Gl) (L : List Hd) (set : Nat) : Bool := decide (sumL g L set = 0)
/-- The devices of a set, of the first n holdings. -/
def devTo (L : List Hd) (set : Nat) : Nat → List Int
  | 0 => []
  | n + 1 => devTo L set n ++ if set / 2 ^ n % 2 = 1 then [(L.getD n default).dev] else []
def devL (L : List Hd) (set : Nat) : List Int := devTo L set L.length
theorem devTo_le (L : List Hd) (set : Nat) : ∀ n, (devTo L set n).length ≤ n
  | 0 => Nat.le_refl _
  | n + 1 => by
    have := devTo_le L set n
    unfold devTo
    rw [List.length_append]
    split <;> simp <;> omega

section
variable {g : Gl} {hs : List Hd} {b : Nat} {x : PlanV} {pl : List Nat} {L : List Hd} {w : World}
theorem ofL_wf (hok : Ok g hs) (hp : L.Perm hs) (set : Nat) : (ofL g L set).Wf := by
  unfold ofL
  refine ofP_wf (supOf_wf hok.2.2.1.1) (fun y hy => ?_) _
  obtain ⟨z, hz, rfl⟩ := List.mem_map.1 hy
  exact supOf_wf (hok.2.2.2.2 z (hp.mem_iff.1 hz)).2.1
theorem of_plan (hok : Ok g hs) (h : PlanOf g hs b x pl L w) (set : Nat) (hset : set < 4096) :
    Calls Try.prog 42 #[.pointer (some ⟨b, 0, none⟩), .int .i64 set] w fun e w' => e = .returned (ofL g L set).v ∧ Below w.heap.size w w' := by
  have hl := h.len
  have h12 := hok.1.2.2
  have := of_any b x (L.map fun h => supOf g.ns h.ps h.ss h.idx) set w h.plan h.given (by rw [List.length_map]; omega) (by rw [h.there]; exact supOf_wf hok.2.2.1.1) (fun y hy => by
    obtain ⟨z, hz, rfl⟩ := List.mem_map.1 hy
    exact supOf_wf (hok.2.2.2.2 z (h.permL.mem_iff.1 hz)).2.1) hset
  rw [h.there, List.length_map] at this
  exact this
theorem sum_plan (hok : Ok g hs) (h : PlanOf g hs b x pl L w) (s : Sup) (hs' : s.Wf) :
    Calls Try.prog 54 #[.pointer (some ⟨b, 0, none⟩), s.v] w fun e w' => e = .returned (.int .i64 (sumS g.thr g.ns s)) ∧ Below w.heap.size w w' := by
  have := sum_any b x g.ns s w h.plan h.needs hok.1.1 hok.2.1.2 hs' (by rw [h.thr]; exact hok.1.2.1.1) (by rw [h.thr]; exact hok.1.2.1.2)
  rw [h.thr] at this
  exact this

set_option maxHeartbeats 1000000 in
theorem suffices_plan (hok : Ok g hs) (h : PlanOf g hs b x pl L w) (set : Nat) (hset : set < 4096) :
    Calls Try.prog 52 #[.pointer (some ⟨b, 0, none⟩), .int .i64 set] w fun e w' => e = .returned (.bool (sufB g L set)) ∧ Below w.heap.size w w' := by
  have C42 := Lib.hid (of_plan hok h set hset)
  have C54 := Lib.hid (fun w' hb => sum_plan (w := w') hok (h.below hb) (ofL g L set) (ofL_wf hok h.permL set))
  have e1 : ∀ r : Int, ((r : Int) == 0) = decide (r = 0) := fun r => rfl
  have HE := Lib.hid (e1 (sumL g L set))
  obtain ⟨r, hr⟩ : ∃ r, r = sufB g L set := ⟨_, rfl⟩
  have hr2 : r = ((sumL g L set : Int) == 0) := by rw [hr]; rfl
  rw [← hr]
  have HR := Lib.hid hr2
  unfold sumL at HR
  clear e1 hr hr2 h
  generalize sumS g.thr g.ns (ofL g L set) = t at *
  generalize ofL g L set = s at *
  go_enter Try.func52, Try.ntmps52
  go_wp2_with fail
  refine C42.out.mono ?_
  rintro e w1 ⟨rfl, hb⟩
  go_wp2_with fail
  refine (C54.out _ hb).mono ?_
  rintro e w2 ⟨rfl, hb2⟩
  go_wp2
  go_ret
  exact ⟨congrArg (fun x => Ending.returned (.bool x)) HR.out.symm, hb.trans (hb2.mono hb.size)⟩

set_option maxHeartbeats 1000000 in
theorem all_plan (hok : Ok g hs) (h : PlanOf g hs b x pl L w) :
    Calls Try.prog 53 #[.pointer (some ⟨b, 0, none⟩)] w fun e w' => e = .returned (.int .i64 ((2 ^ L.length - 1 : Nat) : Int)) ∧ w = w' := by
  have hl := h.len
  have h12 := hok.1.2.2
  obtain ⟨ao, c, _, _, elv, _⟩ := h.list.at
  have c6 := h.plan.cell 6 (by omega)
  have e6 : x.cell 6 = x.lv := rfl
  rw [e6, elv] at c6
  clear h elv e6
  generalize L.length = n at *
  have hn : n ≤ 12 := by omega
  have h1 : 2 ^ n ≤ 2 ^ 12 := Nat.pow_le_pow_right (by omega) hn
  have h0 : 1 ≤ 2 ^ n := Nat.one_le_two_pow
  rw [show (2 : Nat) ^ 12 = 4096 from rfl] at h1
  have hw2 : IntKind.i64.wrap (2 ^ n) = (2 ^ n : Int) := by
    have e : ((2 : Int) ^ n) = ((2 ^ n : Nat) : Int) := by simp
    rw [e]
    generalize (2 ^ n : Nat) = pw at h1
    exact wraps_i64 _ (by omega) (by omega)
  have he : ((2 ^ n - 1 : Nat) : Int) = (2 ^ n : Int) - 1 := by
    have e : ((2 : Int) ^ n) = ((2 ^ n : Nat) : Int) := by simp
    rw [e]; omega
  have hpb : (2 ^ n : Int) ≤ 4096 ∧ 1 ≤ (2 ^ n : Int) := by
    have e : ((2 : Int) ^ n) = ((2 ^ n : Nat) : Int) := by simp
    rw [e]; omega
  rw [he]
  obtain ⟨hpb1, hpb2⟩ := hpb
  clear he hl h12
  go_enter Try.func53, Try.ntmps53
  go_wp2
  go_ret
  exact ⟨rfl, rfl⟩
end

/-- A row of numbers of the call's own. -/
def OwnI (w : World) (base : Nat) (v : Value) (ds : List Int) : Prop := Own w base 3 v 1 ds.length fun i _ => .int .i64 (ds.getD i 0)
theorem OwnI.nil (w : World) (base : Nat) : OwnI w base (.slice none 0 0) [] := Own.nil _ _ _ _ _
theorem OwnI.reads {w : World} {base : Nat} {v : Value} {ds : List Int} (h : OwnI w base v ds) (hn : ds.length ≤ 4611686018427387904) : ReadsI w v ds := Own.row h hn
theorem OwnI.below {w w' : World} {base : Nat} {v : Value} {ds : List Int} (h : OwnI w base v ds) (hb : Below w.heap.size w w') : OwnI w' base v ds := Own.below h hb
theorem OwnI.append {V : World} {base : Nat} {v : Value} {ds : List Int} (h : OwnI V base v ds) (y : Int) (hn : ds.length ≤ 1000000000) (hbase : base ≤ V.heap.size) :
    ∃ v' w', (Builtin.append_ #[24, 24] 24 #[v, .slice (some ⟨V.heap.size, 0, none⟩) 1 1]).run Try.prog (V.alloc (.cells #[.int .i64 y] 3)) = .ok v' w' ∧ OwnI w' base v' (ds ++ [y]) ∧ Below base V w' ∧
      (∀ b, b < V.heap.size → v.ownBlock ≠ some b → w'.heap[b]? = V.heap[b]?) ∧ V.heap.size + 1 ≤ w'.heap.size := by
  have h' : Own V base 3 v 1 ds.length fun i _ => .int .i64 ((ds ++ [y]).getD i 0) := Own.congr h fun i j hi hj => by rw [getD_at _ _ _ hi, getD_at _ _ _ (by rw [List.length_append]; omega), List.getElem_append_left hi]
  obtain ⟨v3, w3, r3, o1, o2, o3, o4, o5⟩ := Own.append (V := V) (t := 24) (e := 3) (z := .int .i64 0) (k := 1) (bytes := 8) Try.underlying24 (by kernel_rfl) rfl (by omega) (by omega) h' 24 [.int .i64 y] rfl (fun q hq => by
    obtain rfl : q = 0 := by omega
    simp [List.getD]) (by intro u hu; simp at hu; subst hu; rfl) hn hbase
  refine ⟨v3, w3, r3, ?_, o2, o3, o5⟩
  unfold OwnI
  rw [List.length_append]
  exact o1

set_option maxRecDepth 100000 in
set_option maxHeartbeats 4000000 in
theorem devices_plan {g : Gl} {hs : List Hd} {b : Nat} {x : PlanV} {pl : List Nat} {L : List Hd} {w : World} (hok : Ok g hs) (h : PlanOf g hs b x pl L w) (set : Nat) (hset : set < 4096) :
    Calls Try.prog 51 #[.pointer (some ⟨b, 0, none⟩), .int .i64 set] w fun e w' => ∃ v, e = .returned v ∧ OwnI w' w.heap.size v (devL L set) ∧ Below w.heap.size w w' := by
  have hl := h.len
  have h12 := hok.1.2.2
  have hl12 : L.length ≤ 12 := by omega
  obtain ⟨ao, c, b', off, elv, hlc, hm, hcell⟩ := h.list.at
  have c6 := h.plan.cell 6 (by omega)
  have e6 : x.cell 6 = x.lv := rfl
  rw [e6, elv] at c6
  have HC := Lib.hid hcell
  obtain ⟨D, hD⟩ : ∃ D, D = devL L set := ⟨_, rfl⟩
  rw [← hD]
  have HD := Lib.hid hD
  clear h elv e6 hl h12 hcell hm hD
  go_enter Try.func51, Try.ntmps51
  go_wp2
  go_loopw [4, 5, 6, 12] (fun v4 _ _ v12 wr => ∃ j : Nat, j ≤ L.length ∧ v12 = .int .i64 j ∧ OwnI wr w.heap.size v4 (devTo L set j) ∧ Below w.heap.size w wr) (fun _ _ _ v12 _ => L.length - (intOf v12).toNat)
  case atStart => exact ⟨0, Nat.zero_le _, rfl, OwnI.nil _ _, Below.refl _ _⟩
  case round =>
    obtain ⟨j, hj, rfl, hown, hbel⟩ := hrel
    have zr := hbel.size
    have HO := Lib.hid hown
    clear hown
    by_cases hlt : j < L.length
    · obtain ⟨e1, e2, e3, e4, e5, hat⟩ := HC.out j hlt
      subst e1
      rw [← hbel.cell (p := ⟨b', _, none⟩) (cell_lt e2)] at e2
      rw [← hbel.cell (p := ⟨b', _, none⟩) (cell_lt e3)] at e3
      rw [← hbel.cell (p := ⟨b', _, none⟩) (cell_lt e4)] at e4
      rw [← hbel.cell (p := ⟨b', _, none⟩) (cell_lt e5)] at e5
      have hst : devTo L set (j + 1) = devTo L set j ++ if set / 2 ^ j % 2 = 1 then [(L.getD j default).dev] else [] := rfl
      have hle := devTo_le L set j
      have HST := Lib.hid hst
      obtain ⟨hpd, hsd⟩ := hat
      obtain ⟨pa, pc, _, _, hpe, _⟩ := hpd.at
      obtain ⟨sa, sc, _, _, hse, _⟩ := hsd.at
      rw [hpe] at e3
      rw [hse] at e4
      clear hst hpd hsd hpe hse
      generalize (L.getD j default).dev = dev at *
      generalize (L.getD j default).ps.length = pn at *
      generalize (L.getD j default).ss.length = sn at *
      generalize (L.getD j default).idx = idx at *
      have bW : Below w.heap.size w (wr.alloc (.cells #[.int .i64 dev, .slice pa pn pc, .slice sa sn sc, .bool idx] 88)) := hbel.alloc zr _
      have zW := bW.size
      have hb6 := heap_alloc_last wr (.cells #[.int .i64 dev, .slice pa pn pc, .slice sa sn sc, .bool idx] 88)
      have d0 := cell_of_row _ _ 0 _ _ _ hb6
      have hand := bit_and set j hset
      have OW := Lib.hid (HO.out.below ((Below.refl _ wr).alloc (Nat.le_refl _) (.cells #[.int .i64 dev, .slice pa pn pc, .slice sa sn sc, .bool idx] 88)))
      clear hb6
      by_cases hq : set / 2 ^ j % 2 = 1
      · rw [hq, show ((1 : Nat) : Int) = 1 from rfl] at hand
        have HNX := Lib.hid (show devTo L set (j + 1) = devTo L set j ++ [dev] by rw [HST.out, if_pos hq])
        obtain ⟨v3, w3, r3, o1, o2, o3, o4⟩ := OW.out.append dev (by omega) zW
        have O1 := Lib.hid o1
        rw [World.size_alloc] at r3
        clear hq o1 o3
        go_wp2_with (at_builtin; refine wpList_append_run (by rfl) (.tmp 22) (.tmp 25) 24 (by rfl) _ (.slice (some ⟨wr.heap.size + 1, 0, none⟩) 1 1) v3 w3 (by rfl) (by rfl) r3 ?_)
        go_roundw
        case rel => exact ⟨j + 1, by omega, by go_num, by rw [HNX.out]; exact O1.out, bW.trans o2⟩
        case measure => simp [intOf]; omega
      · have hq0 : set / 2 ^ j % 2 = 0 := by omega
        rw [hq0, show ((0 : Nat) : Int) = 0 from rfl] at hand
        have HNX := Lib.hid (show devTo L set (j + 1) = devTo L set j by rw [HST.out, if_neg hq, List.append_nil])
        clear hq hq0
        go_wp2
        go_roundw
        case rel => exact ⟨j + 1, by omega, by go_num, by rw [HNX.out]; exact OW.out, bW⟩
        case measure => simp [intOf]; omega
    · have hjl : j = L.length := by omega
      subst hjl
      go_wp2
      go_ret
      exact ⟨_, rfl, by rw [HD.out]; exact HO.out, hbel⟩

end Go.Proofs.Ytapjgjjmlbhanaa
