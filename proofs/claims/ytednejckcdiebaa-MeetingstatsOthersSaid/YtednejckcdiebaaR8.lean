/- The law MeetingstatsOthers, walked. -/
import Derived.Test.YtednejckcdiebaaS4
import Derived.Test.YtednejckcdiebaaR2
import Derived.Test.YtednejckcdiebaaT
import Derived.Laws.OwnMore
namespace Go.Proofs.Ytednejckcdiebaa
open Go.RowKit Go.Lib Go.ChangeMaps
set_option linter.unusedSimpArgs false

/-- A block of n ints. -/
def NRow (w : World) (g n : Nat) (f : Nat → Int) : Prop := ∃ cur : Array Value, w.heap[g]? = some (.cells cur 3 (0, 0)) ∧ cur.size = n ∧ ∀ i, i < n → cur[i]? = some (.int .i64 (f i))
theorem NRow.below {w w' : World} {g n : Nat} {f : Nat → Int} (h : NRow w g n f) (hb : Below w.heap.size w w') : NRow w' g n f := by
  obtain ⟨cur, h1, h2⟩ := h
  exact ⟨cur, bb hb h1, h2⟩
theorem NRow.lt {w : World} {g n : Nat} {f : Nat → Int} (h : NRow w g n f) : g < w.heap.size := by
  obtain ⟨cur, h1, h2⟩ := h
  exact (Array.getElem?_eq_some_iff.1 h1).1
theorem NRow.cell {w : World} {g n : Nat} {f : Nat → Int} (h : NRow w g n f) {i : Nat} (hi : i < n) : w.cell? ⟨g, i, none⟩ = some (.int .i64 (f i)) := by
  obtain ⟨cur, h1, _, h3⟩ := h
  rw [cell_of_block h1]; exact h3 i hi
theorem NRow.free {w : World} {g n : Nat} {f : Nat → Int} (h : NRow w g n f) (i : Nat) : w.frozen? ⟨g, i, none⟩ = false := by
  obtain ⟨cur, h1, _, h3⟩ := h
  exact free_of_block h1 i
theorem setCell_at {w : World} {b i : Nat} {cs : Array Value} {t : TypeId} {fr : Nat × Nat} (h : w.heap[b]? = some (.cells cs t fr)) (v : Value) : (w.setCell ⟨b, i, none⟩ v).heap[b]? = some (.cells (cs.setIfInBounds i v) t fr) := by
  unfold World.setCell
  simp [Array.getElem?_modify, h]
theorem NRow.set {w : World} {g n : Nat} {f : Nat → Int} (h : NRow w g n f) {i : Nat} (_hi : i < n) (y : Int) : NRow (w.setCell ⟨g, i, none⟩ (.int .i64 y)) g n (fun k => if k = i then y else f k) := by
  obtain ⟨cur, h1, h2, h3⟩ := h
  refine ⟨_, setCell_at h1 _, by simp [h2], fun k hk => ?_⟩
  rw [Array.getElem?_setIfInBounds]
  by_cases e : i = k
  · subst e; simp [h2, hk]
  · rw [if_neg e, h3 k hk]
    simp only [if_neg (Ne.symm e)]
theorem NRow.congr {w : World} {g n : Nat} {f f' : Nat → Int} (h : NRow w g n f) (e : ∀ i, i < n → f i = f' i) : NRow w g n f' := by
  obtain ⟨cur, h1, h2, h3⟩ := h
  exact ⟨cur, h1, h2, fun i hi => by rw [h3 i hi, e i hi]⟩
theorem NRow.reads {w : World} {g n : Nat} {f : Nat → Int} (h : NRow w g n f) : Reads w (.slice (some ⟨g, 0, none⟩) n n) ((List.range n).map f) := by
  refine ⟨_, n, by simp, by simp, fun j hj => ⟨g, 0, rfl, ?_⟩⟩
  have hj' : j < n := by simpa using hj
  rw [Nat.zero_add, h.cell hj']
  simp [List.getD, hj']
theorem NRow.other {w w' : World} {g n : Nat} {f : Nat → Int} (h : NRow w g n f) (e : w'.heap[g]? = w.heap[g]?) : NRow w' g n f := by
  obtain ⟨cur, h1, h2⟩ := h
  exact ⟨cur, e.trans h1, h2⟩
theorem info3' : (Try.prog.info? 3).map (fun i => (i.zero, i.size, i.bytes)) = some (some (.int .i64 0), 1, 8) := by kernel_rfl
theorem mk_ints (w : World) (n : Nat) (h0 : 0 < n) (hn : n ≤ 12) : ∃ w', (Instr.makeSlice 39 (.int .i64 n) (.int .i64 n)).run Try.prog w = .ok (.slice (some ⟨w.heap.size, 0, none⟩) n n) w' ∧ NRow w' w.heap.size n (fun _ => 0) ∧ Below w.heap.size w w' := by
  obtain ⟨i, h1, h2, h3, h4⟩ := info_parts info3'
  obtain ⟨w', r, o, g⟩ := run_makeSlice_full (P := Try.prog) w w.heap.size 39 3 i (.int .i64 0) 1 Try.underlying39 h1 h2 h3 .i64 .i64 n (by omega) (by rw [h4]; omega) (by unfold maxLen; omega) (Nat.le_refl _)
  refine ⟨w', r, ?_, ⟨g.os, g.tape, g.output, g.size, fun b hb => g.block b hb (by simp)⟩⟩
  rcases o.2 with ⟨e, _⟩ | ⟨g', cap, cur, e, _, hblk, _, _, hsz, htake⟩
  · cases e
  · cases e
    refine ⟨cur, hblk, by omega, fun k hk => ?_⟩
    have h5 : (cur.toList.take (n * 1))[k]? = some (.int .i64 0) := by
      rw [htake]
      simp [madeCells, Value.cells, hk]
      rw [Nat.mod_one]
      rfl
    rw [List.getElem?_take_of_lt (by omega), Array.getElem?_toList] at h5
    exact h5

set_option maxHeartbeats 2000000 in
theorem ints_same (u v : Value) (zs : List Int) (w : World) (hu : Reads w u zs) (hv : Reads w v zs) (hlen : zs.length ≤ 1000) :
    Calls Try.prog 35 #[u, v] w fun e w' => e = .returned (.bool true) ∧ Below w.heap.size w w' := by
  obtain ⟨ua, uc, ub, uo, rfl, hul, hucell⟩ := Reads.at hu
  obtain ⟨va, vc, vb, vo, rfl, hvl, hvcell⟩ := Reads.at hv
  have UC := Lib.hid hucell
  have VC := Lib.hid hvcell
  clear hu hv hucell hvcell
  go_enter Try.func35, Try.ntmps35
  go_wp2
  go_loopw [5] (fun v5 wr => ∃ j : Nat, j ≤ zs.length ∧ v5 = .int .i64 j ∧ Below w.heap.size w wr) (fun v5 _ => zs.length - (intOf v5).toNat)
  case atStart => exact ⟨0, Nat.zero_le _, rfl, Below.refl _ _⟩
  case round =>
    obtain ⟨j, hj, rfl, hbel⟩ := hrel
    have HB := Lib.hid hbel
    by_cases hlt : j < zs.length
    · obtain ⟨rfl, e1⟩ := UC.out j hlt
      obtain ⟨rfl, e2⟩ := VC.out j hlt
      have e1 := bc hbel e1
      have e2 := bc hbel e2
      generalize zs.getD j 0 = x at *
      have HBD := Lib.hid hbel.drew
      have hxx : (x != x) = false := by simp
      clear hbel
      go_upto_region 6 with fail
      have HSB0 : ∀ w' : World, Below (wr).drew.heap.size (wr).drew w' → (w'.cell? ⟨ub, uo + j, none⟩ = some (.int .i64 x) ∧ w'.cell? ⟨vb, vo + j, none⟩ = some (.int .i64 x)) := fun w' hb => ⟨bc hb e1, bc hb e2⟩
      refine wp_region_held_drew (S := fun w' => w'.cell? ⟨ub, uo + j, none⟩ = some (.int .i64 x) ∧ w'.cell? ⟨vb, vo + j, none⟩ = some (.int .i64 x)) (by kernel_rfl) (HSB0 _ (Below.refl _ _)) (fun hHeld => ?_)
      have HSB := Lib.hid HSB0
      clear HSB0
      generalize (wr).drew = Wd at *
      clear e1 e2
      refine wpAnyH_take (i := 0) (v := ?_) rfl (by kernel_rfl) (by kernel_rfl) (by kernel_rfl) (fun _ _ _ h => h) (Or.inl ⟨by rfl, ?_⟩) (by assumption) ?_
      rotate_left; · (intro w hSw; (try dsimp only at hSw); go_simp; try with_reducible rfl)
      try simp only [Act.put, List.getElem_toArray, List.getElem_cons_zero, List.getElem_cons_succ, List.setIfInBounds_toArray, List.set_cons_zero, List.set_cons_succ]
      refine wpAnyH_take (i := 1) (v := ?_) rfl (by kernel_rfl) (by kernel_rfl) (by kernel_rfl) (fun _ _ _ h => h) (Or.inl ⟨by rfl, ?_⟩) (by assumption) ?_
      rotate_left; · (intro w hSw; (try dsimp only at hSw); go_simp; try with_reducible rfl)
      try simp only [Act.put, List.getElem_toArray, List.getElem_cons_zero, List.getElem_cons_succ, List.setIfInBounds_toArray, List.set_cons_zero, List.set_cons_succ]
      refine wpAnyH_take (i := 2) (v := ?_) rfl (by kernel_rfl) (by kernel_rfl) (by kernel_rfl) (fun _ _ _ h => h) (Or.inl ⟨by rfl, ?_⟩) (by assumption) ?_
      rotate_left; · (intro w hSw; (try dsimp only at hSw); go_simp; try with_reducible rfl)
      try simp only [Act.put, List.getElem_toArray, List.getElem_cons_zero, List.getElem_cons_succ, List.setIfInBounds_toArray, List.set_cons_zero, List.set_cons_succ]
      refine wpAnyH_take (i := 3) (v := ?_) rfl (by kernel_rfl) (by kernel_rfl) (by kernel_rfl) (fun _ _ _ h => h) (Or.inl ⟨by rfl, ?_⟩) (by assumption) ?_
      rotate_left; · (intro w hSw; (try dsimp only at hSw); go_simp; try with_reducible rfl)
      try simp only [Act.put, List.getElem_toArray, List.getElem_cons_zero, List.getElem_cons_succ, List.setIfInBounds_toArray, List.set_cons_zero, List.set_cons_succ]
      refine wpAnyH_take (i := 4) (v := ?_) rfl (by kernel_rfl) (by kernel_rfl) (by kernel_rfl) (fun _ _ _ h => h) (Or.inl ⟨by rfl, ?_⟩) (by assumption) ?_
      rotate_left; · (intro w hSw; (try dsimp only at hSw); go_simp; try with_reducible rfl)
      try simp only [Act.put, List.getElem_toArray, List.getElem_cons_zero, List.getElem_cons_succ, List.setIfInBounds_toArray, List.set_cons_zero, List.set_cons_succ]
      refine wpAnyH_take (i := 5) (v := ?_) rfl (by kernel_rfl) (by kernel_rfl) (by kernel_rfl) (fun _ _ _ h => h) (Or.inl ⟨by rfl, ?_⟩) (by assumption) ?_
      rotate_left; · (intro w hSw; (try dsimp only at hSw); go_simp; try with_reducible rfl)
      try simp only [Act.put, List.getElem_toArray, List.getElem_cons_zero, List.getElem_cons_succ, List.setIfInBounds_toArray, List.set_cons_zero, List.set_cons_succ]
      refine wpAnyH_take (i := 6) (v := ?_) rfl (by kernel_rfl) (by kernel_rfl) (by kernel_rfl) (fun _ _ _ h => h) (Or.inl ⟨by rfl, ?_⟩) (by assumption) ?_
      rotate_left; · (intro w hSw; (try dsimp only at hSw); go_simp; try with_reducible rfl)
      try simp only [Act.put, List.getElem_toArray, List.getElem_cons_zero, List.getElem_cons_succ, List.setIfInBounds_toArray, List.set_cons_zero, List.set_cons_succ]
      refine wpAnyH_take (i := 7) (v := ?_) rfl (by kernel_rfl) (by kernel_rfl) (by kernel_rfl) (fun _ _ _ h => h) (Or.inl ⟨by rfl, ?_⟩) (by assumption) ?_
      rotate_left; · (intro w hSw; (try dsimp only at hSw); go_simp; try with_reducible rfl)
      try simp only [Act.put, List.getElem_toArray, List.getElem_cons_zero, List.getElem_cons_succ, List.setIfInBounds_toArray, List.set_cons_zero, List.set_cons_succ]
      refine wpAnyH_take (i := 8) (v := ?_) rfl (by kernel_rfl) (by kernel_rfl) (by kernel_rfl) (fun _ _ _ h => h) (Or.inl ⟨by rfl, ?_⟩) (by assumption) ?_
      rotate_left; · (intro w hSw; (try dsimp only at hSw); go_simp; try with_reducible rfl)
      try simp only [Act.put, List.getElem_toArray, List.getElem_cons_zero, List.getElem_cons_succ, List.setIfInBounds_toArray, List.set_cons_zero, List.set_cons_succ]
      refine wpAnyH_done (by kernel_rfl) ?_ _
      clear hHeld HSB
      go_wp2
      go_roundw
      case rel => exact ⟨j + 1, by omega, by go_num, HBD.out⟩
      case measure => simp [intOf]; omega
    · clear hbel
      go_wp2
      go_ret
      exact ⟨rfl, HB.out⟩

set_option maxRecDepth 100000 in
set_option maxHeartbeats 1000000 in
theorem others_long (n : Int) (ao : Option Addr) (len c : Nat) (a d : Int) (w : World) (h : 60 < len) (hm : len ≤ 9223372036854775807) :
    Calls Try.prog 12 #[.int .i64 n, .slice ao len c, .int .i64 a, .int .i64 d] w fun e w' => e = .returned (.bool true) ∧ Below w.heap.size w w' := by
  have CA := Lib.hid awake_any
  go_enter Try.func12, Try.ntmps12
  go_wp2_with fail
  refine (CA.out _).mono ?_
  rintro e w1 ⟨rfl, hb1⟩
  go_wp2
  go_ret
  exact ⟨rfl, by (repeat' (first | (with_reducible exact Below.refl _ _) | (with_reducible assumption) | (with_reducible refine Below.alloc ?_ ?_ _) | (with_reducible refine Below.drew ?_) | (with_reducible refine below_drewN ?_ _) | (with_reducible refine Below.setCell ?_ ?_ _) | (with_reducible refine below_step ?_ (by with_reducible assumption) ?_) | go_size))⟩

set_option maxRecDepth 100000 in
set_option maxHeartbeats 1000000 in
theorem others_bad (n : Int) (v : Value) (xs : List Mt) (a d : Int) (w : World) (hv : ReadsM w v xs) (h : xs.length ≤ 60) (hn : n < 2 ∨ 12 < n) :
    Calls Try.prog 12 #[.int .i64 n, v, .int .i64 a, .int .i64 d] w fun e w' => e = .returned (.bool true) ∧ Below w.heap.size w w' := by
  have CA := Lib.hid awake_any
  have CP := Lib.hid (fun v w => play_bad n v w hn)
  obtain ⟨ao, c, rfl, hcap, _⟩ := hv
  clear hn
  go_enter Try.func12, Try.ntmps12
  go_wp2_with fail
  refine (CP.out _ _).mono ?_
  rintro e w1 ⟨rfl, rfl⟩
  go_wp2_with fail
  refine (CA.out _).mono ?_
  rintro e w2 ⟨rfl, hb2⟩
  go_wp2
  go_ret
  exact ⟨rfl, by (repeat' (first | (with_reducible exact Below.refl _ _) | (with_reducible assumption) | (with_reducible refine Below.alloc ?_ ?_ _) | (with_reducible refine Below.drew ?_) | (with_reducible refine below_drewN ?_ _) | (with_reducible refine Below.setCell ?_ ?_ _) | (with_reducible refine below_step ?_ (by with_reducible assumption) ?_) | go_size))⟩

set_option maxRecDepth 100000 in
set_option maxHeartbeats 4000000 in
theorem others_none (n : Int) (v : Value) (xs : List Mt) (a d : Int) (w : World) (hv : ReadsM w v xs) (h : xs.length ≤ 60) (hn1 : 2 ≤ n) (hn2 : n ≤ 12) (hf : ¬ (0 ≤ a ∧ a < n ∧ 0 ≤ d ∧ d ≤ 999999)) :
    Calls Try.prog 12 #[.int .i64 n, v, .int .i64 a, .int .i64 d] w fun e w' => e = .returned (.bool true) ∧ Below w.heap.size w w' := by
  have CA := Lib.hid awake_any
  have CP := Lib.hid (play_ok n v xs w hn1 hn2 hv h)
  obtain ⟨ao, c, rfl, hcap, _⟩ := hv
  go_enter Try.func12, Try.ntmps12
  go_wp2_with fail
  refine CP.out.mono ?_
  rintro e w1 ⟨k, dv, F, N, M, rfl, hb1, hB, hT, hF, hO⟩
  have HB1 := Lib.hid hb1
  clear CP hB hT hF hO hb1
  by_cases k1 : a < 0
  · clear hf
    go_wp2_with fail
    refine (CA.out _).mono ?_
    rintro e w4 ⟨rfl, hb4⟩
    go_wp2
    go_ret
    exact ⟨rfl, HB1.out.trans (hb4.mono HB1.out.size)⟩
  by_cases k2 : n ≤ a
  · clear hf
    go_wp2_with fail
    refine (CA.out _).mono ?_
    rintro e w4 ⟨rfl, hb4⟩
    go_wp2
    go_ret
    exact ⟨rfl, HB1.out.trans (hb4.mono HB1.out.size)⟩
  by_cases k3 : d < 0
  · clear hf
    go_wp2_with fail
    refine (CA.out _).mono ?_
    rintro e w4 ⟨rfl, hb4⟩
    go_wp2
    go_ret
    exact ⟨rfl, HB1.out.trans (hb4.mono HB1.out.size)⟩
  have k4 : 999999 < d := by omega
  clear hf
  go_wp2_with fail
  refine (CA.out _).mono ?_
  rintro e w4 ⟨rfl, hb4⟩
  go_wp2
  go_ret
  exact ⟨rfl, HB1.out.trans (hb4.mono HB1.out.size)⟩

theorem rank_mem' {nn : Nat} {a : Int} {rs : List Int} (hp : rs.Perm (othL nn a)) {i : Nat} (hi : i < rs.length) : (0 ≤ rs.getD i 0 ∧ rs.getD i 0 < nn) ∧ rs.getD i 0 ≠ a := by
  have : rs.getD i 0 ∈ rs := by rw [List.getD, List.getElem?_eq_getElem hi]; exact List.getElem_mem hi
  exact mem_othL.1 (hp.mem_iff.1 this)
theorem count_take {rs : List Int} {i : Nat} (h : i < rs.length) (x : Int) : ((rs.take (i + 1)).count x : Int) = (rs.take i).count x + if x = rs.getD i 0 then 1 else 0 := by
  rw [List.take_succ_eq_append_getElem h, List.count_append, List.getD, List.getElem?_eq_getElem h]
  by_cases e : x = rs[i]
  · simp [e]
  · simp [e, List.count_cons, Ne.symm e]
theorem count_all {nn : Nat} {a : Int} {rs : List Int} (hp : rs.Perm (othL nn a)) {k : Nat} (hk : k < nn) : ((rs.count (k : Int) : Nat) : Int) = if (k : Int) = a then 0 else 1 := by
  rw [hp.count_eq, (othL_nodup nn a).count]
  by_cases e : (k : Int) = a
  · rw [if_neg (fun h => (mem_othL.1 h).2 e), if_pos e]; rfl
  · rw [if_pos (mem_othL.2 ⟨⟨by omega, by omega⟩, e⟩), if_neg e]; rfl

set_option maxRecDepth 100000 in
set_option maxHeartbeats 16000000 in
theorem others_fit (nn : Nat) (v : Value) (xs : List Mt) (a d : Int) (w : World) (hv : ReadsM w v xs) (h : xs.length ≤ 60) (hn1 : 2 ≤ nn) (hn2 : nn ≤ 12) (ha0 : 0 ≤ a) (ha1 : a < nn) (hd0 : 0 ≤ d) (hd1 : d ≤ 999999) :
    Calls Try.prog 12 #[.int .i64 nn, v, .int .i64 a, .int .i64 d] w fun e w' => e = .returned (.bool true) ∧ Below w.heap.size w w' := by
  have CA := Lib.hid awake_any
  have CP := Lib.hid (play_ok nn v xs w (by omega) (by omega) hv h)
  obtain ⟨ao, c, rfl, hcap, _⟩ := hv
  go_enter Try.func12, Try.ntmps12
  go_wp2_with fail
  refine CP.out.mono ?_
  rintro e w1 ⟨k, dv, F, N, M, rfl, hb1, hB, hT, hF, hO⟩
  have HB1 := Lib.hid hb1
  have CR := Lib.hid (Rank_ok F k nn N M w1 hB hT.rise a d hn2 ha0 ha1 hd0 hd1)
  have g1 : ¬ d < 0 := by omega
  have g2 : ¬ 999999 < d := by omega
  have g3 : ¬ a < 0 := by omega
  have g4 : ¬ (nn : Int) ≤ a := by omega
  clear CP hB hT hF hO hb1 hd0 hd1
  go_wp2_with fail
  refine CR.out.mono ?_
  rintro e w3 ⟨v, rs, rfl, hr, hp, hs, hb3⟩
  have HB3 := Lib.hid (HB1.out.trans (hb3.mono HB1.out.size))
  have HR := Lib.hid hr
  have HPM := Lib.hid hp
  have hrl : rs.length ≤ 12 := by have := hp.length_eq; have := othL_len nn a; omega
  obtain ⟨ra, rc, rfl, hrc, _⟩ := hr
  clear CR hb3 hp hs
  obtain ⟨w4, r4, n4, b4⟩ := mk_ints w3 nn (by omega) hn2
  have HN4 := Lib.hid n4
  have HB4 := Lib.hid (HB3.out.trans (b4.mono HB3.out.size))
  have HR4 := Lib.hid (HR.out.below b4)
  obtain ⟨S, hS⟩ : ∃ S, S = w3.heap.size := ⟨_, rfl⟩
  have HS := Lib.hid hS
  have HSB := Lib.hid (show w.heap.size ≤ S by rw [hS]; exact HB3.out.size)
  obtain ⟨_, _, rb, ro, hre, _, hcell⟩ := Reads.at HR4.out
  cases hre
  have hlen0 : 0 < rs.length := by have := HPM.out.length_eq; have := othL_length nn a ha0 ha1; omega
  obtain ⟨rfl, _⟩ := hcell 0 hlen0
  have hrb : rb < S := by
    obtain ⟨_, _, b, off, e, _, hc⟩ := Reads.at HR.out
    cases e
    obtain ⟨e, hc⟩ := hc 0 hlen0
    cases e
    rw [hS]; exact cell_lt hc
  have HC := Lib.hid (fun i (hi : i < rs.length) => (hcell i hi).2)
  have HRB := Lib.hid hrb
  have HSL := Lib.hid (show S < w4.heap.size by rw [hS]; exact n4.lt)
  rw [← hS] at HN4 r4
  clear n4 b4 hS hcell hrb hlen0
  go_wp2
  go_loopw [15] (fun v15 wr => ∃ i : Nat, i ≤ rs.length ∧ v15 = .int .i64 i ∧ Below S w4 wr ∧ NRow wr S nn (fun k => ((rs.take i).count (k : Int) : Nat))) (fun v15 _ => rs.length - (intOf v15).toNat)
  case atStart => exact ⟨0, Nat.zero_le _, rfl, Below.refl _ _, HN4.out.congr fun _ _ => by simp⟩
  case round =>
    obtain ⟨i, hi, rfl, hbel, hrow⟩ := hrel
    have HBI := Lib.hid hbel
    have HRI := Lib.hid hrow
    by_cases hlt : i < rs.length
    · have ci := HC.out i hlt
      have ci : wr.cell? ⟨rb, ro + i, none⟩ = some (.int .i64 (rs.getD i 0)) := (hbel.cell (p := ⟨rb, _, none⟩) HRB.out).trans ci
      obtain ⟨⟨m1, m2⟩, m3⟩ := rank_mem' HPM.out hlt
      have HCT := Lib.hid (fun x => count_take hlt x)
      obtain ⟨xn, hxn⟩ : ∃ xn : Nat, rs.getD i 0 = (xn : Int) := ⟨(rs.getD i 0).toNat, by omega⟩
      rw [hxn] at ci m1 m2 m3 HCT
      have hx2 : xn < nn := by omega
      have cs := hrow.cell hx2
      have cf := hrow.free xn
      have HST := Lib.hid (fun y => hrow.set hx2 y)
      have HBST := Lib.hid (fun y : Value => Below.setCell hbel (p := ⟨S, xn, none⟩) (Nat.le_refl S) y)
      have hcb : ((rs.take i).count (xn : Int)) ≤ 12 := by have := List.count_le_length (a := (xn : Int)) (l := rs.take i); rw [List.length_take] at this; omega
      have HCB := Lib.hid hcb
      obtain ⟨cn, hcn⟩ : ∃ cn, cn = (rs.take i).count (xn : Int) := ⟨_, rfl⟩
      have HCN := Lib.hid hcn
      rw [← hcn] at cs hcb
      clear hxn hbel hrow hcn
      go_wp2
      go_roundw
      case rel => exact ⟨i + 1, by omega, by go_num, HBST.out _, (HST.out _).congr fun k hk => by
        rw [HCT.out]
        by_cases e : k = xn
        · rw [if_pos e, e, ← HCN.out, if_pos rfl]
        · rw [if_neg e, if_neg (by omega)]; omega⟩
      case measure => simp [intOf]; omega
    · have hir : i = rs.length := by omega
      subst hir
      rw [List.take_length] at hrow HRI
      have HSR := Lib.hid (hrow.congr (f' := fun k => if (k : Int) = a then 0 else 1) (fun k hk => count_all HPM.out hk))
      obtain ⟨w5, r5, n5, b5⟩ := mk_ints wr nn (by omega) hn2
      have HN5 := Lib.hid n5
      have HSR5 := Lib.hid (HSR.out.below b5)
      have HB5 := Lib.hid ((HB4.out.trans (hbel.mono HSB.out |>.mono (Nat.le_refl _))).trans (b5.mono (Nat.le_trans HB4.out.size hbel.size)))
      obtain ⟨G, hG⟩ : ∃ G, G = wr.heap.size := ⟨_, rfl⟩
      have HGB := Lib.hid (show w.heap.size ≤ G by rw [hG]; exact Nat.le_trans HB4.out.size hbel.size)
      have HGS := Lib.hid (show S < G by rw [hG]; exact Nat.lt_of_lt_of_le HSL.out hbel.size)
      rw [← hG] at HN5 r5
      clear n5 b5 hG hrow hbel
      go_wp2
      go_loopw [17] (fun v17 wx => ∃ j : Nat, j ≤ nn ∧ v17 = .int .i64 j ∧ Below G w5 wx ∧ NRow wx G nn (fun k => if k < j ∧ (k : Int) ≠ a then 1 else 0)) (fun v17 _ => nn - (intOf v17).toNat)
      case atStart => exact ⟨0, Nat.zero_le _, rfl, Below.refl _ _, HN5.out.congr fun k _ => by rw [if_neg (fun h => absurd h.1 (Nat.not_lt_zero _))]⟩
      case round =>
        obtain ⟨j, hj, rfl, hbj, hrj⟩ := hrel
        have HBJ := Lib.hid hbj
        by_cases hjn : j < nn
        · by_cases hja : (j : Int) = a
          · have p1 : ((j : Int) != a) = false := by simp [hja]
            have HRN := Lib.hid (hrj.congr (f' := fun k => if k < j + 1 ∧ (k : Int) ≠ a then 1 else 0) (fun k hk => by
              by_cases e : k = j
              · subst e; simp [hja]
              · have : k < j ↔ k < j + 1 := by omega
                simp only [this]))
            clear hja hrj hbj
            go_wp2
            go_roundw
            case rel => exact ⟨j + 1, by omega, by go_num, HBJ.out, HRN.out⟩
            case measure => simp [intOf]; omega
          · have p1 : ((j : Int) != a) = true := by simp [hja]
            have cf := hrj.free j
            have cs := hrj.cell hjn
            have HRN := Lib.hid ((hrj.set hjn 1).congr (f' := fun k => if k < j + 1 ∧ (k : Int) ≠ a then 1 else 0) (fun k hk => by
              by_cases e : k = j
              · subst e; simp [hja]
              · have : k < j ↔ k < j + 1 := by omega
                simp only [if_neg e, this]))
            have HBN := Lib.hid (fun y : Value => Below.setCell hbj (p := ⟨G, j, none⟩) (Nat.le_refl G) y)
            have HGL := hrj.lt
            clear hja hrj hbj
            go_wp2
            go_roundw
            case rel => exact ⟨j + 1, by omega, by go_num, HBN.out _, HRN.out⟩
            case measure => simp [intOf]; omega
        · have hjj : j = nn := by omega
          subst hjj
          have HW := Lib.hid (hrj.congr (f' := fun k => if (k : Int) = a then 0 else 1) (fun k hk => by
            by_cases e : (k : Int) = a
            · simp [e]
            · simp [e, hk]))
          have HS6 := Lib.hid (HSR5.out.other (hbj.block S HGS.out))
          have HB6 := Lib.hid (HB5.out.trans (hbj.mono HGB.out))
          clear hrj hbj HBJ
          go_wp2_with fail
          refine (CA.out _).mono ?_
          rintro e w7 ⟨rfl, hb7⟩
          have CI := Lib.hid (ints_same _ _ _ w7 (HS6.out.below hb7).reads (HW.out.below hb7).reads (by simp; omega))
          have HB7 := Lib.hid (HB6.out.trans (hb7.mono HB6.out.size))
          clear hb7
          go_wp2_with fail
          refine CI.out.mono ?_
          rintro e w8 ⟨rfl, hb8⟩
          go_wp2
          go_ret
          exact ⟨rfl, HB7.out.trans (hb8.mono HB7.out.size)⟩

theorem others_any (n : Int) (v : Value) (xs : List Mt) (a d : Int) (w : World) (hv : ReadsM w v xs) (hm : xs.length ≤ 9223372036854775807) :
    Calls Try.prog 12 #[.int .i64 n, v, .int .i64 a, .int .i64 d] w fun e w' => e = .returned (.bool true) ∧ Below w.heap.size w w' := by
  by_cases h : 60 < xs.length
  · obtain ⟨ao, c, rfl, _, _⟩ := hv
    exact others_long n ao xs.length c a d w h hm
  · by_cases hn : n < 2 ∨ 12 < n
    · exact others_bad n v xs a d w hv (by omega) hn
    · by_cases hf : 0 ≤ a ∧ a < n ∧ 0 ≤ d ∧ d ≤ 999999
      · obtain ⟨nn, rfl⟩ : ∃ nn : Nat, n = nn := ⟨n.toNat, by omega⟩
        exact others_fit nn v xs a d w hv (by omega) (by omega) (by omega) hf.1 hf.2.1 hf.2.2.1 hf.2.2.2
      · exact others_none n v xs a d w hv (by omega) (by omega) (by omega) hf

end Go.Proofs.Ytednejckcdiebaa
