/- Index, Contains, left. -/
import Derived.Test.YtijcicgbhcphjaaB8
namespace Go.Proofs.Ytijcicgbhcphjaa
open Go.RowKit Go.Lib Go.ChangeMaps
set_option linter.unusedSimpArgs false

/-- The first place of a number. -/
def idxI (y : Int) : List Int → Int
  | [] => -1
  | x :: r => if y = x then 0 else if idxI y r < 0 then -1 else idxI y r + 1
theorem idxI_ge (y : Int) : ∀ zs : List Int, -1 ≤ idxI y zs
  | [] => by simp [idxI]
  | x :: r => by
    have := idxI_ge y r
    unfold idxI
    split
    · omega
    · split <;> omega
theorem idxI_none {y : Int} : ∀ {zs : List Int}, y ∉ zs → idxI y zs = -1
  | [], _ => rfl
  | x :: r, h => by
    simp only [List.mem_cons, not_or] at h
    unfold idxI
    rw [if_neg h.1, idxI_none h.2]
    rfl
theorem idxI_at {y : Int} : ∀ {zs : List Int} {j : Nat}, (h : j < zs.length) → y = zs[j] → y ∉ zs.take j → idxI y zs = j
  | [], _, h, _, _ => by simp at h
  | x :: r, 0, _, e, _ => by simp at e; simp [idxI, e]
  | x :: r, j + 1, h, e, hn => by
    simp only [List.take_succ_cons, List.mem_cons, not_or, List.getElem_cons_succ] at hn e
    have := idxI_at (zs := r) (j := j) (by simpa using h) e hn.2
    unfold idxI
    rw [if_neg hn.1, this, if_neg (by omega)]
    simp
theorem idxI_mem {y : Int} {zs : List Int} : 0 ≤ idxI y zs ↔ y ∈ zs := by
  constructor
  · intro h
    by_cases hm : y ∈ zs
    · exact hm
    · rw [idxI_none hm] at h; omega
  · intro h
    induction zs with
    | nil => simp at h
    | cons x r ih =>
      unfold idxI
      split
      · omega
      · rename_i hne
        have := ih ((List.mem_cons.1 h).resolve_left hne)
        rw [if_neg (by omega)]
        omega

set_option maxRecDepth 100000 in
set_option maxHeartbeats 1000000 in
theorem index_any (v : Value) (zs : List Int) (y : Int) (w : World) (hv : ReadsI w v zs) :
    Calls Try.prog 69 #[v, .int .i64 y] w fun e w' => e = .returned (.int .i64 (idxI y zs)) ∧ w = w' := by
  obtain ⟨ao, c, b, off, rfl, hl, hm, hcell⟩ := hv.at
  have HC := Lib.hid hcell
  clear hcell hv
  obtain ⟨r, hr⟩ : ∃ r, r = idxI y zs := ⟨_, rfl⟩
  rw [← hr]
  have HR := Lib.hid hr
  clear hr
  go_enter Try.func69, Try.ntmps69
  go_wp2
  go_loop [8, 5] (fun v8 _ => ∃ j : Nat, j ≤ zs.length ∧ v8 = .int .i64 j ∧ y ∉ zs.take j) (fun v8 _ => zs.length - (intOf v8).toNat)
  case atStart => exact ⟨0, Nat.zero_le _, rfl, by simp⟩
  case round =>
    obtain ⟨j, hj, rfl, hnot⟩ := hrel
    have HN := Lib.hid hnot
    clear hnot
    by_cases hlt : j < zs.length
    · obtain ⟨e1, e2⟩ := HC.out j hlt
      subst e1
      have hg := getD_at zs j 0 hlt
      have hs := mem_take_succ zs y j hlt
      have hi := fun e => idxI_at (y := y) hlt e HN.out
      have HS := Lib.hid hs
      have HI := Lib.hid hi
      rw [hg] at e2
      clear hs hg hi
      generalize zs[j] = x at e2 HS HI
      by_cases hy : y = x
      · have k1 : (y == x) = true := by simp [hy]
        obtain rfl : r = j := by rw [HR.out]; exact HI.out hy
        clear hy HR
        go_wp2
        go_ret
        exact ⟨rfl, rfl⟩
      · have k1 : (y == x) = false := by simp [hy]
        have HY := Lib.hid hy
        clear hy
        go_wp2
        go_round
        case rel => exact ⟨j + 1, by omega, by go_num, fun h => by rcases HS.out.1 h with h | h; (exact HN.out h); (exact HY.out h)⟩
        case measure => simp [intOf]; omega
    · have hjl : j = zs.length := by omega
      subst hjl
      have hn := HN.out
      rw [List.take_length] at hn
      obtain rfl : r = -1 := by rw [HR.out]; exact idxI_none hn
      clear hn HR
      go_wp2
      go_ret
      exact ⟨rfl, rfl⟩

set_option maxRecDepth 100000 in
set_option maxHeartbeats 1000000 in
theorem contains_any (v : Value) (zs : List Int) (y : Int) (w : World) (hv : ReadsI w v zs) :
    Calls Try.prog 70 #[v, .int .i64 y] w fun e w' => e = .returned (.bool (decide (y ∈ zs))) ∧ w = w' := by
  have hc := index_any v zs y w hv
  have hm : decide (y ∈ zs) = decide (0 ≤ idxI y zs) := decide_eq_decide.2 idxI_mem.symm
  obtain ⟨ao, c, b, off, rfl, hl, hm1, hcell⟩ := hv.at
  rw [hm]
  clear hm hcell hv
  have HC := Lib.hid hc
  clear hc
  generalize idxI y zs = r at *
  go_enter Try.func70, Try.ntmps70
  go_wp2_with fail
  refine HC.out.mono ?_
  rintro e w3 ⟨rfl, rfl⟩
  go_wp2
  go_ret
  exact ⟨rfl, rfl⟩

theorem OwnI.app {V : World} {base : Nat} {v : Value} {ds : List Int} (h : OwnI V base v ds) (y : Int) (hn : ds.length ≤ 1000000000) (hbase : base ≤ V.heap.size) :
    ∃ v' w', (Builtin.append_ #[24, 24] 24 #[v, .slice (some ⟨V.heap.size, 0, none⟩) 1 1]).run Try.prog (V.alloc (.cells #[.int .i64 y] 3)) = .ok v' w' ∧ OwnI w' base v' (ds ++ [y]) ∧ Below base V w' ∧
      (∀ b, b < V.heap.size → v.ownBlock ≠ some b → w'.heap[b]? = V.heap[b]?) ∧ (v'.ownBlock = v.ownBlock ∨ v'.ownBlock = some (V.heap.size + 1)) ∧ V.heap.size + 1 ≤ w'.heap.size := by
  have h' : Own V base 3 v 1 ds.length fun i _ => .int .i64 ((ds ++ [y]).getD i 0) := Own.congr h fun i j hi hj => by rw [getD_at _ _ _ hi, getD_at _ _ _ (by rw [List.length_append]; omega), List.getElem_append_left hi]
  obtain ⟨v3, w3, r3, o1, o2, o3, o4, o5⟩ := Own.append (V := V) (t := 24) (e := 3) (z := .int .i64 0) (k := 1) (bytes := 8) Try.underlying24 (by kernel_rfl) rfl (by omega) (by omega) h' 24 [.int .i64 y] rfl (fun q hq => by
    have : q = 0 := by omega
    subst this
    simp [List.getD]) (by simp [Value.oneCell']) (by omega) hbase
  refine ⟨v3, w3, r3, ?_, o2, o3, o4, o5⟩
  unfold OwnI
  rw [List.length_append]
  exact o1

end Go.Proofs.Ytijcicgbhcphjaa
