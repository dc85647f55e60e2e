/- A supply, its cells. -/
import Derived.Test.YtapjgjjmlbhanaaB4
import Derived.Test.YtapjgjjmlbhanaaA5
import Derived.Deep.WholeRow
import Derived.Deep.MidRow
namespace Go.Proofs.Ytapjgjjmlbhanaa
open Go.RowKit Go.Lib

/-- A supply: the bits of the pieces by need, the bits of the shares, the index. -/
structure Sup where
  pc : Nat → Nat
  sh : Nat → Nat
  ix : Bool
structure Sup.Wf (s : Sup) : Prop where
  pc : ∀ i, s.pc i < 65536
  sh : ∀ i, s.sh i < 18446744073709551616
def Sup.cell (s : Sup) (i : Nat) : Value := if i < 64 then .int .u16 (s.pc i) else if i < 68 then .int .u64 (s.sh (i - 64)) else .bool s.ix
def Sup.list (s : Sup) : List Value := (List.range 69).map s.cell
def Sup.cells (s : Sup) : Array Value := s.list.toArray
def Sup.v (s : Sup) : Value := .agg s.cells

theorem Sup.list_length (s : Sup) : s.list.length = 69 := by simp [Sup.list]
theorem Sup.cells_size (s : Sup) : s.cells.size = 69 := by simp [Sup.cells, Sup.list]
theorem Sup.list_at (s : Sup) (i : Nat) (h : i < 69) : s.list[i]? = some (s.cell i) := by simp [Sup.list, h]
theorem Sup.cells_at (s : Sup) (i : Nat) (h : i < 69) : s.cells[i]? = some (s.cell i) := by simp [Sup.cells, Sup.list, h]
theorem Sup.cells_one (s : Sup) : s.cells.all (·.oneCell') = true := by
  refine all_oneCell_toArray fun v hv => ?_
  simp only [Sup.list, List.mem_map] at hv
  obtain ⟨i, _, rfl⟩ := hv
  unfold Sup.cell
  split
  · rfl
  · split <;> rfl

/-- A block that holds a supply. -/
def SupAt (w : World) (b : Nat) (s : Sup) : Prop := w.heap[b]? = some (.cells s.cells 99 (0, 0))
theorem SupAt.cell {w : World} {b : Nat} {s : Sup} (h : SupAt w b s) (i : Nat) (hi : i < 69) : w.cell? ⟨b, i, none⟩ = some (s.cell i) := (cell_of_row w b i _ _ _ h).trans (s.cells_at i hi)
theorem SupAt.pc {w : World} {b : Nat} {s : Sup} (h : SupAt w b s) (i : Nat) (hi : i < 64) : w.cell? ⟨b, i, none⟩ = some (.int .u16 (s.pc i)) := by
  rw [h.cell i (by omega), Sup.cell, if_pos hi]
theorem SupAt.sh {w : World} {b : Nat} {s : Sup} (h : SupAt w b s) (i : Nat) (hi : i < 4) : w.cell? ⟨b, 64 + i, none⟩ = some (.int .u64 (s.sh i)) := by
  rw [h.cell _ (by omega), Sup.cell, if_neg (by omega), if_pos (by omega), Nat.add_sub_cancel_left]
theorem SupAt.ix {w : World} {b : Nat} {s : Sup} (h : SupAt w b s) : w.cell? ⟨b, 68, none⟩ = some (.bool s.ix) := by
  rw [h.cell _ (by omega), Sup.cell, if_neg (by omega), if_neg (by omega)]
theorem SupAt.below {w w' : World} {b : Nat} {s : Sup} (h : SupAt w b s) (hb : Below w.heap.size w w') : SupAt w' b s := (hb.block b (Array.getElem?_eq_some_iff.1 h).1).trans h
theorem SupAt.new (w : World) (s : Sup) : SupAt (w.alloc (.cells s.cells 99)) w.heap.size s := heap_alloc_last w _

theorem info99 : (Try.prog.info? 99).map (·.size) = some 69 := by kernel_rfl

theorem quiet_drew {P : Program} {f : FuncId} {args : Array Value} {w : World} {x : Nat} {v : Value} (h : Calls P f args (w.drewN x) fun e w' => e = .returned v ∧ ∃ q, w' = (w.drewN x).drewN q) : Calls P f args (w.drewN x) fun e w' => e = .returned v ∧ ∃ n, w' = w.drewN n :=
  h.mono fun _ _ ⟨he, _, hw⟩ => ⟨he, _, hw.trans (World.drewN_drewN ..)⟩

theorem ret_int {k : IntKind} {a b : Int} (h : a = b) : Ending.returned (.int k a) = .returned (.int k b) := by rw [h]

/-- What is lacking of a need. -/
def lackN (d : Int) (m : Nat) : Int := max 0 (d - pop 16 m)

set_option maxRecDepth 100000 in
set_option maxHeartbeats 2000000 in
theorem lacking_any (p : Nat) (s : Sup) (nv : Value) (ns : List Nd) (i : Nat) (w : World) (hi : i < ns.length) (h64 : ns.length ≤ 64) (hp : w.cell? ⟨p, 0, none⟩ = some nv) (hn : ReadsN w nv ns) (hs : s.Wf)
    (hd : 1 ≤ (ns.getD i default).d) (hd8 : (ns.getD i default).d ≤ 8) :
    Calls Try.prog 45 #[.pointer (some ⟨p, 0, none⟩), s.v, .int .i64 i] w fun e w' => e = .returned (.int .i64 (lackN (ns.getD i default).d (s.pc i))) ∧ Below w.heap.size w w' := by
  obtain ⟨ao, c, b, off, rfl, hl, hm, hcell⟩ := hn.at
  obtain ⟨e1, e2, e3⟩ := hcell i hi
  subst e1
  have plt := cell_lt hp
  have bw : Below w.heap.size w (w.alloc (.cells s.cells 99)) := (Below.refl _ _).alloc (Nat.le_refl _) _
  have c1 := (SupAt.new w s).pc i (by omega)
  have h0 := (bw.cell (p := ⟨p, 0, none⟩) plt).trans hp
  have h1 := (bw.cell (p := ⟨b, _, none⟩) (cell_lt e3)).trans e3
  have hpi := hs.pc i
  have CO := Lib.hid (fun W => ones16_any (s.pc i) W (by omega))
  unfold lackN
  have hpl := pop_le 16 (s.pc i)
  generalize (ns.getD i default).d = d at *
  generalize pop 16 (s.pc i) = m at *
  generalize s.pc i = x at *
  obtain ⟨r, hr⟩ : ∃ r : Int, r = max 0 (d - m) := ⟨_, rfl⟩
  rw [← hr]
  have HR := Lib.hid hr
  clear hr
  unfold Sup.v
  clear e2 e3 hcell hn hs
  generalize s.cells = cs at *
  go_enter Try.func45, Try.ntmps45
  go_wp2
  generalize hW : w.alloc (Obj.cells cs 99) = W at *
  go_quiet ((go_at_call 71; exact quiet_drew (CO.out _)))
  go_wp2
  all_goals
    go_ret
    exact ⟨ret_int (by have := HR.out; omega), below_drewN bw _⟩

/-- The shares that are there. -/
def popS (s : Sup) : Nat := pop 64 (s.sh 0) + pop 64 (s.sh 1) + pop 64 (s.sh 2) + pop 64 (s.sh 3)
def lackS (thr : Int) (s : Sup) : Int := max 0 (thr - popS s)

set_option maxRecDepth 100000 in
set_option maxHeartbeats 2000000 in
theorem lackingShares_any (p : Nat) (s : Sup) (thr : Int) (w : World) (hp : w.cell? ⟨p, 1, none⟩ = some (.int .i64 thr)) (hs : s.Wf) (h0 : 0 ≤ thr) (h1 : thr ≤ 255) :
    Calls Try.prog 44 #[.pointer (some ⟨p, 0, none⟩), s.v] w fun e w' => e = .returned (.int .i64 (lackS thr s)) ∧ Below w.heap.size w w' := by
  have plt := cell_lt hp
  have bw : Below w.heap.size w (w.alloc (.cells s.cells 99)) := (Below.refl _ _).alloc (Nat.le_refl _) _
  have c0 := (SupAt.new w s).sh 0 (by omega)
  have c1 := (SupAt.new w s).sh 1 (by omega)
  have c2 := (SupAt.new w s).sh 2 (by omega)
  have c3 := (SupAt.new w s).sh 3 (by omega)
  simp only [Nat.add_zero, Nat.reduceAdd] at c0 c1 c2 c3
  have hq := (bw.cell (p := ⟨p, 1, none⟩) plt).trans hp
  have g0 := hs.sh 0
  have g1 := hs.sh 1
  have g2 := hs.sh 2
  have g3 := hs.sh 3
  have p0 := pop_le 64 (s.sh 0)
  have p1 := pop_le 64 (s.sh 1)
  have p2 := pop_le 64 (s.sh 2)
  have p3 := pop_le 64 (s.sh 3)
  have C0 := Lib.hid (fun W => ones64_any (s.sh 0) W (by omega))
  have C1 := Lib.hid (fun W => ones64_any (s.sh 1) W (by omega))
  have C2 := Lib.hid (fun W => ones64_any (s.sh 2) W (by omega))
  have C3 := Lib.hid (fun W => ones64_any (s.sh 3) W (by omega))
  obtain ⟨r, hr⟩ : ∃ r : Int, r = lackS thr s := ⟨_, rfl⟩
  rw [← hr]
  unfold lackS popS at hr
  generalize pop 64 (s.sh 0) = m0 at *
  generalize pop 64 (s.sh 1) = m1 at *
  generalize pop 64 (s.sh 2) = m2 at *
  generalize pop 64 (s.sh 3) = m3 at *
  generalize s.sh 0 = x0 at *
  generalize s.sh 1 = x1 at *
  generalize s.sh 2 = x2 at *
  generalize s.sh 3 = x3 at *
  have HR := Lib.hid hr
  unfold Sup.v
  clear hr hs hp
  generalize s.cells = cs at *
  have i0 : ∀ w, (Instr.index 97 (.agg #[.int .u64 x0, .int .u64 x1, .int .u64 x2, .int .u64 x3]) (.int .i64 0)).run Try.prog w = .ok (.int .u64 x0) w := fun _ => by kernel_rfl
  have i1 : ∀ w, (Instr.index 97 (.agg #[.int .u64 x0, .int .u64 x1, .int .u64 x2, .int .u64 x3]) (.int .i64 1)).run Try.prog w = .ok (.int .u64 x1) w := fun _ => by kernel_rfl
  have i2 : ∀ w, (Instr.index 97 (.agg #[.int .u64 x0, .int .u64 x1, .int .u64 x2, .int .u64 x3]) (.int .i64 2)).run Try.prog w = .ok (.int .u64 x2) w := fun _ => by kernel_rfl
  have i3 : ∀ w, (Instr.index 97 (.agg #[.int .u64 x0, .int .u64 x1, .int .u64 x2, .int .u64 x3]) (.int .i64 3)).run Try.prog w = .ok (.int .u64 x3) w := fun _ => by kernel_rfl
  go_enter Try.func44, Try.ntmps44
  go_wp2
  generalize hW : w.alloc (Obj.cells cs 99) = W at *
  go_loop [5, 15] (fun v5 v15 => (v15 = .int .i64 0 ∧ v5 = .int .i64 thr) ∨ (v15 = .int .i64 1 ∧ v5 = .int .i64 (thr - m0)) ∨ (v15 = .int .i64 2 ∧ v5 = .int .i64 (thr - m0 - m1)) ∨ (v15 = .int .i64 3 ∧ v5 = .int .i64 (thr - m0 - m1 - m2)) ∨ (v15 = .int .i64 4 ∧ v5 = .int .i64 (thr - m0 - m1 - m2 - m3))) (fun _ v15 => (4 - intOf v15).toNat)
  case atStart => exact .inl ⟨rfl, rfl⟩
  case round =>
    rcases hrel with ⟨rfl, rfl⟩ | ⟨rfl, rfl⟩ | ⟨rfl, rfl⟩ | ⟨rfl, rfl⟩ | ⟨rfl, rfl⟩
    · go_wp2_with fail
      refine (C0.out _).mono ?_
      rintro e w' ⟨rfl, rfl⟩
      go_wp2
      go_round
      case rel => exact .inr (.inl ⟨rfl, rfl⟩)
      case measure => simp [intOf]
    · go_wp2_with fail
      refine (C1.out _).mono ?_
      rintro e w' ⟨rfl, rfl⟩
      go_wp2
      go_round
      case rel => exact .inr (.inr (.inl ⟨rfl, rfl⟩))
      case measure => simp [intOf]
    · go_wp2_with fail
      refine (C2.out _).mono ?_
      rintro e w' ⟨rfl, rfl⟩
      go_wp2
      go_round
      case rel => exact .inr (.inr (.inr (.inl ⟨rfl, rfl⟩)))
      case measure => simp [intOf]
    · go_wp2_with fail
      refine (C3.out _).mono ?_
      rintro e w' ⟨rfl, rfl⟩
      go_wp2
      go_round
      case rel => exact .inr (.inr (.inr (.inr ⟨rfl, rfl⟩)))
      case measure => simp [intOf]
    · go_wp2
      all_goals
        go_ret
        exact ⟨ret_int (by have := HR.out; omega), bw⟩

end Go.Proofs.Ytapjgjjmlbhanaa
