/- supplyOf. -/
import Derived.Test.YtapjgjjmlbhanaaC2
import Derived.Deep.DeepCutAuto
namespace Go.Proofs.Ytapjgjjmlbhanaa
open Go.RowKit Go.Lib

/-- The place of a stripe among the needs. -/
def ndIx (s : ByteArray) : List Nd → Option Nat
  | [] => none
  | n :: r => if s = n.st then some 0 else (ndIx s r).map (· + 1)
def needL : List Nd → Nat → List (ByteArray × Value)
  | [], _ => []
  | n :: r, c => (n.st, .int .i64 c) :: needL r (c + 1)
theorem ndIx_lt {s : ByteArray} : ∀ {ns : List Nd} {i : Nat}, ndIx s ns = some i → i < ns.length
  | [], _, h => by simp [ndIx] at h
  | n :: r, i, h => by
    unfold ndIx at h
    split at h
    · cases h; simp
    · cases hr : ndIx s r with
      | none => rw [hr] at h; simp at h
      | some k =>
        rw [hr] at h
        simp at h
        have := ndIx_lt hr
        simp; omega
theorem seek_need (s : ByteArray) : ∀ (ns : List Nd) (c : Nat), seekL s (needL ns c) c = (ndIx s ns).map fun i => (c + i, Value.int .i64 ((c + i : Nat)))
  | [], _ => rfl
  | n :: r, c => by
    unfold needL seekL ndIx
    by_cases h : s = n.st
    · simp [h]
    · rw [if_neg h, if_neg h, seek_need s r (c + 1)]
      cases ndIx s r with
      | none => rfl
      | some k => simp; omega

/-- The map of the needs. -/
def NeedMap (w : World) (m : Nat) (ns : List Nd) : Prop := w.heap[m]? = some (mapObj (fun s : ByteArray => Value.string s) (needL ns 0))
theorem NeedMap.below {w w' : World} {m : Nat} {ns : List Nd} (h : NeedMap w m ns) (hb : Below w.heap.size w w') : NeedMap w' m ns := (hb.block m (Array.getElem?_eq_some_iff.1 h).1).trans h
theorem NeedMap.look {w : World} {m : Nat} {ns : List Nd} (h : NeedMap w m ns) (s : ByteArray) : (Instr.lookup 104 (.map (some m)) (.string s) true).run Try.prog w = .ok (match ndIx s ns with | some i => .tuple #[.int .i64 i, .bool true] | none => .tuple #[.int .i64 0, .bool false]) w := by
  have := key_str.lookup (tm := 104) (te := 3) Try.underlying104 (z := .int .i64 0) (fun w => by kernel_rfl) h s
  rw [this, seek_need]
  cases ndIx s ns <;> simp

def zeroS (ix : Bool) : Sup := ⟨fun _ => 0, fun _ => 0, ix⟩
/-- One piece more. -/
def addPc (ns : List Nd) (s : Sup) (p : Pc) : Sup := match ndIx p.st ns with
  | some i => { s with pc := fun k => if k = i then s.pc k ||| 2 ^ p.ix.toNat else s.pc k }
  | none => s
/-- One share more. -/
def addSh (s : Sup) (x : Int) : Sup := { s with sh := fun k => if k = x.toNat / 64 then s.sh k ||| 2 ^ (x.toNat % 64) else s.sh k }
def supOf (ns : List Nd) (ps : List Pc) (ss : List Int) (ix : Bool) : Sup := { ss.foldl addSh (ps.foldl (addPc ns) (zeroS false)) with ix := ix }

theorem addPc_wf {ns : List Nd} {s : Sup} {p : Pc} (h : s.Wf) (hp : p.ix < 16) : (addPc ns s p).Wf := by
  unfold addPc
  split
  · refine ⟨fun k => ?_, h.sh⟩
    simp only
    split
    · refine Nat.or_lt_two_pow (n := 16) (h.pc k) ?_
      exact Nat.pow_lt_pow_right (by omega) (by omega)
    · exact h.pc k
  · exact h
theorem addSh_wf {s : Sup} {x : Int} (h : s.Wf) : (addSh s x).Wf := by
  refine ⟨h.pc, fun k => ?_⟩
  unfold addSh
  simp only
  split
  · refine Nat.or_lt_two_pow (n := 64) (h.sh k) ?_
    exact Nat.pow_lt_pow_right (by omega) (by omega)
  · exact h.sh k
theorem zeroS_wf (ix : Bool) : (zeroS ix).Wf := ⟨fun _ => by simp [zeroS], fun _ => by simp [zeroS]⟩
theorem fold_take_succ {α β : Type} (f : β → α → β) (b : β) (xs : List α) (j : Nat) (h : j < xs.length) : (xs.take (j + 1)).foldl f b = f ((xs.take j).foldl f b) xs[j] := by
  rw [List.take_succ_eq_append_getElem h, List.foldl_append]; rfl
theorem foldP_wf (ns : List Nd) : ∀ (ps : List Pc) (s : Sup), s.Wf → (∀ p ∈ ps, p.ix < 16) → (ps.foldl (addPc ns) s).Wf
  | [], s, h, _ => h
  | p :: r, s, h, hp => foldP_wf ns r _ (addPc_wf h (hp p (by simp))) (fun q hq => hp q (by simp [hq]))
theorem foldS_wf : ∀ (ss : List Int) (s : Sup), s.Wf → (ss.foldl addSh s).Wf
  | [], _, h => h
  | _ :: r, _, h => foldS_wf r _ (addSh_wf h)
theorem supOf_wf {ns : List Nd} {ps : List Pc} {ss : List Int} {ix : Bool} (hp : PcsOk ps) : (supOf ns ps ss ix).Wf := by
  have := foldS_wf ss _ (foldP_wf ns ps (zeroS false) (zeroS_wf _) fun p h => (hp.2 p h).2)
  exact ⟨this.pc, this.sh⟩

/-- A supply loaded, stored. -/
theorem wpList_load_sup {w : World} {ops : Array Oper} {rest : List Oper} {o : Oper} {a : Act} {Q : Exit → Act → World → Prop} (hgd : o.guard = none) (x : Operand) (ho : o.op = .load 99 x)
    (b : Nat) (hx : a.eval x = .pointer (some ⟨b, 0, none⟩)) (s : Sup) (hs : SupAt w b s) (h : wpList Try.prog ops Q rest (a.put o.dst (.agg s.cells)) w) : wpList Try.prog ops Q (o :: rest) a w :=
  wpList_load_row hgd 99 x ho b hx 99 s.cells (0, 0) _ hs Try.underlying99 rfl (by rw [s.cells_size]; exact info99) h
theorem wpList_store_sup {w : World} {ops : Array Oper} {rest : List Oper} {o : Oper} {a : Act} {Q : Exit → Act → World → Prop} (hgd : o.guard = none) (x y : Operand) (ho : o.op = .store 99 x y)
    (b : Nat) (hx : a.eval x = .pointer (some ⟨b, 0, none⟩)) (s s0 : Sup) (hy : a.eval y = .agg s.cells) (hs : SupAt w b s0) (h : wpList Try.prog ops Q rest (a.put o.dst undef) (w.setRow b s.cells)) : wpList Try.prog ops Q (o :: rest) a w :=
  wpList_store_row hgd 99 x y ho b s.cells hx hy 99 s0.cells hs (by rw [s.cells_size]; exact info99) (by rw [s.cells_size, s0.cells_size]) s.cells_one h
theorem SupAt.setRow {w : World} {b : Nat} {s0 : Sup} (h : SupAt w b s0) (s : Sup) : SupAt (w.setRow b s.cells) b s := setRow_heap w b _ _ _ _ h
theorem SupAt.setRow_same {w : World} {b : Nat} {s : Sup} (h : SupAt w b s) : w.setRow b s.cells = w := by
  have h' : w.heap[b]? = some (.cells s.cells 99 (0, 0)) := h
  unfold World.setRow
  have e : ∀ f : Obj → Obj, f (.cells s.cells 99 (0, 0)) = .cells s.cells 99 (0, 0) → w.heap.modify b f = w.heap := fun f hf => by
    apply Array.ext_getElem?
    intro i
    rw [Array.getElem?_modify]
    by_cases hi : b = i
    · subst hi; rw [if_pos rfl, h']; simp [hf]
    · rw [if_neg hi]
  rw [e _ rfl]
theorem grown_setRow {a w : World} {A : Nat} (g : a.grownBy w (some A)) (cs : Array Value) : a.grownBy (w.setRow A cs) (some A) :=
  ⟨g.os, g.tape, g.output, by rw [setRow_size]; exact g.size, fun k hk hne => by rw [setRow_other _ _ _ _ (fun e => hne (by rw [e]))]; exact g.block k hk hne⟩

theorem zero99 : ∀ w, (zeroValue 99).run Try.prog w = .ok (.agg (zeroS false).cells) w := (zero_of_info (t := 99) (v := .agg (zeroS false).cells) (n := 69) (by kernel_rfl)).1

set_option maxRecDepth 100000 in
set_option maxHeartbeats 4000000 in
theorem supplyOf_any (p m : Nat) (ns : List Nd) (v u : Value) (ps : List Pc) (ss : List Int) (ix : Bool) (w : World) (hp : w.cell? ⟨p, 5, none⟩ = some (.map (some m))) (hm : NeedMap w m ns) (hv : ReadsP w v ps) (hu : ReadsI w u ss) (hP : PcsOk ps) (hS : ShOk ss) (h64 : ns.length ≤ 64) :
    Calls Try.prog 67 #[.pointer (some ⟨p, 0, none⟩), v, u, .bool ix] w fun e w' => e = .returned (supOf ns ps ss ix).v ∧ Below w.heap.size w w' := by
  have plt := cell_lt hp
  obtain ⟨ao, c, b, off, rfl, hl, hm1, hcell⟩ := hv.at
  obtain ⟨ao', c', b', off', rfl, hl', hm2, hcell'⟩ := hu.at
  have HC := Lib.hid hcell
  have HC' := Lib.hid hcell'
  have HM := Lib.hid hm
  have HPC := Lib.hid hp
  have HP := Lib.hid hP
  have HS := Lib.hid hS
  have hz := zero99
  obtain ⟨fin, hfin⟩ : ∃ fin, fin = supOf ns ps ss ix := ⟨_, rfl⟩
  rw [← hfin]
  have HFIN := Lib.hid (show fin = { ss.foldl addSh (ps.foldl (addPc ns) (zeroS false)) with ix := ix } from hfin)
  clear hfin
  clear hcell hcell' hm hp hP hS hv hu
  obtain ⟨zc, hzc⟩ : ∃ zc, zc = (zeroS false).cells := ⟨_, rfl⟩
  rw [← hzc] at hz
  have HZ := Lib.hid hzc
  clear hzc
  obtain ⟨R, hR⟩ : ∃ R, R = w.heap.size := ⟨_, rfl⟩
  have HR := Lib.hid hR
  go_enter Try.func67, Try.ntmps67
  go_wp2
  rw [← HR.out]
  have w0 : SupAt (w.alloc (.cells zc 99)) R (zeroS false) := by rw [HZ.out, HR.out]; exact SupAt.new w _
  have b0 : Below w.heap.size w (w.alloc (.cells zc 99)) := (Below.refl _ _).alloc (Nat.le_refl _) _
  have W0 := Lib.hid w0
  have rge : w.heap.size ≤ R := by rw [HR.out]; exact Nat.le_refl _
  clear w0 hz hR
  generalize w.alloc (Obj.cells zc 99) = W at W0 b0 ⊢
  go_loopw [10, 11, 12, 17] (fun _ _ _ v17 wr => ∃ j : Nat, j ≤ ps.length ∧ v17 = .int .i64 j ∧ SupAt wr R ((ps.take j).foldl (addPc ns) (zeroS false)) ∧ Below w.heap.size w wr) (fun _ _ _ v17 _ => ps.length - (intOf v17).toNat)
  case atStart => exact ⟨0, Nat.zero_le _, rfl, W0.out, b0⟩
  case round =>
    obtain ⟨j, hj, rfl, hsup, hbel⟩ := hrel
    have HSU := Lib.hid hsup
    have zr := hbel.size
    have rlt := (Array.getElem?_eq_some_iff.1 hsup).1
    clear hsup
    by_cases hlt : j < ps.length
    · obtain ⟨e1, e2, e3⟩ := HC.out j hlt
      subst e1
      have hg := getD_at ps j default hlt
      rw [hg] at e2 e3
      rw [← hbel.cell (p := ⟨b, _, none⟩) (cell_lt e2)] at e2
      rw [← hbel.cell (p := ⟨b, _, none⟩) (cell_lt e3)] at e3
      have hst := fold_take_succ (addPc ns) (zeroS false) ps j hlt
      have hrng := HP.out.2 ps[j] (List.getElem_mem hlt)
      have HST := Lib.hid hst
      have hwf : ((ps.take j).foldl (addPc ns) (zeroS false)).Wf := foldP_wf ns _ _ (zeroS_wf _) fun q hq => (HP.out.2 q (List.mem_of_mem_take hq)).2
      have HWF := Lib.hid hwf
      clear hst hg hwf
      generalize ps[j] = y at e2 e3 HST hrng
      obtain ⟨st, i⟩ := y
      simp only at e2 e3 hrng
      obtain ⟨r0, r1⟩ := hrng
      obtain ⟨n, rfl⟩ := Int.eq_ofNat_of_zero_le r0
      generalize (ps.take j).foldl (addPc ns) (zeroS false) = s at HSU HST HWF
      have bx : Below wr.heap.size wr (wr.alloc (.cells #[.string st, .int .i64 n] 68)) := (Below.refl _ _).alloc (Nat.le_refl _) _
      have bx2 : Below w.heap.size w (wr.alloc (.cells #[.string st, .int .i64 n] 68)) := hbel.trans (bx.mono zr)
      have x0 := cell_of_row _ _ 0 _ _ _ (heap_alloc_last wr (.cells #[.string st, .int .i64 n] 68))
      have x1 := cell_of_row _ _ 1 _ _ _ (heap_alloc_last wr (.cells #[.string st, .int .i64 n] 68))
      have hsx := HSU.out.below bx
      have hpx := (bx2.cell (p := ⟨p, _, none⟩) plt).trans HPC.out
      have hmx := HM.out.below bx2
      obtain ⟨X, hX⟩ : ∃ X, X = wr.heap.size := ⟨_, rfl⟩
      rw [← hX] at x0 x1
      have HX := Lib.hid hX
      have rx : R ≠ X := by omega
      have HSX := Lib.hid hsx
      have HMX := Lib.hid hmx
      clear hX hsx hmx
      go_wp2_with fail
      rw [← HX.out]
      generalize wr.alloc (Obj.cells #[Value.string st, Value.int IntKind.i64 n] 68) = V at x0 x1 bx2 hpx HSX HMX ⊢
      have hlk : ∀ q, _ := fun q => NeedMap.look (w := V.drewN q) (m := m) (ns := ns) HMX.out st
      cases hix : ndIx st ns with
      | none =>
        have HIX := Lib.hid hix
        have hsame : addPc ns s ⟨st, n⟩ = s := by unfold addPc; rw [HIX.out]
        have HSM := Lib.hid hsame
        rw [hix] at hlk
        clear hix hsame bx
        go_wp2_with fail
        go_quiet (fail)
        go_wp2
        go_roundw
        case rel => exact ⟨j + 1, by omega, by go_num, by rw [HST.out, HSM.out]; exact HSX.out, below_drewN bx2 _⟩
        case measure => simp [intOf]; omega
      | some k =>
        have hk := ndIx_lt hix
        have HIX := Lib.hid hix
        rw [hix] at hlk
        clear hix bx
        go_wp2_with fail
        go_quiet (fail)
        have hV2 : ∀ (f : Nat), V.drewN f = V.drewN f := fun _ => rfl
        generalize hV1 : V.drewN nq = V1
        have hs1 : SupAt V1 R s := by rw [← hV1]; exact HSX.out
        have b1 : Below w.heap.size w V1 := by rw [← hV1]; exact below_drewN bx2 _
        have y1 : V1.cell? ⟨X, 1, none⟩ = some (.int .i64 n) := by rw [← hV1]; exact x1
        have c1 := hs1.pc k (by omega)
        have HS1 := Lib.hid hs1
        have hwk := HWF.out.pc k
        clear hV1 hs1 hV2 hlk x0 x1 hpx bx2
        have hk64 : (k : Int) < 64 := by omega
        have hn16 : n < 16 := by omega
        have h2n : 2 ^ n < 2 ^ 16 := Nat.pow_lt_pow_right (by omega) hn16
        rw [show (2 : Nat) ^ 16 = 65536 from rfl] at h2n
        have hw : IntKind.u16.wrap (2 ^ n) = ((2 ^ n : Nat) : Int) := by
          rw [show ((2 : Int) ^ n) = ((2 ^ n : Nat) : Int) by simp]
          generalize (2 ^ n : Nat) = pw at h2n
          exact wraps_u16 _ (by omega) (by omega)
        have ho := or16 (s.pc k) (2 ^ n) hwk h2n
        have hset : ∀ W, SupAt W R s → SupAt (W.setCell ⟨R, k, none⟩ (.int .u16 ((s.pc k ||| 2 ^ n : Nat)))) R (addPc ns s ⟨st, n⟩) := fun W h => by
          have e : addPc ns s ⟨st, n⟩ = { s with pc := fun q => if q = k then s.pc q ||| 2 ^ n else s.pc q } := by unfold addPc; rw [HIX.out]; simp
          rw [e]
          refine h.set _ k _ (by omega) (by unfold Sup.cell; rw [if_pos (by omega)]; simp) (fun q hq hne => ?_)
          unfold Sup.cell
          by_cases a : q < 64
          · rw [if_pos a, if_pos a]; simp [hne]
          · rw [if_neg a, if_neg a]
        have HSET := Lib.hid hset
        have fz : V1.drew.frozen? ⟨R, k, none⟩ = false := HS1.out.frozen k
        clear hset
        generalize s.pc k ||| 2 ^ n = o at ho HSET
        generalize s.pc k = sk at *
        generalize hpw : (2 ^ n : Nat) = pw at *
        clear hpw
        go_wp2_with fail
        go_still_tail 10, (by kernel_rfl)
        change wpList _ _ _ _ _ V1.drew
        obtain ⟨w2, hw2⟩ : ∃ w2, w2 = V1.drew := ⟨_, rfl⟩
        have ha2 : SupAt w2 R s := by rw [hw2]; exact HS1.out
        have b2 : Below w.heap.size w w2 := by rw [hw2]; exact b1.drew
        have c2 : w2.cell? ⟨R, k, none⟩ = some (.int .u16 sk) := by rw [hw2]; exact c1
        rw [← hw2] at fz ⊢
        have HA2 := Lib.hid ha2
        clear hw2 ha2 c1 b1
        go_wp2
        go_roundw
        case rel => exact ⟨j + 1, by omega, by go_num, by rw [HST.out]; exact HSET.out _ HA2.out, b2.setCell rge _⟩
        case measure => simp [intOf]; omega
    · have hjl : j = ps.length := by omega
      subst hjl
      have hsl : (ps.take ps.length).foldl (addPc ns) (zeroS false) = ps.foldl (addPc ns) (zeroS false) := by rw [List.take_length]
      have hwf0 : (ps.foldl (addPc ns) (zeroS false)).Wf := foldP_wf ns _ _ (zeroS_wf _) fun q hq => (HP.out.2 q hq).2
      have hs0 := HSU.out
      rw [hsl] at hs0
      generalize ps.foldl (addPc ns) (zeroS false) = s0 at hwf0 hs0 HFIN
      have HW0 := Lib.hid hwf0
      have HS0 := Lib.hid hs0
      clear hsl hwf0 hs0 HSU
      go_wp2
      go_loopw [14, 45] (fun _ v45 wr => ∃ j : Nat, j ≤ ss.length ∧ v45 = .int .i64 j ∧ SupAt wr R ((ss.take j).foldl addSh s0) ∧ Below w.heap.size w wr) (fun _ v45 _ => ss.length - (intOf v45).toNat)
      case atStart => exact ⟨0, Nat.zero_le _, rfl, HS0.out, hbel⟩
      case round =>
        obtain ⟨j, hj, rfl, hsup, hbel⟩ := hrel
        have HSU := Lib.hid hsup
        have rlt := (Array.getElem?_eq_some_iff.1 hsup).1
        clear hsup
        by_cases hlt : j < ss.length
        · obtain ⟨e1, e2⟩ := HC'.out j hlt
          subst e1
          have hsh := HS.out j hlt
          have hg := getD_at ss j 0 hlt
          have h1 := hsh.1
          have h2 := hsh.2.1
          rw [hg] at e2 h1 h2
          rw [← hbel.cell (p := ⟨b', _, none⟩) (cell_lt e2)] at e2
          have hst := fold_take_succ addSh s0 ss j hlt
          have hwf : ((ss.take j).foldl addSh s0).Wf := foldS_wf _ _ HW0.out
          have HST := Lib.hid hst
          have HWF := Lib.hid hwf
          clear hst hg hwf hsh
          generalize ss[j] = y at e2 HST h1 h2
          obtain ⟨n, rfl⟩ := Int.eq_ofNat_of_zero_le (show 0 ≤ y by omega)
          generalize (ss.take j).foldl addSh s0 = s at HSU HST HWF
          obtain ⟨q, hq⟩ : ∃ q, q = n / 64 := ⟨_, rfl⟩
          obtain ⟨r, hr⟩ : ∃ r, r = n % 64 := ⟨_, rfl⟩
          have hq4 : q < 4 := by omega
          have hr64 : r < 64 := by omega
          have hqi : (n : Int) / 64 = (q : Int) := by omega
          have hri : (n : Int) % 64 = (r : Int) := by omega
          have hqw : IntKind.i64.wrap (q : Int) = q := by rw [IntKind.wrap_i64]; omega
          have hrw : IntKind.i64.wrap (r : Int) = r := by rw [IntKind.wrap_i64]; omega
          have hq4i : (q : Int) < 4 := by omega
          have hrt : (n : Int).tmod 64 = (r : Int) := by rw [Int.tmod_eq_emod_of_nonneg (by omega)]; omega
          have h2r : 2 ^ r < 2 ^ 64 := Nat.pow_lt_pow_right (by omega) hr64
          rw [show (2 : Nat) ^ 64 = 18446744073709551616 from rfl] at h2r
          have hw : IntKind.u64.wrap (2 ^ r) = ((2 ^ r : Nat) : Int) := by
            rw [show ((2 : Int) ^ r) = ((2 ^ r : Nat) : Int) by simp]
            generalize (2 ^ r : Nat) = pw at h2r
            exact wraps_u64 _ (by omega) (by omega)
          have hwk := HWF.out.sh q
          have ho := or64 (s.sh q) (2 ^ r) hwk h2r
          have c1 := HSU.out.sh q hq4
          have hset : ∀ W, SupAt W R s → SupAt (W.setCell ⟨R, 64 + q, none⟩ (.int .u64 ((s.sh q ||| 2 ^ r : Nat)))) R (addSh s n) := fun W h => by
            have e : addSh s n = { s with sh := fun t => if t = q then s.sh t ||| 2 ^ r else s.sh t } := by unfold addSh; simp only [Int.toNat_natCast, ← hq, ← hr]
            rw [e]
            refine h.set _ (64 + q) _ (by omega) (by unfold Sup.cell; rw [if_neg (by omega), if_pos (by omega)]; simp) (fun t ht hne => ?_)
            unfold Sup.cell
            by_cases a : t < 64
            · rw [if_pos a, if_pos a]
            · rw [if_neg a, if_neg a]
              have : t - 64 ≠ q := by omega
              by_cases b : t < 68
              · rw [if_pos b, if_pos b]; simp [this]
              · rw [if_neg b, if_neg b]
          have HSET := Lib.hid hset
          have fz : wr.drew.frozen? ⟨R, 64 + q, none⟩ = false := HSU.out.frozen _
          clear hset hq hr
          generalize s.sh q ||| 2 ^ r = o at ho HSET
          generalize s.sh q = sk at *
          generalize hpw : (2 ^ r : Nat) = pw at *
          clear hpw
          go_wp2_with fail
          go_still_tail 11, (by kernel_rfl)
          change wpList _ _ _ _ _ wr.drew
          obtain ⟨w2, hw2⟩ : ∃ w2, w2 = wr.drew := ⟨_, rfl⟩
          have ha2 : SupAt w2 R s := by rw [hw2]; exact HSU.out
          have b2 : Below w.heap.size w w2 := by rw [hw2]; exact hbel.drew
          have c2 : w2.cell? ⟨R, 64 + q, none⟩ = some (.int .u64 sk) := by rw [hw2]; exact c1
          rw [← hw2] at fz ⊢
          have HA2 := Lib.hid ha2
          clear hw2 ha2 c1
          go_wp2
          go_roundw
          case rel => exact ⟨j + 1, by omega, by go_num, by rw [HST.out]; exact HSET.out _ HA2.out, b2.setCell rge _⟩
          case measure => simp [intOf]; omega
        · have hjl : j = ss.length := by omega
          subst hjl
          have hsl : (ss.take ss.length).foldl addSh s0 = ss.foldl addSh s0 := by rw [List.take_length]
          have hs1 := HSU.out
          rw [hsl] at hs1
          have fz := hs1.frozen 68
          have c1 := hs1.ix
          have hfin : SupAt (wr.setCell ⟨R, 68, none⟩ (.bool ix)) R fin := by
            rw [HFIN.out]
            refine hs1.set _ 68 _ (by omega) (by unfold Sup.cell; rw [if_neg (by omega), if_neg (by omega)]) (fun k hk hne => ?_)
            unfold Sup.cell
            by_cases a : k < 64
            · rw [if_pos a, if_pos a]
            · rw [if_neg a, if_neg a]
              by_cases b : k < 68
              · rw [if_pos b, if_pos b]
              · omega
          have HF := Lib.hid hfin
          have b2 : Below w.heap.size w (wr.setCell ⟨R, 68, none⟩ (.bool ix)) := hbel.setCell rge _
          clear hfin hs1 hsl
          generalize hWf : wr.setCell ⟨R, 68, none⟩ (.bool ix) = Wf at HF b2
          have hsr := HF.out.setRow_same
          go_upto_region 14 with fail
          clear hWf
          go_wp2_with (first | (refine wpList_load_sup (by rfl) (.tmp 8) (by rfl) R (by rfl) fin HF.out ?_) | (refine wpList_store_sup (by rfl) (.tmp 8) (.tmp 63) (by rfl) R (by rfl) fin fin (by rfl) HF.out ?_))
          rw [hsr]
          refine bodyPost_ret (results_cell_row (P := Try.prog) Try.results67 _ Wf R 99 _ (0, 0) _ (by rfl) HF.out Try.underlying99 rfl (by rw [fin.cells_size]; exact info99)) rfl ?_
          exact ⟨rfl, b2⟩

end Go.Proofs.Ytapjgjjmlbhanaa
