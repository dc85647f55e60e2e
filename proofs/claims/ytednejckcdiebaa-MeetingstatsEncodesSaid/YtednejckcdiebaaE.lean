/- Book.Meet. -/
import Derived.Test.YtednejckcdiebaaL
import Derived.Deep.RegionLaw
namespace Go.Proofs.Ytednejckcdiebaa
open Go.RowKit Go.Lib Go.ChangeMaps

/-- An append whose run is known, as one step of a region that draws. -/
theorem step_append_run {P : Program} {ops : Array Oper} {o : Oper} {a : Act} {w : World} {K : Act → World → Prop} {Q : Exit → Act → World → Prop} {E : Prop}
    (hg : o.guard = none) (s x : Operand) (t : TypeId) (hop : o.op = Op.call { callee := Callee.builtin Builtin.append, args := #[s, x], argTypes := #[t, t] })
    (v sl v' : Value) (w' : World) (hs : a.eval s = v) (hx : a.eval x = sl) (hrun : (Builtin.append_ #[t, t] o.type #[v, sl]).run P w = .ok v' w')
    (hK : K (a.put o.dst v') w') : if Region.wanted o (yielded ops a.tmps) = true then Oper.wp P o a w K Q else E := by
  have hw : Region.wanted o (yielded ops a.tmps) = true := by simp [Region.wanted, hg]
  rw [if_pos hw]
  unfold Oper.wp
  simp [execOp, hop, resolve, invoke, builtin, hs, hx, hrun, Result.andThen]
  exact hK

/-- The days behind a meeting. -/
def meet (M : Days) (p q d : Int) : Days := fun a b => if a = p ∧ b = q then (if d ∈ M p q then M p q else M p q ++ [d]) else M a b

/-- A book whose newest day is set. -/
theorem book_newest {w : World} {F : Nat → Prop} {k : Nat} {n N : Int} {M : Days} (h : IsBook w F k n N M) (d : Int) : IsBook (w.setCell ⟨k, 2, none⟩ (.int .i64 d)) F k n d M := by
  obtain ⟨mb, L, c, fk, fm, h1, h2, h3, h4, h5, h6⟩ := h
  have hne : ∀ b, b ≠ k → (w.setCell ⟨k, 2, none⟩ (.int .i64 d)).heap[b]? = w.heap[b]? := fun b hb => Below.heap_setCell w _ _ b hb
  have hmk : mb ≠ k := by rintro rfl; rw [h1] at h2; cases h2
  have hgk : ∀ a b g, (look L a b).ownBlock = some g → g ≠ k := by
    rintro a b g hg rfl
    obtain ⟨_, hr⟩ := h4 a b
    rcases hr with ⟨e, _⟩ | ⟨g', cap, cur, e, _, hh, _⟩
    · rw [e] at hg; cases hg
    · rw [e] at hg
      cases hg
      rw [h1] at hh
      cases hh
  refine ⟨mb, L, c, fk, fm, ?_, by rw [hne mb hmk]; exact h2, h3, fun a b => ownsRow_same (h4 a b) (fun g hg => hne g (hgk a b g hg)), h5, h6⟩
  simp [World.setCell, Array.getElem?_modify, h1]

theorem upd_newest {w : World} {F : Nat → Prop} {k : Nat} (fk : F k) (d : Value) : Upd F F w (w.setCell ⟨k, 2, none⟩ d) :=
  ⟨rfl, rfl, rfl, by simp, fun _ _ hn => Below.heap_setCell w _ _ _ (fun e => hn (e ▸ fk)), fun _ hb => Or.inl hb⟩

theorem Upd.trans {F F' F'' : Nat → Prop} {w w' w'' : World} (h : Upd F F' w w') (g : Upd F' F'' w' w'') : Upd F F'' w w'' :=
  ⟨g.os.trans h.os, g.tape.trans h.tape, g.output.trans h.output, Nat.le_trans h.size g.size,
    fun b hb hn => (g.keep b (Nat.lt_of_lt_of_le hb h.size) (fun e => (h.grow b e).elim hn (fun h2 => by omega))).trans (h.keep b hb hn),
    fun b hb => by
      rcases g.grow b hb with h1 | h1
      · exact h.grow b h1
      · exact Or.inr (Nat.le_trans h.size h1)⟩

theorem Upd.of_below {F : Nat → Prop} {w w' : World} (h : Below w.heap.size w w') : Upd F F w w' :=
  ⟨h.os, h.tape, h.output, h.size, fun b hb _ => h.block b hb, fun _ hb => Or.inl hb⟩

set_option maxHeartbeats 1000000 in
theorem meet_bad (k : Nat) (n : Int) (w : World) (hB : w.cell? ⟨k, 0, none⟩ = some (.int .i64 n)) (a b d : Int) (hf : ¬ Fit n a b d) :
    Calls Try.prog 28 #[.pointer (some ⟨k, 0, none⟩), .int .i64 a, .int .i64 b, .int .i64 d] w fun e w' => e = .returned (.int .i64 1) ∧ Below w.heap.size w w' := by
  have cA := asked_bad k n a b d w hB hf
  have CA := Lib.hid cA
  clear cA hB
  go_enter Try.func28, Try.ntmps28
  go_wp2_with fail
  refine CA.out.mono ?_
  rintro e w1 ⟨rfl, hb⟩
  have z1 := hb.size
  go_wp2
  go_ret
  refine ⟨rfl, ?_⟩
  (repeat' (first | (with_reducible exact Below.refl _ _) | (with_reducible assumption) | (with_reducible refine Below.alloc ?_ ?_ _) | (with_reducible refine Below.drew ?_) | (with_reducible refine below_drewN ?_ _) | (with_reducible refine Below.setCell ?_ ?_ _) | (with_reducible refine below_step ?_ (by with_reducible assumption) ?_) | go_size))

set_option maxHeartbeats 1000000 in
theorem meet_early (F : Nat → Prop) (k : Nat) (n N : Int) (M : Days) (w : World) (hB : IsBook w F k n N M) (a b d : Int) (hf : Fit n a b d) (hd : d < N) :
    Calls Try.prog 28 #[.pointer (some ⟨k, 0, none⟩), .int .i64 a, .int .i64 b, .int .i64 d] w fun e w' => e = .returned (.int .i64 6) ∧ Below w.heap.size w w' := by
  obtain ⟨h1, h2, h3, h4, h5, h6, h7⟩ := hf
  have cA := asked_ok k n a b d w hB.cell0 h1 h2 h3 h4 h5 h6 h7
  have CA := Lib.hid cA
  have c2 := hB.cell2
  have klt := cell_lt c2
  have C2 := Lib.hid c2
  clear cA hB c2
  go_enter Try.func28, Try.ntmps28
  go_wp2_with fail
  refine CA.out.mono ?_
  rintro e w1 ⟨rfl, hb⟩
  have z1 := hb.size
  have c2 : w1.cell? ⟨k, 2, none⟩ = some (.int .i64 N) := by rw [hb.cell (p := ⟨k, 2, none⟩) klt]; exact C2.out
  have klt1 : k < w1.heap.size := by omega
  have c3 : ∀ o, (w1.alloc o).cell? ⟨k, 2, none⟩ = some (.int .i64 N) := fun o => by rw [((Below.refl _ w1).alloc (Nat.le_refl _) o).cell (p := ⟨k, 2, none⟩) klt1]; exact c2
  go_wp2
  go_ret
  refine ⟨rfl, ?_⟩
  (repeat' (first | (with_reducible exact Below.refl _ _) | (with_reducible assumption) | (with_reducible refine Below.alloc ?_ ?_ _) | (with_reducible refine Below.drew ?_) | (with_reducible refine below_drewN ?_ _) | (with_reducible refine Below.setCell ?_ ?_ _) | (with_reducible refine below_step ?_ (by with_reducible assumption) ?_) | go_size))

theorem setBlock_at {w : World} {b : Nat} (h : b < w.heap.size) (o : Obj) : (setBlock w b o).heap[b]? = some o := by
  simp [setBlock, h]
theorem setBlock_off (w : World) {b i : Nat} (o : Obj) (h : i ≠ b) : (setBlock w b o).heap[i]? = w.heap[i]? := by
  simp [setBlock, Ne.symm h]
theorem setBlock_size (w : World) (b : Nat) (o : Obj) : (setBlock w b o).heap.size = w.heap.size := by simp [setBlock]
theorem setBlock_alloc {w : World} {b : Nat} (h : b < w.heap.size) (o x : Obj) : setBlock (w.alloc x) b o = (setBlock w b o).alloc x := by
  show ({ w with heap := (w.heap.push x).setIfInBounds b o } : World) = { w with heap := (w.heap.setIfInBounds b o).push x }
  congr 1
  apply Array.ext_getElem?
  intro i
  simp only [Array.getElem?_setIfInBounds, Array.getElem?_push, Array.size_push, Array.size_setIfInBounds]
  by_cases h1 : b = i
  · subst h1
    rw [if_pos rfl, if_pos (by omega), if_neg (by omega), if_pos rfl, if_pos h]
  · simp only [if_neg h1]

theorem info3 : (Try.prog.info? 3).map (fun i => (i.zero, i.size, i.bytes)) = some (some (.int .i64 0), 1, 8) := by kernel_rfl

/-- 'k.met[p] = append(k.met[p], day)', in its three steps. -/
theorem book_append {W : World} {F : Nat → Prop} {k : Nat} {n N : Int} {M : Days} (hB : IsBook W F k n N M) (p q d : Int) (hlen : (M p q).length ≤ 1000000) :
    ∃ (mb : Nat) (v0 : Value) (st : Int) (Wa : World) (v' : Value) (Wb Wc : World), mb < W.heap.size ∧ W.cell? ⟨k, 1, none⟩ = some (.map (some mb)) ∧
      (Instr.mapEntry 68 (.map (some mb)) (.agg #[.int .i64 p, .int .i64 q])).run Try.prog W.drew = .ok (.tuple #[v0, .int .i64 st]) Wa.drew ∧
      (Instr.mapEntry 68 (.map (some mb)) (.agg #[.int .i64 p, .int .i64 q])).run Try.prog (W.alloc (.cells #[.int .i64 d] 3)).drew = .ok (.tuple #[v0, .int .i64 st]) (Wa.alloc (.cells #[.int .i64 d] 3)).drew ∧
      Wa.heap.size = W.heap.size ∧
      (Builtin.append_ #[39, 39] 39 #[v0, .slice (some ⟨W.heap.size, 0, none⟩) 1 1]).run Try.prog (Wa.alloc (.cells #[.int .i64 d] 3)).drew = .ok v' Wb ∧
      (Instr.entryStore 68 (.map (some mb)) (.int .i64 st) v').run Try.prog Wb = .ok () Wc ∧
      IsBook Wc (fun b => F b ∨ W.heap.size ≤ b) k n N (fun a b => if a = p ∧ b = q then M p q ++ [d] else M a b) ∧ Upd F (fun b => F b ∨ W.heap.size ≤ b) W Wc := by
  obtain ⟨mb, L, c, fk, fm, h1, h2, h3, h4, h5, h6⟩ := hB
  have klt := (Array.getElem?_eq_some_iff.1 h1).1
  have mlt := (Array.getElem?_eq_some_iff.1 h2).1
  have hmk : mb ≠ k := by rintro rfl; rw [h1] at h2; cases h2
  have hgm : ∀ a b g, (look L a b).ownBlock = some g → g ≠ k ∧ g ≠ mb ∧ g < W.heap.size := by
    intro a b g hg
    have hlt := IsBook.row_lt h4 hg
    obtain ⟨_, hr⟩ := h4 a b
    rcases hr with ⟨e, _⟩ | ⟨g', cap, cur, e, _, hh, _⟩
    · rw [e] at hg; cases hg
    · rw [e] at hg
      cases hg
      refine ⟨?_, ?_, hlt⟩
      · rintro rfl; rw [h1] at hh; cases hh
      · rintro rfl; rw [h2] at hh; cases hh
  obtain ⟨X, hX⟩ : ∃ X, X = Obj32 (enter L p q c) (tick L p q c) := ⟨_, rfl⟩
  obtain ⟨o, ho⟩ : ∃ o : Obj, o = .cells #[.int .i64 d] 3 := ⟨_, rfl⟩
  obtain ⟨Wa, hWa⟩ : ∃ Wa, Wa = setBlock W mb X := ⟨_, rfl⟩
  have ea : Wa.heap.size = W.heap.size := by rw [hWa, setBlock_size]
  have heap1 : ∀ b, b < W.heap.size → ((Wa.alloc o).drew).heap[b]? = Wa.heap[b]? := fun b hb => Below.heap_alloc Wa o b (by omega)
  have hao : ∀ b, b ≠ mb → Wa.heap[b]? = W.heap[b]? := fun b hb => by rw [hWa, setBlock_off _ _ hb]
  have ham : Wa.heap[mb]? = some X := by rw [hWa, setBlock_at mlt]
  have r1 : (Instr.mapEntry 68 (.map (some mb)) (.agg #[.int .i64 p, .int .i64 q])).run Try.prog W.drew = .ok (.tuple #[look L p q, .int .i64 (mark L p q c)]) Wa.drew := by
    have := run_mapEntry_pair (w := W.drew) (r := mb) (L := L) (c := c) h2 p q
    rw [← hX] at this
    rw [hWa]
    exact this
  have r2 : (Instr.mapEntry 68 (.map (some mb)) (.agg #[.int .i64 p, .int .i64 q])).run Try.prog (W.alloc o).drew = .ok (.tuple #[look L p q, .int .i64 (mark L p q c)]) (Wa.alloc o).drew := by
    have := run_mapEntry_pair (w := (W.alloc o).drew) (r := mb) (L := L) (c := c) (by rw [← h2]; exact Below.heap_alloc W o mb mlt) p q
    rw [← hX] at this
    have e : setBlock (W.alloc o).drew mb X = (Wa.alloc o).drew := by
      rw [hWa, ← setBlock_alloc mlt]; rfl
    rw [e] at this
    exact this
  obtain ⟨i0, hi, hz0, hz1, hz2⟩ := info_parts info3
  have hown : ((Wa.alloc o).drew).ownsRow 0 3 1 (look L p q) (M p q).length ((M p q).map (.int .i64)) :=
    ownsRow_same (h4 p q) (fun g hg => by rw [heap1 g (hgm p q g hg).2.2, hao g (hgm p q g hg).2.1])
  obtain ⟨v', Wb, r3, ho1, ho2, ho3, ho4⟩ := run_append_own_at (P := Try.prog) ((Wa.alloc o).drew) 0 39 39 3 i0 (.int .i64 0) 1 8 Try.underlying39 hi hz0 hz1 hz2 rfl (by decide) (look L p q) _ _ hown
    ⟨W.heap.size, 0, none⟩ 1 1 [.int .i64 d] rfl (by
      intro j u hj
      match j, hj with
      | 0, hj =>
        simp at hj
        subst hj
        rw [ho]
        have : ((Wa.alloc (.cells #[.int .i64 d] 3)).drew).heap[W.heap.size]? = some (.cells #[.int .i64 d] 3) := by
          show (Wa.heap.push _)[_]? = _
          rw [← ea, Array.getElem?_push, if_pos rfl]
        rw [show (⟨W.heap.size, 0, none⟩ : Addr).add 0 = ⟨W.heap.size, 0, none⟩ from rfl, cell_of_block this]
        rfl) (by intro u hu; simp at hu; subst hu; rfl) (by unfold maxLen; omega) (by omega) (by omega)
  -- what the append has left alone
  have hs1 : ((Wa.alloc o).drew).heap.size = W.heap.size + 1 := by
    show (Wa.heap.push _).size = _
    rw [Array.size_push, ea]
  have hbm : Wb.heap[mb]? = some X := by
    rw [ho2.block mb (by omega) (fun e => (hgm p q mb e.symm).2.1 rfl), heap1 mb mlt, ham]
  have hbk : Wb.heap[k]? = some (.cells #[.int .i64 n, .map (some mb), .int .i64 N] 70 (0, 0)) := by
    rw [ho2.block k (by omega) (fun e => (hgm p q k e.symm).1 rfl), heap1 k klt, hao k (Ne.symm hmk), h1]
  obtain ⟨i, x, x1, x2, x3, x4⟩ := seek_enter (L := L) (c := c) p q
  have hS := enter_sound h3 p q
  have r4 := run_entryStore_pair (w := Wb) (r := mb) (L := enter L p q c) (c := tick L p q c) (by rw [hbm, hX]) hS.born x1 v'
  rw [x3] at r4
  obtain ⟨L', hL'⟩ : ∃ L', L' = write (enter L p q c) (mark L p q c) v' := ⟨_, rfl⟩
  rw [← hL'] at r4
  have hput : ∀ a b, look L' a b = if a = p ∧ b = q then v' else look L a b := fun a b => by rw [hL']; exact look_put h3 p q v' a b
  obtain ⟨Wc, hWc⟩ : ∃ Wc, Wc = setBlock Wb mb (Obj32 L' (tick L p q c)) := ⟨_, rfl⟩
  rw [← hWc] at r4
  have mltb : mb < Wb.heap.size := (Array.getElem?_eq_some_iff.1 hbm).1
  have hco : ∀ b, b ≠ mb → Wc.heap[b]? = Wb.heap[b]? := fun b hb => by rw [hWc, setBlock_off _ _ hb]
  have hcm : Wc.heap[mb]? = some (Obj32 L' (tick L p q c)) := by rw [hWc, setBlock_at mltb]
  have hvb : ∀ g, v'.ownBlock = some g → g ≠ k ∧ g ≠ mb ∧ ((look L p q).ownBlock = some g ∨ g = W.heap.size + 1) := by
    intro g hg
    rcases ho4 with e | e
    · rw [hg] at e
      have := hgm p q g e.symm
      exact ⟨this.1, this.2.1, Or.inl e.symm⟩
    · rw [hg] at e
      have e1 : g = W.heap.size + 1 := by rw [hs1] at e; exact Option.some.inj e
      exact ⟨by omega, by omega, Or.inr e1⟩
  have hold : ∀ a b g, ¬ (a = p ∧ b = q) → (look L a b).ownBlock = some g → Wc.heap[g]? = W.heap[g]? := by
    intro a b g hne hg
    have hh := hgm a b g hg
    have hnb : some g ≠ (look L p q).ownBlock := fun e => hne (by
      have := h6 a b p q g hg e.symm
      exact this)
    rw [hco g hh.2.1, ho2.block g (by omega) hnb, heap1 g hh.2.2, hao g hh.2.1]
  refine ⟨mb, look L p q, mark L p q c, Wa, v', Wb, Wc, mlt, by rw [cell_of_block h1]; rfl, r1, by rw [← ho]; exact r2, ea, by rw [← ho]; exact r3, r4, ?_, ?_⟩
  · refine ⟨mb, L', tick L p q c, Or.inl fk, Or.inl fm, by rw [hco k (Ne.symm hmk)]; exact hbk, hcm, by rw [hL']; exact write_sound hS _ _, ?_, ?_, ?_⟩
    · intro a b
      rw [hput]
      show Wc.ownsRow 0 3 1 _ (if a = p ∧ b = q then M p q ++ [d] else M a b).length ((if a = p ∧ b = q then M p q ++ [d] else M a b).map (.int .i64))
      by_cases hk : a = p ∧ b = q
      · rw [if_pos hk, if_pos hk]
        refine ownsRow_same (w := Wb) (by simpa using ho1) (fun g hg => hco g (hvb g hg).2.1)
      · rw [if_neg hk, if_neg hk]
        exact ownsRow_same (h4 a b) (fun g hg => hold a b g hk hg)
    · intro a b g hg
      rw [hput] at hg
      by_cases hk : a = p ∧ b = q
      · rw [if_pos hk] at hg
        rcases (hvb g hg).2.2 with e | e
        · exact Or.inl (h5 p q g e)
        · exact Or.inr (by omega)
      · rw [if_neg hk] at hg
        exact Or.inl (h5 a b g hg)
    · intro a b a' b' g hg hg'
      rw [hput] at hg hg'
      by_cases hk : a = p ∧ b = q <;> by_cases hk' : a' = p ∧ b' = q
      · exact ⟨hk.1.trans hk'.1.symm, hk.2.trans hk'.2.symm⟩
      · rw [if_pos hk] at hg
        rw [if_neg hk'] at hg'
        rcases (hvb g hg).2.2 with e | e
        · exact absurd ((fun h => ⟨h.1.symm, h.2.symm⟩ : (p = a' ∧ q = b') → (a' = p ∧ b' = q)) (h6 p q a' b' g e hg')) hk'
        · have := (hgm a' b' g hg').2.2
          omega
      · rw [if_neg hk] at hg
        rw [if_pos hk'] at hg'
        rcases (hvb g hg').2.2 with e | e
        · exact absurd (h6 a b p q g hg e) hk
        · have := (hgm a b g hg).2.2
          omega
      · rw [if_neg hk] at hg
        rw [if_neg hk'] at hg'
        exact h6 a b a' b' g hg hg'
  · refine ⟨?_, ?_, ?_, ?_, ?_, fun b hb => hb⟩
    · rw [hWc]; show Wb.os = _; rw [ho2.os, hWa]; rfl
    · rw [hWc]; show Wb.tape = _; rw [ho2.tape, hWa]; rfl
    · rw [hWc]; show Wb.output = _; rw [ho2.output, hWa]; rfl
    · rw [hWc, setBlock_size]
      have := ho2.size
      omega
    · intro b hb hn
      have e1 : b ≠ mb := fun e => hn (e ▸ fm)
      have e2 : some b ≠ (look L p q).ownBlock := fun e => hn (h5 p q b e.symm)
      rw [hco b e1, ho2.block b (by omega) e2, heap1 b hb, hao b e1]

theorem rise_meet {N : Int} {M : Days} (hR : Rise N M) (p q d : Int) (h1 : N ≤ d) (h2 : 0 ≤ d) (h3 : d ≤ 999999) : Rise d (meet M p q d) := by
  unfold meet
  refine ⟨fun a b => ?_, fun a b x hx => ?_, fun a b x hx => ?_, h3⟩
  · split
    · split
      · exact hR.sorted p q
      · rename_i hd
        refine List.pairwise_append.2 ⟨hR.sorted p q, by simp, fun x hx y hy => ?_⟩
        simp at hy
        subst hy
        have := hR.high p q x hx
        have hne : x ≠ y := fun e => hd (e ▸ hx)
        omega
    · exact hR.sorted a b
  · split at hx
    · split at hx
      · exact hR.low p q x hx
      · rcases List.mem_append.1 hx with h | h
        · exact hR.low p q x h
        · simp at h; omega
    · exact hR.low a b x hx
  · split at hx
    · split at hx
      · have := hR.high p q x hx; omega
      · rcases List.mem_append.1 hx with h | h
        · have := hR.high p q x h; omega
        · simp at h; omega
    · have := hR.high a b x hx; omega

set_option maxHeartbeats 2000000 in
theorem meet_ok (F : Nat → Prop) (k : Nat) (n N : Int) (M : Days) (w : World) (hB : IsBook w F k n N M) (hR : Rise N M) (a b d : Int) (hf : Fit n a b d) (hd : N ≤ d) :
    Calls Try.prog 28 #[.pointer (some ⟨k, 0, none⟩), .int .i64 a, .int .i64 b, .int .i64 d] w fun e w' => e = .returned (.int .i64 0) ∧ ∃ F', IsBook w' F' k n d (meet M (min a b) (max a b) d) ∧ Upd F F' w w' := by
  obtain ⟨h1, h2, h3, h4, h5, h6, h7⟩ := hf
  have cA := asked_ok k n a b d w hB.cell0 h1 h2 h3 h4 h5 h6 h7
  have CA := Lib.hid cA
  have c2 := hB.cell2
  have klt := cell_lt c2
  have C2 := Lib.hid c2
  have HB := Lib.hid hB
  have hlen := rise_length hR (min a b) (max a b)
  have hsort := rise_le hR (min a b) (max a b)
  clear cA hB c2
  obtain ⟨p, hp⟩ : ∃ p, p = min a b := ⟨_, rfl⟩
  obtain ⟨q, hq⟩ : ∃ q, q = max a b := ⟨_, rfl⟩
  rw [← hp, ← hq] at CA hlen hsort ⊢
  clear hp hq
  have HS := Lib.hid hsort
  clear hsort
  go_enter Try.func28, Try.ntmps28
  go_wp2_with fail
  refine CA.out.mono ?_
  rintro e w1 ⟨rfl, hb⟩
  have z1 := hb.size
  have c2 : w1.cell? ⟨k, 2, none⟩ = some (.int .i64 N) := by rw [hb.cell (p := ⟨k, 2, none⟩) klt]; exact C2.out
  have klt1 : k < w1.heap.size := by omega
  have c3 : ∀ o, (w1.alloc o).cell? ⟨k, 2, none⟩ = some (.int .i64 N) := fun o => by rw [((Below.refl _ w1).alloc (Nat.le_refl _) o).cell (p := ⟨k, 2, none⟩) klt1]; exact c2
  have hB1 := HB.out.below hb
  have f2 : w1.frozen? ⟨k, 2, none⟩ = false := by
    obtain ⟨mb, L, c, fk, fm, g1, _⟩ := hB1
    exact free_of_block g1 2
  have f3 : ∀ o, (w1.alloc o).frozen? ⟨k, 2, none⟩ = false := fun o => by rw [((Below.refl _ w1).alloc (Nat.le_refl _) o).frozen (p := ⟨k, 2, none⟩) klt1]; exact f2
  have hd' : ¬ d < N := by omega
  have HB1 := Lib.hid hB1
  clear hB1
  go_wp2
  generalize hW : ((w1.setCell ⟨k, 2, none⟩ (.int .i64 d)).alloc (.cells #[.int .i64 p, .int .i64 q] 72)) = W
  have b0 : (w1.setCell ⟨k, 2, none⟩ (.int .i64 d)).heap.size = w1.heap.size := by simp
  have bW : Below w1.heap.size (w1.setCell ⟨k, 2, none⟩ (.int .i64 d)) W := by rw [← hW, ← b0]; exact (Below.refl _ _).alloc (Nat.le_refl _) _
  have bB : IsBook W F k n d M := (book_newest HB1.out d).below (by rw [b0]; exact bW)
  have pc : W.heap[w1.heap.size]? = some (.cells #[.int .i64 p, .int .i64 q] 72 (0, 0)) := by
    rw [← hW]
    show ((w1.setCell _ _).heap.push _)[_]? = _
    rw [← b0, Array.getElem?_push, if_pos rfl]
  have plt := (Array.getElem?_eq_some_iff.1 pc).1
  have pc0 : W.cell? ⟨w1.heap.size, 0, none⟩ = some (.int .i64 p) := by rw [cell_of_block pc]; rfl
  have pc1 : W.cell? ⟨w1.heap.size, 1, none⟩ = some (.int .i64 q) := by rw [cell_of_block pc]; rfl
  have fk : F k := by obtain ⟨mb, L, c, fk, _⟩ := bB; exact fk
  have hU : Upd F F w W := ((Upd.of_below hb).trans (upd_newest fk (.int .i64 d))).trans ((Upd.of_below (by rw [b0]; exact bW)))
  have HU := Lib.hid hU
  have HW := Lib.hid hW
  have HBW := Lib.hid bB
  have bB' := bB
  obtain ⟨mb, L, c, _, fm, g1, g2, g3, g4, g5, g6⟩ := bB'
  have hlk : ∀ j, (Instr.lookup 68 (.map (some mb)) (.agg #[.int .i64 p, .int .i64 q]) false).run Try.prog (W.drewN j) = .ok (look L p q) (W.drewN j) := fun j => run_lookup_pair (w := W.drewN j) g2 p q
  have hcm : W.cell? ⟨k, 1, none⟩ = some (.map (some mb)) := by rw [cell_of_block g1]; rfl
  have hrd := reads_of_row (g4 p q)
  have HRD := Lib.hid hrd
  clear hU hW bB g1 g2 g3 g4 g5 g6 hrd c2 c3 f2 f3 pc
  by_cases hin : d ∈ M p q
  · have hdec : decide (d ∈ M p q) = true := by simpa using hin
    have cb : ∀ j, Calls Try.prog 46 #[look L p q, .int .i64 d] (W.drewN j) fun e w' => e = .returned (.tuple #[.int .i64 ((M p q).countP (· < d) : Nat), .bool true]) ∧ w' = W.drewN j := fun j =>
      (bs_any (look L p q) (M p q) d (W.drewN j) HRD.out (by omega) HS.out).mono fun e w' h => ⟨by rw [h.1, hdec], h.2.symm⟩
    have CB := Lib.hid cb
    clear cb
    go_quiet ((go_at_call 46; exact Calls.quiet_of_same (CB.out _)))
    go_wp2
    go_ret
    refine ⟨rfl, F, ?_, ?_⟩
    · have e : meet M p q d = M := by
        funext x y
        unfold meet
        rw [if_pos hin]
        split
        · rename_i h; rw [h.1, h.2]
        · rfl
      rw [e]
      exact HBW.out.below (below_drewN (Below.refl _ _) _)
    · exact HU.out.trans (Upd.of_below (below_drewN (Below.refl _ _) _))
  · have hdec : decide (d ∈ M p q) = false := by simpa using hin
    have cb : ∀ j, Calls Try.prog 46 #[look L p q, .int .i64 d] (W.drewN j) fun e w' => e = .returned (.tuple #[.int .i64 ((M p q).countP (· < d) : Nat), .bool false]) ∧ w' = W.drewN j := fun j =>
      (bs_any (look L p q) (M p q) d (W.drewN j) HRD.out (by omega) HS.out).mono fun e w' h => ⟨by rw [h.1, hdec], h.2.symm⟩
    have CB := Lib.hid cb
    clear cb
    go_quiet ((go_at_call 46; exact Calls.quiet_of_same (CB.out _)))
    go_wp2
    generalize hV : W.drewN nq = V
    have bV : Below W.heap.size W V := by rw [← hV]; exact below_drewN (Below.refl _ _) _
    obtain ⟨mb', v0, st, Wa, v', Wb, Wc, mlt, gm, r1, r2, ea, r3, r4, r5, r6⟩ := book_append (HBW.out.below bV) p q d hlen
    have gm' : ∀ o, (V.alloc o).cell? ⟨k, 1, none⟩ = some (.map (some mb')) := fun o => by rw [((Below.refl _ V).alloc (Nat.le_refl _) o).cell (p := ⟨k, 1, none⟩) (cell_lt gm)]; exact gm
    have q0 : V.cell? ⟨w1.heap.size, 0, none⟩ = some (.int .i64 p) := by rw [bV.cell (p := ⟨w1.heap.size, 0, none⟩) plt]; exact pc0
    have q1 : V.cell? ⟨w1.heap.size, 1, none⟩ = some (.int .i64 q) := by rw [bV.cell (p := ⟨w1.heap.size, 1, none⟩) plt]; exact pc1
    have q0' : ∀ o, (V.alloc o).cell? ⟨w1.heap.size, 0, none⟩ = some (.int .i64 p) := fun o => by rw [((Below.refl _ V).alloc (Nat.le_refl _) o).cell (p := ⟨w1.heap.size, 0, none⟩) (cell_lt q0)]; exact q0
    have q1' : ∀ o, (V.alloc o).cell? ⟨w1.heap.size, 1, none⟩ = some (.int .i64 q) := fun o => by rw [((Below.refl _ V).alloc (Nat.le_refl _) o).cell (p := ⟨w1.heap.size, 1, none⟩) (cell_lt q1)]; exact q1
    have HV := Lib.hid hV
    have H5 := Lib.hid r5
    have H6 := Lib.hid r6
    clear hV r5 r6 hlk hcm pc0 pc1 bW CB b0 hdec
    go_region_law (refine step_append_run (by rfl) (.tmp 52) (.tmp 54) 39 (by rfl) v0 (.slice (some ⟨V.heap.size, 0, none⟩) 1 1) v' Wb (by rfl) (by rfl) r3 ?_)
    all_goals
      go_wp2
      go_ret
      refine ⟨rfl, _, ?_, HU.out.trans ((Upd.of_below bV).trans H6.out)⟩
      have e : (fun a b => if a = p ∧ b = q then M p q ++ [d] else M a b) = meet M p q d := by
        unfold meet; funext x y; rw [if_neg hin]
      rw [← e]
      exact H5.out

end Go.Proofs.Ytednejckcdiebaa
