/- NewReader; what a decoder holds. -/
import Derived.Test.YtednejckcdiebaaN9
namespace Go.Proofs.Ytednejckcdiebaa
open Go.RowKit Go.Lib Go.ChangeMaps
set_option linter.unusedSimpArgs false

set_option maxRecDepth 100000 in
set_option maxHeartbeats 2000000 in
theorem NewReader_any (v : Value) (D : List Int) (w : World) (hv : ReadsB w v D) (hl : D.length ≤ 1000000) :
    Calls Try.prog 50 #[v] w fun e w' => ∃ R a c db doff, e = .returned (.pointer (some ⟨R, 0, none⟩)) ∧ RdAt w' R a c db doff D 0 0 ∧ Below w.heap.size w w' ∧ w.heap.size ≤ R ∧ R < w'.heap.size := by
  have hA : Below w.heap.size w (w.alloc (.cells #[] 5)) := sb0 _
  have h0 : OwnB (w.alloc (.cells #[] 5)) w.heap.size (.slice (some ⟨w.heap.size, 0, none⟩) 0 0) [] := Own.lit0 _ _ _ _ _ (Nat.le_refl _)
  obtain ⟨v1, w1, r1, o1, b1, -⟩ := h0.appendR (hv.below hA) (by simp) (by omega) hA.size
  rw [List.nil_append] at o1
  have HB1 := Lib.hid (hA.trans b1)
  have HO1 := Lib.hid o1
  obtain ⟨a0, c0, rfl⟩ : ∃ a c, v = .slice a D.length c := by obtain ⟨ao, c, _, _, e, _⟩ := hv.at; exact ⟨ao, c, e⟩
  obtain ⟨a1, c1, rfl⟩ := o1.slice
  clear hA h0 o1 b1 hv
  go_enter Try.func50, Try.ntmps50
  go_wp2_with (at_builtin; refine wpList_append_run (by rfl) (.tmp 3) (.tmp 4) 56 (by rfl) _ (.slice a0 D.length c0) (.slice a1 D.length c1) w1 (by rfl) (by rfl) r1 ?_)
  go_ret
  have hb : Below w1.heap.size w1 (w1.alloc (.cells #[.slice a1 D.length c1, .int .i64 0, .int .i64 0, .int .i64 0] 104)) := sb0 _
  obtain ⟨_, _, db, doff, e, _, _, hcell⟩ := (HO1.out.reads (by omega)).at
  cases e
  by_cases hd : 0 < D.length
  · refine ⟨w1.heap.size, a1, c1, db, doff, rfl, ⟨⟨0, heap_alloc_new w1 _⟩, Nat.zero_le _, ?_, fun i hi => ⟨(hcell i hi).1, bc hb (hcell i hi).2⟩⟩, HB1.out.trans (hb.mono HB1.out.size), HB1.out.size, by rw [World.size_alloc]; omega⟩
    have := cell_lt (hcell 0 hd).2
    omega
  · exact ⟨w1.heap.size, a1, c1, w1.heap.size + 1, 0, rfl, ⟨⟨0, heap_alloc_new w1 _⟩, Nat.zero_le _, by omega, fun i hi => absurd hi (by omega)⟩, HB1.out.trans (hb.mono HB1.out.size), HB1.out.size, by rw [World.size_alloc]; omega⟩

/-- The pairs, in memory. -/
def PrAt (w : World) (pb po : Nat) (ps : List (Int × Int)) : Prop := ∀ i, i < ps.length → w.cell? ⟨pb, po + i * 2, none⟩ = some (.int .i64 (ps.getD i (0, 0)).1) ∧ w.cell? ⟨pb, po + i * 2 + 1, none⟩ = some (.int .i64 (ps.getD i (0, 0)).2)
theorem PrAt.same {w w' : World} {pb po : Nat} {ps : List (Int × Int)} (h : PrAt w pb po ps) (e : pb < w.heap.size → w'.heap[pb]? = w.heap[pb]?) : PrAt w' pb po ps := fun i hi => by
  obtain ⟨h1, h2⟩ := h i hi
  have := e (cell_lt h1)
  unfold World.cell? at h1 h2 ⊢
  rw [this]
  exact ⟨h1, h2⟩
theorem RdAt.same {w w' : World} {R : Nat} {a : Option Addr} {c db doff : Nat} {D : List Int} {off : Nat} {err : Int} (h : RdAt w R a c db doff D off err) (e1 : w'.heap[R]? = w.heap[R]?) (e2 : db < w.heap.size → w'.heap[db]? = w.heap[db]?) : RdAt w' R a c db doff D off err := by
  obtain ⟨⟨last, h1⟩, h2, h3, h4⟩ := h
  refine ⟨⟨last, e1.trans h1⟩, h2, h3, fun i hi => ⟨(h4 i hi).1, ?_⟩⟩
  have := (h4 i hi).2
  have hb := e2 (cell_lt this)
  unfold World.cell? at this ⊢
  rw [hb]
  exact this

/-- What a decoder holds: the reader, the book (blocks F, from B on), the pairs (block pb), and the pair at hand (block X). -/
structure DSt (w0 W : World) (R : Nat) (a : Option Addr) (c db doff : Nat) (D : List Int) (B pb po : Nat) (ps : List (Int × Int)) (k : Nat) (n : Int) (off : Nat) (err N : Int) (M : Days) (F : Nat → Prop) : Prop where
  rd : RdAt W R a c db doff D off err
  book : IsBook W F k n N M
  own : ∀ b, F b → B ≤ b ∧ b < W.heap.size ∧ b ≠ pb
  prs : PrAt W pb po ps
  low : R < B ∧ (0 < D.length → db < B) ∧ pb ≠ R ∧ w0.heap.size ≤ R ∧ w0.heap.size ≤ B
  bel : Below w0.heap.size w0 W
section
variable {w0 W W' : World} {R : Nat} {a : Option Addr} {c db doff : Nat} {D : List Int} {B pb po : Nat} {ps : List (Int × Int)} {k : Nat} {n : Int} {off off' : Nat} {err err' N N' : Int} {M M' : Days} {F F' : Nat → Prop}
theorem DSt.below (h : DSt w0 W R a c db doff D B pb po ps k n off err N M F) (hb : Below W.heap.size W W') : DSt w0 W' R a c db doff D B pb po ps k n off err N M F :=
  ⟨h.rd.below hb, h.book.below hb, fun b hf => ⟨(h.own b hf).1, Nat.lt_of_lt_of_le (h.own b hf).2.1 hb.size, (h.own b hf).2.2⟩, h.prs.same (fun hl => hb.block pb hl), h.low, h.bel.trans (hb.mono h.bel.size)⟩
theorem DSt.read (h : DSt w0 W R a c db doff D B pb po ps k n off err N M F) (hg : W.grownBy W' (some R)) (hr : RdAt W' R a c db doff D off' err') : DSt w0 W' R a c db doff D B pb po ps k n off' err' N M F :=
  ⟨hr, h.book.same (fun b hf => hg.block b (h.own b hf).2.1 (by intro e; injection e with e; have := (h.own b hf).1; have := h.low.1; omega)), fun b hf => ⟨(h.own b hf).1, Nat.lt_of_lt_of_le (h.own b hf).2.1 hg.size, (h.own b hf).2.2⟩,
    h.prs.same (fun hl => hg.block pb hl (by intro e; injection e with e; exact h.low.2.2.1 e)), h.low,
    ⟨hg.os.trans h.bel.os, hg.tape.trans h.bel.tape, hg.output.trans h.bel.output, Nat.le_trans h.bel.size hg.size, fun i hi => (hg.block i (Nat.lt_of_lt_of_le hi h.bel.size) (by intro e; injection e with e; have := h.low.2.2.2.1; omega)).trans (h.bel.block i hi)⟩⟩
theorem DSt.upd (h : DSt w0 W R a c db doff D B pb po ps k n off err N M F) (hu : Upd F F' W W') (hb : IsBook W' F' k n N' M') (hpl : pb < W.heap.size) : DSt w0 W' R a c db doff D B pb po ps k n off err N' M' (fun b => F' b ∧ b < W'.heap.size) := by
  have hBW : B ≤ W.heap.size := by
    obtain ⟨mb, L, cc, fk, _⟩ := h.book
    have := h.own k fk
    omega
  have hk : ∀ b, b < W.heap.size → ¬ F b → W'.heap[b]? = W.heap[b]? := hu.keep
  have hRn : ¬ F R := fun e => by have := (h.own R e).1; have := h.low.1; omega
  refine ⟨?_, hb.tight, fun b hf => ?_, h.prs.same (fun hl => hk pb hl (fun e => (h.own pb e).2.2 rfl)), h.low, ?_⟩
  · obtain ⟨⟨last, hR⟩, hol, hdb, hcell⟩ := h.rd
    refine ⟨⟨last, (hk R (Array.getElem?_eq_some_iff.1 hR).1 hRn).trans hR⟩, hol, hdb, fun i hi => ⟨(hcell i hi).1, ?_⟩⟩
    have hc := (hcell i hi).2
    have := hk db (cell_lt hc) (fun e => by have := (h.own db e).1; have := h.low.2.1 (by omega); omega)
    unfold World.cell? at hc ⊢
    rw [this]
    exact hc
  · rcases hu.grow b hf.1 with h1 | h1
    · exact ⟨(h.own b h1).1, hf.2, (h.own b h1).2.2⟩
    · exact ⟨by omega, hf.2, by omega⟩
  · exact ⟨hu.os.trans h.bel.os, hu.tape.trans h.bel.tape, hu.output.trans h.bel.output, Nat.le_trans h.bel.size hu.size, fun i hi => (hk i (Nat.lt_of_lt_of_le hi h.bel.size) (fun e => by have := (h.own i e).1; have := h.low.2.2.2.2; omega)).trans (h.bel.block i hi)⟩
end

end Go.Proofs.Ytednejckcdiebaa
