/- What a supply holds, bit by bit; what is lacking, plain. -/
import Derived.Test.YtapjgjjmlbhanaaC5
namespace Go.Proofs.Ytapjgjjmlbhanaa
open Go.Lib

/-- The stripe of need i is s. -/
theorem ndIx_iff {s : ByteArray} : ∀ {ns : List Nd} {i : Nat}, (ns.map Nd.st).Nodup → (ndIx s ns = some i ↔ i < ns.length ∧ (ns.getD i default).st = s)
  | [], i, _ => by simp [ndIx]
  | n :: r, i, h => by
    have h1 : (r.map Nd.st).Nodup := (List.nodup_cons.1 h).2
    have h2 : n.st ∉ r.map Nd.st := (List.nodup_cons.1 h).1
    unfold ndIx
    by_cases e : s = n.st
    · rw [if_pos e]
      constructor
      · intro hi
        cases hi
        simp [e]
      · rintro ⟨hl, hs⟩
        match i, hl, hs with
        | 0, _, _ => rfl
        | i + 1, hl, hs =>
          exfalso
          apply h2
          rw [← e, ← hs]
          have hl' : i < r.length := by simpa using hl
          refine List.mem_map.2 ⟨r[i], List.getElem_mem hl', ?_⟩
          simp [List.getD, hl']
    · rw [if_neg e]
      match i with
      | 0 =>
        simp
        exact fun h => e h.symm
      | i + 1 =>
        have ih := ndIx_iff (s := s) (ns := r) (i := i) h1
        simp only [List.length_cons, Nat.add_lt_add_iff_right]
        rw [show (n :: r).getD (i + 1) default = r.getD i default from rfl, ← ih]
        cases ndIx s r <;> simp

theorem foldP_bit (ns : List Nd) (i k : Nat) : ∀ (ps : List Pc) (s : Sup), ((ps.foldl (addPc ns) s).pc i).testBit k = ((s.pc i).testBit k || ps.any fun p => decide (ndIx p.st ns = some i ∧ p.ix.toNat = k))
  | [], s => by simp
  | p :: r, s => by
    rw [List.foldl_cons, foldP_bit ns i k r, List.any_cons]
    unfold addPc
    cases h : ndIx p.st ns with
    | none => simp
    | some q =>
      by_cases e : i = q
      · subst e
        simp only [if_true]
        rw [Nat.testBit_or, Nat.testBit_two_pow]
        by_cases g : p.ix.toNat = k
        · simp [g]
        · simp [g]
      · have e' : ¬ q = i := fun x => e x.symm
        simp [e, e']
theorem foldP_sh (ns : List Nd) : ∀ (ps : List Pc) (s : Sup), (ps.foldl (addPc ns) s).sh = s.sh ∧ (ps.foldl (addPc ns) s).ix = s.ix
  | [], s => ⟨rfl, rfl⟩
  | p :: r, s => by
    rw [List.foldl_cons]
    obtain ⟨h1, h2⟩ := foldP_sh ns r (addPc ns s p)
    rw [h1, h2]
    unfold addPc
    split <;> exact ⟨rfl, rfl⟩
theorem foldS_bit (i k : Nat) : ∀ (ss : List Int) (s : Sup), ((ss.foldl addSh s).sh i).testBit k = ((s.sh i).testBit k || ss.any fun x => decide (x.toNat / 64 = i ∧ x.toNat % 64 = k))
  | [], s => by simp
  | x :: r, s => by
    rw [List.foldl_cons, foldS_bit i k r, List.any_cons]
    unfold addSh
    by_cases e : i = x.toNat / 64
    · subst e
      simp only [if_true]
      rw [Nat.testBit_or, Nat.testBit_two_pow]
      by_cases g : x.toNat % 64 = k
      · simp [g]
      · simp [g]
    · have e' : ¬ x.toNat / 64 = i := fun x => e x.symm
      simp [e, e']
theorem foldS_pc : ∀ (ss : List Int) (s : Sup), (ss.foldl addSh s).pc = s.pc
  | [], s => rfl
  | x :: r, s => by rw [List.foldl_cons, foldS_pc r]; rfl

theorem supOf_pc (ns : List Nd) (ps : List Pc) (ss : List Int) (ix : Bool) (i k : Nat) : ((supOf ns ps ss ix).pc i).testBit k = ps.any fun p => decide (ndIx p.st ns = some i ∧ p.ix.toNat = k) := by
  show ((ss.foldl addSh (ps.foldl (addPc ns) (zeroS false))).pc i).testBit k = _
  rw [foldS_pc, foldP_bit]
  simp [zeroS]
theorem supOf_sh (ns : List Nd) (ps : List Pc) (ss : List Int) (ix : Bool) (i k : Nat) : ((supOf ns ps ss ix).sh i).testBit k = ss.any fun x => decide (x.toNat / 64 = i ∧ x.toNat % 64 = k) := by
  show ((ss.foldl addSh (ps.foldl (addPc ns) (zeroS false))).sh i).testBit k = _
  rw [foldS_bit, (foldP_sh ns ps _).1]
  simp [zeroS]
theorem supOf_ix (ns : List Nd) (ps : List Pc) (ss : List Int) (ix : Bool) : (supOf ns ps ss ix).ix = ix := rfl

/-- What a set of supplies holds: a bit of one of them. -/
theorem ofP_any (x : Sup) (xs : List Sup) (set : Nat) (f : Sup → Bool) (hf : ∀ a b, f (orS a b) = (f a || f b)) : ∀ n, f (ofP x xs set n) = (f x || (List.range n).any fun m => set.testBit m && f (xs.getD m (zeroS false)))
  | 0 => by simp [ofP]
  | n + 1 => by
    unfold ofP
    rw [List.range_succ, List.any_append, List.any_cons, List.any_nil, Bool.or_false, ← Bool.or_assoc, ← ofP_any x xs set f hf n, Nat.testBit_eq_decide_div_mod_eq]
    split
    · rename_i h; rw [hf]; simp [h]
    · rename_i h; simp [h]

theorem setN_bit (devs : List Int) (L : List Hd) (m : Nat) : ∀ n, (setN devs L n).testBit m = decide (m < n ∧ (L.getD m default).dev ∈ devs)
  | 0 => by simp [setN]
  | n + 1 => by
    unfold setN
    have ih := setN_bit devs L m n
    by_cases e : m = n
    · subst e
      have h0 : (setN devs L m).testBit m = false := by rw [ih]; simp
      by_cases h : (L.getD m default).dev ∈ devs
      · rw [if_pos h, Nat.testBit_or, Nat.testBit_two_pow, decide_eq_true (show m < m + 1 ∧ _ from ⟨Nat.lt_succ_self m, h⟩)]; simp
      · rw [if_neg h, h0, decide_eq_false (fun x => h x.2)]
    · have e' : decide (n = m) = false := decide_eq_false fun x => e x.symm
      have hiff : decide (m < n + 1 ∧ (L.getD m default).dev ∈ devs) = decide (m < n ∧ (L.getD m default).dev ∈ devs) := by
        rw [Bool.eq_iff_iff, decide_eq_true_eq, decide_eq_true_eq]
        constructor
        · rintro ⟨h1, h2⟩; exact ⟨by omega, h2⟩
        · rintro ⟨h1, h2⟩; exact ⟨by omega, h2⟩
      rw [hiff, ← ih]
      by_cases h : (L.getD n default).dev ∈ devs
      · rw [if_pos h, Nat.testBit_or, Nat.testBit_two_pow, e', Bool.or_false]
      · rw [if_neg h]

end Go.Proofs.Ytapjgjjmlbhanaa
