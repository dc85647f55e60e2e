/- What a supply holds, bit by bit; what is lacking, plain. -/
import Derived.Test.YtapjgjjmlbhanaaC5
namespace Go.Proofs.Ytapjgjjmlbhanaa
open Go.Lib

/-- The stripe of need i is s. -/
theorem ndIx_iff {s : ByteArray} : ∀ {ns : List Nd} {i : Nat}, (ns.map Nd.st).Nodup → (ndIx s ns = some i ↔ i < ns.length ∧ (ns.getD i default).st = s)
  | [], i, _ => by simp [ndIx]
  | n :: r, i, h => by
    have h1 : (r.map Nd.st).Nodup := (List.nodup_cons.1 h).2
    have h2 : n.st ∉ r.map Nd.st := (List.nodup_cons.1 h).1
    unfold ndIx
    by_cases e : s = n.st
    · rw [if_pos e]
      constructor
      · intro hi
        cases hi
        simp [e]
      · rintro ⟨hl, hs⟩
        match i, hl, hs with
        | 0, _, _ => rfl
        | i + 1, hl, hs =>
          exfalso
          apply h2
          rw [← e, ← hs]
          have hl' : i < r.length := by simpa using hl
          refine List.mem_map.2 ⟨r[i], List.getElem_mem hl', ?_⟩
          simp [List.getD, hl']
    · rw [if_neg e]
      match i with
      | 0 =>
        simp
        exact fun h => e h.symm
      | i + 1 =>
        have ih := ndIx_iff (s := s) (ns := r) (i := i) h1
        simp only [List.length_cons, Nat.add_lt_add_iff_right]
        rw [show (n :: r).getD (i + 1) default = r.getD i default from rfl, ← ih]
        cases ndIx s r <;> simp

theorem foldP_bit (ns : List Nd) (i k : Nat) : ∀ (ps : List Pc) (s : Sup), ((ps.foldl (addPc ns) s).pc i).testBit k = ((s.pc i).testBit k || ps.any fun p => decide (ndIx p.st ns = some i ∧ p.ix.toNat = k))
  | [], s => by simp
  | p :: r, s => by
    rw [List.foldl_cons, foldP_bit ns i k r, List.any_cons]
    unfold addPc
    cases h : ndIx p.st ns with
    | none => simp
    | some q =>
      by_cases e : i = q
      · subst e
        simp only [if_true]
        rw [Nat.testBit_or, Nat.testBit_two_pow]
        by_cases g : p.ix.toNat = k
        · simp [g]
        · simp [g]
      · have e' : ¬ q = i := fun x => e x.symm
        simp [e, e']
theorem foldP_sh (ns : List Nd) : ∀ (ps : List Pc) (s : Sup), (ps.foldl (addPc ns) s).sh = s.sh ∧ (ps.foldl (addPc ns) s).ix = s.ix
  | [], s => ⟨rfl, rfl⟩
  | p :: r, s => by
    rw [List.foldl_cons]
    obtain ⟨h1, h2⟩ := foldP_sh ns r (addPc ns s p)
    rw [h1, h2]
    unfold addPc
    split <;> exact ⟨rfl, rfl⟩
theorem foldS_bit (i k : Nat) : ∀ (ss : List Int) (s : Sup), ((ss.foldl addSh s).sh i).testBit k = ((s.sh i).testBit k || ss.any fun x => decide (x.toNat / 64 = i ∧ x.toNat % 64 = k))
  | [], s => by simp
  | x :: r, s => by
    rw [List.foldl_cons, foldS_bit i k r, List.any_cons]
    unfold addSh
    by_cases e : i = x.toNat / 64
    · subst e
      simp only [if_true]
      rw [Nat.testBit_or, Nat.testBit_two_pow]
      by_cases g : x.toNat % 64 = k
      · simp [g]
      · simp [g]
    · have e' : ¬ x.toNat / 64 = i := fun x => e x.symm
      simp [e, e']
theorem foldS_pc : ∀ (ss : List Int) (s : Sup), (ss.foldl addSh s).pc = s.pc
  | [], s => rfl
  | x :: r, s => by rw [List.foldl_cons, foldS_pc r]; rfl

theorem supOf_pc (ns : List Nd) (ps : List Pc) (ss : List Int) (ix : Bool) (i k : Nat) : ((supOf ns ps ss ix).pc i).testBit k = ps.any fun p => decide (ndIx p.st ns = some i ∧ p.ix.toNat = k) := by
  show ((ss.foldl addSh (ps.foldl (addPc ns) (zeroS false))).pc i).testBit k = _
  rw [foldS_pc, foldP_bit]
  simp [zeroS]
theorem supOf_sh (ns : List Nd) (ps : List Pc) (ss : List Int) (ix : Bool) (i k : Nat) : ((supOf ns ps ss ix).sh i).testBit k = ss.any fun x => decide (x.toNat / 64 = i ∧ x.toNat % 64 = k) := by
  show ((ss.foldl addSh (ps.foldl (addPc ns) (zeroS false))).sh i).testBit k = _
  rw [foldS_bit, (foldP_sh ns ps _).1]
  simp [zeroS]
theorem supOf_ix (ns : List Nd) (ps : List Pc) (ss : List Int) (ix : Bool) : (supOf ns ps ss ix).ix = ix := rfl

/-- What a set of supplies holds: a bit of one of them. -/
theorem ofP_any (x : Sup) (xs : List Sup) (set : Nat) (f : Sup → Bool) (hf : ∀ a b, f (orS a b) = (f a || f b)) : ∀ n, f (ofP x xs set n) = (f x || (List.range n).any fun m => set.testBit m && f (xs.getD m (zeroS false)))
  | 0 => by simp [ofP]
  | n + 1 => by
    unfold ofP
    rw [List.range_succ, List.any_append, List.any_cons, List.any_nil, Bool.or_false, ← Bool.or_assoc, ← ofP_any x xs set f hf n, Nat.testBit_eq_decide_div_mod_eq]
    split
    · rename_i h; rw [hf]; simp [h]
    · rename_i h; simp [h]

theorem setN_bit (devs : List Int) (L : List Hd) (m : Nat) : ∀ n, (setN devs L n).testBit m = decide (m < n ∧ (L.getD m default).dev ∈ devs)
  | 0 => by simp [setN]
  | n + 1 => by
    unfold setN
    have ih := setN_bit devs L m n
    by_cases e : m = n
    · subst e
      have h0 : (setN devs L m).testBit m = false := by rw [ih]; simp
      by_cases h : (L.getD m default).dev ∈ devs
      · rw [if_pos h, Nat.testBit_or, Nat.testBit_two_pow, decide_eq_true (show m < m + 1 ∧ _ from ⟨Nat.lt_succ_self m, h⟩)]; simp
      · rw [if_neg h, h0, decide_eq_false (fun x => h x.2)]
    · have e' : decide (n = m) = false := decide_eq_false fun x => e x.symm
      have hiff : decide (m < n + 1 ∧ (L.getD m default).dev ∈ devs) = decide (m < n ∧ (L.getD m default).dev ∈ devs) := by
        rw [Bool.eq_iff_iff, decide_eq_true_eq, decide_eq_true_eq]
        constructor
        · rintro ⟨h1, h2⟩; exact ⟨by omega, h2⟩
        · rintro ⟨h1, h2⟩; exact ⟨by omega, h2⟩
      rw [hiff, ← ih]
      by_cases h : (L.getD n default).dev ∈ devs
      · rw [if_pos h, Nat.testBit_or, Nat.testBit_two_pow, e', Bool.or_false]
      · rw [if_neg h]

end Go.Proofs.Ytapjgjjmlbhanaa

/- What is lacking by the plan is what is lacking by the reference, plain. -/
namespace Go.Proofs.Ytapjgjjmlbhanaa
open Go.Lib

/-- A piece of need i is there, or given by some devices. -/
def thereP (g : Gl) (hs : List Hd) (devs : List Int) (i k : Nat) : Bool :=
  decide ((⟨(g.ns.getD i default).st, k⟩ : Pc) ∈ g.ps) || hs.any fun h => decide (h.dev ∈ devs) && decide ((⟨(g.ns.getD i default).st, k⟩ : Pc) ∈ h.ps)
def thereS (g : Gl) (hs : List Hd) (devs : List Int) (x : Int) : Bool :=
  decide (x ∈ g.ss) || hs.any fun h => decide (h.dev ∈ devs) && decide (x ∈ h.ss)
def thereI (g : Gl) (hs : List Hd) (devs : List Int) : Bool := !g.idx || hs.any fun h => decide (h.dev ∈ devs) && h.idx

/-- A number that goes down by one at each that is there, not below zero. -/
def down (d : Int) (p : Nat → Bool) : Nat → Int
  | 0 => d
  | n + 1 => if p n = true ∧ 0 < down d p n then down d p n - 1 else down d p n
theorem down_eq (d : Int) (p : Nat → Bool) (hd : 0 ≤ d) : ∀ n, down d p n = max 0 (d - ((List.range n).countP p : Nat))
  | 0 => by simp [down]; omega
  | n + 1 => by
    have ih := down_eq d p hd n
    rw [List.range_succ, List.countP_append, List.countP_cons, List.countP_nil]
    unfold down
    rw [ih]
    generalize (List.range n).countP p = c
    by_cases h : p n = true
    · rw [h]
      simp only [true_and, if_true, Nat.zero_add]
      split <;> omega
    · have h' : p n = false := by simpa using h
      rw [h']
      simp

theorem any_range {α : Type} (L : List α) (d : α) (f : Nat → Bool) (q : α → Bool) (h : ∀ m, m < L.length → f m = q (L.getD m d)) : ((List.range L.length).any f) = L.any q := by
  rw [Bool.eq_iff_iff, List.any_eq_true, List.any_eq_true]
  constructor
  · rintro ⟨m, hm, hf⟩
    have hm := List.mem_range.1 hm
    refine ⟨L.getD m d, ?_, ?_⟩
    · rw [getD_at _ _ _ hm]; exact List.getElem_mem hm
    · rw [← h m hm]; exact hf
  · rintro ⟨x, hx, hq⟩
    obtain ⟨m, hm, e⟩ := List.getElem_of_mem hx
    refine ⟨m, List.mem_range.2 hm, ?_⟩
    rw [h m hm, getD_at _ _ _ hm, e]
    exact hq

theorem pcs_any {ns : List Nd} {ps : List Pc} {i k : Nat} (hn : (ns.map Nd.st).Nodup) (hi : i < ns.length) (hp : PcsOk ps) : (ps.any fun p => decide (ndIx p.st ns = some i ∧ p.ix.toNat = k)) = decide ((⟨(ns.getD i default).st, k⟩ : Pc) ∈ ps) := by
  rw [Bool.eq_iff_iff, List.any_eq_true, decide_eq_true_eq]
  constructor
  · rintro ⟨⟨s, x⟩, hm, h⟩
    rw [decide_eq_true_eq, ndIx_iff hn] at h
    obtain ⟨⟨_, h1⟩, h2⟩ := h
    have h3 := (hp.2 _ hm).1
    simp only at h1 h2 h3
    have : (⟨(ns.getD i default).st, (k : Int)⟩ : Pc) = ⟨s, x⟩ := by
      rw [h1]
      congr 1
      omega
    rw [this]
    exact hm
  · intro hm
    refine ⟨_, hm, ?_⟩
    rw [decide_eq_true_eq, ndIx_iff hn]
    exact ⟨⟨hi, rfl⟩, by simp⟩

theorem shs_any {ss : List Int} {i k : Nat} (hk : k < 64) (hs : ShOk ss) : (ss.any fun x => decide (x.toNat / 64 = i ∧ x.toNat % 64 = k)) = decide (((64 * i + k : Nat) : Int) ∈ ss) := by
  have hpos : ∀ x ∈ ss, 1 ≤ x := fun x hx => by
    obtain ⟨m, hm, e⟩ := List.getElem_of_mem hx
    have := (hs m hm).1
    rw [getD_at _ _ _ hm, e] at this
    exact this
  rw [Bool.eq_iff_iff, List.any_eq_true, decide_eq_true_eq]
  constructor
  · rintro ⟨x, hm, h⟩
    rw [decide_eq_true_eq] at h
    have := hpos x hm
    have e : ((64 * i + k : Nat) : Int) = x := by omega
    rw [e]
    exact hm
  · intro hm
    refine ⟨_, hm, ?_⟩
    rw [decide_eq_true_eq]
    omega

/-- The supply of a plan, with the devices of a set. -/
def supD (g : Gl) (L : List Hd) (devs : List Int) : Sup := ofP (supOf g.ns g.ps g.ss (!g.idx)) (L.map fun h => supOf g.ns h.ps h.ss h.idx) (setN devs L L.length) L.length

section
variable {g : Gl} {hs L : List Hd} {devs : List Int} (hok : Ok g hs) (hp : L.Perm hs)
include hp
theorem supD_bit (f : Sup → Bool) (q : Hd → Bool) (hf : ∀ a b, f (orS a b) = (f a || f b)) (hq : ∀ h ∈ hs, f (supOf g.ns h.ps h.ss h.idx) = q h) :
    f (supD g L devs) = (f (supOf g.ns g.ps g.ss (!g.idx)) || hs.any fun h => decide (h.dev ∈ devs) && q h) := by
  unfold supD
  rw [ofP_any _ _ _ f hf]
  congr 1
  rw [← hp.any_eq]
  refine any_range L default _ _ fun m hm => ?_
  rw [setN_bit]
  have h1 : (L.map fun h => supOf g.ns h.ps h.ss h.idx).getD m (zeroS false) = supOf g.ns (L.getD m default).ps (L.getD m default).ss (L.getD m default).idx := by
    rw [getD_at _ _ _ (by rw [List.length_map]; exact hm), List.getElem_map, getD_at _ _ _ hm]
  rw [h1, hq _ (hp.mem_iff.1 (by rw [getD_at _ _ _ hm]; exact List.getElem_mem hm))]
  congr 1
  rw [Bool.eq_iff_iff, decide_eq_true_eq, decide_eq_true_eq]
  exact ⟨fun h => h.2, fun h => ⟨hm, h⟩⟩

include hok
theorem supD_pc (i k : Nat) (hi : i < g.ns.length) : ((supD g L devs).pc i).testBit k = thereP g hs devs i k := by
  have := supD_bit (g := g) (devs := devs) hp (fun s => (s.pc i).testBit k) (fun h => decide ((⟨(g.ns.getD i default).st, k⟩ : Pc) ∈ h.ps)) (fun a b => by simp [orS, Nat.testBit_or]) (fun h hm => by
    rw [supOf_pc, pcs_any hok.2.1.1 hi (hok.2.2.2.2 h hm).2.1])
  rw [this, supOf_pc, pcs_any hok.2.1.1 hi hok.2.2.1.1]
  rfl
theorem supD_sh (i k : Nat) (hk : k < 64) : ((supD g L devs).sh i).testBit k = thereS g hs devs ((64 * i + k : Nat) : Int) := by
  have := supD_bit (g := g) (devs := devs) hp (fun s => (s.sh i).testBit k) (fun h => decide (((64 * i + k : Nat) : Int) ∈ h.ss)) (fun a b => by simp [orS, Nat.testBit_or]) (fun h hm => by
    rw [supOf_sh, shs_any hk (hok.2.2.2.2 h hm).2.2])
  rw [this, supOf_sh, shs_any hk hok.2.2.1.2]
  rfl
omit hok in
theorem supD_ix : (supD g L devs).ix = thereI g hs devs := by
  have := supD_bit (g := g) (devs := devs) hp (fun s => s.ix) (fun h => h.idx) (fun a b => rfl) (fun h hm => rfl)
  rw [this]
  rfl

theorem lackN_eq (i : Nat) (hi : i < g.ns.length) : lackN (g.ns.getD i default).d ((supD g L devs).pc i) = down (g.ns.getD i default).d (thereP g hs devs i) 16 := by
  have hd := hok.2.1.2 (g.ns.getD i default) (by rw [getD_at _ _ _ hi]; exact List.getElem_mem hi)
  rw [down_eq _ _ (by have := hd.1; omega)]
  unfold lackN pop
  congr 2
  have : (List.range 16).countP (fun k => ((supD g L devs).pc i).testBit k) = (List.range 16).countP (thereP g hs devs i) := List.countP_congr fun k _ => by rw [supD_pc hok hp i k hi]
  rw [this]

theorem lackS_eq : lackS g.thr (supD g L devs) = down g.thr (fun x => thereS g hs devs (x : Int)) 256 := by
  rw [down_eq _ _ hok.1.2.1.1]
  unfold lackS popS
  congr 2
  have h : ∀ i, pop 64 ((supD g L devs).sh i) = (List.range 64).countP (fun k => thereS g hs devs ((64 * i + k : Nat) : Int)) := fun i => List.countP_congr fun k hk => by
    rw [supD_sh hok hp i k (List.mem_range.1 hk)]
  rw [h, h, h, h]
  have e : List.range 256 = List.range 64 ++ (List.range 64).map (64 * 1 + ·) ++ (List.range 64).map (64 * 2 + ·) ++ (List.range 64).map (64 * 3 + ·) := by decide +kernel
  rw [e, List.countP_append, List.countP_append, List.countP_append, List.countP_map, List.countP_map, List.countP_map]
  simp only [Function.comp_def, Nat.mul_zero, Nat.zero_add]
end

end Go.Proofs.Ytapjgjjmlbhanaa
