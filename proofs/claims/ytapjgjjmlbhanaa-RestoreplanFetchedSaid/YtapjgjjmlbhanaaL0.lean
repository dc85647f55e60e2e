/- Law Files, plain. -/
import Derived.Test.YtapjgjjmlbhanaaF1
import Derived.Test.YtapjgjjmlbhanaaE3
namespace Go.Proofs.Ytapjgjjmlbhanaa
open Go.RowKit Go.Lib

/-- What the reference says lacks. -/
def ndR (g : Gl) (hs : List Hd) (devs : List Int) : List Int := (List.range g.ns.length).map fun i => down (g.ns.getD i default).d (thereP g hs devs i) 16
def shR (g : Gl) (hs : List Hd) (devs : List Int) : Int := down g.thr (fun x => thereS g hs devs (x : Int)) 256
def ixR (g : Gl) (hs : List Hd) (devs : List Int) : Int := if thereI g hs devs then 0 else 1
/-- The reference's test of a file. -/
def okR (g : Gl) (nd : List Int) (sh ix : Int) (f : Fl) : Bool := !decide (0 < sh) && (!decide (0 < ix) && restB g.ns nd f.ss)
def selR (g : Gl) (nd : List Int) (sh ix : Int) (fs : List Fl) : List ByteArray := (fs.filter (okR g nd sh ix)).map Fl.path

theorem hasN_iff (ns : List Nd) (nd : List Int) (id : ByteArray) : ∀ n, hasN ns nd id n = true ↔ ∃ i, i < n ∧ (ns.getD i default).st = id ∧ nd.getD i 0 = 0
  | 0 => by simp [hasN]
  | n + 1 => by
    have ih := hasN_iff ns nd id n
    unfold hasN
    rw [Bool.or_eq_true, Bool.and_eq_true, decide_eq_true_eq, decide_eq_true_eq, ih]
    constructor
    · rintro (⟨i, h1, h2⟩ | h)
      · exact ⟨i, by omega, h2⟩
      · exact ⟨n, by omega, h⟩
    · rintro ⟨i, h1, h2⟩
      by_cases e : i = n
      · subst e; exact .inr h2
      · exact .inl ⟨i, by omega, h2⟩
theorem restB_all (ns : List Nd) (nd : List Int) : ∀ ss : List ByteArray, restB ns nd ss = ss.all fun id => hasN ns nd id nd.length
  | [] => rfl
  | s :: r => by rw [restB, restB_all ns nd r, List.all_cons]

section
variable {g : Gl} {hs L : List Hd} {devs : List Int} (hok : Ok g hs) (hp : L.Perm hs)
include hok hp
theorem has_okS (id : ByteArray) : hasN g.ns (ndR g hs devs) id (ndR g hs devs).length = okS g.ns (supD g L devs) id := by
  have hl : (ndR g hs devs).length = g.ns.length := by simp [ndR]
  have hnd := hok.2.1.1
  rw [hl, Bool.eq_iff_iff, hasN_iff]
  unfold okS
  have hg : ∀ i, i < g.ns.length → (ndR g hs devs).getD i 0 = lackN (g.ns.getD i default).d ((supD g L devs).pc i) := fun i hi => by
    rw [getD_at _ _ _ (by rw [hl]; exact hi)]
    unfold ndR
    rw [List.getElem_map, List.getElem_range, ← lackN_eq hok hp i hi]
  cases h : ndIx id g.ns with
  | none =>
    simp only [Bool.false_eq_true, iff_false]
    rintro ⟨i, h1, h2, _⟩
    have := (ndIx_iff hnd).2 ⟨h1, h2⟩
    rw [h] at this
    cases this
  | some k =>
    obtain ⟨k1, k2⟩ := (ndIx_iff hnd).1 h
    rw [decide_eq_true_eq, ← hg k k1]
    constructor
    · rintro ⟨i, h1, h2, h3⟩
      have := (ndIx_iff hnd).2 ⟨h1, h2⟩
      rw [h] at this
      cases this
      exact h3
    · intro h3
      exact ⟨k, k1, k2, h3⟩
theorem selR_eq (fs : List Fl) : selR g (ndR g hs devs) (shR g hs devs) (ixR g hs devs) fs = filesP g (supD g L devs) fs := by
  have h1 : shR g hs devs = lackS g.thr (supD g L devs) := (lackS_eq hok hp).symm
  have h2 : (supD g L devs).ix = thereI g hs devs := supD_ix hp
  unfold filesP selR
  rw [← h1, h2]
  by_cases a : 0 < shR g hs devs
  · rw [if_pos (.inl a)]
    have : fs.filter (okR g (ndR g hs devs) (shR g hs devs) (ixR g hs devs)) = [] := by
      rw [List.filter_eq_nil_iff]
      intro f _
      unfold okR
      simp [a]
    rw [this]; rfl
  · by_cases b : thereI g hs devs = false
    · rw [if_pos (.inr b)]
      have : fs.filter (okR g (ndR g hs devs) (shR g hs devs) (ixR g hs devs)) = [] := by
        rw [List.filter_eq_nil_iff]
        intro f _
        unfold okR ixR
        simp [b]
      rw [this]; rfl
    · have b' : thereI g hs devs = true := by simpa using b
      rw [if_neg (fun h => h.elim a b)]
      unfold selP
      congr 1
      refine List.filter_congr fun f _ => ?_
      unfold okR ixR okF
      rw [b', if_pos rfl, restB_all, decide_eq_false a]
      simp only [Bool.not_false, Bool.true_and, Int.lt_irrefl, decide_false]
      congr 1
      funext id
      exact has_okS hok hp id
end

/-- The files that are taken, one after the other. -/
theorem selR_at (g : Gl) (nd : List Int) (sh ix : Int) (fs : List Fl) (j : Nat) (h : j < fs.length) :
    (okR g nd sh ix fs[j] = false → (selR g nd sh ix (fs.take (j + 1))).length = (selR g nd sh ix (fs.take j)).length) ∧
    (okR g nd sh ix fs[j] = true → (selR g nd sh ix (fs.take (j + 1))).length = (selR g nd sh ix (fs.take j)).length + 1 ∧ (selR g nd sh ix (fs.take j)).length < (selR g nd sh ix fs).length ∧
      (selR g nd sh ix fs).getD (selR g nd sh ix (fs.take j)).length ByteArray.empty = fs[j].path) := by
  have e1 : selR g nd sh ix (fs.take (j + 1)) = selR g nd sh ix (fs.take j) ++ if okR g nd sh ix fs[j] = true then [fs[j].path] else [] := by
    unfold selR
    rw [List.take_succ_eq_append_getElem h, List.filter_append, List.map_append]
    congr 1
    by_cases q : okR g nd sh ix fs[j] = true <;> simp [q]
  have e2 : selR g nd sh ix fs = selR g nd sh ix (fs.take (j + 1)) ++ selR g nd sh ix (fs.drop (j + 1)) := by
    unfold selR
    rw [← List.map_append, ← List.filter_append, List.take_append_drop]
  constructor
  · intro q
    rw [e1, if_neg (by simp [q]), List.append_nil]
  · intro q
    rw [e1, if_pos q]
    rw [e2, e1, if_pos q]
    refine ⟨by simp, by simp, ?_⟩
    simp [List.getD]

theorem thereS_zero {g : Gl} {hs : List Hd} (devs : List Int) (hok : Ok g hs) : thereS g hs devs 0 = false := by
  have hz : ∀ ss : List Int, ShOk ss → (0 : Int) ∉ ss := fun ss h hm => by
    obtain ⟨m, hm', e⟩ := List.getElem_of_mem hm
    have := (h m hm').1
    rw [getD_at _ _ _ hm', e] at this
    omega
  unfold thereS
  rw [decide_eq_false (hz _ hok.2.2.1.2), Bool.false_or, List.any_eq_false]
  intro h hm
  rw [decide_eq_false (hz _ (hok.2.2.2.2 h hm).2.2)]
  simp
theorem few_parts {g : Gl} {hs : List Hd} (h : fewB g hs = true) : (∀ x ∈ hs, x.ps.length ≤ 20 ∧ x.ss.length ≤ 20) ∧ g.ns.length ≤ 6 ∧ g.ps.length ≤ 20 ∧ g.ss.length ≤ 20 ∧ (hs.length ≤ 6 ∨ hs.length = 13) := by
  unfold fewB at h
  simp only [Bool.and_eq_true, List.all_eq_true, decide_eq_true_eq, Bool.or_eq_true, hdSmall] at h
  exact ⟨h.1, h.2.1, h.2.2.1, h.2.2.2.1, h.2.2.2.2⟩

end Go.Proofs.Ytapjgjjmlbhanaa
