/- Goals and holdings, and when they are valid. -/
import Derived.Test.YtapjgjjmlbhanaaB1
import Derived.Test.YtapjgjjmlbhanaaA1
namespace Go.Proofs.Ytapjgjjmlbhanaa
open Go.RowKit Go.Lib

/-- A need. -/
structure Nd where
  st : ByteArray
  d : Int
instance : Inhabited Nd := ⟨⟨ByteArray.empty, 0⟩⟩
/-- A holding: its values, and what they read as. -/
structure Hd where
  dev : Int
  pv : Value
  sv : Value
  idx : Bool
  ps : List Pc
  ss : List Int
instance : Inhabited Hd := ⟨⟨0, undef, undef, false, [], []⟩⟩
/-- A goal. -/
structure Gl where
  nv : Value
  thr : Int
  idx : Bool
  pv : Value
  sv : Value
  ns : List Nd
  ps : List Pc
  ss : List Int
def Gl.v (g : Gl) : Value := .agg #[g.nv, .int .i64 g.thr, .bool g.idx, g.pv, g.sv]

def ndCell (ns : List Nd) (i j : Nat) : Value := match j with | 0 => .string (ns.getD i default).st | _ => .int .i64 (ns.getD i default).d
def hdCell (hs : List Hd) (i j : Nat) : Value := match j with | 0 => .int .i64 (hs.getD i default).dev | 1 => (hs.getD i default).pv | 2 => (hs.getD i default).sv | _ => .bool (hs.getD i default).idx

def ReadsN (w : World) (v : Value) (ns : List Nd) : Prop := RowAt w v 2 ns.length (ndCell ns)
theorem ReadsN.below {w w' : World} {v : Value} {ns : List Nd} (h : ReadsN w v ns) (hb : Below w.heap.size w w') : ReadsN w' v ns := RowAt.below h hb
theorem ReadsN.at {w : World} {v : Value} {ns : List Nd} (h : ReadsN w v ns) : ∃ ao c b off, v = .slice ao ns.length c ∧ ns.length ≤ c ∧ ns.length ≤ 4611686018427387904 ∧
    ∀ i, i < ns.length → ao = some ⟨b, off, none⟩ ∧ w.cell? ⟨b, off + i * 2, none⟩ = some (.string (ns.getD i default).st) ∧ w.cell? ⟨b, off + i * 2 + 1, none⟩ = some (.int .i64 (ns.getD i default).d) := by
  obtain ⟨ao, c, b, off, e, h1, h2, h3⟩ := RowAt.at h
  refine ⟨ao, c, b, off, e, h1, h2, fun i hi => ?_⟩
  obtain ⟨h4, h5⟩ := h3 i hi
  exact ⟨h4, h5 0 (by omega), h5 1 (by omega)⟩

def HdAt (w : World) (x : Hd) : Prop := ReadsP w x.pv x.ps ∧ ReadsI w x.sv x.ss
theorem HdAt.below {w w' : World} {x : Hd} (h : HdAt w x) (hb : Below w.heap.size w w') : HdAt w' x := ⟨h.1.below hb, h.2.below hb⟩
def ReadsH (w : World) (v : Value) (hs : List Hd) : Prop := RowAt w v 4 hs.length (hdCell hs) ∧ ∀ x ∈ hs, HdAt w x
theorem ReadsH.below {w w' : World} {v : Value} {hs : List Hd} (h : ReadsH w v hs) (hb : Below w.heap.size w w') : ReadsH w' v hs := ⟨RowAt.below h.1 hb, fun x hx => (h.2 x hx).below hb⟩
theorem ReadsH.at {w : World} {v : Value} {hs : List Hd} (h : ReadsH w v hs) : ∃ ao c b off, v = .slice ao hs.length c ∧ hs.length ≤ c ∧ hs.length ≤ 4611686018427387904 ∧
    ∀ i, i < hs.length → ao = some ⟨b, off, none⟩ ∧ w.cell? ⟨b, off + i * 4, none⟩ = some (.int .i64 (hs.getD i default).dev) ∧ w.cell? ⟨b, off + i * 4 + 1, none⟩ = some (hs.getD i default).pv ∧
      w.cell? ⟨b, off + i * 4 + 2, none⟩ = some (hs.getD i default).sv ∧ w.cell? ⟨b, off + i * 4 + 3, none⟩ = some (.bool (hs.getD i default).idx) ∧ HdAt w (hs.getD i default) := by
  obtain ⟨ao, c, b, off, e, h1, h2, h3⟩ := RowAt.at h.1
  refine ⟨ao, c, b, off, e, h1, h2, fun i hi => ?_⟩
  obtain ⟨h4, h5⟩ := h3 i hi
  exact ⟨h4, h5 0 (by omega), h5 1 (by omega), h5 2 (by omega), h5 3 (by omega), h.2 _ (by rw [getD_at _ _ _ hi]; exact List.getElem_mem hi)⟩

def GlAt (w : World) (g : Gl) : Prop := ReadsN w g.nv g.ns ∧ ReadsP w g.pv g.ps ∧ ReadsI w g.sv g.ss
theorem GlAt.below {w w' : World} {g : Gl} (h : GlAt w g) (hb : Below w.heap.size w w') : GlAt w' g := ⟨h.1.below hb, h.2.1.below hb, h.2.2.below hb⟩

def NdOk (n : Nd) : Prop := 1 ≤ n.d ∧ n.d ≤ 8
instance (n : Nd) : Decidable (NdOk n) := inferInstanceAs (Decidable (_ ∧ _))
def NdsOk (ns : List Nd) : Prop := (ns.map Nd.st).Nodup ∧ ∀ n ∈ ns, NdOk n
instance (ns : List Nd) : Decidable (NdsOk ns) := inferInstanceAs (Decidable (_ ∧ _))
def HdOk (x : Hd) : Prop := (0 ≤ x.dev ∧ x.dev < 12) ∧ PcsOk x.ps ∧ ShOk x.ss
instance (x : Hd) : Decidable (HdOk x) := inferInstanceAs (Decidable (_ ∧ _))
def HdsOk (hs : List Hd) : Prop := (hs.map Hd.dev).Nodup ∧ ∀ x ∈ hs, HdOk x
instance (hs : List Hd) : Decidable (HdsOk hs) := inferInstanceAs (Decidable (_ ∧ _))
/-- Sizes that are not too great. -/
def FitG (g : Gl) (hs : List Hd) : Prop := g.ns.length ≤ 64 ∧ (0 ≤ g.thr ∧ g.thr ≤ 255) ∧ hs.length ≤ 12
instance (g : Gl) (hs : List Hd) : Decidable (FitG g hs) := inferInstanceAs (Decidable (_ ∧ _))
def Ok (g : Gl) (hs : List Hd) : Prop := FitG g hs ∧ NdsOk g.ns ∧ (PcsOk g.ps ∧ ShOk g.ss) ∧ HdsOk hs
instance (g : Gl) (hs : List Hd) : Decidable (Ok g hs) := inferInstanceAs (Decidable (_ ∧ _))

section
variable {α β : Type} [DecidableEq β] (key : α → β) (good : α → Prop)
omit [DecidableEq β] in
theorem keyed_snoc (xs : List α) (j : Nat) (h : j < xs.length) : (((xs.take (j + 1)).map key).Nodup ∧ ∀ x ∈ xs.take (j + 1), good x) ↔
    (((xs.take j).map key).Nodup ∧ ∀ x ∈ xs.take j, good x) ∧ good xs[j] ∧ key xs[j] ∉ (xs.take j).map key := by
  rw [List.take_succ_eq_append_getElem h, List.map_append, List.nodup_append]
  constructor
  · rintro ⟨⟨h1, _, h3⟩, h4⟩
    exact ⟨⟨h1, fun p hp => h4 p (List.mem_append_left _ hp)⟩, h4 _ (List.mem_append_right _ (List.mem_singleton.2 rfl)), fun hm => h3 _ hm _ (by simp) rfl⟩
  · rintro ⟨⟨h1, h2⟩, h3, h4⟩
    refine ⟨⟨h1, by simp, fun a ha b hb e => ?_⟩, fun p hp => ?_⟩
    · simp at hb; subst hb; subst e; exact h4 ha
    · rcases List.mem_append.1 hp with hp | hp
      · exact h2 p hp
      · simp at hp; subst hp; exact h3
omit [DecidableEq β] in
theorem keyed_take {xs : List α} (h : (xs.map key).Nodup ∧ ∀ x ∈ xs, good x) (j : Nat) : ((xs.take j).map key).Nodup ∧ ∀ x ∈ xs.take j, good x :=
  ⟨h.1.sublist ((List.take_sublist _ _).map _), fun p hp => h.2 p (List.mem_of_mem_take hp)⟩
end

theorem ndsOk_snoc (ns : List Nd) (j : Nat) (h : j < ns.length) : NdsOk (ns.take (j + 1)) ↔ NdsOk (ns.take j) ∧ NdOk ns[j] ∧ ns[j].st ∉ (ns.take j).map Nd.st := keyed_snoc Nd.st NdOk ns j h
theorem ndsOk_take {ns : List Nd} (h : NdsOk ns) (j : Nat) : NdsOk (ns.take j) := keyed_take Nd.st NdOk h j
theorem hdsOk_snoc (hs : List Hd) (j : Nat) (h : j < hs.length) : HdsOk (hs.take (j + 1)) ↔ HdsOk (hs.take j) ∧ HdOk hs[j] ∧ hs[j].dev ∉ (hs.take j).map Hd.dev := keyed_snoc Hd.dev HdOk hs j h
theorem hdsOk_take {hs : List Hd} (h : HdsOk hs) (j : Nat) : HdsOk (hs.take j) := keyed_take Hd.dev HdOk h j

end Go.Proofs.Ytapjgjjmlbhanaa
