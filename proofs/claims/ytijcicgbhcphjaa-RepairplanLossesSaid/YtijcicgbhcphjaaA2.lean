/- Views: what they read as, and when they are valid. -/
import Derived.Test.YtijcicgbhcphjaaA1
namespace Go.Proofs.Ytijcicgbhcphjaa
open Go.RowKit Go.Lib Go.ChangeMaps

/-- A member. -/
structure Mem where
  dev : Int
  name : ByteArray
  pub : ByteArray
  quota : Int
  exp : Bool
deriving DecidableEq
instance : Inhabited Mem := ⟨⟨0, ByteArray.empty, ByteArray.empty, 0, false⟩⟩
/-- A reference to a chunk. -/
structure Rf where
  name : ByteArray
  gen : Int
  size : Int
deriving DecidableEq
instance : Inhabited Rf := ⟨⟨ByteArray.empty, 0, 0⟩⟩
/-- A stripe and where its pieces are. -/
structure Hp where
  id : ByteArray
  vault : Int
  block : Int
  data : Int
  total : Int
  refs : List Rf
  at_ : List Int
deriving DecidableEq
instance : Inhabited Hp := ⟨⟨ByteArray.empty, 0, 0, 0, 0, [], []⟩⟩
/-- A view. -/
structure Vp where
  mem : List Mem
  held : List Hp
  room : List Int
  weight : List Int
deriving DecidableEq
/-- A job. -/
structure Jp where
  pc : Pc
  from_ : List Int
  to : Int
  size : Int
deriving DecidableEq
instance : Inhabited Jp := ⟨⟨default, [], 0, 0⟩⟩

def memCell (ms : List Mem) (i j : Nat) : Value := match j with
  | 0 => .int .i64 (ms.getD i default).dev | 1 => .string (ms.getD i default).name | 2 => .string (ms.getD i default).pub | 3 => .int .i64 (ms.getD i default).quota | _ => .bool (ms.getD i default).exp
def rfCell (rs : List Rf) (i j : Nat) : Value := match j with
  | 0 => .string (rs.getD i default).name | 1 => .int .i64 (rs.getD i default).gen | _ => .int .i64 (rs.getD i default).size
def hpCell (hs : List Hp) (xs : List (Value × Value)) (i j : Nat) : Value := match j with
  | 0 => .string (hs.getD i default).id | 1 => .int .i64 (hs.getD i default).vault | 2 => .int .i64 (hs.getD i default).block | 3 => .int .i64 (hs.getD i default).data
  | 4 => .int .i64 (hs.getD i default).total | 5 => (xs.getD i (undef, undef)).1 | _ => (xs.getD i (undef, undef)).2
def jpCell (js : List Jp) (xs : List Value) (i j : Nat) : Value := match j with
  | 0 => .string (js.getD i default).pc.st | 1 => .int .i64 (js.getD i default).pc.ix | 2 => xs.getD i undef | 3 => .int .i64 (js.getD i default).to | _ => .int .i64 (js.getD i default).size

def ReadsM (w : World) (v : Value) (ms : List Mem) : Prop := RowAt w v 5 ms.length (memCell ms)
theorem ReadsM.below {w w' : World} {v : Value} {ms : List Mem} (h : ReadsM w v ms) (hb : Below w.heap.size w w') : ReadsM w' v ms := RowAt.below h hb
theorem ReadsM.at {w : World} {v : Value} {ms : List Mem} (h : ReadsM w v ms) : ∃ ao c b off, v = .slice ao ms.length c ∧ ms.length ≤ c ∧ ms.length ≤ 4611686018427387904 ∧
    ∀ i, i < ms.length → ao = some ⟨b, off, none⟩ ∧ w.cell? ⟨b, off + i * 5, none⟩ = some (.int .i64 (ms.getD i default).dev) ∧ w.cell? ⟨b, off + i * 5 + 1, none⟩ = some (.string (ms.getD i default).name) ∧
      w.cell? ⟨b, off + i * 5 + 2, none⟩ = some (.string (ms.getD i default).pub) ∧ w.cell? ⟨b, off + i * 5 + 3, none⟩ = some (.int .i64 (ms.getD i default).quota) ∧ w.cell? ⟨b, off + i * 5 + 4, none⟩ = some (.bool (ms.getD i default).exp) := by
  obtain ⟨ao, c, b, off, e, h1, h2, h3⟩ := RowAt.at h
  refine ⟨ao, c, b, off, e, h1, h2, fun i hi => ?_⟩
  obtain ⟨h4, h5⟩ := h3 i hi
  exact ⟨h4, h5 0 (by omega), h5 1 (by omega), h5 2 (by omega), h5 3 (by omega), h5 4 (by omega)⟩

def ReadsR (w : World) (v : Value) (rs : List Rf) : Prop := RowAt w v 3 rs.length (rfCell rs)
theorem ReadsR.below {w w' : World} {v : Value} {rs : List Rf} (h : ReadsR w v rs) (hb : Below w.heap.size w w') : ReadsR w' v rs := RowAt.below h hb
theorem ReadsR.at {w : World} {v : Value} {rs : List Rf} (h : ReadsR w v rs) : ∃ ao c b off, v = .slice ao rs.length c ∧ rs.length ≤ c ∧ rs.length ≤ 4611686018427387904 ∧
    ∀ i, i < rs.length → ao = some ⟨b, off, none⟩ ∧ w.cell? ⟨b, off + i * 3, none⟩ = some (.string (rs.getD i default).name) ∧ w.cell? ⟨b, off + i * 3 + 1, none⟩ = some (.int .i64 (rs.getD i default).gen) ∧
      w.cell? ⟨b, off + i * 3 + 2, none⟩ = some (.int .i64 (rs.getD i default).size) := by
  obtain ⟨ao, c, b, off, e, h1, h2, h3⟩ := RowAt.at h
  refine ⟨ao, c, b, off, e, h1, h2, fun i hi => ?_⟩
  obtain ⟨h4, h5⟩ := h3 i hi
  exact ⟨h4, h5 0 (by omega), h5 1 (by omega), h5 2 (by omega)⟩

def ReadsH (w : World) (v : Value) (hs : List Hp) : Prop := ∃ xs : List (Value × Value), xs.length = hs.length ∧ RowAt w v 7 hs.length (hpCell hs xs) ∧
  ∀ i, i < hs.length → ReadsR w (xs.getD i (undef, undef)).1 (hs.getD i default).refs ∧ ReadsI w (xs.getD i (undef, undef)).2 (hs.getD i default).at_
theorem ReadsH.below {w w' : World} {v : Value} {hs : List Hp} (h : ReadsH w v hs) (hb : Below w.heap.size w w') : ReadsH w' v hs := by
  obtain ⟨xs, h1, h2, h3⟩ := h
  exact ⟨xs, h1, RowAt.below h2 hb, fun i hi => ⟨(h3 i hi).1.below hb, (h3 i hi).2.below hb⟩⟩
theorem ReadsH.at {w : World} {v : Value} {hs : List Hp} (h : ReadsH w v hs) : ∃ ao c b off, v = .slice ao hs.length c ∧ hs.length ≤ c ∧ hs.length ≤ 4611686018427387904 ∧
    ∀ i, i < hs.length → ao = some ⟨b, off, none⟩ ∧ w.cell? ⟨b, off + i * 7, none⟩ = some (.string (hs.getD i default).id) ∧ w.cell? ⟨b, off + i * 7 + 1, none⟩ = some (.int .i64 (hs.getD i default).vault) ∧
      w.cell? ⟨b, off + i * 7 + 2, none⟩ = some (.int .i64 (hs.getD i default).block) ∧ w.cell? ⟨b, off + i * 7 + 3, none⟩ = some (.int .i64 (hs.getD i default).data) ∧
      w.cell? ⟨b, off + i * 7 + 4, none⟩ = some (.int .i64 (hs.getD i default).total) ∧ ∃ rv av, w.cell? ⟨b, off + i * 7 + 5, none⟩ = some rv ∧ w.cell? ⟨b, off + i * 7 + 6, none⟩ = some av ∧
      ReadsR w rv (hs.getD i default).refs ∧ ReadsI w av (hs.getD i default).at_ := by
  obtain ⟨xs, hx, hr, hh⟩ := h
  obtain ⟨ao, c, b, off, e, h1, h2, h3⟩ := RowAt.at hr
  refine ⟨ao, c, b, off, e, h1, h2, fun i hi => ?_⟩
  obtain ⟨h4, h5⟩ := h3 i hi
  exact ⟨h4, h5 0 (by omega), h5 1 (by omega), h5 2 (by omega), h5 3 (by omega), h5 4 (by omega), _, _, h5 5 (by omega), h5 6 (by omega), (hh i hi).1, (hh i hi).2⟩

def ReadsJ (w : World) (v : Value) (js : List Jp) : Prop := ∃ xs : List Value, xs.length = js.length ∧ RowAt w v 5 js.length (jpCell js xs) ∧ ∀ i, i < js.length → ReadsI w (xs.getD i undef) (js.getD i default).from_
theorem ReadsJ.below {w w' : World} {v : Value} {js : List Jp} (h : ReadsJ w v js) (hb : Below w.heap.size w w') : ReadsJ w' v js := by
  obtain ⟨xs, h1, h2, h3⟩ := h
  exact ⟨xs, h1, RowAt.below h2 hb, fun i hi => (h3 i hi).below hb⟩
theorem ReadsJ.at {w : World} {v : Value} {js : List Jp} (h : ReadsJ w v js) : ∃ ao c b off, v = .slice ao js.length c ∧ js.length ≤ c ∧ js.length ≤ 4611686018427387904 ∧
    ∀ i, i < js.length → ao = some ⟨b, off, none⟩ ∧ w.cell? ⟨b, off + i * 5, none⟩ = some (.string (js.getD i default).pc.st) ∧ w.cell? ⟨b, off + i * 5 + 1, none⟩ = some (.int .i64 (js.getD i default).pc.ix) ∧
      ∃ fv, w.cell? ⟨b, off + i * 5 + 2, none⟩ = some fv ∧ w.cell? ⟨b, off + i * 5 + 3, none⟩ = some (.int .i64 (js.getD i default).to) ∧
      w.cell? ⟨b, off + i * 5 + 4, none⟩ = some (.int .i64 (js.getD i default).size) ∧ ReadsI w fv (js.getD i default).from_ := by
  obtain ⟨xs, hx, hr, hh⟩ := h
  obtain ⟨ao, c, b, off, e, h1, h2, h3⟩ := RowAt.at hr
  refine ⟨ao, c, b, off, e, h1, h2, fun i hi => ?_⟩
  obtain ⟨h4, h5⟩ := h3 i hi
  exact ⟨h4, h5 0 (by omega), h5 1 (by omega), _, h5 2 (by omega), h5 3 (by omega), h5 4 (by omega), hh i hi⟩

/-- A view as a value. -/
def VwAt (w : World) (v : Value) (V : Vp) : Prop := ∃ mv hv rv wv, v = .agg #[mv, hv, rv, wv] ∧ ReadsM w mv V.mem ∧ ReadsH w hv V.held ∧ ReadsI w rv V.room ∧ ReadsI w wv V.weight
theorem VwAt.below {w w' : World} {v : Value} {V : Vp} (h : VwAt w v V) (hb : Below w.heap.size w w') : VwAt w' v V := by
  obtain ⟨mv, hv, rv, wv, e, h1, h2, h3, h4⟩ := h
  exact ⟨mv, hv, rv, wv, e, h1.below hb, h2.below hb, h3.below hb, h4.below hb⟩

/-! Valid views. -/
def CntOk (zs : List Int) : Prop := ∀ x ∈ zs, 0 ≤ x ∧ x ≤ 1099511627776
instance (zs : List Int) : Decidable (CntOk zs) := inferInstanceAs (Decidable (∀ x ∈ zs, _))
/-- Devices that are different, apart from -1. -/
def AtOk (n : Int) (zs : List Int) : Prop := (zs.filter (· != -1)).Nodup ∧ ∀ x ∈ zs, x = -1 ∨ (0 ≤ x ∧ x < n)
instance (n : Int) (zs : List Int) : Decidable (AtOk n zs) := inferInstanceAs (Decidable (_ ∧ _))
def HpOk (n : Int) (h : Hp) : Prop := h.id.size = 32 ∧ (1 ≤ h.data ∧ h.data ≤ 8) ∧ (h.data ≤ h.total ∧ h.total ≤ 16) ∧ (1 ≤ h.block ∧ h.block ≤ 65536) ∧ (h.at_.length : Int) = h.total ∧ AtOk n h.at_
instance (n : Int) (h : Hp) : Decidable (HpOk n h) := inferInstanceAs (Decidable (_ ∧ _))
def HpsOk (n : Int) (hs : List Hp) : Prop := (hs.map Hp.id).Nodup ∧ ∀ h ∈ hs, HpOk n h
instance (n : Int) (hs : List Hp) : Decidable (HpsOk n hs) := inferInstanceAs (Decidable (_ ∧ _))
def MsOk (ms : List Mem) : Prop := ∀ i, i < ms.length → (ms.getD i default).dev = i
instance (ms : List Mem) : Decidable (MsOk ms) := inferInstanceAs (Decidable (∀ i, i < ms.length → _))
def FitV (V : Vp) : Prop := V.mem.length ≤ 12 ∧ V.held.length ≤ 256
instance (V : Vp) : Decidable (FitV V) := inferInstanceAs (Decidable (_ ∧ _))
def VOk (V : Vp) : Prop := FitV V ∧ MsOk V.mem ∧ (V.room.length = V.mem.length ∧ CntOk V.room) ∧ (V.weight.length = V.mem.length ∧ CntOk V.weight) ∧ HpsOk V.mem.length V.held
instance (V : Vp) : Decidable (VOk V) := inferInstanceAs (Decidable (_ ∧ _))

theorem atOk_snoc (n : Int) (zs : List Int) (j : Nat) (h : j < zs.length) : AtOk n (zs.take (j + 1)) ↔ AtOk n (zs.take j) ∧ (zs[j] = -1 ∨ ((0 ≤ zs[j] ∧ zs[j] < n) ∧ zs[j] ∉ zs.take j)) := by
  rw [List.take_succ_eq_append_getElem h]
  unfold AtOk
  rw [List.filter_append, List.nodup_append]
  generalize zs[j] = y
  by_cases hy : y = -1
  · subst hy
    simp
    intro _
    constructor
    · exact fun h x hx => h x (.inl hx)
    · rintro h x (hx | hx)
      · exact h x hx
      · exact .inl hx
  · have e0 : [y].filter (· != -1) = [y] := by simp [hy]
    rw [e0]
    simp only [hy, false_or]
    constructor
    · rintro ⟨⟨h1, _, h3⟩, h4⟩
      refine ⟨⟨h1, fun p hp => h4 p (List.mem_append_left _ hp)⟩, ?_, fun hm => ?_⟩
      · rcases h4 y (by simp) with h | h
        · exact absurd h hy
        · exact h
      · exact h3 y (List.mem_filter.2 ⟨hm, by simp [hy]⟩) y (by simp) rfl
    · rintro ⟨⟨h1, h2⟩, h3, h4⟩
      refine ⟨⟨h1, by simp, fun a ha b hb e => ?_⟩, fun p hp => ?_⟩
      · simp at hb; subst hb; subst e; exact h4 (List.mem_filter.1 ha).1
      · rcases List.mem_append.1 hp with hp | hp
        · exact h2 p hp
        · simp at hp; subst hp; exact .inr h3
theorem atOk_take {n : Int} {zs : List Int} (h : AtOk n zs) (j : Nat) : AtOk n (zs.take j) :=
  ⟨h.1.sublist ((List.take_sublist _ _).filter _), fun p hp => h.2 p (List.mem_of_mem_take hp)⟩

theorem hpsOk_snoc (n : Int) (hs : List Hp) (j : Nat) (h : j < hs.length) : HpsOk n (hs.take (j + 1)) ↔ HpsOk n (hs.take j) ∧ HpOk n hs[j] ∧ hs[j].id ∉ (hs.take j).map Hp.id := by
  unfold HpsOk
  rw [List.take_succ_eq_append_getElem h, List.map_append, List.nodup_append]
  constructor
  · rintro ⟨⟨h1, _, h3⟩, h4⟩
    exact ⟨⟨h1, fun p hp => h4 p (List.mem_append_left _ hp)⟩, h4 _ (List.mem_append_right _ (List.mem_singleton.2 rfl)), fun hm => h3 _ hm _ (by simp) rfl⟩
  · rintro ⟨⟨h1, h2⟩, h3, h4⟩
    refine ⟨⟨h1, by simp, fun a ha b hb e => ?_⟩, fun p hp => ?_⟩
    · simp at hb; subst hb; subst e; exact h4 ha
    · rcases List.mem_append.1 hp with hp | hp
      · exact h2 p hp
      · simp at hp; subst hp; exact h3
theorem hpsOk_take {n : Int} {hs : List Hp} (h : HpsOk n hs) (j : Nat) : HpsOk n (hs.take j) :=
  ⟨h.1.sublist ((List.take_sublist _ _).map _), fun p hp => h.2 p (List.mem_of_mem_take hp)⟩

end Go.Proofs.Ytijcicgbhcphjaa
