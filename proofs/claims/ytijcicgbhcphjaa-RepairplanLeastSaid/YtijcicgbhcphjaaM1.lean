/- A view without the pieces that are gone. -/
import Derived.Test.YtijcicgbhcphjaaP1
namespace Go.Proofs.Ytijcicgbhcphjaa
open Go.RowKit Go.Lib Go.ChangeMaps

def cleanAt (gone : Nat → Bool) (zs : List Int) : List Int := zs.map fun d => if goodB gone d = true then d else -1
def cleanH (gone : Nat → Bool) (h : Hp) : Hp := { h with at_ := cleanAt gone h.at_ }
def cleanV (gone : Nat → Bool) (V : Vp) : Vp := { V with held := V.held.map (cleanH gone) }
/-- The first k stripes without the pieces that are gone. -/
def cleanTo (gone : Nat → Bool) (V : Vp) (k : Nat) : Vp := { V with held := (V.held.take k).map (cleanH gone) ++ V.held.drop k }
/-- Pieces taken away. -/
def negs (zs os : List Int) : List Int := os.foldl (fun z i => z.set i.toNat (-1)) zs
def putAt (V : Vp) (k : Nat) (ys : List Int) : Vp := { V with held := V.held.set k { V.held.getD k default with at_ := ys } }

theorem negs_len : ∀ (os zs : List Int), (negs zs os).length = zs.length
  | [], _ => rfl
  | o :: r, zs => by
    show (negs (zs.set o.toNat (-1)) r).length = _
    rw [negs_len r, List.length_set]
theorem negs_snoc (zs os : List Int) (o : Int) : negs zs (os ++ [o]) = (negs zs os).set o.toNat (-1) := by
  unfold negs
  rw [List.foldl_append]
  rfl
theorem negs_getD : ∀ (os zs : List Int) (m : Nat), m < zs.length → (∀ o ∈ os, 0 ≤ o) → (negs zs os).getD m 0 = if (m : Int) ∈ os then -1 else zs.getD m 0
  | [], _, _, _, _ => by simp [negs]
  | o :: r, zs, m, hm, h => by
    show (negs (zs.set o.toNat (-1)) r).getD m 0 = _
    rw [negs_getD r _ m (by rw [List.length_set]; exact hm) (fun x hx => h x (by simp [hx]))]
    have h0 := h o (by simp)
    by_cases hr : (m : Int) ∈ r
    · rw [if_pos hr, if_pos (by simp [hr])]
    · rw [if_neg hr]
      by_cases e : (m : Int) = o
      · rw [if_pos (by simp [e])]
        have : o.toNat = m := by omega
        rw [this, getD_set_self _ _ _ _ hm]
      · rw [if_neg (by simp [e, hr]), getD_set_ne _ _ _ (by omega)]
theorem negs_other (gone : Nat → Bool) (zs : List Int) : negs zs (otherI gone zs) = cleanAt gone zs := by
  have hp : ∀ o ∈ otherI gone zs, 0 ≤ o := fun o ho => by
    obtain ⟨i, rfl, _⟩ := mem_otherI.1 ho
    omega
  apply List.ext_getElem
  · rw [negs_len]; simp [cleanAt]
  · intro m h1 h2
    rw [negs_len] at h1
    have hcl : (cleanAt gone zs)[m]'h2 = if goodB gone zs[m] = true then zs[m] else -1 := by simp [cleanAt]
    rw [hcl, ← getD_at _ m 0, negs_getD _ _ _ h1 hp]
    by_cases hg : goodB gone zs[m] = true
    · rw [if_pos hg, if_neg, getD_at _ _ _ h1]
      intro hm
      obtain ⟨i, e, _, hb⟩ := mem_otherI.1 hm
      have : m = i := by omega
      subst this
      rw [getD_at _ _ _ h1, hg] at hb
      cases hb
    · rw [if_neg hg, if_pos]
      exact mem_otherI.2 ⟨m, rfl, h1, by rw [getD_at _ _ _ h1]; simpa using hg⟩

theorem atOk_neg {n : Int} {zs : List Int} (h : AtOk n zs) (i : Nat) : AtOk n (zs.set i (-1)) := by
  by_cases hi : i < zs.length
  · have he : zs.set i (-1) = zs.take i ++ (-1) :: zs.drop (i + 1) := (List.set_eq_take_append_cons_drop ..).trans (by rw [if_pos hi])
    have he2 : zs = zs.take i ++ zs[i] :: zs.drop (i + 1) := by rw [List.getElem_cons_drop, List.take_append_drop]
    refine ⟨?_, fun x hx => ?_⟩
    · have hn := h.1
      rw [he2, List.filter_append, show zs[i] :: zs.drop (i + 1) = [zs[i]] ++ zs.drop (i + 1) from rfl, List.filter_append] at hn
      rw [he, List.filter_append, show (-1 : Int) :: zs.drop (i + 1) = [-1] ++ zs.drop (i + 1) from rfl, List.filter_append]
      refine hn.sublist (List.Sublist.append (List.Sublist.refl _) ?_)
      show List.Sublist ([] ++ _) _
      exact List.sublist_append_right _ _
    · rcases List.mem_or_eq_of_mem_set hx with hx | rfl
      · exact h.2 x hx
      · exact .inl rfl
  · rw [List.set_eq_of_length_le (by omega)]; exact h
theorem atOk_negs {n : Int} : ∀ (os zs : List Int), AtOk n zs → AtOk n (negs zs os)
  | [], _, h => h
  | o :: r, _, h => atOk_negs r _ (atOk_neg h o.toNat)

theorem putAt_ok {V : Vp} {k : Nat} {ys : List Int} (hok : VOk V) (hk : k < V.held.length) (hl : ys.length = (V.held.getD k default).at_.length) (ha : AtOk V.mem.length ys) : VOk (putAt V k ys) := by
  obtain ⟨⟨a1, a2⟩, a3, a4, a5, a7, a8⟩ := hok
  refine ⟨⟨a1, by show (V.held.set _ _).length ≤ 256; rw [List.length_set]; exact a2⟩, a3, a4, a5, ?_, fun y hy => ?_⟩
  · have : (putAt V k ys).held.map Hp.id = V.held.map Hp.id := by
      show (V.held.set k _).map Hp.id = _
      rw [List.map_set]
      apply List.ext_getElem?
      intro a
      rw [List.getElem?_set]
      split
      · rename_i h
        subst h
        rw [if_pos (by simpa using hk)]
        simp [List.getD, hk]
      · rfl
    rw [this]; exact a7
  · rcases List.mem_or_eq_of_mem_set (show y ∈ V.held.set _ _ from hy) with hy | rfl
    · exact a8 y hy
    · obtain ⟨b1, b2, b3, b4, b5, b6⟩ := a8 (V.held.getD k default) (by rw [getD_at _ _ _ hk]; exact List.getElem_mem hk)
      exact ⟨b1, b2, b3, b4, by show (ys.length : Int) = _; rw [hl]; exact b5, ha⟩
theorem putAt_self {V : Vp} {k : Nat} (hk : k < V.held.length) : putAt V k (V.held.getD k default).at_ = V := by
  unfold putAt
  have : V.held.set k (V.held.getD k default) = V.held := by
    rw [getD_at _ _ _ hk]
    exact List.set_getElem_self hk
  obtain ⟨m, h, r, w⟩ := V
  simp only at this ⊢
  rw [this]
theorem putAt_set {V : Vp} {k : Nat} (hk : k < V.held.length) (ys : List Int) (i : Nat) (d : Int) : setAtP (putAt V k ys) k i d = putAt V k (ys.set i d) := by
  have h1 : (putAt V k ys).held.getD k default = { V.held.getD k default with at_ := ys } := by
    unfold putAt
    simp only
    rw [getD_set_self _ _ _ _ hk]
  unfold setAtP
  rw [h1]
  unfold putAt
  simp only [List.set_set]
theorem putAt_at {V : Vp} {k : Nat} (hk : k < V.held.length) (ys : List Int) : ((putAt V k ys).held.getD k default).at_ = ys := by
  unfold putAt
  simp only
  rw [getD_set_self _ _ _ _ hk]
theorem cleanTo_len (gone : Nat → Bool) (V : Vp) (k : Nat) (hk : k ≤ V.held.length) : (cleanTo gone V k).held.length = V.held.length := by
  unfold cleanTo
  simp only [List.length_append, List.length_map, List.length_take, List.length_drop]
  omega
theorem cleanTo_at (gone : Nat → Bool) (V : Vp) (k : Nat) (hk : k < V.held.length) : (cleanTo gone V k).held.getD k default = V.held.getD k default := by
  have hl := cleanTo_len gone V k (by omega)
  rw [getD_at _ _ _ (by omega), getD_at _ _ _ hk]
  unfold cleanTo
  simp only
  rw [List.getElem_append_right (by simp; omega)]
  simp [List.getElem_drop, Nat.min_eq_left (Nat.le_of_lt hk)]
theorem cleanTo_succ (gone : Nat → Bool) (V : Vp) (k : Nat) (hk : k < V.held.length) : putAt (cleanTo gone V k) k (cleanAt gone (V.held.getD k default).at_) = cleanTo gone V (k + 1) := by
  unfold putAt
  rw [cleanTo_at gone V k hk]
  unfold cleanTo
  simp only
  congr 1
  have hd : V.held.drop k = V.held.getD k default :: V.held.drop (k + 1) := drop_at V.held default k hk
  rw [hd, List.set_append_right _ _ (by simp; omega)]
  rw [List.take_succ_eq_append_getElem hk, List.map_append, List.append_assoc]
  congr 1
  rw [show k - ((V.held.take k).map (cleanH gone)).length = 0 by simp; omega, List.set_cons_zero]
  rw [getD_at _ _ _ hk]
  rfl
theorem cleanTo_all (gone : Nat → Bool) (V : Vp) : cleanTo gone V V.held.length = cleanV gone V := by
  unfold cleanTo cleanV
  simp
theorem cleanTo_zero (gone : Nat → Bool) (V : Vp) : cleanTo gone V 0 = V := by
  unfold cleanTo
  simp

end Go.Proofs.Ytijcicgbhcphjaa
