/- ref.Sets, ref.All. -/
import Derived.Test.YtapjgjjmlbhanaaN5
namespace Go.Proofs.Ytapjgjjmlbhanaa
open Go.RowKit Go.Lib
set_option linter.unusedSimpArgs false

/-- The sets of n of the devices, in order. -/
def setsL : List Int → Nat → List (List Int)
  | _, 0 => [[]]
  | [], _ + 1 => []
  | d :: ds, n + 1 => (setsL ds n).map (d :: ·) ++ setsL ds (n + 1)
/-- Those that begin with one of the first i devices. -/
def setsTo (ds : List Int) (n : Nat) : Nat → List (List Int)
  | 0 => []
  | i + 1 => setsTo ds n i ++ (setsL (ds.drop (i + 1)) n).map (ds.getD i 0 :: ·)
theorem setsTo_cons (d : Int) (ds : List Int) (n : Nat) : ∀ i, setsTo (d :: ds) n (i + 1) = (setsL ds n).map (d :: ·) ++ setsTo ds n i
  | 0 => by simp [setsTo]
  | i + 1 => by
    rw [setsTo, setsTo_cons d ds n i, setsTo, List.append_assoc]
    simp
theorem setsTo_all : ∀ (ds : List Int) (n : Nat), setsTo ds n ds.length = setsL ds (n + 1)
  | [], _ => rfl
  | d :: ds, n => by
    rw [List.length_cons, setsTo_cons, setsTo_all ds n, setsL]
theorem setsL_len : ∀ (ds : List Int) (n : Nat), (setsL ds n).length ≤ 2 ^ ds.length
  | ds, 0 => by rw [show setsL ds 0 = [[]] by cases ds <;> rfl]; exact Nat.one_le_two_pow
  | [], _ + 1 => by simp [setsL]
  | d :: ds, n + 1 => by
    have h1 := setsL_len ds n
    have h2 := setsL_len ds (n + 1)
    rw [setsL, List.length_append, List.length_map, List.length_cons, Nat.pow_succ]
    omega
theorem setsL_mem : ∀ (ds : List Int) (n : Nat), ∀ x ∈ setsL ds n, x.length = n
  | ds, 0 => by rw [show setsL ds 0 = [[]] by cases ds <;> rfl]; simp
  | [], _ + 1 => by simp [setsL]
  | d :: ds, n + 1 => by
    intro x hx
    rw [setsL, List.mem_append, List.mem_map] at hx
    rcases hx with ⟨y, hy, rfl⟩ | hx
    · rw [List.length_cons, setsL_mem ds n y hy]
    · exact setsL_mem ds (n + 1) x hx
theorem setsTo_len (ds : List Int) (n : Nat) : ∀ i, i ≤ ds.length → (setsTo ds n i).length ≤ i * 2 ^ ds.length
  | 0, _ => by simp [setsTo]
  | i + 1, h => by
    have h1 := setsTo_len ds n i (by omega)
    have h2 := setsL_len (ds.drop (i + 1)) n
    have h3 : 2 ^ (ds.drop (i + 1)).length ≤ 2 ^ ds.length := Nat.pow_le_pow_right (by omega) (by rw [List.length_drop]; omega)
    rw [setsTo, List.length_append, List.length_map, Nat.add_mul]
    omega

theorem OwnLL.one {w : World} {base : Nat} (hb : base ≤ w.heap.size) : OwnLL ((w.alloc (.cells #[] 3)).alloc (.cells #[.slice (some ⟨w.heap.size, 0, none⟩) 0 0] 24)) base (.slice (some ⟨w.heap.size + 1, 0, none⟩) 1 1) [[]] := by
  have s1 : (w.alloc (.cells #[] 3)).heap.size = w.heap.size + 1 := World.size_alloc ..
  have h2 := heap_alloc_at (w.alloc (.cells #[] 3)) (.cells #[.slice (some ⟨w.heap.size, 0, none⟩) 0 0] 24)
  rw [s1] at h2
  refine ⟨[.slice (some ⟨w.heap.size, 0, none⟩) 0 0], rfl, ⟨[.slice (some ⟨w.heap.size, 0, none⟩) 0 0], ⟨rfl, .inr ⟨_, 1, _, rfl, by omega, h2, Nat.le_refl _, by decide, rfl, rfl⟩⟩, fun i j hi hj => ?_⟩, fun i hi => ?_⟩
  · obtain rfl : i = 0 := by have : i < 1 := hi; omega
    obtain rfl : j = 0 := by omega
    rfl
  · obtain rfl : i = 0 := by have : i < 1 := hi; omega
    have : OwnI (w.alloc (.cells #[] 3)) base (.slice (some ⟨w.heap.size, 0, none⟩) 0 0) [] := Own.lit0 _ _ _ _ _ hb
    exact this.below ((Below.refl _ _).alloc (Nat.le_refl _) _)

theorem ReadsI.drop {w : World} {b off n c : Nat} {zs : List Int} (h : ReadsI w (.slice (some ⟨b, off, none⟩) n c) zs) (i : Nat) (hi : i ≤ zs.length) : ReadsI w (.slice (some ⟨b, off + i, none⟩) (n - i) (c - i)) (zs.drop i) := by
  obtain ⟨ao, c', e, h1, h2, h3⟩ := h
  cases e
  refine ⟨some ⟨b, off + i, none⟩, c - i, by rw [List.length_drop], by rw [List.length_drop]; omega, by rw [List.length_drop]; omega, fun hp => ⟨b, off + i, rfl, fun k j hk hj => ?_⟩⟩
  rw [List.length_drop] at hk hp
  obtain ⟨b', off', e', hc⟩ := h3 (by omega)
  cases e'
  have := hc (i + k) j (by omega) hj
  rw [show off + i + k * 1 + j = off + (i + k) * 1 + j by omega, this]
  dsimp only
  rw [getD_at _ _ _ (show i + k < zs.length by omega), getD_at _ _ _ (show k < (zs.drop i).length by rw [List.length_drop]; omega), List.getElem_drop]

theorem OwnLL.append' {V : World} {base : Nat} {v u : Value} {xss : List (List Int)} {ds : List Int} (h : OwnLL V base v xss) (hu : OwnI V base u ds) (hn : xss.length ≤ 1000000000) (hbase : base ≤ V.heap.size) :
    ∃ v' w', (Builtin.append_ #[57, 57] 57 #[v, .slice (some ⟨V.heap.size, 0, none⟩) 1 1]).run Try.prog (V.alloc (.cells #[u] 24)) = .ok v' w' ∧ OwnLL w' base v' (xss ++ [ds]) ∧ Below base V w' ∧
      (∀ b, b < V.heap.size → v.ownBlock ≠ some b → w'.heap[b]? = V.heap[b]?) ∧ (v'.ownBlock = v.ownBlock ∨ v'.ownBlock = some (V.heap.size + 1)) ∧ V.heap.size + 1 ≤ w'.heap.size := by
  obtain ⟨vs, h1, h2, h3⟩ := h
  have h' : Own V base 24 v 1 xss.length fun i _ => (vs ++ [u]).getD i undef := Own.congr h2 fun i j hi hj => by rw [getD_at _ _ _ (by omega), getD_at _ _ _ (by rw [List.length_append]; omega), List.getElem_append_left (by omega)]
  obtain ⟨a, c, eu⟩ := hu.slice
  obtain ⟨v3, w3, r3, o1, o2, o3, o4, o5⟩ := Own.append (V := V) (t := 57) (e := 24) (z := .slice none 0 0) (k := 1) (bytes := 24) Try.underlying57 (by kernel_rfl) rfl (by omega) (by omega) h' 57 [u] rfl (fun q hq => by
    obtain rfl : q = 0 := by omega
    rw [← h1]; simp [List.getD]) (by intro x hx; simp at hx; subst hx; rw [eu]; rfl) hn hbase
  have sm : ∀ {x : Value} {ys : List Int}, OwnI V base x ys → OwnI w3 base x ys := fun hx => Own.same hx fun g hg => o3 g (Own.lt hx g hg).2 (own_apart' hx h2 (by decide) g hg)
  refine ⟨v3, w3, r3, ⟨vs ++ [u], by simp [h1], by rw [List.length_append]; exact o1, fun i hi => ?_⟩, o2, o3, o4, o5⟩
  by_cases hi' : i < xss.length
  · rw [getD_at _ _ _ (by rw [List.length_append]; omega), getD_at _ _ _ hi, List.getElem_append_left (by omega), List.getElem_append_left hi']
    have := h3 i hi'
    rw [getD_at _ _ _ (by omega), getD_at _ _ _ hi'] at this
    exact sm this
  · have e : i = xss.length := by rw [List.length_append] at hi; simp at hi; omega
    subst e
    rw [getD_at _ _ _ (by rw [List.length_append]; simp; omega), getD_at _ _ _ hi, List.getElem_append_right (by omega), List.getElem_append_right (by omega)]
    simp
    exact sm hu
theorem OwnI.lit1 (w : World) (base : Nat) (d : Int) (hb : base ≤ w.heap.size) : OwnI (w.alloc (.cells #[.int .i64 d] 3)) base (.slice (some ⟨w.heap.size, 0, none⟩) 1 1) [d] := by
  refine ⟨[.int .i64 d], ⟨rfl, .inr ⟨_, 1, _, rfl, hb, heap_alloc_at _ _, Nat.le_refl _, by decide, rfl, rfl⟩⟩, fun i j hi hj => ?_⟩
  obtain rfl : i = 0 := by have : i < 1 := hi; omega
  obtain rfl : j = 0 := by omega
  rfl

set_option maxRecDepth 100000 in
set_option maxHeartbeats 8000000 in
def SetsOk (n : Nat) : Prop := ∀ (v : Value) (ds : List Int) (w : World), ReadsI w v ds → ds.length ≤ 12 →
    Calls Try.prog 75 #[v, .int .i64 n] w fun e w' => ∃ u, e = .returned u ∧ OwnLL w' w.heap.size u (setsL ds n) ∧ Below w.heap.size w w'
theorem sets_zero : SetsOk 0 := by
  intro v ds w hv _
  obtain ⟨ao, c, _, _, rfl, _⟩ := hv.at
  have o1 := OwnLL.one (w := w) (Nat.le_refl _)
  have b1 : Below w.heap.size w ((w.alloc (.cells #[] 3)).alloc (.cells #[.slice (some ⟨w.heap.size, 0, none⟩) 0 0] 24)) := ((Below.refl _ _).alloc (Nat.le_refl _) _).alloc (by rw [World.size_alloc]; omega) _
  have O1 := Lib.hid o1
  have s1 : (w.alloc (.cells #[] 3)).heap.size = w.heap.size + 1 := World.size_alloc ..
  rw [show setsL ds 0 = [[]] by cases ds <;> rfl]
  clear hv o1
  rw [show ((0 : Nat) : Int) = 0 from rfl]
  go_enter Try.func75, Try.ntmps75
  go_wp2
  try simp only [s1]
  go_ret
  exact ⟨_, rfl, O1.out, b1⟩

set_option maxRecDepth 100000 in
set_option maxHeartbeats 8000000 in
theorem sets_step (n : Nat) (hn : n + 1 ≤ 12) (ih : SetsOk n) : SetsOk (n + 1) := by
  intro v ds w hv hl
  unfold SetsOk at ih
  have IH := Lib.hid ih
  have HV := Lib.hid hv
  obtain ⟨ao, c, b, off, rfl, hc, hm, hcell⟩ := hv.at
  have HC := Lib.hid hcell
  obtain ⟨r, hr⟩ : ∃ r, r = setsL ds (n + 1) := ⟨_, rfl⟩
  rw [← hr]
  rw [← setsTo_all] at hr
  have HR := Lib.hid hr
  obtain ⟨nn, hnn⟩ : ∃ nn : Int, nn = ((n + 1 : Nat) : Int) := ⟨_, rfl⟩
  rw [← hnn]
  have k1 : (nn == 0) = false := by simp; omega
  have hww : IntKind.i64.wrap (nn - 1) = (n : Int) := by rw [show nn - 1 = (n : Int) by omega]; exact wraps_i64 _ (by omega) (by omega)
  clear hnn
  have o0 : OwnLL (w.alloc (.cells #[] 24)) w.heap.size (.slice (some ⟨w.heap.size, 0, none⟩) 0 0) [] := ⟨[], rfl, Own.lit0 _ _ _ _ _ (Nat.le_refl _), fun i hi => by simp at hi⟩
  have O0 := Lib.hid o0
  have b0 : Below w.heap.size w (w.alloc (.cells #[] 24)) := (Below.refl _ _).alloc (Nat.le_refl _) _
  clear hv ih hr hcell o0
  go_enter Try.func75, Try.ntmps75
  go_wp2
  generalize hlen : ds.length = len at *
  have HL := Lib.hid hlen
  clear hlen
  go_loopg [5, 6, 7, 8] len (fun gk v5 v6 v7 v8 wx => ∃ i : Nat, i + gk = len ∧ v6 = .int .i64 i ∧ OwnLL wx w.heap.size v5 (setsTo ds n i) ∧ Below w.heap.size w wx)
  case atStart => exact ⟨0, by omega, rfl, O0.out, b0⟩
  case round =>
    obtain ⟨i, hi, rfl, hown, hbx⟩ := hrel
    have HO := Lib.hid hown
    have zx := hbx.size
    clear hown
    cases gk with
    | zero =>
      obtain rfl : i = len := by omega
      go_wp2
      go_ret
      exact ⟨_, rfl, by rw [HR.out]; exact HO.out, hbx⟩
    | succ go =>
      have hlt : i < len := by omega
      obtain ⟨ha, hcl⟩ := HC.out i hlt
      subst ha
      have CR := Lib.hid (fun (sv : Value) (h : ReadsI wr sv (ds.drop (i + 1))) => IH.out sv _ wr h (by rw [List.length_drop, HL.out]; omega))
      have hdr : ReadsI wr (.slice (some ⟨b, off + (i + 1), none⟩) (len - (i + 1)) (c - (i + 1))) (ds.drop (i + 1)) := ReadsI.drop (HV.out.below hbx) (i + 1) (by rw [HL.out]; omega)
      have hd0 : c = i + 1 → ReadsI wr (.slice (some ⟨b, off, none⟩) 0 0) (ds.drop (i + 1)) := fun hc1 => by
        rw [List.drop_eq_nil_of_le (by rw [HL.out]; omega)]
        exact ⟨_, _, rfl, Nat.le_refl _, by simp, fun h => by simp at h⟩
      have HDR := Lib.hid hdr
      have HD0 := Lib.hid hd0
      clear hdr hd0
      have hst : setsTo ds n (i + 1) = setsTo ds n i ++ (setsL (ds.drop (i + 1)) n).map (ds.getD i 0 :: ·) := rfl
      have hrl := setsL_len (ds.drop (i + 1)) n
      have hrm := setsL_mem (ds.drop (i + 1)) n
      have htl := setsTo_len ds n i (by rw [HL.out]; omega)
      rw [HL.out] at htl
      rw [List.length_drop, HL.out] at hrl
      have hp1 : 2 ^ (len - (i + 1)) ≤ 2 ^ 12 := Nat.pow_le_pow_right (by omega) (by omega)
      have hp2 : 2 ^ len ≤ 2 ^ 12 := Nat.pow_le_pow_right (by omega) (by omega)
      have hp3 : i * 2 ^ len ≤ 12 * 2 ^ 12 := Nat.mul_le_mul (by omega) hp2
      have hcs : (c = i + 1 ∧ len = i + 1 ∧ len - (i + 1) = 0) ∨ (c ≠ i + 1 ∧ True ∧ True) := by
        by_cases h : c = i + 1
        · exact .inl ⟨h, by omega, by omega⟩
        · exact .inr ⟨h, trivial, trivial⟩
      rcases hcs with ⟨rfl, rfl, hz⟩ | ⟨hc1, hln, hz⟩
      all_goals go_wp2_with fail
      all_goals refine (CR.out _ (by first | exact HDR.out | (rw [List.drop_eq_nil_of_le (by rw [HL.out]; omega)]; exact ⟨_, _, rfl, Nat.le_refl _, by simp, fun h => by simp at h⟩))).mono ?_
      all_goals
        rintro e w5 ⟨u, rfl, hou, hb5⟩
        have z5 := hb5.size
        obtain ⟨gz, hgz⟩ : ∃ gz, gz = wr.heap.size := ⟨_, rfl⟩
        have b5 := hbx.trans (hb5.mono zx)
        have hO5 := HO.out.below hb5
        have hob : ∀ g, u5.ownBlock = some g → g < wr.heap.size := by
          obtain ⟨_, _, h2, _⟩ := HO.out
          exact fun g hg => (Own.lt h2 g hg).2
        generalize setsL (ds.drop (i + 1)) n = rest at *
        generalize hd0 : ds.getD i 0 = d at *
        obtain ⟨ua, uc, eu⟩ := hou.slice
        obtain ⟨vs, hvl, hvo, hve⟩ := hou
        have HVO := Lib.hid hvo
        have HVE := Lib.hid hve
        have HST := Lib.hid hst
        have HO5 := Lib.hid hO5
        have HOB := Lib.hid hob
        have HRM := Lib.hid hrm
        subst eu
        clear hvo hve hst hO5 hob hrm CR
        generalize hrn : rest.length = rn at *
        have HRN := Lib.hid hrn
        clear hrn
        go_wp2_with fail
        go_loopg [5, 8] rn (fun g2 v5 v8 wy => ∃ k : Nat, k + g2 = rn ∧ v8 = .int .i64 k ∧ OwnLL wy w.heap.size v5 (setsTo ds n i ++ (rest.take k).map (d :: ·)) ∧ Below w.heap.size w wy ∧ (∀ g, gz ≤ g → g < w5.heap.size → wy.heap[g]? = w5.heap[g]?) ∧ (∀ g, v5.ownBlock = some g → g < gz ∨ w5.heap.size ≤ g) ∧ w5.heap.size ≤ wy.heap.size)
        case atStart => exact ⟨0, by omega, rfl, by rw [List.take_zero, List.map_nil, List.append_nil]; exact HO5.out, b5, fun _ _ _ => rfl, fun g hg => .inl (hgz ▸ HOB.out g hg), Nat.le_refl _⟩
        case round =>
          obtain ⟨k, hk, rfl, hown, hby, hmid, hblk, hzy⟩ := hrel
          have HO6 := Lib.hid hown
          have HMID := Lib.hid hmid
          have HBLK := Lib.hid hblk
          clear hown hmid hblk
          cases gk with
          | zero =>
            obtain rfl : k = rn := by omega
            go_wp2
            go_roundg go
            case measure => omega
            case rel => exact ⟨i + 1, by omega, by go_num, by rw [HST.out]; have := HO6.out; rwa [← HRN.out, List.take_length] at this, hby⟩
          | succ g2 =>
            have hlt2 : k < rn := by omega
            have hvk := HVE.out k hlt2
            have hlk : (rest.getD k []).length = n := by rw [getD_at _ _ _ (by rw [HRN.out]; exact hlt2)]; exact HRM.out _ (List.getElem_mem _)
            have hvy : OwnI wr _ (vs.getD k undef) (rest.getD k []) := Own.same hvk (fun g hg => HMID.out g (by rw [hgz]; exact (Own.lt hvk g hg).1) (Own.lt hvk g hg).2)
            have hvr := hvy.reads (by omega)
            have hrow := (Own.same HVO.out (w' := wr) (fun g hg => HMID.out g (by rw [hgz]; exact (Own.lt HVO.out g hg).1) (Own.lt HVO.out g hg).2)).row (by omega)
            obtain ⟨uao, ucc, eq1, _, _, hcell⟩ := hrow
            cases eq1
            obtain ⟨ub, uo, rfl, hcl2⟩ := hcell (by omega)
            have hq2 := hcl2 k 0 hlt2 (by omega)
            rw [show uo + k * 1 + 0 = uo + k by omega] at hq2
            dsimp only at hq2
            obtain ⟨ea, ec, ee⟩ := hvk.slice
            rw [hlk] at ee
            rw [ee] at hq2 hvr
            have hq1 := (hby.cell (cell_lt hcl)).trans hcl
            have htk : (rest.take (k + 1)).map (d :: ·) = (rest.take k).map (d :: ·) ++ [d :: rest.getD k []] := by
              rw [List.take_add_one, List.getElem?_eq_getElem (by rw [HRN.out]; exact hlt2), List.map_append, getD_at rest _ _ (by rw [HRN.out]; exact hlt2)]
              rfl
            have hol : (setsTo ds n i ++ (rest.take k).map (d :: ·)).length ≤ 1000000 := by
              rw [List.length_append, List.length_map, List.length_take]
              omega
            have hbd : Below wr.heap.size wr wr.drew := (Below.refl _ _).drew
            have bA : Below wr.heap.size wr (wr.drew.alloc (.cells #[.int .i64 d] 3)) := hbd.alloc (Nat.le_refl _) _
            obtain ⟨v43, w8, r43, o43, B43, _⟩ := (OwnI.lit1 wr.drew wr.heap.size d (Nat.le_refl _)).appendR (hvr.below bA) (by simp) (by omega) bA.size
            obtain ⟨va, vc, ev⟩ := OwnI.slice o43
            generalize ([d] ++ rest.getD k []).length = ln at ev
            subst ev
            have bB := bA.trans B43
            obtain ⟨v9, w9, r45, o45, B45, o3, o4, o5⟩ := (HO6.out.below bB).append' (Own.base o43 hby.size) (by omega) (Nat.le_trans hby.size bB.size)
            have zb := bB.size
            have s0 : wr.drew.cell? ⟨b, off + i, none⟩ = some (.int .i64 d) ∧ wr.drew.cell? ⟨ub, uo + k, none⟩ = some (.slice ea n ec) := ⟨hq1, hq2⟩
            have sA : (wr.drew.alloc (.cells #[.int .i64 d] 3)).cell? ⟨b, off + i, none⟩ = some (.int .i64 d) ∧ (wr.drew.alloc (.cells #[.int .i64 d] 3)).cell? ⟨ub, uo + k, none⟩ = some (.slice ea n ec) := ⟨(bA.cell (cell_lt hq1)).trans hq1, (bA.cell (cell_lt hq2)).trans hq2⟩
            have sB : w8.cell? ⟨b, off + i, none⟩ = some (.int .i64 d) ∧ w8.cell? ⟨ub, uo + k, none⟩ = some (.slice ea n ec) := ⟨(bB.cell (cell_lt hq1)).trans hq1, (bB.cell (cell_lt hq2)).trans hq2⟩
            have bC : Below w8.heap.size w8 (w8.alloc (.cells #[.slice va ln vc] 24)) := (Below.refl _ _).alloc (Nat.le_refl _) _
            have sC : (w8.alloc (.cells #[.slice va ln vc] 24)).cell? ⟨b, off + i, none⟩ = some (.int .i64 d) ∧ (w8.alloc (.cells #[.slice va ln vc] 24)).cell? ⟨ub, uo + k, none⟩ = some (.slice ea n ec) := ⟨(bC.cell (cell_lt sB.1)).trans sB.1, (bC.cell (cell_lt sB.2)).trans sB.2⟩
            have hbf : Below w.heap.size w w9 := (hby.trans (bB.mono hby.size)).trans B45
            have hmf : ∀ g, gz ≤ g → g < w5.heap.size → w9.heap[g]? = w5.heap[g]? := fun g h1 h2 => by
              rw [o3 g (by omega) (fun e => by have := HBLK.out g e; omega), bB.block g (by omega), HMID.out g h1 h2]
            have hbf2 : ∀ g, v9.ownBlock = some g → g < gz ∨ w5.heap.size ≤ g := fun g hg => by
              rcases o4 with o4 | o4
              · exact HBLK.out g (o4 ▸ hg)
              · rw [o4] at hg
                cases hg
                exact .inr (by omega)
            have hub := Own.lt HVO.out ub rfl
            have hheq : w9.heap[ub]? = wr.heap[ub]? := (hmf ub (by omega) hub.2).trans (HMID.out ub (by omega) hub.2).symm
            have sD : w9.cell? ⟨b, off + i, none⟩ = some (.int .i64 d) ∧ w9.cell? ⟨ub, uo + k, none⟩ = some (.slice ea n ec) := ⟨(hbf.cell (cell_lt hcl)).trans hcl, by rw [← hq2]; simp only [World.cell?, hheq]⟩
            have SD := Lib.hid sD
            clear sD hheq hub
            have S0 := Lib.hid s0
            have SA := Lib.hid sA
            have SB := Lib.hid sB
            have SC := Lib.hid sC
            have O45 := Lib.hid o45
            have HMF := Lib.hid hmf
            have HBF2 := Lib.hid hbf2
            have HTK := Lib.hid htk
            clear hvk hvy hvr hcell hcl2 hq1 hq2 htk bA bB bC s0 sA sB sC o43 B43 B45 o3 o4 o45 hmf hbf2 ee
            go_wp2_with fail
            refine wp_region_held_drew (S := fun w' => w'.cell? ⟨b, off + i, none⟩ = some (.int .i64 d) ∧ w'.cell? ⟨ub, uo + k, none⟩ = some (.slice ea n ec)) (by kernel_rfl) S0.out (fun hHeld => ?_)
            refine wpAnyH_take (i := 0) (v := ?_) rfl (by kernel_rfl) (by kernel_rfl) (by kernel_rfl) (fun _ _ _ h => h) (Or.inl ⟨by rfl, ?_⟩) (by assumption) ?_
            rotate_left; · (intro w hSw; (try dsimp only at hSw); go_simp; try with_reducible rfl)
            try simp only [Act.put, List.getElem_toArray, List.getElem_cons_zero, List.getElem_cons_succ, List.setIfInBounds_toArray, List.set_cons_zero, List.set_cons_succ]
            refine wpAnyH_take (i := 1) (v := ?_) rfl (by kernel_rfl) (by kernel_rfl) (by kernel_rfl) (fun _ _ _ h => h) (Or.inl ⟨by rfl, ?_⟩) (by assumption) ?_
            rotate_left; · (intro w hSw; (try dsimp only at hSw); go_simp; try with_reducible rfl)
            try simp only [Act.put, List.getElem_toArray, List.getElem_cons_zero, List.getElem_cons_succ, List.setIfInBounds_toArray, List.set_cons_zero, List.set_cons_succ]
            refine wpAnyH_take (i := 2) (v := ?_) rfl (by kernel_rfl) (by kernel_rfl) (by kernel_rfl) (fun _ _ _ h => h) (Or.inl ⟨by rfl, ?_⟩) (by assumption) ?_
            rotate_left; · (intro w hSw; (try dsimp only at hSw); go_simp; try with_reducible rfl)
            try simp only [Act.put, List.getElem_toArray, List.getElem_cons_zero, List.getElem_cons_succ, List.setIfInBounds_toArray, List.set_cons_zero, List.set_cons_succ]
            refine wpAnyH_take (i := 3) (v := ?_) rfl (by kernel_rfl) (by kernel_rfl) (by kernel_rfl) (fun _ _ _ h => h) (Or.inl ⟨by rfl, ?_⟩) (by assumption) ?_
            rotate_left; · (intro w hSw; (try dsimp only at hSw); go_simp; try with_reducible rfl)
            try simp only [Act.put, List.getElem_toArray, List.getElem_cons_zero, List.getElem_cons_succ, List.setIfInBounds_toArray, List.set_cons_zero, List.set_cons_succ]
            refine wpAnyH_take (i := 4) (v := ?_) rfl (by kernel_rfl) (by kernel_rfl) (by kernel_rfl) (fun _ _ _ h => h) (Or.inl ⟨by rfl, ?_⟩) (by assumption) ?_
            rotate_left; · (intro w hSw; (try dsimp only at hSw); go_simp; try with_reducible rfl)
            try simp only [Act.put, List.getElem_toArray, List.getElem_cons_zero, List.getElem_cons_succ, List.setIfInBounds_toArray, List.set_cons_zero, List.set_cons_succ]
            refine wpAnyH_take (i := 6) (v := ?_) rfl (by kernel_rfl) (by kernel_rfl) (by kernel_rfl) (fun _ _ _ h => h) (Or.inl ⟨by rfl, ?_⟩) (by assumption) ?_
            rotate_left; · (intro w hSw; (try dsimp only at hSw); go_simp; try with_reducible rfl)
            try simp only [Act.put, List.getElem_toArray, List.getElem_cons_zero, List.getElem_cons_succ, List.setIfInBounds_toArray, List.set_cons_zero, List.set_cons_succ]
            refine wpAnyH_take (i := 7) (v := ?_) rfl (by kernel_rfl) (by kernel_rfl) (by kernel_rfl) (fun _ _ _ h => h) (Or.inl ⟨by rfl, ?_⟩) (by assumption) ?_
            rotate_left; · (intro w hSw; (try dsimp only at hSw); go_simp; try with_reducible rfl)
            try simp only [Act.put, List.getElem_toArray, List.getElem_cons_zero, List.getElem_cons_succ, List.setIfInBounds_toArray, List.set_cons_zero, List.set_cons_succ]
            refine wpAnyH_take (i := 8) (v := ?_) rfl (by kernel_rfl) (by kernel_rfl) (by kernel_rfl) (fun _ _ _ h => h) (Or.inl ⟨by rfl, ?_⟩) (by assumption) ?_
            rotate_left; · (intro w hSw; (try dsimp only at hSw); go_simp; try with_reducible rfl)
            try simp only [Act.put, List.getElem_toArray, List.getElem_cons_zero, List.getElem_cons_succ, List.setIfInBounds_toArray, List.set_cons_zero, List.set_cons_succ]
            refine wpAnyH_take (i := 9) (v := ?_) rfl (by kernel_rfl) (by kernel_rfl) (by kernel_rfl) (fun _ _ _ h => h) (Or.inl ⟨by rfl, ?_⟩) (by assumption) ?_
            rotate_left; · (intro w hSw; (try dsimp only at hSw); go_simp; try with_reducible rfl)
            try simp only [Act.put, List.getElem_toArray, List.getElem_cons_zero, List.getElem_cons_succ, List.setIfInBounds_toArray, List.set_cons_zero, List.set_cons_succ]
            refine wpAnyH_ready (rs := [5]) (by kernel_rfl) (by simp) ?_
            refine AllReadyH.cons rfl (fun K hK => ?_) AllReadyH.nil
            go_simp
            refine hK.out _ _ SA.out (fun hNew => ?_)
            clear hK K hHeld
            have hHeld := hNew
            clear hNew
            try simp only [Act.put, List.getElem_toArray, List.getElem_cons_zero, List.getElem_cons_succ, List.setIfInBounds_toArray, List.set_cons_zero, List.set_cons_succ]
            refine wpAnyH_ready (rs := [10]) (by kernel_rfl) (by simp) ?_
            refine AllReadyH.cons rfl (fun K hK => ?_) AllReadyH.nil
            refine wp_app (.tmp 38) (.tmp 42) 24 rfl _ _ (.slice va ln vc) w8 rfl rfl r43 ?_
            refine hK.out _ _ SB.out (fun hNew => ?_)
            clear hK K hHeld
            have hHeld := hNew
            clear hNew
            try simp only [Act.put, List.getElem_toArray, List.getElem_cons_zero, List.getElem_cons_succ, List.setIfInBounds_toArray, List.set_cons_zero, List.set_cons_succ]
            refine wpAnyH_ready (rs := [11]) (by kernel_rfl) (by simp) ?_
            refine AllReadyH.cons rfl (fun K hK => ?_) AllReadyH.nil
            go_simp
            refine hK.out _ _ SC.out (fun hNew => ?_)
            clear hK K hHeld
            have hHeld := hNew
            clear hNew
            try simp only [Act.put, List.getElem_toArray, List.getElem_cons_zero, List.getElem_cons_succ, List.setIfInBounds_toArray, List.set_cons_zero, List.set_cons_succ]
            refine wpAnyH_ready (rs := [12]) (by kernel_rfl) (by simp) ?_
            refine AllReadyH.cons rfl (fun K hK => ?_) AllReadyH.nil
            refine wp_app (.tmp 33) (.tmp 44) 57 rfl _ _ v9 w9 rfl rfl r45 ?_
            refine hK.out _ _ SD.out (fun hNew => ?_)
            clear hK K hHeld
            have hHeld := hNew
            clear hNew
            try simp only [Act.put, List.getElem_toArray, List.getElem_cons_zero, List.getElem_cons_succ, List.setIfInBounds_toArray, List.set_cons_zero, List.set_cons_succ]
            refine wpAnyH_take (i := 13) (v := ?_) rfl (by kernel_rfl) (by kernel_rfl) (by kernel_rfl) (fun _ _ _ h => h) (Or.inl ⟨by rfl, ?_⟩) (by assumption) ?_
            rotate_left; · (intro w hSw; (try dsimp only at hSw); go_simp; try with_reducible rfl)
            try simp only [Act.put, List.getElem_toArray, List.getElem_cons_zero, List.getElem_cons_succ, List.setIfInBounds_toArray, List.set_cons_zero, List.set_cons_succ]
            refine wpAnyH_done (by kernel_rfl) ?_ _
            go_wp2
            go_roundg g2
            case measure => omega
            case rel => exact ⟨k + 1, by omega, by go_num, by rw [HTK.out, ← List.append_assoc]; exact O45.out, hbf, HMF.out, HBF2.out, by omega⟩
theorem sets_any : ∀ n, n ≤ 12 → SetsOk n
  | 0, _ => sets_zero
  | n + 1, h => sets_step n h (sets_any n (by omega))

end Go.Proofs.Ytapjgjjmlbhanaa

/- ref.Without. -/
namespace Go.Proofs.Ytapjgjjmlbhanaa
open Go.RowKit Go.Lib
set_option linter.unusedSimpArgs false

def withoutL (ds : List Int) (i : Nat) : List Int := ds.take i ++ ds.drop (i + 1)

theorem ReadsI.take {w : World} {ao : Option Addr} {n c : Nat} {zs : List Int} (h : ReadsI w (.slice ao n c) zs) (i : Nat) (hi : i ≤ zs.length) : ReadsI w (.slice ao i c) (zs.take i) := by
  obtain ⟨ao', c', e, h1, h2, h3⟩ := h
  cases e
  refine ⟨ao, c, by rw [List.length_take, Nat.min_eq_left hi], by rw [List.length_take]; omega, by rw [List.length_take]; omega, fun hp => ?_⟩
  rw [List.length_take] at hp
  obtain ⟨b, off, rfl, hc⟩ := h3 (by omega)
  refine ⟨b, off, rfl, fun k j hk hj => ?_⟩
  rw [List.length_take] at hk
  rw [hc k j (by omega) hj]
  dsimp only
  rw [getD_at _ _ _ (show k < zs.length by omega), getD_at _ _ _ (show k < (zs.take i).length by rw [List.length_take]; omega), List.getElem_take]

set_option maxRecDepth 100000 in
set_option maxHeartbeats 8000000 in
theorem without_any (v : Value) (ds : List Int) (i : Nat) (w : World) (hv : ReadsI w v ds) (hi : i < ds.length) (hm : ds.length ≤ 1000000) :
    Calls Try.prog 22 #[v, .int .i64 i] w fun e w' => ∃ u, e = .returned u ∧ OwnI w' w.heap.size u (withoutL ds i) ∧ Below w.heap.size w w' := by
  have HV := Lib.hid hv
  obtain ⟨ao, c, b, off, rfl, hc, _, hcell⟩ := hv.at
  obtain ⟨ha, _⟩ := hcell i hi
  subst ha
  clear hcell hv
  obtain ⟨r, hr⟩ : ∃ r, r = withoutL ds i := ⟨_, rfl⟩
  rw [← hr]
  have HR := Lib.hid hr
  clear hr
  generalize hlen : ds.length = len at *
  have HL := Lib.hid hlen
  clear hlen
  have bA : Below w.heap.size w (w.drew.alloc (.cells #[] 3)) := (Below.refl _ _).drew.alloc (Nat.le_refl _) _
  have o0 : OwnI (w.drew.alloc (.cells #[] 3)) w.heap.size (.slice (some ⟨w.heap.size, 0, none⟩) 0 0) [] := Own.lit0 w.drew _ _ _ _ (Nat.le_refl _)
  obtain ⟨v3, w3, r3, o3, B3, _⟩ := o0.appendR ((HV.out.take i (by rw [HL.out]; omega)).below bA) (by simp) (by rw [List.length_take]; omega) bA.size
  rw [List.nil_append] at o3
  have b3 := bA.trans B3
  have hd1 : ReadsI w (.slice (some ⟨b, off + (i + 1), none⟩) (len - (i + 1)) (c - (i + 1))) (ds.drop (i + 1)) := HV.out.drop (i + 1) (by rw [HL.out]; omega)
  have hd0 : c = i + 1 → ReadsI w (.slice (some ⟨b, off, none⟩) 0 0) (ds.drop (i + 1)) := fun hc1 => by
    rw [List.drop_eq_nil_of_le (by rw [HL.out]; omega)]
    exact ⟨_, _, rfl, Nat.le_refl _, by simp, fun h => by simp at h⟩
  have hw : ∀ sv, ReadsI w sv (ds.drop (i + 1)) → ∃ v4 w4, (Builtin.append_ #[24, 24] 24 #[v3, sv]).run Try.prog w3 = .ok v4 w4 ∧ OwnI w4 w.heap.size v4 (ds.take i ++ ds.drop (i + 1)) ∧ Below w.heap.size w3 w4 := fun sv h => by
    obtain ⟨v4, w4, r4, o4, B4, _⟩ := o3.appendR (h.below b3) (by rw [List.length_take]; omega) (by rw [List.length_drop, HL.out]; omega) b3.size
    exact ⟨v4, w4, r4, o4, B4⟩
  have HW := Lib.hid hw
  have HD1 := Lib.hid hd1
  have HD0 := Lib.hid hd0
  have HB3 := Lib.hid b3
  clear hw hd1 hd0 o0 o3 B3 bA b3
  have hcs : (c = i + 1 ∧ len = i + 1 ∧ len - (i + 1) = 0) ∨ (c ≠ i + 1 ∧ True ∧ True) := by
    by_cases h : c = i + 1
    · exact .inl ⟨h, by omega, by omega⟩
    · exact .inr ⟨h, trivial, trivial⟩
  rcases hcs with ⟨rfl, rfl, hz⟩ | ⟨hc1, hln, hz⟩
  · obtain ⟨v4, w4, r4, o4, B4⟩ := HW.out _ (HD0.out rfl)
    have O4 := Lib.hid o4
    have BF := Lib.hid (HB3.out.trans B4)
    clear o4 B4
    have f1 : ((i : Nat) : Int) ≤ (i : Int) + 1 := by omega
    have f2 : IntKind.i64.wrap ((i : Int) + 1) = (i : Int) + 1 := wraps_i64 _ (by omega) (by omega)
    have f3 : 0 ≤ (i : Int) + 1 := by omega
    have f4 : ((i : Int) + 1).toNat = i + 1 := by omega
    go_enter Try.func22, Try.ntmps22
    go_upto_region 1 with fail
    refine wp_region_held_drew (S := fun _ => True) (by kernel_rfl) trivial (fun hHeld => ?_)
    refine wpAnyH_take (i := 1) (v := ?_) rfl (by kernel_rfl) (by kernel_rfl) (by kernel_rfl) (fun _ _ _ h => h) (Or.inl ⟨by rfl, ?_⟩) (by assumption) ?_
    rotate_left; · (intro w hSw; (try dsimp only at hSw); go_simp; try with_reducible rfl)
    try simp only [Act.put, List.getElem_toArray, List.getElem_cons_zero, List.getElem_cons_succ, List.setIfInBounds_toArray, List.set_cons_zero, List.set_cons_succ]
    refine wpAnyH_take (i := 2) (v := ?_) rfl (by kernel_rfl) (by kernel_rfl) (by kernel_rfl) (fun _ _ _ h => h) (Or.inl ⟨by rfl, ?_⟩) (by assumption) ?_
    rotate_left; · (intro w hSw; (try dsimp only at hSw); go_simp; try with_reducible rfl)
    try simp only [Act.put, List.getElem_toArray, List.getElem_cons_zero, List.getElem_cons_succ, List.setIfInBounds_toArray, List.set_cons_zero, List.set_cons_succ]
    refine wpAnyH_take (i := 3) (v := ?_) rfl (by kernel_rfl) (by kernel_rfl) (by kernel_rfl) (fun _ _ _ h => h) (Or.inl ⟨by rfl, ?_⟩) (by assumption) ?_
    rotate_left; · (intro w hSw; (try dsimp only at hSw); go_simp; try with_reducible rfl)
    try simp only [Act.put, List.getElem_toArray, List.getElem_cons_zero, List.getElem_cons_succ, List.setIfInBounds_toArray, List.set_cons_zero, List.set_cons_succ]
    refine wpAnyH_take (i := 5) (v := ?_) rfl (by kernel_rfl) (by kernel_rfl) (by kernel_rfl) (fun _ _ _ h => h) (Or.inl ⟨by rfl, ?_⟩) (by assumption) ?_
    rotate_left; · (intro w hSw; (try dsimp only at hSw); go_simp; try with_reducible rfl)
    try simp only [Act.put, List.getElem_toArray, List.getElem_cons_zero, List.getElem_cons_succ, List.setIfInBounds_toArray, List.set_cons_zero, List.set_cons_succ]
    refine wpAnyH_take (i := 6) (v := ?_) rfl (by kernel_rfl) (by kernel_rfl) (by kernel_rfl) (fun _ _ _ h => h) (Or.inl ⟨by rfl, ?_⟩) (by assumption) ?_
    rotate_left; · (intro w hSw; (try dsimp only at hSw); go_simp; try with_reducible rfl)
    try simp only [Act.put, List.getElem_toArray, List.getElem_cons_zero, List.getElem_cons_succ, List.setIfInBounds_toArray, List.set_cons_zero, List.set_cons_succ]
    refine wpAnyH_take (i := 7) (v := ?_) rfl (by kernel_rfl) (by kernel_rfl) (by kernel_rfl) (fun _ _ _ h => h) (Or.inl ⟨by rfl, ?_⟩) (by assumption) ?_
    rotate_left; · (intro w hSw; (try dsimp only at hSw); go_simp; try with_reducible rfl)
    try simp only [Act.put, List.getElem_toArray, List.getElem_cons_zero, List.getElem_cons_succ, List.setIfInBounds_toArray, List.set_cons_zero, List.set_cons_succ]
    refine wpAnyH_take (i := 8) (v := ?_) rfl (by kernel_rfl) (by kernel_rfl) (by kernel_rfl) (fun _ _ _ h => h) (Or.inl ⟨by rfl, ?_⟩) (by assumption) ?_
    rotate_left; · (intro w hSw; (try dsimp only at hSw); go_simp; try with_reducible rfl)
    try simp only [Act.put, List.getElem_toArray, List.getElem_cons_zero, List.getElem_cons_succ, List.setIfInBounds_toArray, List.set_cons_zero, List.set_cons_succ]
    refine wpAnyH_ready (rs := [0]) (by kernel_rfl) (by simp) ?_
    refine AllReadyH.cons rfl (fun K hK => ?_) AllReadyH.nil
    go_simp
    refine hK.out _ _ trivial (fun hNew => ?_)
    clear hK K hHeld
    have hHeld := hNew
    clear hNew
    try simp only [Act.put, List.getElem_toArray, List.getElem_cons_zero, List.getElem_cons_succ, List.setIfInBounds_toArray, List.set_cons_zero, List.set_cons_succ]
    refine wpAnyH_ready (rs := [4]) (by kernel_rfl) (by simp) ?_
    refine AllReadyH.cons rfl (fun K hK => ?_) AllReadyH.nil
    refine wp_app (.tmp 5) (.tmp 8) 24 rfl _ _ v3 w3 rfl rfl r3 ?_
    refine hK.out _ _ trivial (fun hNew => ?_)
    clear hK K hHeld
    have hHeld := hNew
    clear hNew
    try simp only [Act.put, List.getElem_toArray, List.getElem_cons_zero, List.getElem_cons_succ, List.setIfInBounds_toArray, List.set_cons_zero, List.set_cons_succ]
    refine wpAnyH_ready (rs := [9]) (by kernel_rfl) (by simp) ?_
    refine AllReadyH.cons rfl (fun K hK => ?_) AllReadyH.nil
    refine wp_app (.tmp 9) (.tmp 13) 24 rfl _ _ v4 w4 rfl rfl r4 ?_
    refine hK.out _ _ trivial (fun hNew => ?_)
    clear hK K hHeld
    have hHeld := hNew
    clear hNew
    try simp only [Act.put, List.getElem_toArray, List.getElem_cons_zero, List.getElem_cons_succ, List.setIfInBounds_toArray, List.set_cons_zero, List.set_cons_succ]
    refine wpAnyH_take (i := 10) (v := ?_) rfl (by kernel_rfl) (by kernel_rfl) (by kernel_rfl) (fun _ _ _ h => h) (Or.inl ⟨by rfl, ?_⟩) (by assumption) ?_
    rotate_left; · (intro w hSw; (try dsimp only at hSw); go_simp; try with_reducible rfl)
    try simp only [Act.put, List.getElem_toArray, List.getElem_cons_zero, List.getElem_cons_succ, List.setIfInBounds_toArray, List.set_cons_zero, List.set_cons_succ]
    refine wpAnyH_done (by kernel_rfl) ?_ _
    go_wp2
    go_ret
    exact ⟨_, rfl, by rw [HR.out]; exact O4.out, BF.out⟩
  · obtain ⟨v4, w4, r4, o4, B4⟩ := HW.out _ HD1.out
    have O4 := Lib.hid o4
    have BF := Lib.hid (HB3.out.trans B4)
    clear o4 B4
    have f1 : ((i : Nat) : Int) ≤ (i : Int) + 1 := by omega
    have f2 : IntKind.i64.wrap ((i : Int) + 1) = (i : Int) + 1 := wraps_i64 _ (by omega) (by omega)
    have f3 : 0 ≤ (i : Int) + 1 := by omega
    have f4 : ((i : Int) + 1).toNat = i + 1 := by omega
    have f5 : (i : Int) ≤ (c : Int) := by omega
    have f6 : (i : Int) + 1 ≤ (len : Int) := by omega
    have f7 : ¬ c = i + 1 := hc1
    go_enter Try.func22, Try.ntmps22
    go_upto_region 1 with fail
    refine wp_region_held_drew (S := fun _ => True) (by kernel_rfl) trivial (fun hHeld => ?_)
    refine wpAnyH_take (i := 1) (v := ?_) rfl (by kernel_rfl) (by kernel_rfl) (by kernel_rfl) (fun _ _ _ h => h) (Or.inl ⟨by rfl, ?_⟩) (by assumption) ?_
    rotate_left; · (intro w hSw; (try dsimp only at hSw); go_simp; try with_reducible rfl)
    try simp only [Act.put, List.getElem_toArray, List.getElem_cons_zero, List.getElem_cons_succ, List.setIfInBounds_toArray, List.set_cons_zero, List.set_cons_succ]
    refine wpAnyH_take (i := 2) (v := ?_) rfl (by kernel_rfl) (by kernel_rfl) (by kernel_rfl) (fun _ _ _ h => h) (Or.inl ⟨by rfl, ?_⟩) (by assumption) ?_
    rotate_left; · (intro w hSw; (try dsimp only at hSw); go_simp; try with_reducible rfl)
    try simp only [Act.put, List.getElem_toArray, List.getElem_cons_zero, List.getElem_cons_succ, List.setIfInBounds_toArray, List.set_cons_zero, List.set_cons_succ]
    refine wpAnyH_take (i := 3) (v := ?_) rfl (by kernel_rfl) (by kernel_rfl) (by kernel_rfl) (fun _ _ _ h => h) (Or.inl ⟨by rfl, ?_⟩) (by assumption) ?_
    rotate_left; · (intro w hSw; (try dsimp only at hSw); go_simp; try with_reducible rfl)
    try simp only [Act.put, List.getElem_toArray, List.getElem_cons_zero, List.getElem_cons_succ, List.setIfInBounds_toArray, List.set_cons_zero, List.set_cons_succ]
    refine wpAnyH_take (i := 5) (v := ?_) rfl (by kernel_rfl) (by kernel_rfl) (by kernel_rfl) (fun _ _ _ h => h) (Or.inl ⟨by rfl, ?_⟩) (by assumption) ?_
    rotate_left; · (intro w hSw; (try dsimp only at hSw); go_simp; try with_reducible rfl)
    try simp only [Act.put, List.getElem_toArray, List.getElem_cons_zero, List.getElem_cons_succ, List.setIfInBounds_toArray, List.set_cons_zero, List.set_cons_succ]
    refine wpAnyH_take (i := 6) (v := ?_) rfl (by kernel_rfl) (by kernel_rfl) (by kernel_rfl) (fun _ _ _ h => h) (Or.inl ⟨by rfl, ?_⟩) (by assumption) ?_
    rotate_left; · (intro w hSw; (try dsimp only at hSw); go_simp; try with_reducible rfl)
    try simp only [Act.put, List.getElem_toArray, List.getElem_cons_zero, List.getElem_cons_succ, List.setIfInBounds_toArray, List.set_cons_zero, List.set_cons_succ]
    refine wpAnyH_take (i := 7) (v := ?_) rfl (by kernel_rfl) (by kernel_rfl) (by kernel_rfl) (fun _ _ _ h => h) (Or.inl ⟨by rfl, ?_⟩) (by assumption) ?_
    rotate_left; · (intro w hSw; (try dsimp only at hSw); go_simp; try with_reducible rfl)
    try simp only [Act.put, List.getElem_toArray, List.getElem_cons_zero, List.getElem_cons_succ, List.setIfInBounds_toArray, List.set_cons_zero, List.set_cons_succ]
    refine wpAnyH_take (i := 8) (v := ?_) rfl (by kernel_rfl) (by kernel_rfl) (by kernel_rfl) (fun _ _ _ h => h) (Or.inl ⟨by rfl, ?_⟩) (by assumption) ?_
    rotate_left; · (intro w hSw; (try dsimp only at hSw); go_simp; try with_reducible rfl)
    try simp only [Act.put, List.getElem_toArray, List.getElem_cons_zero, List.getElem_cons_succ, List.setIfInBounds_toArray, List.set_cons_zero, List.set_cons_succ]
    refine wpAnyH_ready (rs := [0]) (by kernel_rfl) (by simp) ?_
    refine AllReadyH.cons rfl (fun K hK => ?_) AllReadyH.nil
    go_simp
    refine hK.out _ _ trivial (fun hNew => ?_)
    clear hK K hHeld
    have hHeld := hNew
    clear hNew
    try simp only [Act.put, List.getElem_toArray, List.getElem_cons_zero, List.getElem_cons_succ, List.setIfInBounds_toArray, List.set_cons_zero, List.set_cons_succ]
    refine wpAnyH_ready (rs := [4]) (by kernel_rfl) (by simp) ?_
    refine AllReadyH.cons rfl (fun K hK => ?_) AllReadyH.nil
    refine wp_app (.tmp 5) (.tmp 8) 24 rfl _ _ v3 w3 rfl rfl r3 ?_
    refine hK.out _ _ trivial (fun hNew => ?_)
    clear hK K hHeld
    have hHeld := hNew
    clear hNew
    try simp only [Act.put, List.getElem_toArray, List.getElem_cons_zero, List.getElem_cons_succ, List.setIfInBounds_toArray, List.set_cons_zero, List.set_cons_succ]
    refine wpAnyH_ready (rs := [9]) (by kernel_rfl) (by simp) ?_
    refine AllReadyH.cons rfl (fun K hK => ?_) AllReadyH.nil
    refine wp_app (.tmp 9) (.tmp 13) 24 rfl _ _ v4 w4 rfl rfl r4 ?_
    refine hK.out _ _ trivial (fun hNew => ?_)
    clear hK K hHeld
    have hHeld := hNew
    clear hNew
    try simp only [Act.put, List.getElem_toArray, List.getElem_cons_zero, List.getElem_cons_succ, List.setIfInBounds_toArray, List.set_cons_zero, List.set_cons_succ]
    refine wpAnyH_take (i := 10) (v := ?_) rfl (by kernel_rfl) (by kernel_rfl) (by kernel_rfl) (fun _ _ _ h => h) (Or.inl ⟨by rfl, ?_⟩) (by assumption) ?_
    rotate_left; · (intro w hSw; (try dsimp only at hSw); go_simp; try with_reducible rfl)
    try simp only [Act.put, List.getElem_toArray, List.getElem_cons_zero, List.getElem_cons_succ, List.setIfInBounds_toArray, List.set_cons_zero, List.set_cons_succ]
    refine wpAnyH_done (by kernel_rfl) ?_ _
    go_wp2
    go_ret
    exact ⟨_, rfl, by rw [HR.out]; exact O4.out, BF.out⟩

end Go.Proofs.Ytapjgjjmlbhanaa

/- ref.All. -/
namespace Go.Proofs.Ytapjgjjmlbhanaa
open Go.RowKit Go.Lib
set_option linter.unusedSimpArgs false

theorem OwnLL.appendLL {V : World} {base : Nat} {v u : Value} {xss yss : List (List Int)} (h : OwnLL V base v xss) (hu : OwnLL V base u yss) (hn : xss.length ≤ 1000000000) (hm : yss.length ≤ 1000000000) (hbase : base ≤ V.heap.size) :
    ∃ v' w', (Builtin.append_ #[57, 57] 57 #[v, u]).run Try.prog V = .ok v' w' ∧ OwnLL w' base v' (xss ++ yss) ∧ Below base V w' := by
  obtain ⟨vs, h1, h2, h3⟩ := h
  obtain ⟨us, g1, g2, g3⟩ := hu
  have h' : Own V base 24 v 1 xss.length fun i _ => (vs ++ us).getD i undef := Own.congr h2 fun i j hi hj => by rw [getD_at _ _ _ (by omega), getD_at _ _ _ (by rw [List.length_append]; omega), List.getElem_append_left (by omega)]
  have g2' : Own V base 24 u 1 yss.length fun i _ => us.getD i (.slice none 0 0) := Own.congr g2 fun i j hi hj => by rw [getD_at _ _ _ (by omega), getD_at _ _ _ (by omega)]
  obtain ⟨v3, w3, r3, o1, o2, o3⟩ := Own.appendR (V := V) (t := 57) (e := 24) (z := .slice none 0 0) (k := 1) (bytes := 24) Try.underlying57 (by kernel_rfl) rfl (by omega) (by omega) h' 57 (g2'.row (by omega)) (fun i j hi hj => by
    rw [getD_at _ _ _ (by rw [List.length_append]; omega), getD_at _ _ _ (by omega), List.getElem_append_right (by omega)]
    congr 1; omega) (fun i j => by
    by_cases hi : i < yss.length
    · obtain ⟨a, c, e⟩ := (g3 i hi).slice
      show (us.getD i (.slice none 0 0)).oneCell' = true
      rw [getD_at _ _ _ (by omega)] at e ⊢
      rw [e]; rfl
    · show (us.getD i (.slice none 0 0)).oneCell' = true
      rw [List.getD_eq_getElem?_getD, List.getElem?_eq_none (by omega)]
      rfl) hn hm hbase
  have sm : ∀ {x : Value} {ys : List Int}, OwnI V base x ys → OwnI w3 base x ys := fun hx => Own.same hx fun g hg => o3 g (Own.lt hx g hg).2 (own_apart' hx h2 (by decide) g hg)
  refine ⟨v3, w3, r3, ⟨vs ++ us, by simp [h1, g1], by rw [List.length_append]; exact o1, fun i hi => ?_⟩, o2⟩
  by_cases hi' : i < xss.length
  · rw [getD_at _ _ _ (by rw [List.length_append]; omega), getD_at _ _ _ hi, List.getElem_append_left (by omega), List.getElem_append_left hi']
    have := h3 i hi'
    rw [getD_at _ _ _ (by omega), getD_at _ _ _ hi'] at this
    exact sm this
  · rw [List.length_append] at hi
    have := g3 (i - xss.length) (by omega)
    rw [getD_at _ _ _ (by omega), getD_at _ _ _ (by omega)] at this
    rw [getD_at _ _ _ (by rw [List.length_append]; omega), getD_at _ _ _ (by rw [List.length_append]; omega), List.getElem_append_right (by omega), List.getElem_append_right (by omega)]
    have e : i - vs.length = i - xss.length := by omega
    simp only [e]
    exact sm this
theorem OwnLL.base {w : World} {b b' : Nat} {v : Value} {xss : List (List Int)} (h : OwnLL w b v xss) (hb : b' ≤ b) : OwnLL w b' v xss := by
  obtain ⟨vs, h1, h2, h3⟩ := h
  exact ⟨vs, h1, Own.base h2 hb, fun i hi => Own.base (h3 i hi) hb⟩

/-- All sets of the devices with fewer than n. -/
def allTo (ds : List Int) : Nat → List (List Int)
  | 0 => []
  | n + 1 => allTo ds n ++ setsL ds n
def allL (ds : List Int) : List (List Int) := allTo ds (ds.length + 1)
theorem allTo_len (ds : List Int) : ∀ n, (allTo ds n).length ≤ n * 2 ^ ds.length
  | 0 => by simp [allTo]
  | n + 1 => by
    have h1 := allTo_len ds n
    have h2 := setsL_len ds n
    rw [allTo, List.length_append, Nat.add_mul]
    omega

set_option maxRecDepth 100000 in
set_option maxHeartbeats 8000000 in
theorem all_sets (v : Value) (ds : List Int) (w : World) (hv : ReadsI w v ds) (hl : ds.length ≤ 12) :
    Calls Try.prog 60 #[v] w fun e w' => ∃ u, e = .returned u ∧ OwnLL w' w.heap.size u (allL ds) ∧ Below w.heap.size w w' := by
  have HV := Lib.hid hv
  obtain ⟨ao, c, _, _, rfl, _⟩ := hv.at
  have hp2 : 2 ^ ds.length ≤ 2 ^ 12 := Nat.pow_le_pow_right (by omega) hl
  have hlen := fun n (hn : n ≤ ds.length + 1) => Nat.le_trans (allTo_len ds n) (Nat.mul_le_mul (show n ≤ 13 by omega) hp2)
  have hslen := fun n => Nat.le_trans (setsL_len ds n) hp2
  have HLEN := Lib.hid hlen
  have HSLEN := Lib.hid hslen
  obtain ⟨r, hr⟩ : ∃ r, r = allL ds := ⟨_, rfl⟩
  rw [← hr]
  unfold allL at hr
  have HR := Lib.hid hr
  have o0 : OwnLL (w.alloc (.cells #[] 24)) w.heap.size (.slice (some ⟨w.heap.size, 0, none⟩) 0 0) [] := ⟨[], rfl, Own.lit0 _ _ _ _ _ (Nat.le_refl _), fun i hi => by simp at hi⟩
  have O0 := Lib.hid o0
  have b0 : Below w.heap.size w (w.alloc (.cells #[] 24)) := (Below.refl _ _).alloc (Nat.le_refl _) _
  clear hv hr hlen hslen o0 hp2
  go_enter Try.func60, Try.ntmps60
  go_wp2
  generalize hlen : ds.length = len at *
  have HL := Lib.hid hlen
  clear hlen
  go_loopg [3, 4] (len + 1) (fun gk v3 v4 wx => ∃ n : Nat, n + gk = len + 1 ∧ v4 = .int .i64 n ∧ OwnLL wx w.heap.size v3 (allTo ds n) ∧ Below w.heap.size w wx)
  case atStart => exact ⟨0, by omega, rfl, O0.out, b0⟩
  case round =>
    obtain ⟨n, hn, rfl, hown, hbx⟩ := hrel
    have HO := Lib.hid hown
    have zx := hbx.size
    clear hown
    cases gk with
    | zero =>
      obtain rfl : n = len + 1 := by omega
      have k1 : decide (((len + 1 : Nat) : Int) ≤ (len : Int)) = false := decide_eq_false (by omega)
      go_wp2
      go_ret
      exact ⟨_, rfl, by rw [HR.out]; exact HO.out, hbx⟩
    | succ go =>
      have hle : n ≤ len := by omega
      have k1 : decide ((n : Int) ≤ (len : Int)) = true := decide_eq_true (by omega)
      have CS := Lib.hid (sets_any n (by omega) _ ds wr (HV.out.below hbx) (by rw [HL.out]; omega))
      go_wp2_with fail
      refine CS.out.mono ?_
      rintro e w5 ⟨u, rfl, hou, hb5⟩
      have b5 := hbx.trans (hb5.mono zx)
      have z5 := hb5.size
      obtain ⟨a5, c5, e5⟩ := hou.slice
      obtain ⟨v6, w6, r6, o6, B6⟩ := (HO.out.below hb5).appendLL (hou.base zx) (by have := HLEN.out n (by omega); omega) (by have := HSLEN.out n; omega) b5.size
      have O6 := Lib.hid o6
      have b6 := b5.trans B6
      generalize (setsL ds n).length = sl at *
      subst e5
      clear hou o6 B6
      go_wp2_with (at_builtin; refine wpList_append_run (by rfl) (.tmp 12) (.tmp 15) 57 (by rfl) _ (.slice a5 sl c5) v6 w6 (by rfl) (by rfl) r6 ?_)
      go_roundg go
      case measure => omega
      case rel => exact ⟨n + 1, by omega, by go_num, O6.out, b6⟩

end Go.Proofs.Ytapjgjjmlbhanaa

/- ref.Minimal. -/
namespace Go.Proofs.Ytapjgjjmlbhanaa
open Go.RowKit Go.Lib
set_option linter.unusedSimpArgs false

/-- Of these devices each of the first k is necessary. -/
def needTo (g : Gl) (hs : List Hd) (xs : List Int) (k : Nat) : Bool := (List.range k).all fun j => decide (0 < sumR g hs (withoutL xs j))
/-- These devices suffice, and each is necessary. -/
def isMinR (g : Gl) (hs : List Hd) (xs : List Int) : Bool := decide (sumR g hs xs = 0) && needTo g hs xs xs.length
/-- What the reference's Minimal answers. -/
def minR (g : Gl) (hs : List Hd) : List (List Int) := (allL (devsOf hs)).filter (isMinR g hs)
theorem needTo_succ (g : Gl) (hs : List Hd) (xs : List Int) (k : Nat) : needTo g hs xs (k + 1) = (needTo g hs xs k && decide (0 < sumR g hs (withoutL xs k))) := by
  unfold needTo
  rw [List.range_succ, List.all_append]
  simp
theorem needTo_false {g : Gl} {hs : List Hd} {xs : List Int} {k : Nat} (h : needTo g hs xs k = false) : ∀ n, k ≤ n → needTo g hs xs n = false := by
  intro n
  induction n with
  | zero => intro hk; obtain rfl : k = 0 := by omega
            exact h
  | succ n ih =>
    intro hk
    by_cases e : k = n + 1
    · rw [← e]; exact h
    · rw [needTo_succ, ih (by omega)]; rfl
theorem minR_take (g : Gl) (hs : List Hd) (A : List (List Int)) (i : Nat) (hi : i < A.length) : (A.take (i + 1)).filter (isMinR g hs) = (A.take i).filter (isMinR g hs) ++ if isMinR g hs (A.getD i []) = true then [A.getD i []] else [] := by
  rw [List.take_add_one, List.getElem?_eq_getElem hi, List.filter_append, getD_at _ _ _ hi]
  simp [List.filter_cons]

theorem setsTo_mem (ds : List Int) (n : Nat) : ∀ x ∈ allTo ds n, x.length < n := by
  induction n with
  | zero => simp [allTo]
  | succ n ih =>
    intro x hx
    rw [allTo, List.mem_append] at hx
    rcases hx with hx | hx
    · have := ih x hx; omega
    · have := setsL_mem ds n x hx; omega
/-- A row of rows, element by element. -/
theorem OwnLL.elem {w : World} {base : Nat} {v : Value} {xss : List (List Int)} (h : OwnLL w base v xss) (hn : xss.length ≤ 1000000) : ∃ ao c b off, v = .slice ao xss.length c ∧ xss.length ≤ c ∧
    ∀ i, i < xss.length → ao = some ⟨b, off, none⟩ ∧ v.ownBlock = some b ∧ ∃ ea ec, w.cell? ⟨b, off + i, none⟩ = some (.slice ea (xss.getD i []).length ec) ∧ OwnI w base (.slice ea (xss.getD i []).length ec) (xss.getD i []) := by
  obtain ⟨vs, h1, h2, h3⟩ := h
  obtain ⟨ao, c, b, off, e, hc, hm, hcell⟩ := RowAt.at (h2.row (by omega))
  refine ⟨ao, c, b, off, e, hc, fun i hi => ?_⟩
  obtain ⟨ha, hcl⟩ := hcell i hi
  have h0 := hcl 0 (by omega)
  rw [Nat.mul_one, Nat.add_zero] at h0
  obtain ⟨ea, ec, ee⟩ := (h3 i hi).slice
  rw [ee] at h0
  have ho := h3 i hi
  rw [ee] at ho
  refine ⟨ha, ?_, ea, ec, h0, ho⟩
  rw [e, ha]
  rfl

theorem ReadsI.valL {w : World} {v : Value} {xs : List Int} (h : ReadsI w v xs) : ∃ ao c, v = .slice ao xs.length c := by
  obtain ⟨ao, c, _, _, e, _⟩ := h.at
  exact ⟨ao, c, e⟩
set_option maxRecDepth 100000 in
set_option maxHeartbeats 16000000 in
theorem minimal_ref (g : Gl) (v : Value) (hs : List Hd) (w : World) (hg : GlAt w g) (hv : ReadsH w v hs) (hok : Ok g hs) :
    Calls Try.prog 28 #[g.v, v] w fun e w' => ∃ u, e = .returned u ∧ ReadsLL w' u (minR g hs) ∧ Below w.heap.size w w' := by
  have c59 := devs_ref v hs
  have c32 := fun (dv : Value) (ds : List Int) (W : World) (h1 : GlAt W g) (h2 : ReadsH W v hs) (h3 : ReadsI W dv ds) => sum_ref g v dv hs ds W h1 h2 h3 hok
  obtain ⟨na, n1, nc, pa, n2, pc, sa, n3, sc, e1⟩ := hg.val
  obtain ⟨ao, n4, c4, rfl⟩ := hv.val
  rw [e1]
  simp only [e1] at c32
  have HG := Lib.hid hg
  have HV := Lib.hid hv
  have C59 := Lib.hid c59
  have C32 := Lib.hid c32
  obtain ⟨r, hr⟩ : ∃ r, r = minR g hs := ⟨_, rfl⟩
  rw [← hr]
  unfold minR at hr
  have hdl : (devsOf hs).length ≤ 12 := dvTo_len hs 12
  have C60 := Lib.hid (fun (u : Value) (W : World) (h : ReadsI W u (devsOf hs)) => all_sets u (devsOf hs) W h hdl)
  have hal : (allL (devsOf hs)).length ≤ 100000 := by
    have h1 := allTo_len (devsOf hs) ((devsOf hs).length + 1)
    have h2 := two12 hdl
    have h3 : ((devsOf hs).length + 1) * 2 ^ (devsOf hs).length ≤ 13 * 4096 := Nat.mul_le_mul (by omega) h2
    unfold allL
    omega
  have ham : ∀ x ∈ allL (devsOf hs), x.length ≤ 12 := fun x hx => by
    have := setsTo_mem _ _ x hx
    omega
  generalize allL (devsOf hs) = A at *
  have HR := Lib.hid hr
  have HAL := Lib.hid hal
  have HAM := Lib.hid ham
  have b0 : Below w.heap.size w (w.alloc (.cells #[.slice na n1 nc, .int .i64 g.thr, .bool g.idx, .slice pa n2 pc, .slice sa n3 sc] 37)) := (Below.refl _ _).alloc (Nat.le_refl _) _
  have g0 := heap_alloc_last w (.cells #[.slice na n1 nc, .int .i64 g.thr, .bool g.idx, .slice pa n2 pc, .slice sa n3 sc] 37)
  have s0 : (w.alloc (.cells #[.slice na n1 nc, .int .i64 g.thr, .bool g.idx, .slice pa n2 pc, .slice sa n3 sc] 37)).heap.size = w.heap.size + 1 := World.size_alloc ..
  obtain ⟨G, hG⟩ : ∃ G, G = w.heap.size := ⟨_, rfl⟩
  have HGG := Lib.hid hG
  rw [← hG] at g0 s0
  have G0 := Lib.hid g0
  have S0 := Lib.hid s0
  clear hg hv c59 c32 e1 hr hal ham hdl g0 hG s0
  go_enter Try.func28, Try.ntmps28
  go_upto_region 1 with fail
  rw [← HGG.out]
  generalize w.alloc (Obj.cells #[.slice na n1 nc, .int .i64 g.thr, .bool g.idx, .slice pa n2 pc, .slice sa n3 sc] 37) = W at b0 G0 S0 ⊢
  have o0 : OwnLL (W.alloc (.cells #[] 24)) W.heap.size (.slice (some ⟨W.heap.size, 0, none⟩) 0 0) [] := ⟨[], rfl, Own.lit0 _ _ _ _ _ (Nat.le_refl _), fun i hi => by simp at hi⟩
  have bO : Below W.heap.size W (W.alloc (.cells #[] 24)) := (Below.refl _ _).alloc (Nat.le_refl _) _
  have sO : (W.alloc (.cells #[] 24)).heap.size = W.heap.size + 1 := World.size_alloc ..
  have O0 := Lib.hid o0
  have CD := Lib.hid (C59.out _ (HV.out.below (b0.trans (bO.mono b0.size))))
  clear o0
  go_wp2_with fail
  refine CD.out.mono ?_
  rintro e w1 ⟨u1, rfl, ho1, hb1⟩
  have hr1 := ho1.reads (by have := dvTo_len hs 12; unfold devsOf; omega)
  obtain ⟨a1, c1, _, _, rfl, _⟩ := hr1.at
  have CA := Lib.hid (C60.out _ w1 hr1)
  have bd1 : Below W.heap.size W w1 := bO.trans (hb1.mono bO.size)
  have O1 := Lib.hid (O0.out.below hb1)
  have hsz1 := hb1.size
  clear ho1 hr1 hb1 CD
  go_wp2_with fail
  refine CA.out.mono ?_
  rintro e wA ⟨uA, rfl, hoA, hbA⟩
  have bdA : Below W.heap.size W wA := bd1.trans (hbA.mono bd1.size)
  have OA := Lib.hid (O1.out.below hbA)
  have zA := hbA.size
  obtain ⟨gz, hgz⟩ : ∃ gz, gz = w1.heap.size := ⟨_, rfl⟩
  rw [← hgz] at hoA zA
  obtain ⟨ra, rc, rb, ro, rfl, hrc, hel⟩ := hoA.elem (by have := HAL.out; omega)
  have hgw : W.heap.size + 1 ≤ gz := by omega
  have HEL := Lib.hid hel
  have HOA := Lib.hid hoA
  have hbk : ∀ g, (Value.slice (some ⟨W.heap.size, 0, none⟩) 0 0).ownBlock = some g → g < gz ∨ wA.heap.size ≤ g := fun g hg => by
    cases hg
    exact .inl (show W.heap.size < gz by omega)
  have HBK := Lib.hid hbk
  have GA := Lib.hid ((bdA.block G (by have := S0.out; omega)).trans G0.out)
  clear hel hoA hbk CA hsz1 hbA
  generalize hAl : A.length = al at *
  have HALL := Lib.hid hAl
  clear hAl
  go_wp2_with fail
  go_loopg [5, 7, 8, 9] al (fun gk v5 v7 v8 v9 wx => ∃ i : Nat, i + gk = al ∧ v7 = .int .i64 i ∧ OwnLL wx W.heap.size v5 ((A.take i).filter (isMinR g hs)) ∧ Below W.heap.size W wx ∧ (∀ g, gz ≤ g → g < wA.heap.size → wx.heap[g]? = wA.heap[g]?) ∧ (∀ g, v5.ownBlock = some g → g < gz ∨ wA.heap.size ≤ g) ∧ wA.heap.size ≤ wx.heap.size)
  case atStart => exact ⟨0, by omega, rfl, by rw [List.take_zero]; exact OA.out, bdA, fun _ _ _ => rfl, HBK.out, Nat.le_refl _⟩
  case round =>
    obtain ⟨i, hi, rfl, hown, hby, hmid, hblk, hzy⟩ := hrel
    have HO := Lib.hid hown
    have HMID := Lib.hid hmid
    have HBLK := Lib.hid hblk
    clear hown hmid hblk
    cases gk with
    | zero =>
      obtain rfl : i = al := by omega
      have hrd := HO.out.reads (by have h1 := List.length_filter_le (isMinR g hs) (A.take i); rw [List.length_take, HALL.out] at h1; have := HAL.out; omega) (fun x hx => by have := HAM.out x (List.mem_of_mem_take (List.mem_filter.1 hx).1); omega)
      rw [← HALL.out, List.take_length] at hrd
      have HRD := Lib.hid hrd
      clear hrd
      go_wp2
      go_ret
      exact ⟨_, rfl, by rw [HR.out]; exact HRD.out, b0.trans (hby.mono b0.size)⟩
    | succ go =>
      have hlt : i < al := by omega
      obtain ⟨rfl, hrb, ea, ec, hcl, hoi⟩ := HEL.out i hlt
      have hxl : (A.getD i []).length ≤ 12 := by rw [getD_at _ _ _ (by rw [HALL.out]; exact hlt)]; exact HAM.out _ (List.getElem_mem _)
      have hmt := minR_take g hs A i (by rw [HALL.out]; exact hlt)
      generalize A.getD i [] = xs at *
      have hoi2 : OwnI wr W.heap.size (.slice ea xs.length ec) xs := Own.base (Own.same hoi (fun g hg => HMID.out g (Own.lt hoi g hg).1 (Own.lt hoi g hg).2)) (by omega)
      have hxi := OwnI.reads hoi2 (by omega)
      have hrbl := Own.lt (show Own wA gz 24 _ 1 _ _ from HOA.out.choose_spec.2.1) rb hrb
      have hq : wr.cell? ⟨rb, ro + i, none⟩ = some (.slice ea xs.length ec) := by
        rw [← hcl]
        simp only [World.cell?, HMID.out rb hrbl.1 hrbl.2]
      have hGx := (hby.block G (by have := S0.out; omega)).trans G0.out
      have HMT := Lib.hid hmt
      have HXI := Lib.hid hxi
      have HOI := Lib.hid hoi2
      have HRBL := Lib.hid hrbl
      clear hmt hxi hoi hoi2 hcl hrbl
      generalize hxe : xs.length = xl at *
      have HXE := Lib.hid hxe
      clear hxe
      have a0 := cell_of_row _ _ 0 _ _ _ hGx
      have a1 := cell_of_row _ _ 1 _ _ _ hGx
      have a2 := cell_of_row _ _ 2 _ _ _ hGx
      have a3 := cell_of_row _ _ 3 _ _ _ hGx
      have a4 := cell_of_row _ _ 4 _ _ _ hGx
      simp only [List.getElem?_toArray, List.getElem?_cons_zero, List.getElem?_cons_succ] at a0 a1 a2 a3 a4
      have hkeep : ∀ w8 : World, Below wr.heap.size wr w8 → Below wr.heap.size wr w8 ∧ w8.cell? ⟨G, 0, none⟩ = some (.slice na n1 nc) ∧ w8.cell? ⟨G, 1, none⟩ = some (.int .i64 g.thr) ∧ w8.cell? ⟨G, 2, none⟩ = some (.bool g.idx) ∧ w8.cell? ⟨G, 3, none⟩ = some (.slice pa n2 pc) ∧ w8.cell? ⟨G, 4, none⟩ = some (.slice sa n3 sc) ∧ w8.cell? ⟨rb, ro + i, none⟩ = some (.slice ea xl ec) := fun w8 hb =>
        ⟨hb, (hb.cell (p := ⟨G, 0, none⟩) (cell_lt a0)).trans a0, (hb.cell (p := ⟨G, 1, none⟩) (cell_lt a1)).trans a1, (hb.cell (p := ⟨G, 2, none⟩) (cell_lt a2)).trans a2, (hb.cell (p := ⟨G, 3, none⟩) (cell_lt a3)).trans a3, (hb.cell (p := ⟨G, 4, none⟩) (cell_lt a4)).trans a4, (hb.cell (cell_lt hq)).trans hq⟩
      have HKEEP := Lib.hid hkeep
      have HHS := Lib.hid (hkeep wr.drew (Below.refl _ _).drew)
      have HGR := Lib.hid (HG.out.below (b0.trans (hby.mono b0.size)))
      have HVR := Lib.hid (HV.out.below (b0.trans (hby.mono b0.size)))
      clear hkeep a0 a1 a2 a3 a4 hGx
      go_wp2_with fail
      refine wp_region_held_drew (S := fun w' => Below wr.heap.size wr w' ∧ w'.cell? ⟨G, 0, none⟩ = some (.slice na n1 nc) ∧ w'.cell? ⟨G, 1, none⟩ = some (.int .i64 g.thr) ∧ w'.cell? ⟨G, 2, none⟩ = some (.bool g.idx) ∧ w'.cell? ⟨G, 3, none⟩ = some (.slice pa n2 pc) ∧ w'.cell? ⟨G, 4, none⟩ = some (.slice sa n3 sc) ∧ w'.cell? ⟨rb, ro + i, none⟩ = some (.slice ea xl ec)) (by kernel_rfl) HHS.out (fun hHeld => ?_)
      refine wpAnyH_take (i := 0) (v := ?_) rfl (by kernel_rfl) (by kernel_rfl) (by kernel_rfl) (fun _ _ _ h => h) (Or.inl ⟨by rfl, ?_⟩) (by assumption) ?_
      rotate_left; · (intro w hSw; (try dsimp only at hSw); go_simp; try with_reducible rfl)
      try simp only [Act.put, List.getElem_toArray, List.getElem_cons_zero, List.getElem_cons_succ, List.setIfInBounds_toArray, List.set_cons_zero, List.set_cons_succ]
      refine wpAnyH_take (i := 1) (v := ?_) rfl (by kernel_rfl) (by kernel_rfl) (by kernel_rfl) (fun _ _ _ h => h) (Or.inl ⟨by rfl, ?_⟩) (by assumption) ?_
      rotate_left; · (intro w hSw; (try dsimp only at hSw); go_simp; try with_reducible rfl)
      try simp only [Act.put, List.getElem_toArray, List.getElem_cons_zero, List.getElem_cons_succ, List.setIfInBounds_toArray, List.set_cons_zero, List.set_cons_succ]
      refine wpAnyH_take (i := 2) (v := ?_) rfl (by kernel_rfl) (by kernel_rfl) (by kernel_rfl) (fun _ _ _ h => h) (Or.inl ⟨by rfl, ?_⟩) (by assumption) ?_
      rotate_left; · (intro w hSw; (try dsimp only at hSw); go_simp; try with_reducible rfl)
      try simp only [Act.put, List.getElem_toArray, List.getElem_cons_zero, List.getElem_cons_succ, List.setIfInBounds_toArray, List.set_cons_zero, List.set_cons_succ]
      refine wpAnyH_take (i := 3) (v := ?_) rfl (by kernel_rfl) (by kernel_rfl) (by kernel_rfl) (fun _ _ _ h => h) (Or.inl ⟨by rfl, ?_⟩) (by assumption) ?_
      rotate_left; · (intro w hSw; (try dsimp only at hSw); go_simp; try with_reducible rfl)
      try simp only [Act.put, List.getElem_toArray, List.getElem_cons_zero, List.getElem_cons_succ, List.setIfInBounds_toArray, List.set_cons_zero, List.set_cons_succ]
      refine wpAnyH_take (i := 4) (v := ?_) rfl (by kernel_rfl) (by kernel_rfl) (by kernel_rfl) (fun _ _ _ h => h) (Or.inl ⟨by rfl, ?_⟩) (by assumption) ?_
      rotate_left; · (intro w hSw; (try dsimp only at hSw); go_simp; try with_reducible rfl)
      try simp only [Act.put, List.getElem_toArray, List.getElem_cons_zero, List.getElem_cons_succ, List.setIfInBounds_toArray, List.set_cons_zero, List.set_cons_succ]
      refine wpAnyH_take (i := 5) (v := ?_) rfl (by kernel_rfl) (by kernel_rfl) (by kernel_rfl) (fun _ _ _ h => h) (Or.inl ⟨by rfl, ?_⟩) (by assumption) ?_
      rotate_left; · (intro w hSw; (try dsimp only at hSw); go_simp; try with_reducible rfl)
      try simp only [Act.put, List.getElem_toArray, List.getElem_cons_zero, List.getElem_cons_succ, List.setIfInBounds_toArray, List.set_cons_zero, List.set_cons_succ]
      refine wpAnyH_ready (rs := [6]) (by kernel_rfl) (by simp) ?_
      refine AllReadyH.cons rfl (fun K hK => ?_) AllReadyH.nil
      go_simp
      go_at_call 32
      refine (C32.out _ xs _ (HGR.out.below hHeld.1) (HVR.out.below hHeld.1) (HXI.out.below hHeld.1)).mono ?_
      rintro e w9 ⟨rfl, hb9⟩
      go_wp2_with fail
      refine hK.out _ _ (HKEEP.out _ (hHeld.1.trans (hb9.mono hHeld.1.size))) (fun hNew => ?_)
      clear hb9
      clear hK K hHeld
      have hHeld := hNew
      clear hNew
      try simp only [Act.put, List.getElem_toArray, List.getElem_cons_zero, List.getElem_cons_succ, List.setIfInBounds_toArray, List.set_cons_zero, List.set_cons_succ]
      refine wpAnyH_take (i := 7) (v := ?_) rfl (by kernel_rfl) (by kernel_rfl) (by kernel_rfl) (fun _ _ _ h => h) (Or.inl ⟨by rfl, ?_⟩) (by assumption) ?_
      rotate_left; · (intro w hSw; (try dsimp only at hSw); go_simp; try with_reducible rfl)
      try simp only [Act.put, List.getElem_toArray, List.getElem_cons_zero, List.getElem_cons_succ, List.setIfInBounds_toArray, List.set_cons_zero, List.set_cons_succ]
      refine wpAnyH_take (i := 8) (v := ?_) rfl (by kernel_rfl) (by kernel_rfl) (by kernel_rfl) (fun _ _ _ h => h) (Or.inl ⟨by rfl, ?_⟩) (by assumption) ?_
      rotate_left; · (intro w hSw; (try dsimp only at hSw); go_simp; try with_reducible rfl)
      try simp only [Act.put, List.getElem_toArray, List.getElem_cons_zero, List.getElem_cons_succ, List.setIfInBounds_toArray, List.set_cons_zero, List.set_cons_succ]
      refine wpAnyH_done (by kernel_rfl) ?_ _
      obtain ⟨wi, hwi⟩ : ∃ wi : World, wi = w9 := ⟨_, rfl⟩
      subst hwi
      have hbi := hHeld.1
      have zi := hbi.size
      clear hHeld
      obtain ⟨wk, hwk⟩ : ∃ wk : World, wk = wr := ⟨_, rfl⟩
      subst hwk
      have hi9 : i < 100000 := by have := HAL.out; omega
      have hqi := (hbi.cell (cell_lt hq)).trans hq
      have HGI := Lib.hid (HGR.out.below hbi)
      have HVI := Lib.hid (HVR.out.below hbi)
      have HXJ := Lib.hid (HXI.out.below hbi)
      have bk := hby.trans (hbi.mono hby.size)
      have zk := hby.size
      have hGi := (bk.block G (by have := S0.out; omega)).trans G0.out
      have HGB := Lib.hid hGi
      have hmq : isMinR g hs xs = (decide (sumR g hs xs = 0) && needTo g hs xs xl) := by
        unfold isMinR
        rw [HXE.out]
      have hnf := fun (k : Nat) (h : needTo g hs xs k = false) (hk : k ≤ xl) => needTo_false h xl hk
      have hns := needTo_succ g hs xs
      have hd0 : (sumR g hs xs == 0) = decide (sumR g hs xs = 0) := rfl
      have HNF := Lib.hid hnf
      have HNS := Lib.hid hns
      clear hq HGR HVR HXI HKEEP HHS hGi hnf hns C59 C60
      try simp only [hd0]
      clear hd0
      generalize decide (sumR g hs xs = 0) = z0 at *
      have HMQ := Lib.hid hmq
      have hn0 : z0 = (z0 && needTo g hs xs 0) := by unfold needTo; simp
      have HN0 := Lib.hid hn0
      clear hmq hn0
      go_wp2
      go_loopg [8, 9] xl (fun g2 v8 v9 wy => ∃ (k : Nat) (ok : Bool), k + g2 = xl ∧ v9 = .int .i64 k ∧ v8 = .bool ok ∧ ok = (z0 && needTo g hs xs k) ∧ Below wi.heap.size wi wy)
      case atStart => exact ⟨0, z0, by omega, rfl, rfl, HN0.out, Below.refl _ _⟩
      case round =>
        obtain ⟨k, ok, hk, rfl, rfl, hokk, hbn⟩ := hrel
        have zn := hbn.size
        have hq2 := (hbn.cell (cell_lt hqi)).trans hqi
        cases gk with
        | zero =>
          obtain rfl : k = xl := by omega
          have hmin : isMinR g hs xs = ok := by rw [HMQ.out, hokk]
          clear hokk
          cases ok with
          | false =>
            have hmt := HMT.out
            rw [hmin, if_neg (by simp), List.append_nil] at hmt
            have HM2 := Lib.hid hmt
            have HOF := Lib.hid ((HO.out.below hbi).below hbn)
            have bF := bk.trans (hbn.mono bk.size)
            have hmF : ∀ g, gz ≤ g → g < wA.heap.size → wr.heap[g]? = wA.heap[g]? := fun g h1 h2 => by rw [hbn.block g (by omega), hbi.block g (by omega), HMID.out g h1 h2]
            have HMF := Lib.hid hmF
            clear hmt hmin hmF
            go_wp2
            go_roundg go
            case measure => omega
            case rel => exact ⟨i + 1, by omega, by go_num, by rw [HM2.out]; exact HOF.out, bF, HMF.out, HBLK.out, by omega⟩
          | true =>
            have hmt := HMT.out
            rw [hmin, if_pos rfl] at hmt
            have HM2 := Lib.hid hmt
            have hoF := (HO.out.below hbi).below hbn
            have bF := bk.trans (hbn.mono bk.size)
            have hlen : ((A.take i).filter (isMinR g hs)).length ≤ 1000000 := by
              have h1 := List.length_filter_le (isMinR g hs) (A.take i)
              rw [List.length_take] at h1
              have := HAL.out
              omega
            obtain ⟨v9, w9, r9, o9, B9, o3, o4, o5⟩ := hoF.append' ((HOI.out.below hbi).below hbn) (by omega) (by omega)
            have hmF : ∀ g, gz ≤ g → g < wA.heap.size → w9.heap[g]? = wA.heap[g]? := fun g h1 h2 => by
              rw [o3 g (by omega) (fun e => by have := HBLK.out g e; omega), hbn.block g (by omega), hbi.block g (by omega), HMID.out g h1 h2]
            have hbf2 : ∀ g, v9.ownBlock = some g → g < gz ∨ wA.heap.size ≤ g := fun g hg => by
              rcases o4 with o4 | o4
              · exact HBLK.out g (o4 ▸ hg)
              · rw [o4] at hg
                cases hg
                exact .inr (by omega)
            have HMF := Lib.hid hmF
            have HB2 := Lib.hid hbf2
            have O9 := Lib.hid o9
            have hq9 := (hbn.cell (cell_lt hqi)).trans hqi
            clear hmt hmin hmF hoF o9 o3 o4 hbf2
            go_wp2_with (at_builtin; refine wpList_append_run (by rfl) (.tmp 51) (.tmp 56) 57 (by rfl) _ (.slice (some ⟨wr.heap.size, 0, none⟩) 1 1) v9 w9 (by rfl) (by rfl) r9 ?_)
            go_roundg go
            case measure => omega
            case rel => exact ⟨i + 1, by omega, by go_num, by rw [HM2.out]; exact O9.out, bF.trans B9, HMF.out, HB2.out, by omega⟩
        | succ g2 =>
          have hkl : k < xl := by omega
          cases ok with
          | false =>
            have hmin : isMinR g hs xs = false := by
              rw [HMQ.out]
              cases z0 with
              | false => rfl
              | true =>
                rw [Bool.true_and] at hokk ⊢
                exact HNF.out k hokk.symm (by omega)
            clear hokk
            have hmt := HMT.out
            rw [hmin, if_neg (by simp), List.append_nil] at hmt
            have HM2 := Lib.hid hmt
            have HOF := Lib.hid ((HO.out.below hbi).below hbn)
            have bF := bk.trans (hbn.mono bk.size)
            have hmF : ∀ g, gz ≤ g → g < wA.heap.size → wr.heap[g]? = wA.heap[g]? := fun g h1 h2 => by rw [hbn.block g (by omega), hbi.block g (by omega), HMID.out g h1 h2]
            have HMF := Lib.hid hmF
            clear hmt hmin hmF
            go_wp2
            go_roundg go
            case measure => omega
            case rel => exact ⟨i + 1, by omega, by go_num, by rw [HM2.out]; exact HOF.out, bF, HMF.out, HBLK.out, by omega⟩
          | true =>
            have hst := HNS.out k
            have hz : z0 = true ∧ needTo g hs xs k = true := by
              cases z0 with
              | false => simp at hokk
              | true => exact ⟨rfl, by rw [Bool.true_and] at hokk; exact hokk.symm⟩
            rw [hz.2, Bool.true_and] at hst
            have HST := Lib.hid hst
            have HZ := Lib.hid hz
            have CW := Lib.hid (fun (W : World) (h : ReadsI W (.slice ea xl ec) xs) => without_any (.slice ea xl ec) xs k W h (by rw [HXE.out]; exact hkl) (by rw [HXE.out]; omega))
            have C32b := Lib.hid (fun (dv : Value) (W : World) (h1 : Below wr.heap.size wr W) (h3 : ReadsI W dv (withoutL xs k)) => C32.out dv (withoutL xs k) W (HGI.out.below (hbn.trans (h1.mono zn))) (HVI.out.below (hbn.trans (h1.mono zn))) h3)
            have hwl : (withoutL xs k).length ≤ 12 := by
              unfold withoutL
              rw [List.length_append, List.length_take, List.length_drop, HXE.out]
              omega
            have hdp : decide (0 < sumR g hs (withoutL xs k)) = decide (sumR g hs (withoutL xs k) > 0) := rfl
            rw [hdp] at HST
            generalize withoutL xs k = ys at *
            generalize sumR g hs ys = sm at *
            have hGn := (hbn.block G (by have := S0.out; omega)).trans HGB.out
            have a0 := cell_of_row _ _ 0 _ _ _ hGn
            have a1 := cell_of_row _ _ 1 _ _ _ hGn
            have a2 := cell_of_row _ _ 2 _ _ _ hGn
            have a3 := cell_of_row _ _ 3 _ _ _ hGn
            have a4 := cell_of_row _ _ 4 _ _ _ hGn
            simp only [List.getElem?_toArray, List.getElem?_cons_zero, List.getElem?_cons_succ] at a0 a1 a2 a3 a4
            have hkeep : ∀ w8 : World, Below wr.heap.size wr w8 → Below wr.heap.size wr w8 ∧ w8.cell? ⟨G, 0, none⟩ = some (.slice na n1 nc) ∧ w8.cell? ⟨G, 1, none⟩ = some (.int .i64 g.thr) ∧ w8.cell? ⟨G, 2, none⟩ = some (.bool g.idx) ∧ w8.cell? ⟨G, 3, none⟩ = some (.slice pa n2 pc) ∧ w8.cell? ⟨G, 4, none⟩ = some (.slice sa n3 sc) ∧ w8.cell? ⟨rb, ro + i, none⟩ = some (.slice ea xl ec) := fun w8 hb =>
              ⟨hb, (hb.cell (p := ⟨G, 0, none⟩) (cell_lt a0)).trans a0, (hb.cell (p := ⟨G, 1, none⟩) (cell_lt a1)).trans a1, (hb.cell (p := ⟨G, 2, none⟩) (cell_lt a2)).trans a2, (hb.cell (p := ⟨G, 3, none⟩) (cell_lt a3)).trans a3, (hb.cell (p := ⟨G, 4, none⟩) (cell_lt a4)).trans a4, (hb.cell (cell_lt hq2)).trans hq2⟩
            have HKEEP := Lib.hid hkeep
            have HHS := Lib.hid (hkeep wr.drew (Below.refl _ _).drew)
            have HXN := Lib.hid (fun (W : World) (h : Below wr.heap.size wr W) => HXJ.out.below (hbn.trans (h.mono zn)))
            clear hkeep a0 a1 a2 a3 a4 hGn hst hz hokk hdp
            go_wp2
            refine wp_region_held_drew (S := fun w' => Below wr.heap.size wr w' ∧ w'.cell? ⟨G, 0, none⟩ = some (.slice na n1 nc) ∧ w'.cell? ⟨G, 1, none⟩ = some (.int .i64 g.thr) ∧ w'.cell? ⟨G, 2, none⟩ = some (.bool g.idx) ∧ w'.cell? ⟨G, 3, none⟩ = some (.slice pa n2 pc) ∧ w'.cell? ⟨G, 4, none⟩ = some (.slice sa n3 sc) ∧ w'.cell? ⟨rb, ro + i, none⟩ = some (.slice ea xl ec)) (by kernel_rfl) HHS.out (fun hHeld => ?_)
            refine wpAnyH_take (i := 0) (v := ?_) rfl (by kernel_rfl) (by kernel_rfl) (by kernel_rfl) (fun _ _ _ h => h) (Or.inl ⟨by rfl, ?_⟩) (by assumption) ?_
            rotate_left; · (intro w hSw; (try dsimp only at hSw); go_simp; try with_reducible rfl)
            try simp only [Act.put, List.getElem_toArray, List.getElem_cons_zero, List.getElem_cons_succ, List.setIfInBounds_toArray, List.set_cons_zero, List.set_cons_succ]
            refine wpAnyH_take (i := 1) (v := ?_) rfl (by kernel_rfl) (by kernel_rfl) (by kernel_rfl) (fun _ _ _ h => h) (Or.inl ⟨by rfl, ?_⟩) (by assumption) ?_
            rotate_left; · (intro w hSw; (try dsimp only at hSw); go_simp; try with_reducible rfl)
            try simp only [Act.put, List.getElem_toArray, List.getElem_cons_zero, List.getElem_cons_succ, List.setIfInBounds_toArray, List.set_cons_zero, List.set_cons_succ]
            refine wpAnyH_take (i := 2) (v := ?_) rfl (by kernel_rfl) (by kernel_rfl) (by kernel_rfl) (fun _ _ _ h => h) (Or.inl ⟨by rfl, ?_⟩) (by assumption) ?_
            rotate_left; · (intro w hSw; (try dsimp only at hSw); go_simp; try with_reducible rfl)
            try simp only [Act.put, List.getElem_toArray, List.getElem_cons_zero, List.getElem_cons_succ, List.setIfInBounds_toArray, List.set_cons_zero, List.set_cons_succ]
            refine wpAnyH_take (i := 3) (v := ?_) rfl (by kernel_rfl) (by kernel_rfl) (by kernel_rfl) (fun _ _ _ h => h) (Or.inl ⟨by rfl, ?_⟩) (by assumption) ?_
            rotate_left; · (intro w hSw; (try dsimp only at hSw); go_simp; try with_reducible rfl)
            try simp only [Act.put, List.getElem_toArray, List.getElem_cons_zero, List.getElem_cons_succ, List.setIfInBounds_toArray, List.set_cons_zero, List.set_cons_succ]
            refine wpAnyH_take (i := 4) (v := ?_) rfl (by kernel_rfl) (by kernel_rfl) (by kernel_rfl) (fun _ _ _ h => h) (Or.inl ⟨by rfl, ?_⟩) (by assumption) ?_
            rotate_left; · (intro w hSw; (try dsimp only at hSw); go_simp; try with_reducible rfl)
            try simp only [Act.put, List.getElem_toArray, List.getElem_cons_zero, List.getElem_cons_succ, List.setIfInBounds_toArray, List.set_cons_zero, List.set_cons_succ]
            refine wpAnyH_take (i := 5) (v := ?_) rfl (by kernel_rfl) (by kernel_rfl) (by kernel_rfl) (fun _ _ _ h => h) (Or.inl ⟨by rfl, ?_⟩) (by assumption) ?_
            rotate_left; · (intro w hSw; (try dsimp only at hSw); go_simp; try with_reducible rfl)
            try simp only [Act.put, List.getElem_toArray, List.getElem_cons_zero, List.getElem_cons_succ, List.setIfInBounds_toArray, List.set_cons_zero, List.set_cons_succ]
            refine wpAnyH_take (i := 6) (v := ?_) rfl (by kernel_rfl) (by kernel_rfl) (by kernel_rfl) (fun _ _ _ h => h) (Or.inl ⟨by rfl, ?_⟩) (by assumption) ?_
            rotate_left; · (intro w hSw; (try dsimp only at hSw); go_simp; try with_reducible rfl)
            try simp only [Act.put, List.getElem_toArray, List.getElem_cons_zero, List.getElem_cons_succ, List.setIfInBounds_toArray, List.set_cons_zero, List.set_cons_succ]
            refine wpAnyH_ready (rs := [7]) (by kernel_rfl) (by simp) ?_
            refine AllReadyH.cons rfl (fun K hK => ?_) AllReadyH.nil
            go_simp
            go_at_call 22
            refine (CW.out _ (HXN.out _ hHeld.1)).mono ?_
            rintro e w8 ⟨u, rfl, ho8, hb8⟩
            have hr8 := ho8.reads (by omega)
            obtain ⟨za, zc, er⟩ := hr8.valL
            rw [er] at hr8 ⊢
            have R8 := Lib.hid hr8
            clear ho8 hr8 er
            go_wp2_with fail
            refine hK.out _ _ (HKEEP.out _ (hHeld.1.trans (hb8.mono hHeld.1.size))) (fun hNew => ?_)
            clear hb8
            clear hK K hHeld
            have hHeld := hNew
            clear hNew
            try simp only [Act.put, List.getElem_toArray, List.getElem_cons_zero, List.getElem_cons_succ, List.setIfInBounds_toArray, List.set_cons_zero, List.set_cons_succ]
            refine wpAnyH_ready (rs := [8]) (by kernel_rfl) (by simp) ?_
            refine AllReadyH.cons rfl (fun K hK => ?_) AllReadyH.nil
            go_simp
            go_at_call 32
            refine (C32b.out _ _ hHeld.1 R8.out).mono ?_
            rintro e w7 ⟨rfl, hb7⟩
            go_wp2_with fail
            refine hK.out _ _ (HKEEP.out _ (hHeld.1.trans (hb7.mono hHeld.1.size))) (fun hNew => ?_)
            clear hb7
            clear hK K hHeld
            have hHeld := hNew
            clear hNew
            try simp only [Act.put, List.getElem_toArray, List.getElem_cons_zero, List.getElem_cons_succ, List.setIfInBounds_toArray, List.set_cons_zero, List.set_cons_succ]
            refine wpAnyH_take (i := 9) (v := ?_) rfl (by kernel_rfl) (by kernel_rfl) (by kernel_rfl) (fun _ _ _ h => h) (Or.inl ⟨by rfl, ?_⟩) (by assumption) ?_
            rotate_left; · (intro w hSw; (try dsimp only at hSw); go_simp; try with_reducible rfl)
            try simp only [Act.put, List.getElem_toArray, List.getElem_cons_zero, List.getElem_cons_succ, List.setIfInBounds_toArray, List.set_cons_zero, List.set_cons_succ]
            refine wpAnyH_take (i := 10) (v := ?_) rfl (by kernel_rfl) (by kernel_rfl) (by kernel_rfl) (fun _ _ _ h => h) (Or.inl ⟨by rfl, ?_⟩) (by assumption) ?_
            rotate_left; · (intro w hSw; (try dsimp only at hSw); go_simp; try with_reducible rfl)
            try simp only [Act.put, List.getElem_toArray, List.getElem_cons_zero, List.getElem_cons_succ, List.setIfInBounds_toArray, List.set_cons_zero, List.set_cons_succ]
            refine wpAnyH_done (by kernel_rfl) ?_ _
            go_wp2
            go_roundg g2
            case measure => omega
            case rel => exact ⟨k + 1, _, by omega, by go_num, rfl, by rw [HST.out, HZ.out.1]; rfl, hbn.trans (hHeld.1.mono zn)⟩

end Go.Proofs.Ytapjgjjmlbhanaa
