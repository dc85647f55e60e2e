/- within, distinct. -/
import Derived.Test.YtijcicgbhcphjaaK1
namespace Go.Proofs.Ytijcicgbhcphjaa
open Go.RowKit Go.Lib Go.ChangeMaps
set_option linter.unusedSimpArgs false

set_option maxRecDepth 100000 in
theorem within_any (n lo hi : Int) (w : World) :
    Calls Try.prog 38 #[.int .i64 n, .int .i64 lo, .int .i64 hi] w fun e w' => e = .returned (.bool (decide (lo ≤ n ∧ n ≤ hi))) ∧ w = w' := by
  obtain ⟨r, hr⟩ : ∃ r, r = decide (lo ≤ n ∧ n ≤ hi) := ⟨_, rfl⟩
  rw [← hr]
  have HR := Lib.hid hr
  clear hr
  go_enter Try.func38, Try.ntmps38
  by_cases k1 : lo ≤ n
  · have q1 : decide (lo ≤ n) = true := decide_eq_true k1
    by_cases k2 : n ≤ hi
    · have q2 : decide (n ≤ hi) = true := decide_eq_true k2
      obtain rfl : r = true := by rw [HR.out]; exact decide_eq_true ⟨k1, k2⟩
      clear k1 k2
      go_wp2
      go_ret
      exact ⟨rfl, rfl⟩
    · have q2 : decide (n ≤ hi) = false := decide_eq_false k2
      obtain rfl : r = false := by rw [HR.out]; exact decide_eq_false fun h => k2 h.2
      clear k1 k2
      go_wp2
      go_ret
      exact ⟨rfl, rfl⟩
  · have q1 : decide (lo ≤ n) = false := decide_eq_false k1
    obtain rfl : r = false := by rw [HR.out]; exact decide_eq_false fun h => k1 h.1
    clear k1
    go_wp2
    go_ret
    exact ⟨rfl, rfl⟩

def DAt (free : Bool) (lo hi : Int) (zs : List Int) (i : Nat) : Prop := (free = true ∧ zs.getD i 0 = -1) ∨ ((lo ≤ zs.getD i 0 ∧ zs.getD i 0 ≤ hi) ∧ zs.getD i 0 ∉ zs.take i)
instance (free : Bool) (lo hi : Int) (zs : List Int) (i : Nat) : Decidable (DAt free lo hi zs i) := inferInstanceAs (Decidable (_ ∨ _))
def DOk (free : Bool) (lo hi : Int) (zs : List Int) : Prop := ∀ i, i < zs.length → DAt free lo hi zs i
instance (free : Bool) (lo hi : Int) (zs : List Int) : Decidable (DOk free lo hi zs) := inferInstanceAs (Decidable (∀ i, i < zs.length → _))

theorem atOk_iff (n : Int) (zs : List Int) : AtOk n zs ↔ DOk true 0 (n - 1) zs := by
  have key : ∀ m, m ≤ zs.length → (AtOk n (zs.take m) ↔ ∀ i, i < m → DAt true 0 (n - 1) zs i) := by
    intro m
    induction m with
    | zero => intro _; simp [AtOk]
    | succ m ih =>
      intro hm
      rw [atOk_snoc n zs m (by omega), ih (by omega)]
      have hd : DAt true 0 (n - 1) zs m ↔ (zs[m] = -1 ∨ ((0 ≤ zs[m] ∧ zs[m] < n) ∧ zs[m] ∉ zs.take m)) := by
        unfold DAt
        rw [getD_at zs m 0 (by omega)]
        constructor
        · rintro (⟨_, h⟩ | ⟨h1, h2⟩)
          · exact .inl h
          · exact .inr ⟨by omega, h2⟩
        · rintro (h | ⟨h1, h2⟩)
          · exact .inl ⟨rfl, h⟩
          · exact .inr ⟨by omega, h2⟩
      rw [← hd]
      constructor
      · rintro ⟨h1, h2⟩ i hi
        by_cases e : i = m
        · subst e; exact h2
        · exact h1 i (by omega)
      · exact fun h => ⟨fun i hi => h i (by omega), h m (by omega)⟩
  have := key zs.length (Nat.le_refl _)
  rw [List.take_length] at this
  exact this
theorem lostOk_iff (n : Int) (zs : List Int) : LostOk n zs ↔ DOk false 0 (n - 1) zs := by
  have key : ∀ m, m ≤ zs.length → (LostOk n (zs.take m) ↔ ∀ i, i < m → DAt false 0 (n - 1) zs i) := by
    intro m
    induction m with
    | zero => intro _; simp [LostOk]
    | succ m ih =>
      intro hm
      rw [lostOk_snoc n zs m (by omega), ih (by omega)]
      have hd : DAt false 0 (n - 1) zs m ↔ ((0 ≤ zs[m] ∧ zs[m] < n) ∧ zs[m] ∉ zs.take m) := by
        unfold DAt
        rw [getD_at zs m 0 (by omega)]
        constructor
        · rintro (⟨h, _⟩ | ⟨h1, h2⟩)
          · cases h
          · exact ⟨by omega, h2⟩
        · rintro ⟨h1, h2⟩
          exact .inr ⟨by omega, h2⟩
      rw [← hd]
      constructor
      · rintro ⟨h1, h2⟩ i hi
        by_cases e : i = m
        · subst e; exact h2
        · exact h1 i (by omega)
      · exact fun h => ⟨fun i hi => h i (by omega), h m (by omega)⟩
  have := key zs.length (Nat.le_refl _)
  rw [List.take_length] at this
  exact this

set_option maxRecDepth 100000 in
set_option maxHeartbeats 4000000 in
theorem distinct_any (v : Value) (zs : List Int) (lo hi : Int) (free : Bool) (w : World) (hv : ReadsI w v zs) :
    Calls Try.prog 39 #[v, .int .i64 lo, .int .i64 hi, .bool free] w fun e w' => e = .returned (.bool (decide (DOk free lo hi zs))) ∧ w = w' := by
  obtain ⟨ao, c, b, off, rfl, hl, hm, hcell⟩ := hv.at
  have HC := Lib.hid hcell
  clear hcell hv
  obtain ⟨r, hr⟩ : ∃ r, r = decide (DOk free lo hi zs) := ⟨_, rfl⟩
  rw [← hr]
  have HR := Lib.hid hr
  have CW := Lib.hid (fun n => within_any n lo hi w)
  clear hr
  go_enter Try.func39, Try.ntmps39
  go_wp2
  go_loop [15, 9, 10, 12] (fun v15 _ _ _ => ∃ j : Nat, j ≤ zs.length ∧ v15 = .int .i64 j ∧ ∀ i, i < j → DAt free lo hi zs i) (fun v15 _ _ _ => zs.length - (intOf v15).toNat)
  case atStart => exact ⟨0, Nat.zero_le _, rfl, fun i hi => by omega⟩
  case round =>
    obtain ⟨j, hj, rfl, hok⟩ := hrel
    have HK := Lib.hid hok
    clear hok
    by_cases hlt : j < zs.length
    · obtain ⟨e1, e2⟩ := HC.out j hlt
      subst e1
      have hno : ¬ ((free = true ∧ zs.getD j 0 = -1) ∨ ((lo ≤ zs.getD j 0 ∧ zs.getD j 0 ≤ hi) ∧ zs.getD j 0 ∉ zs.take j)) → r = false := fun h => by rw [HR.out]; exact decide_eq_false fun hh => h (hh j hlt)
      have hyes : ((free = true ∧ zs.getD j 0 = -1) ∨ ((lo ≤ zs.getD j 0 ∧ zs.getD j 0 ≤ hi) ∧ zs.getD j 0 ∉ zs.take j)) → ∀ i, i < j + 1 → DAt free lo hi zs i := fun h i hi => by
        by_cases e : i = j
        · subst e; exact h
        · exact HK.out i (by omega)
      have HNO := Lib.hid hno
      have HYES := Lib.hid hyes
      have hjc : j ≤ c := by omega
      clear hno hyes
      generalize zs.getD j 0 = y at *
      have CWY := Lib.hid (CW.out y)
      by_cases k0 : free = true ∧ y = -1
      · obtain ⟨rfl, rfl⟩ := k0
        have h1 := HYES.out (.inl ⟨rfl, rfl⟩)
        have H1 := Lib.hid h1
        clear h1
        go_wp2
        go_round
        case rel => exact ⟨j + 1, by omega, by go_num, H1.out⟩
        case measure => simp [intOf]; omega
      · have hskip : (free && (y == -1)) = false := by
          cases free with
          | false => rfl
          | true => simpa using k0
        have K0 := Lib.hid k0
        have hbody : ∀ f : Bool, (f && (y == -1)) = false → f = false ∨ (f = true ∧ (y == -1) = false) := fun f h => by cases f with | false => exact .inl rfl | true => exact .inr ⟨rfl, by simpa using h⟩
        have hfr := hbody free hskip
        clear hbody hskip k0
        by_cases k1 : lo ≤ y ∧ y ≤ hi
        · rw [decide_eq_true k1] at CWY
          have K1 := Lib.hid k1
          clear k1
          rcases hfr with rfl | ⟨rfl, q⟩
          · skip
            go_wp2_with fail
            refine CWY.out.mono ?_
            rintro e w3 ⟨rfl, rfl⟩
            go_wp2
            go_loop [34, 12] (fun v34 _ => ∃ i : Nat, i ≤ j ∧ v34 = .int .i64 i ∧ y ∉ zs.take i) (fun v34 _ => j - (intOf v34).toNat)
            case atStart => exact ⟨0, Nat.zero_le _, rfl, by simp⟩
            case round =>
              obtain ⟨i, hi', rfl, hni⟩ := hrel
              have HNI := Lib.hid hni
              clear hni
              by_cases hlti : i < j
              · have hil : i < zs.length := by omega
                obtain ⟨-, d2⟩ := HC.out i hil
                have hse := mem_take_succ zs y i hil
                rw [← getD_at zs i 0 hil] at hse
                have HSE := Lib.hid hse
                have hin : zs.getD i 0 ∈ zs.take j := by
                  rw [getD_at _ _ _ hil]
                  exact List.mem_take_iff_getElem.2 ⟨i, by omega, rfl⟩
                have HIN := Lib.hid hin
                clear hse hin
                generalize zs.getD i 0 = x at *
                by_cases hxy : y = x
                · have q9 : (y == x) = true := by simp [hxy]
                  obtain rfl := HNO.out fun h => by
                    rcases h with h | h
                    · exact K0.out h
                    · exact h.2 (hxy ▸ HIN.out)
                  clear hxy
                  go_wp2
                  go_ret
                  exact ⟨rfl, rfl⟩
                · have q9 : (y == x) = false := by simp [hxy]
                  have HXY := Lib.hid hxy
                  clear hxy
                  go_wp2
                  go_round
                  case rel => exact ⟨i + 1, by omega, by go_num, fun h => by rcases HSE.out.1 h with h | h; (exact HNI.out h); (exact HXY.out h)⟩
                  case measure => simp [intOf]; omega
              · have hij : i = j := by omega
                subst hij
                have h1 := HYES.out (.inr ⟨K1.out, HNI.out⟩)
                have H1 := Lib.hid h1
                clear h1
                go_wp2
                go_round
                case rel => exact ⟨i + 1, by omega, by go_num, H1.out⟩
                case measure => simp [intOf]; omega
          · skip
            go_wp2_with fail
            refine CWY.out.mono ?_
            rintro e w3 ⟨rfl, rfl⟩
            go_wp2
            go_loop [34, 12] (fun v34 _ => ∃ i : Nat, i ≤ j ∧ v34 = .int .i64 i ∧ y ∉ zs.take i) (fun v34 _ => j - (intOf v34).toNat)
            case atStart => exact ⟨0, Nat.zero_le _, rfl, by simp⟩
            case round =>
              obtain ⟨i, hi', rfl, hni⟩ := hrel
              have HNI := Lib.hid hni
              clear hni
              by_cases hlti : i < j
              · have hil : i < zs.length := by omega
                obtain ⟨-, d2⟩ := HC.out i hil
                have hse := mem_take_succ zs y i hil
                rw [← getD_at zs i 0 hil] at hse
                have HSE := Lib.hid hse
                have hin : zs.getD i 0 ∈ zs.take j := by
                  rw [getD_at _ _ _ hil]
                  exact List.mem_take_iff_getElem.2 ⟨i, by omega, rfl⟩
                have HIN := Lib.hid hin
                clear hse hin
                generalize zs.getD i 0 = x at *
                by_cases hxy : y = x
                · have q9 : (y == x) = true := by simp [hxy]
                  obtain rfl := HNO.out fun h => by
                    rcases h with h | h
                    · exact K0.out h
                    · exact h.2 (hxy ▸ HIN.out)
                  clear hxy
                  go_wp2
                  go_ret
                  exact ⟨rfl, rfl⟩
                · have q9 : (y == x) = false := by simp [hxy]
                  have HXY := Lib.hid hxy
                  clear hxy
                  go_wp2
                  go_round
                  case rel => exact ⟨i + 1, by omega, by go_num, fun h => by rcases HSE.out.1 h with h | h; (exact HNI.out h); (exact HXY.out h)⟩
                  case measure => simp [intOf]; omega
              · have hij : i = j := by omega
                subst hij
                have h1 := HYES.out (.inr ⟨K1.out, HNI.out⟩)
                have H1 := Lib.hid h1
                clear h1
                go_wp2
                go_round
                case rel => exact ⟨i + 1, by omega, by go_num, H1.out⟩
                case measure => simp [intOf]; omega
        · rw [decide_eq_false k1] at CWY
          obtain rfl := HNO.out fun h => by
            rcases h with h | h
            · exact K0.out h
            · exact k1 h.1
          clear k1
          rcases hfr with rfl | ⟨rfl, q⟩
          · go_wp2_with fail
            refine CWY.out.mono ?_
            rintro e w3 ⟨rfl, rfl⟩
            go_wp2
            go_ret
            exact ⟨rfl, rfl⟩
          · go_wp2_with fail
            refine CWY.out.mono ?_
            rintro e w3 ⟨rfl, rfl⟩
            go_wp2
            go_ret
            exact ⟨rfl, rfl⟩
    · have hjl : j = zs.length := by omega
      subst hjl
      obtain rfl : r = true := by rw [HR.out]; exact decide_eq_true HK.out
      go_wp2
      go_ret
      exact ⟨rfl, rfl⟩

end Go.Proofs.Ytijcicgbhcphjaa

/- The reference's Valid. -/
namespace Go.Proofs.Ytijcicgbhcphjaa
open Go.RowKit Go.Lib Go.ChangeMaps
set_option linter.unusedSimpArgs false

theorem cntOk_iff (zs : List Int) : CntOk zs ↔ ∀ i, i < zs.length → 0 ≤ zs.getD i 0 ∧ zs.getD i 0 ≤ 1099511627776 := by
  constructor
  · intro h i hi
    rw [getD_at _ _ _ hi]
    exact h _ (List.getElem_mem hi)
  · intro h x hx
    obtain ⟨i, hi, rfl⟩ := List.getElem_of_mem hx
    rw [← getD_at zs i 0 hi]
    exact h i hi
def HAt (n : Int) (hs : List Hp) (k : Nat) : Prop := HpOk n (hs.getD k default) ∧ (hs.getD k default).id ∉ (hs.take k).map Hp.id
theorem hpsOk_iff (n : Int) (hs : List Hp) : HpsOk n hs ↔ ∀ k, k < hs.length → HAt n hs k := by
  have key : ∀ m, m ≤ hs.length → (HpsOk n (hs.take m) ↔ ∀ k, k < m → HAt n hs k) := by
    intro m
    induction m with
    | zero => intro _; simp [HpsOk]
    | succ m ih =>
      intro hm
      rw [hpsOk_snoc n hs m (by omega), ih (by omega)]
      have hd : HAt n hs m ↔ (HpOk n hs[m] ∧ hs[m].id ∉ (hs.take m).map Hp.id) := by
        unfold HAt
        rw [getD_at hs m default (by omega)]
      rw [← hd]
      constructor
      · rintro ⟨h1, h2⟩ i hi
        by_cases e : i = m
        · subst e; exact h2
        · exact h1 i (by omega)
      · exact fun h => ⟨fun i hi => h i (by omega), h m (by omega)⟩
  have := key hs.length (Nat.le_refl _)
  rw [List.take_length] at this
  exact this
def MAt (V : Vp) (i : Nat) : Prop := (V.mem.getD i default).dev = i ∧ (0 ≤ V.room.getD i 0 ∧ V.room.getD i 0 ≤ 1099511627776) ∧ (0 ≤ V.weight.getD i 0 ∧ V.weight.getD i 0 ≤ 1099511627776)
theorem vOk_iff (V : Vp) : VOk V ↔ (V.mem.length ≤ 12 ∧ V.room.length = V.mem.length ∧ V.weight.length = V.mem.length ∧ V.held.length ≤ 256) ∧ (∀ i, i < V.mem.length → MAt V i) ∧ ∀ k, k < V.held.length → HAt V.mem.length V.held k := by
  unfold VOk FitV MsOk
  rw [cntOk_iff, cntOk_iff, hpsOk_iff]
  constructor
  · rintro ⟨⟨h1, h2⟩, h3, ⟨h4, h5⟩, ⟨h6, h7⟩, h8⟩
    exact ⟨⟨h1, h4, h6, h2⟩, fun i hi => ⟨h3 i hi, h5 i (by omega), h7 i (by omega)⟩, h8⟩
  · rintro ⟨⟨h1, h4, h6, h2⟩, h3, h8⟩
    exact ⟨⟨h1, h2⟩, fun i hi => (h3 i hi).1, ⟨h4, fun i hi => (h3 i (by omega)).2.1⟩, ⟨h6, fun i hi => (h3 i (by omega)).2.2⟩, h8⟩

set_option maxRecDepth 100000 in
set_option maxHeartbeats 8000000 in
theorem valid_ref (v : Value) (V : Vp) (w : World) (hv : VwAt w v V) :
    Calls Try.prog 15 #[v] w fun e w' => e = .returned (.bool (decide (VOk V))) ∧ Below w.heap.size w w' := by
  obtain ⟨mv, hv, rv, wv, rfl, hM, hH, hR, hW⟩ := hv
  obtain ⟨ma, mc, mb, mo, rfl, ml, mm, mcell⟩ := hM.at
  obtain ⟨ha, hc, hb, ho, rfl, hl, hm, hcell⟩ := hH.at
  obtain ⟨ra, rc, rb, ro, rfl, rl1, rm1, rcell⟩ := hR.at
  obtain ⟨wa, wc, wb, wo, rfl, wl1, wm1, wcell⟩ := hW.at
  have MC := Lib.hid mcell
  have HC := Lib.hid hcell
  have RC := Lib.hid rcell
  have WC := Lib.hid wcell
  clear mcell hcell rcell wcell hM hH hR hW
  obtain ⟨r, hr⟩ : ∃ r, r = decide (VOk V) := ⟨_, rfl⟩
  rw [← hr]
  have hno : ¬ ((V.mem.length ≤ 12 ∧ V.room.length = V.mem.length ∧ V.weight.length = V.mem.length ∧ V.held.length ≤ 256) ∧ (∀ i, i < V.mem.length → MAt V i) ∧ ∀ k, k < V.held.length → HAt V.mem.length V.held k) → r = false := fun h => by rw [hr]; exact decide_eq_false fun hh => h ((vOk_iff V).1 hh)
  have hyes : ((V.mem.length ≤ 12 ∧ V.room.length = V.mem.length ∧ V.weight.length = V.mem.length ∧ V.held.length ≤ 256) ∧ (∀ i, i < V.mem.length → MAt V i) ∧ ∀ k, k < V.held.length → HAt V.mem.length V.held k) → r = true := fun h => by rw [hr]; exact decide_eq_true ((vOk_iff V).2 h)
  have HNO := Lib.hid hno
  have HYES := Lib.hid hyes
  clear hno hyes hr
  go_enter Try.func15, Try.ntmps15
  by_cases a0 : V.mem.length ≤ 12
  rotate_left
  · obtain rfl := HNO.out fun h => a0 h.1.1
    have q0 : decide (12 < (V.mem.length : Int)) = true := decide_eq_true (by omega)
    clear a0
    go_wp2
    go_ret
    exact ⟨rfl, by (repeat' (first | (with_reducible exact Below.refl _ _) | (with_reducible assumption) | (with_reducible refine Below.alloc ?_ ?_ _) | (with_reducible refine Below.drew ?_) | (with_reducible refine below_drewN ?_ _) | (with_reducible refine Below.setCell ?_ ?_ _) | (with_reducible refine below_step ?_ (by with_reducible assumption) ?_) | go_size))⟩
  have q0 : decide (12 < (V.mem.length : Int)) = false := decide_eq_false (by omega)
  by_cases a1 : V.room.length = V.mem.length
  rotate_left
  · obtain rfl := HNO.out fun h => a1 h.1.2.1
    have q1 : ((V.room.length : Int) != V.mem.length) = true := by simp; omega
    clear a1
    go_wp2
    go_ret
    exact ⟨rfl, by (repeat' (first | (with_reducible exact Below.refl _ _) | (with_reducible assumption) | (with_reducible refine Below.alloc ?_ ?_ _) | (with_reducible refine Below.drew ?_) | (with_reducible refine below_drewN ?_ _) | (with_reducible refine Below.setCell ?_ ?_ _) | (with_reducible refine below_step ?_ (by with_reducible assumption) ?_) | go_size))⟩
  have A1 := Lib.hid a1
  have q1 : ((V.room.length : Int) != V.mem.length) = false := by simp; omega
  clear a1
  by_cases a2 : V.weight.length = V.mem.length
  rotate_left
  · obtain rfl := HNO.out fun h => a2 h.1.2.2.1
    have q2 : ((V.weight.length : Int) != V.mem.length) = true := by simp; omega
    clear a2
    go_wp2
    go_ret
    exact ⟨rfl, by (repeat' (first | (with_reducible exact Below.refl _ _) | (with_reducible assumption) | (with_reducible refine Below.alloc ?_ ?_ _) | (with_reducible refine Below.drew ?_) | (with_reducible refine below_drewN ?_ _) | (with_reducible refine Below.setCell ?_ ?_ _) | (with_reducible refine below_step ?_ (by with_reducible assumption) ?_) | go_size))⟩
  have A2 := Lib.hid a2
  have q2 : ((V.weight.length : Int) != V.mem.length) = false := by simp; omega
  clear a2
  by_cases a3 : V.held.length ≤ 256
  rotate_left
  · obtain rfl := HNO.out fun h => a3 h.1.2.2.2
    have q3 : decide (256 < (V.held.length : Int)) = true := decide_eq_true (by omega)
    clear a3
    go_wp2
    go_ret
    exact ⟨rfl, by (repeat' (first | (with_reducible exact Below.refl _ _) | (with_reducible assumption) | (with_reducible refine Below.alloc ?_ ?_ _) | (with_reducible refine Below.drew ?_) | (with_reducible refine below_drewN ?_ _) | (with_reducible refine Below.setCell ?_ ?_ _) | (with_reducible refine below_step ?_ (by with_reducible assumption) ?_) | go_size))⟩
  have q3 : decide (256 < (V.held.length : Int)) = false := decide_eq_false (by omega)
  have hb0 : Below w.heap.size w (w.alloc (.cells #[.slice ma V.mem.length mc, .slice ha V.held.length hc, .slice ra V.room.length rc, .slice wa V.weight.length wc] 33)) := (Below.refl _ _).alloc (Nat.le_refl _) _
  have hbx := heap_alloc_new w (.cells #[.slice ma V.mem.length mc, .slice ha V.held.length hc, .slice ra V.room.length rc, .slice wa V.weight.length wc] 33)
  have hbs : w.heap.size < (w.alloc (.cells #[.slice ma V.mem.length mc, .slice ha V.held.length hc, .slice ra V.room.length rc, .slice wa V.weight.length wc] 33)).heap.size := by rw [World.size_alloc]; omega
  go_wp2
  clear q0 q1 q2 q3
  generalize w.alloc (.cells #[.slice ma V.mem.length mc, .slice ha V.held.length hc, .slice ra V.room.length rc, .slice wa V.weight.length wc] 33) = W0 at *
  go_loopw [39, 4, 5] (fun v39 _ _ wr => ∃ j : Nat, j ≤ V.mem.length ∧ v39 = .int .i64 j ∧ (∀ i, i < j → MAt V i) ∧ Below w.heap.size w wr ∧ wr.heap[w.heap.size]? = some (.cells #[.slice ma V.mem.length mc, .slice ha V.held.length hc, .slice ra V.room.length rc, .slice wa V.weight.length wc] 33)) (fun v39 _ _ _ => V.mem.length - (intOf v39).toNat)
  case atStart => exact ⟨0, Nat.zero_le _, rfl, fun i hi => by omega, hb0, hbx⟩
  case round =>
    obtain ⟨j, hj, rfl, hall, hbel, hbx⟩ := hrel
    have HA := Lib.hid hall
    have HBX := Lib.hid hbx
    have zr := hbel.size
    have hNl : w.heap.size < wr.heap.size := (Array.getElem?_eq_some_iff.1 hbx).1
    have d1 := cell_of_row wr _ 1 _ _ _ hbx
    have d2 := cell_of_row wr _ 2 _ _ _ hbx
    have d3 := cell_of_row wr _ 3 _ _ _ hbx
    clear hall hb0 hbs hbx
    by_cases hlt : j < V.mem.length
    · obtain ⟨e1, e2, e3, e4, e5, e6⟩ := MC.out j hlt
      subst e1
      have hjr : j < V.room.length := by rw [A1.out]; exact hlt
      have hjw : j < V.weight.length := by rw [A2.out]; exact hlt
      obtain ⟨g1, g2⟩ := RC.out j hjr
      subst g1
      obtain ⟨g3, g4⟩ := WC.out j hjw
      subst g3
      rw [← hbel.cell (p := ⟨mb, _, none⟩) (cell_lt e2)] at e2
      rw [← hbel.cell (p := ⟨mb, _, none⟩) (cell_lt e3)] at e3
      rw [← hbel.cell (p := ⟨mb, _, none⟩) (cell_lt e4)] at e4
      rw [← hbel.cell (p := ⟨mb, _, none⟩) (cell_lt e5)] at e5
      rw [← hbel.cell (p := ⟨mb, _, none⟩) (cell_lt e6)] at e6
      rw [← hbel.cell (p := ⟨rb, _, none⟩) (cell_lt g2)] at g2
      rw [← hbel.cell (p := ⟨wb, _, none⟩) (cell_lt g4)] at g4
      have rlt := cell_lt g2
      have wlt := cell_lt g4
      have hbad : ¬ ((V.mem.getD j default).dev = j ∧ (0 ≤ V.room.getD j 0 ∧ V.room.getD j 0 ≤ 1099511627776) ∧ (0 ≤ V.weight.getD j 0 ∧ V.weight.getD j 0 ≤ 1099511627776)) → r = false := fun h => HNO.out fun hh => h (hh.2.1 j hlt)
      have hgood : ((V.mem.getD j default).dev = j ∧ (0 ≤ V.room.getD j 0 ∧ V.room.getD j 0 ≤ 1099511627776) ∧ (0 ≤ V.weight.getD j 0 ∧ V.weight.getD j 0 ≤ 1099511627776)) → ∀ i, i < j + 1 → MAt V i := fun h i hi => by
        by_cases e : i = j
        · subst e; exact h
        · exact HA.out i (by omega)
      have HBAD := Lib.hid hbad
      have HGOOD := Lib.hid hgood
      clear hbad hgood
      generalize V.room.getD j 0 = x at *
      generalize V.weight.getD j 0 = z at *
      generalize V.mem.getD j default = y at *
      obtain ⟨dv, nm, pb, qu, ex⟩ := y
      simp only at e2 e3 e4 e5 e6 HBAD HGOOD
      have HA2 := Lib.hid (fun o => (Below.refl wr.heap.size wr).alloc (Nat.le_refl _) o)
      have C1 := Lib.hid (fun W => within_any x 0 1099511627776 W)
      have C2 := Lib.hid (fun W => within_any z 0 1099511627776 W)
      by_cases b0 : dv = j
      rotate_left
      · obtain rfl := HBAD.out fun h => b0 h.1
        have p0 : (dv != (j : Int)) = true := by simpa using b0
        clear b0
        go_wp2
        go_ret
        exact ⟨rfl, by (repeat' (first | (with_reducible exact Below.refl _ _) | (with_reducible assumption) | (with_reducible refine Below.alloc ?_ ?_ _) | (with_reducible refine Below.drew ?_) | (with_reducible refine below_drewN ?_ _) | (with_reducible refine Below.setCell ?_ ?_ _) | (with_reducible refine below_step ?_ (by with_reducible assumption) ?_) | go_size))⟩
      have p0 : (dv != (j : Int)) = false := by simpa using b0
      by_cases b1 : 0 ≤ x ∧ x ≤ 1099511627776
      rotate_left
      · obtain rfl := HBAD.out fun h => b1 h.2.1
        rw [decide_eq_false b1] at C1
        clear b0 b1
        go_wp2_with fail
        refine (C1.out _).mono ?_
        rintro e w9 ⟨rfl, rfl⟩
        go_wp2
        go_ret
        exact ⟨rfl, by (repeat' (first | (with_reducible exact Below.refl _ _) | (with_reducible assumption) | (with_reducible refine Below.alloc ?_ ?_ _) | (with_reducible refine Below.drew ?_) | (with_reducible refine below_drewN ?_ _) | (with_reducible refine Below.setCell ?_ ?_ _) | (with_reducible refine below_step ?_ (by with_reducible assumption) ?_) | go_size))⟩
      rw [decide_eq_true b1] at C1
      by_cases b2 : 0 ≤ z ∧ z ≤ 1099511627776
      rotate_left
      · obtain rfl := HBAD.out fun h => b2 h.2.2
        rw [decide_eq_false b2] at C2
        clear b0 b1 b2
        go_wp2_with fail
        refine (C1.out _).mono ?_
        rintro e w9 ⟨rfl, rfl⟩
        go_wp2_with fail
        refine (C2.out _).mono ?_
        rintro e w9 ⟨rfl, rfl⟩
        go_wp2
        go_ret
        exact ⟨rfl, by (repeat' (first | (with_reducible exact Below.refl _ _) | (with_reducible assumption) | (with_reducible refine Below.alloc ?_ ?_ _) | (with_reducible refine Below.drew ?_) | (with_reducible refine below_drewN ?_ _) | (with_reducible refine Below.setCell ?_ ?_ _) | (with_reducible refine below_step ?_ (by with_reducible assumption) ?_) | go_size))⟩
      rw [decide_eq_true b2] at C2
      have h1 := HGOOD.out ⟨b0, b1, b2⟩
      have H1 := Lib.hid h1
      have hk := Lib.hid ((HA2.out (.cells #[.int .i64 dv, .string nm, .string pb, .int .i64 qu, .bool ex] 81)).block _ hNl |>.trans HBX.out)
      clear h1 b0 b1 b2
      go_wp2_with fail
      refine (C1.out _).mono ?_
      rintro e w9 ⟨rfl, rfl⟩
      go_wp2_with fail
      refine (C2.out _).mono ?_
      rintro e w9 ⟨rfl, rfl⟩
      go_wp2
      go_roundw
      case rel => exact ⟨j + 1, by omega, by go_num, H1.out, by (repeat' (first | (with_reducible exact Below.refl _ _) | (with_reducible assumption) | (with_reducible refine Below.alloc ?_ ?_ _) | (with_reducible refine Below.drew ?_) | (with_reducible refine below_drewN ?_ _) | (with_reducible refine Below.setCell ?_ ?_ _) | (with_reducible refine below_step ?_ (by with_reducible assumption) ?_) | go_size)), hk.out⟩
      case measure => simp [intOf]; omega
    · have hjl : j = V.mem.length := by omega
      have hall := HA.out
      rw [hjl] at hall
      have HALL := Lib.hid hall
      have HJL := Lib.hid hjl
      clear hall HA hlt hj d2 d3
      have hbx := HBX.out
      rw [HJL.out]
      go_wp2
      clear d1
      go_loopw [70, 6, 7, 8] (fun v70 _ _ _ wr => ∃ k : Nat, k ≤ V.held.length ∧ v70 = .int .i64 k ∧ (∀ i, i < k → HAt V.mem.length V.held i) ∧ Below w.heap.size w wr ∧ wr.heap[w.heap.size]? = some (.cells #[.slice ma V.mem.length mc, .slice ha V.held.length hc, .slice ra V.room.length rc, .slice wa V.weight.length wc] 33)) (fun v70 _ _ _ _ => V.held.length - (intOf v70).toNat)
      case atStart => exact ⟨0, Nat.zero_le _, rfl, fun i hi => by omega, hbel, hbx⟩
      case round =>
        clear hbel zr hNl hbx HBX
        obtain ⟨k, hk, rfl, hall, hbel, hbx⟩ := hrel
        have HA := Lib.hid hall
        have HBX := Lib.hid hbx
        have zr := hbel.size
        have hNl : w.heap.size < wr.heap.size := (Array.getElem?_eq_some_iff.1 hbx).1
        have d1 := cell_of_row wr _ 1 _ _ _ hbx
        clear hall hbx
        by_cases hlt : k < V.held.length
        · obtain ⟨e1, e2, e3, e4, e5, e6, xr, av, e7, e8, hrr, hra⟩ := HC.out k hlt
          subst e1
          obtain ⟨qa, qc, _, _, rfl, -⟩ := hrr.at
          have hrac := hra
          obtain ⟨ua, uc, _, _, rfl, -⟩ := hra.at
          rw [← hbel.cell (p := ⟨hb, _, none⟩) (cell_lt e2)] at e2
          rw [← hbel.cell (p := ⟨hb, _, none⟩) (cell_lt e3)] at e3
          rw [← hbel.cell (p := ⟨hb, _, none⟩) (cell_lt e4)] at e4
          rw [← hbel.cell (p := ⟨hb, _, none⟩) (cell_lt e5)] at e5
          rw [← hbel.cell (p := ⟨hb, _, none⟩) (cell_lt e6)] at e6
          rw [← hbel.cell (p := ⟨hb, _, none⟩) (cell_lt e7)] at e7
          rw [← hbel.cell (p := ⟨hb, _, none⟩) (cell_lt e8)] at e8
          have hbad : ¬ HAt V.mem.length V.held k → r = false := fun h => HNO.out fun hh => h (hh.2.2 k hlt)
          have hgood : HAt V.mem.length V.held k → ∀ i, i < k + 1 → HAt V.mem.length V.held i := fun h i hi => by
            by_cases e : i = k
            · subst e; exact h
            · exact HA.out i (by omega)
          have hdef : HAt V.mem.length V.held k ↔ (HpOk V.mem.length (V.held.getD k default) ∧ (V.held.getD k default).id ∉ (V.held.take k).map Hp.id) := Iff.rfl
          have hcap : k ≤ hc := by omega
          clear hrr hra
          generalize V.held.getD k default = y at *
          obtain ⟨id, vault, block, data, total, refs, at_⟩ := y
          have hd2 : HAt V.mem.length V.held k ↔ (id.size = 32 ∧ (1 ≤ data ∧ data ≤ 8) ∧ (data ≤ total ∧ total ≤ 16) ∧ (1 ≤ block ∧ block ≤ 65536) ∧ (at_.length : Int) = total ∧ AtOk V.mem.length at_ ∧ id ∉ (V.held.take k).map Hp.id) := by
            rw [hdef]
            unfold HpOk
            simp only
            constructor
            · rintro ⟨⟨h1, h2, h3, h4, h5, h6⟩, h7⟩
              exact ⟨h1, h2, h3, h4, h5, h6, h7⟩
            · rintro ⟨h1, h2, h3, h4, h5, h6, h7⟩
              exact ⟨⟨h1, h2, h3, h4, h5, h6⟩, h7⟩
          rw [hd2] at hbad hgood
          have C4 := Lib.hid (fun W (hW : Below wr.heap.size wr W) => distinct_any _ at_ 0 ((V.mem.length : Int) - 1) true W ((hrac.below hbel).below hW))
          simp only at e2 e3 e4 e5 e6 C4
          generalize refs.length = ql at *
          generalize at_.length = ul at *
          have HBAD := Lib.hid hbad
          have HGOOD := Lib.hid hgood
          have HB2 := Lib.hid (((Below.refl wr.heap.size wr).alloc (Nat.le_refl _) (.cells #[.string id, .int .i64 vault, .int .i64 block, .int .i64 data, .int .i64 total, .slice qa ql qc, .slice ua ul uc] 87)).alloc (by rw [World.size_alloc]; omega) (.cells #[.string id, .int .i64 vault, .int .i64 block, .int .i64 data, .int .i64 total, .slice qa ql qc] 50))
          have C1 := Lib.hid (fun W => within_any data 1 8 W)
          have C2 := Lib.hid (fun W => within_any total data 16 W)
          have C3 := Lib.hid (fun W => within_any block 1 65536 W)
          clear hbad hgood hdef hd2 hrac
          by_cases b0 : id.size = 32
          rotate_left
          · obtain rfl := HBAD.out fun h => b0 h.1
            have p0 : ((id.size : Int) != 32) = true := by simp; omega
            clear b0
            go_wp2
            go_ret
            exact ⟨rfl, by (repeat' (first | (with_reducible exact Below.refl _ _) | (with_reducible assumption) | (with_reducible refine Below.alloc ?_ ?_ _) | (with_reducible refine Below.drew ?_) | (with_reducible refine below_drewN ?_ _) | (with_reducible refine Below.setCell ?_ ?_ _) | (with_reducible refine below_step ?_ (by with_reducible assumption) ?_) | go_size))⟩
          have p0 : ((id.size : Int) != 32) = false := by simp; omega
          by_cases b1 : (1 ≤ data ∧ data ≤ 8)
          rotate_left
          · obtain rfl := HBAD.out fun h => b1 h.2.1
            rw [decide_eq_false b1] at C1
            clear b1 b0
            go_wp2_with fail
            refine (C1.out _).mono ?_
            rintro e w9 ⟨rfl, rfl⟩
            go_wp2
            go_ret
            exact ⟨rfl, by (repeat' (first | (with_reducible exact Below.refl _ _) | (with_reducible assumption) | (with_reducible refine Below.alloc ?_ ?_ _) | (with_reducible refine Below.drew ?_) | (with_reducible refine below_drewN ?_ _) | (with_reducible refine Below.setCell ?_ ?_ _) | (with_reducible refine below_step ?_ (by with_reducible assumption) ?_) | go_size))⟩
          rw [decide_eq_true b1] at C1
          by_cases b2 : (data ≤ total ∧ total ≤ 16)
          rotate_left
          · obtain rfl := HBAD.out fun h => b2 h.2.2.1
            rw [decide_eq_false b2] at C2
            clear b2 b0
            go_wp2_with fail
            refine (C1.out _).mono ?_
            rintro e w9 ⟨rfl, rfl⟩
            go_wp2_with fail
            refine (C2.out _).mono ?_
            rintro e w9 ⟨rfl, rfl⟩
            go_wp2
            go_ret
            exact ⟨rfl, by (repeat' (first | (with_reducible exact Below.refl _ _) | (with_reducible assumption) | (with_reducible refine Below.alloc ?_ ?_ _) | (with_reducible refine Below.drew ?_) | (with_reducible refine below_drewN ?_ _) | (with_reducible refine Below.setCell ?_ ?_ _) | (with_reducible refine below_step ?_ (by with_reducible assumption) ?_) | go_size))⟩
          rw [decide_eq_true b2] at C2
          by_cases b3 : (1 ≤ block ∧ block ≤ 65536)
          rotate_left
          · obtain rfl := HBAD.out fun h => b3 h.2.2.2.1
            rw [decide_eq_false b3] at C3
            clear b3 b0
            go_wp2_with fail
            refine (C1.out _).mono ?_
            rintro e w9 ⟨rfl, rfl⟩
            go_wp2_with fail
            refine (C2.out _).mono ?_
            rintro e w9 ⟨rfl, rfl⟩
            go_wp2_with fail
            refine (C3.out _).mono ?_
            rintro e w9 ⟨rfl, rfl⟩
            go_wp2
            go_ret
            exact ⟨rfl, by (repeat' (first | (with_reducible exact Below.refl _ _) | (with_reducible assumption) | (with_reducible refine Below.alloc ?_ ?_ _) | (with_reducible refine Below.drew ?_) | (with_reducible refine below_drewN ?_ _) | (with_reducible refine Below.setCell ?_ ?_ _) | (with_reducible refine below_step ?_ (by with_reducible assumption) ?_) | go_size))⟩
          rw [decide_eq_true b3] at C3
          by_cases b4 : (ul : Int) = total
          rotate_left
          · obtain rfl := HBAD.out fun h => b4 h.2.2.2.2.1
            have p4 : ((ul : Int) != total) = true := by simpa using b4
            clear b4 b0 b1 b2 b3
            go_wp2_with fail
            refine (C1.out _).mono ?_
            rintro e w9 ⟨rfl, rfl⟩
            go_wp2_with fail
            refine (C2.out _).mono ?_
            rintro e w9 ⟨rfl, rfl⟩
            go_wp2_with fail
            refine (C3.out _).mono ?_
            rintro e w9 ⟨rfl, rfl⟩
            go_wp2
            go_ret
            exact ⟨rfl, by (repeat' (first | (with_reducible exact Below.refl _ _) | (with_reducible assumption) | (with_reducible refine Below.alloc ?_ ?_ _) | (with_reducible refine Below.drew ?_) | (with_reducible refine below_drewN ?_ _) | (with_reducible refine Below.setCell ?_ ?_ _) | (with_reducible refine below_step ?_ (by with_reducible assumption) ?_) | go_size))⟩
          have p4 : ((ul : Int) != total) = false := by simpa using b4
          have B4 := Lib.hid b4
          clear b4
          by_cases b5 : DOk true 0 ((V.mem.length : Int) - 1) at_
          rotate_left
          · obtain rfl := HBAD.out fun h => b5 ((atOk_iff _ _).1 h.2.2.2.2.2.1)
            rw [decide_eq_false b5] at C4
            clear b5 b0 b1 b2 b3
            go_wp2_with fail
            refine (C1.out _).mono ?_
            rintro e w9 ⟨rfl, rfl⟩
            go_wp2_with fail
            refine (C2.out _).mono ?_
            rintro e w9 ⟨rfl, rfl⟩
            go_wp2_with fail
            refine (C3.out _).mono ?_
            rintro e w9 ⟨rfl, rfl⟩
            go_wp2_with fail
            refine (C4.out _ HB2.out).mono ?_
            rintro e w9 ⟨rfl, rfl⟩
            go_wp2
            go_ret
            exact ⟨rfl, by (repeat' (first | (with_reducible exact Below.refl _ _) | (with_reducible assumption) | (with_reducible refine Below.alloc ?_ ?_ _) | (with_reducible refine Below.drew ?_) | (with_reducible refine below_drewN ?_ _) | (with_reducible refine Below.setCell ?_ ?_ _) | (with_reducible refine below_step ?_ (by with_reducible assumption) ?_) | go_size))⟩
          rw [decide_eq_true b5] at C4
          have hbx0 := Lib.hid HBX.out
          have HNO2 := Lib.hid (fun (hn : ¬ id ∉ (V.held.take k).map Hp.id) => HBAD.out fun h => hn h.2.2.2.2.2.2)
          have hgood2 := Lib.hid (fun (hn : id ∉ (V.held.take k).map Hp.id) => HGOOD.out ⟨b0, b1, b2, b3, B4.out, (atOk_iff _ _).2 b5, hn⟩)
          clear b0 b1 b2 b3 b5
          go_wp2_with fail
          refine (C1.out _).mono ?_
          rintro e w9 ⟨rfl, rfl⟩
          go_wp2_with fail
          refine (C2.out _).mono ?_
          rintro e w9 ⟨rfl, rfl⟩
          go_wp2_with fail
          refine (C3.out _).mono ?_
          rintro e w9 ⟨rfl, rfl⟩
          go_wp2_with fail
          refine (C4.out _ HB2.out).mono ?_
          rintro e w9 ⟨rfl, rfl⟩
          go_wp2
          have hb2 := HB2.out
          have s0 : ((wr.alloc (.cells #[.string id, .int .i64 vault, .int .i64 block, .int .i64 data, .int .i64 total, .slice qa ql qc, .slice ua ul uc] 87)).alloc (.cells #[.string id, .int .i64 vault, .int .i64 block, .int .i64 data, .int .i64 total, .slice qa ql qc] 50)).cell? ⟨wr.heap.size + 1, 0, none⟩ = some (.string id) := by
            have := cell_of_row _ _ 0 _ _ _ (heap_alloc_new (wr.alloc (.cells #[.string id, .int .i64 vault, .int .i64 block, .int .i64 data, .int .i64 total, .slice qa ql qc, .slice ua ul uc] 87)) (.cells #[.string id, .int .i64 vault, .int .i64 block, .int .i64 data, .int .i64 total, .slice qa ql qc] 50))
            rw [World.size_alloc] at this
            exact this
          clear HB2 C1 C2 C3 C4 p0 p4 HBAD HA HBX d1 e2 e3 e4 e5 e6 e7 e8
          obtain ⟨wo, hwo⟩ : ∃ wo, wo = wr := ⟨_, rfl⟩
          subst hwo
          generalize (wo.alloc (.cells #[.string id, .int .i64 vault, .int .i64 block, .int .i64 data, .int .i64 total, .slice qa ql qc, .slice ua ul uc] 87)).alloc (.cells #[.string id, .int .i64 vault, .int .i64 block, .int .i64 data, .int .i64 total, .slice qa ql qc] 50) = W2 at *
          have hbW2 := hbel.trans (hb2.mono zr)
          have hbx2 := (hb2.block _ hNl).trans hbx0.out
          go_loopw [122, 10] (fun v122 _ wi => ∃ i : Nat, i ≤ k ∧ v122 = .int .i64 i ∧ id ∉ (V.held.take i).map Hp.id ∧ Below W2.heap.size W2 wi) (fun v122 _ _ => k - (intOf v122).toNat)
          case atStart => exact ⟨0, Nat.zero_le _, rfl, by simp, Below.refl _ _⟩
          case round =>
            obtain ⟨i, hi, rfl, hni, hbi⟩ := hrel
            have HNI := Lib.hid hni
            have hbw := hbW2.trans (hbi.mono hbW2.size)
            have zi := hbw.size
            have s0i := (hbi.cell (p := ⟨_, 0, none⟩) (cell_lt s0)).trans s0
            have s0l := cell_lt s0i
            clear hni
            by_cases hlti : i < k
            · have hil : i < V.held.length := by omega
              obtain ⟨-, e2, e3, e4, e5, e6, xr, av, e7, e8, hrr, hra⟩ := HC.out i hil
              obtain ⟨qa', qc', _, _, rfl, -⟩ := hrr.at
              obtain ⟨ua', uc', _, _, rfl, -⟩ := hra.at
              rw [← hbw.cell (p := ⟨hb, _, none⟩) (cell_lt e2)] at e2
              rw [← hbw.cell (p := ⟨hb, _, none⟩) (cell_lt e3)] at e3
              rw [← hbw.cell (p := ⟨hb, _, none⟩) (cell_lt e4)] at e4
              rw [← hbw.cell (p := ⟨hb, _, none⟩) (cell_lt e5)] at e5
              rw [← hbw.cell (p := ⟨hb, _, none⟩) (cell_lt e6)] at e6
              rw [← hbw.cell (p := ⟨hb, _, none⟩) (cell_lt e7)] at e7
              rw [← hbw.cell (p := ⟨hb, _, none⟩) (cell_lt e8)] at e8
              have hse : (V.held.take (i + 1)).map Hp.id = (V.held.take i).map Hp.id ++ [(V.held.getD i default).id] := by
                rw [getD_at _ _ _ hil, List.take_succ_eq_append_getElem hil, List.map_append]; rfl
              have hin : (V.held.getD i default).id ∈ (V.held.take k).map Hp.id := by
                rw [getD_at _ _ _ hil]
                exact List.mem_map.2 ⟨_, List.mem_take_iff_getElem.2 ⟨i, by omega, rfl⟩, rfl⟩
              have HSE := Lib.hid hse
              have HIN := Lib.hid hin
              clear hrr hra hse hin
              generalize V.held.getD i default = x at *
              obtain ⟨xid, xvault, xblock, xdata, xtotal, xrefs, xat⟩ := x
              simp only at e2 e3 e4 e5 e6 HSE HIN
              generalize xrefs.length = xql at *
              generalize xat.length = xul at *
              have hq := str_eq xid id
              by_cases hxy : xid = id
              · rw [decide_eq_true hxy] at hq
                obtain rfl := HNO2.out fun hn => hn (hxy ▸ HIN.out)
                clear hxy
                go_wp2
                go_ret
                exact ⟨rfl, by (repeat' (first | (with_reducible exact Below.refl _ _) | (with_reducible assumption) | (with_reducible refine Below.alloc ?_ ?_ _) | (with_reducible refine Below.drew ?_) | (with_reducible refine below_drewN ?_ _) | (with_reducible refine Below.setCell ?_ ?_ _) | (with_reducible refine below_step ?_ (by with_reducible assumption) ?_) | go_size))⟩
              · rw [decide_eq_false hxy] at hq
                have HXY := Lib.hid hxy
                clear hxy
                go_wp2
                go_roundw
                case rel =>
                  refine ⟨i + 1, by omega, by go_num, ?_, by have zz := hbi.size; (repeat' (first | (with_reducible exact Below.refl _ _) | (with_reducible assumption) | (with_reducible refine Below.alloc ?_ ?_ _) | (with_reducible refine Below.drew ?_) | (with_reducible refine below_drewN ?_ _) | (with_reducible refine Below.setCell ?_ ?_ _) | (with_reducible refine below_step ?_ (by with_reducible assumption) ?_) | go_size))⟩
                  rw [HSE.out]
                  exact fun h => by
                    rcases List.mem_append.1 h with h | h
                    · exact HNI.out h
                    · exact HXY.out (List.mem_singleton.1 h).symm
                case measure => simp [intOf]; omega
            · have hik : i = k := by omega
              subst hik
              have h1 := hgood2.out HNI.out
              have H1 := Lib.hid h1
              have hbx3 := (hbi.block _ (by have := hb2.size; omega)).trans hbx2
              have HBX3 := Lib.hid hbx3
              clear h1 hbx3
              go_wp2
              go_roundw
              case rel => exact ⟨i + 1, by omega, by go_num, H1.out, hbw, HBX3.out⟩
              case measure => simp [intOf]; omega
        · have hkl : k = V.held.length := by omega
          have hall := HA.out
          rw [hkl] at hall
          obtain rfl := HYES.out ⟨⟨a0, A1.out, A2.out, a3⟩, HALL.out, hall⟩
          clear hall
          go_wp2
          go_ret
          exact ⟨rfl, hbel⟩

end Go.Proofs.Ytijcicgbhcphjaa
