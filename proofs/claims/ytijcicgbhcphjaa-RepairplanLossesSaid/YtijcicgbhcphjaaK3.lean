/- within, distinct. -/
import Derived.Test.YtijcicgbhcphjaaK2
namespace Go.Proofs.Ytijcicgbhcphjaa
open Go.RowKit Go.Lib Go.ChangeMaps
set_option linter.unusedSimpArgs false

set_option maxRecDepth 100000 in
theorem within_any (n lo hi : Int) (w : World) :
    Calls Try.prog 38 #[.int .i64 n, .int .i64 lo, .int .i64 hi] w fun e w' => e = .returned (.bool (decide (lo ≤ n ∧ n ≤ hi))) ∧ w = w' := by
  obtain ⟨r, hr⟩ : ∃ r, r = decide (lo ≤ n ∧ n ≤ hi) := ⟨_, rfl⟩
  rw [← hr]
  have HR := Lib.hid hr
  clear hr
  go_enter Try.func38, Try.ntmps38
  by_cases k1 : lo ≤ n
  · have q1 : decide (lo ≤ n) = true := decide_eq_true k1
    by_cases k2 : n ≤ hi
    · have q2 : decide (n ≤ hi) = true := decide_eq_true k2
      obtain rfl : r = true := by rw [HR.out]; exact decide_eq_true ⟨k1, k2⟩
      clear k1 k2
      go_wp2
      go_ret
      exact ⟨rfl, rfl⟩
    · have q2 : decide (n ≤ hi) = false := decide_eq_false k2
      obtain rfl : r = false := by rw [HR.out]; exact decide_eq_false fun h => k2 h.2
      clear k1 k2
      go_wp2
      go_ret
      exact ⟨rfl, rfl⟩
  · have q1 : decide (lo ≤ n) = false := decide_eq_false k1
    obtain rfl : r = false := by rw [HR.out]; exact decide_eq_false fun h => k1 h.1
    clear k1
    go_wp2
    go_ret
    exact ⟨rfl, rfl⟩

def DAt (free : Bool) (lo hi : Int) (zs : List Int) (i : Nat) : Prop := (free = true ∧ zs.getD i 0 = -1) ∨ ((lo ≤ zs.getD i 0 ∧ zs.getD i 0 ≤ hi) ∧ zs.getD i 0 ∉ zs.take i)
instance (free : Bool) (lo hi : Int) (zs : List Int) (i : Nat) : Decidable (DAt free lo hi zs i) := inferInstanceAs (Decidable (_ ∨ _))
def DOk (free : Bool) (lo hi : Int) (zs : List Int) : Prop := ∀ i, i < zs.length → DAt free lo hi zs i
instance (free : Bool) (lo hi : Int) (zs : List Int) : Decidable (DOk free lo hi zs) := inferInstanceAs (Decidable (∀ i, i < zs.length → _))

theorem atOk_iff (n : Int) (zs : List Int) : AtOk n zs ↔ DOk true 0 (n - 1) zs := by
  have key : ∀ m, m ≤ zs.length → (AtOk n (zs.take m) ↔ ∀ i, i < m → DAt true 0 (n - 1) zs i) := by
    intro m
    induction m with
    | zero => intro _; simp [AtOk]
    | succ m ih =>
      intro hm
      rw [atOk_snoc n zs m (by omega), ih (by omega)]
      have hd : DAt true 0 (n - 1) zs m ↔ (zs[m] = -1 ∨ ((0 ≤ zs[m] ∧ zs[m] < n) ∧ zs[m] ∉ zs.take m)) := by
        unfold DAt
        rw [getD_at zs m 0 (by omega)]
        constructor
        · rintro (⟨_, h⟩ | ⟨h1, h2⟩)
          · exact .inl h
          · exact .inr ⟨by omega, h2⟩
        · rintro (h | ⟨h1, h2⟩)
          · exact .inl ⟨rfl, h⟩
          · exact .inr ⟨by omega, h2⟩
      rw [← hd]
      constructor
      · rintro ⟨h1, h2⟩ i hi
        by_cases e : i = m
        · subst e; exact h2
        · exact h1 i (by omega)
      · exact fun h => ⟨fun i hi => h i (by omega), h m (by omega)⟩
  have := key zs.length (Nat.le_refl _)
  rw [List.take_length] at this
  exact this
theorem lostOk_iff (n : Int) (zs : List Int) : LostOk n zs ↔ DOk false 0 (n - 1) zs := by
  have key : ∀ m, m ≤ zs.length → (LostOk n (zs.take m) ↔ ∀ i, i < m → DAt false 0 (n - 1) zs i) := by
    intro m
    induction m with
    | zero => intro _; simp [LostOk]
    | succ m ih =>
      intro hm
      rw [lostOk_snoc n zs m (by omega), ih (by omega)]
      have hd : DAt false 0 (n - 1) zs m ↔ ((0 ≤ zs[m] ∧ zs[m] < n) ∧ zs[m] ∉ zs.take m) := by
        unfold DAt
        rw [getD_at zs m 0 (by omega)]
        constructor
        · rintro (⟨h, _⟩ | ⟨h1, h2⟩)
          · cases h
          · exact ⟨by omega, h2⟩
        · rintro ⟨h1, h2⟩
          exact .inr ⟨by omega, h2⟩
      rw [← hd]
      constructor
      · rintro ⟨h1, h2⟩ i hi
        by_cases e : i = m
        · subst e; exact h2
        · exact h1 i (by omega)
      · exact fun h => ⟨fun i hi => h i (by omega), h m (by omega)⟩
  have := key zs.length (Nat.le_refl _)
  rw [List.take_length] at this
  exact this

set_option maxRecDepth 100000 in
set_option maxHeartbeats 4000000 in
theorem distinct_any (v : Value) (zs : List Int) (lo hi : Int) (free : Bool) (w : World) (hv : ReadsI w v zs) :
    Calls Try.prog 39 #[v, .int .i64 lo, .int .i64 hi, .bool free] w fun e w' => e = .returned (.bool (decide (DOk free lo hi zs))) ∧ w = w' := by
  obtain ⟨ao, c, b, off, rfl, hl, hm, hcell⟩ := hv.at
  have HC := Lib.hid hcell
  clear hcell hv
  obtain ⟨r, hr⟩ : ∃ r, r = decide (DOk free lo hi zs) := ⟨_, rfl⟩
  rw [← hr]
  have HR := Lib.hid hr
  have CW := Lib.hid (fun n => within_any n lo hi w)
  clear hr
  go_enter Try.func39, Try.ntmps39
  go_wp2
  go_loop [15, 9, 10, 12] (fun v15 _ _ _ => ∃ j : Nat, j ≤ zs.length ∧ v15 = .int .i64 j ∧ ∀ i, i < j → DAt free lo hi zs i) (fun v15 _ _ _ => zs.length - (intOf v15).toNat)
  case atStart => exact ⟨0, Nat.zero_le _, rfl, fun i hi => by omega⟩
  case round =>
    obtain ⟨j, hj, rfl, hok⟩ := hrel
    have HK := Lib.hid hok
    clear hok
    by_cases hlt : j < zs.length
    · obtain ⟨e1, e2⟩ := HC.out j hlt
      subst e1
      have hno : ¬ ((free = true ∧ zs.getD j 0 = -1) ∨ ((lo ≤ zs.getD j 0 ∧ zs.getD j 0 ≤ hi) ∧ zs.getD j 0 ∉ zs.take j)) → r = false := fun h => by rw [HR.out]; exact decide_eq_false fun hh => h (hh j hlt)
      have hyes : ((free = true ∧ zs.getD j 0 = -1) ∨ ((lo ≤ zs.getD j 0 ∧ zs.getD j 0 ≤ hi) ∧ zs.getD j 0 ∉ zs.take j)) → ∀ i, i < j + 1 → DAt free lo hi zs i := fun h i hi => by
        by_cases e : i = j
        · subst e; exact h
        · exact HK.out i (by omega)
      have HNO := Lib.hid hno
      have HYES := Lib.hid hyes
      have hjc : j ≤ c := by omega
      clear hno hyes
      generalize zs.getD j 0 = y at *
      have CWY := Lib.hid (CW.out y)
      by_cases k0 : free = true ∧ y = -1
      · obtain ⟨rfl, rfl⟩ := k0
        have h1 := HYES.out (.inl ⟨rfl, rfl⟩)
        have H1 := Lib.hid h1
        clear h1
        go_wp2
        go_round
        case rel => exact ⟨j + 1, by omega, by go_num, H1.out⟩
        case measure => simp [intOf]; omega
      · have hskip : (free && (y == -1)) = false := by
          cases free with
          | false => rfl
          | true => simpa using k0
        have K0 := Lib.hid k0
        have hbody : ∀ f : Bool, (f && (y == -1)) = false → f = false ∨ (f = true ∧ (y == -1) = false) := fun f h => by cases f with | false => exact .inl rfl | true => exact .inr ⟨rfl, by simpa using h⟩
        have hfr := hbody free hskip
        clear hbody hskip k0
        by_cases k1 : lo ≤ y ∧ y ≤ hi
        · rw [decide_eq_true k1] at CWY
          have K1 := Lib.hid k1
          clear k1
          rcases hfr with rfl | ⟨rfl, q⟩
          · skip
            go_wp2_with fail
            refine CWY.out.mono ?_
            rintro e w3 ⟨rfl, rfl⟩
            go_wp2
            go_loop [34, 12] (fun v34 _ => ∃ i : Nat, i ≤ j ∧ v34 = .int .i64 i ∧ y ∉ zs.take i) (fun v34 _ => j - (intOf v34).toNat)
            case atStart => exact ⟨0, Nat.zero_le _, rfl, by simp⟩
            case round =>
              obtain ⟨i, hi', rfl, hni⟩ := hrel
              have HNI := Lib.hid hni
              clear hni
              by_cases hlti : i < j
              · have hil : i < zs.length := by omega
                obtain ⟨-, d2⟩ := HC.out i hil
                have hse := mem_take_succ zs y i hil
                rw [← getD_at zs i 0 hil] at hse
                have HSE := Lib.hid hse
                have hin : zs.getD i 0 ∈ zs.take j := by
                  rw [getD_at _ _ _ hil]
                  exact List.mem_take_iff_getElem.2 ⟨i, by omega, rfl⟩
                have HIN := Lib.hid hin
                clear hse hin
                generalize zs.getD i 0 = x at *
                by_cases hxy : y = x
                · have q9 : (y == x) = true := by simp [hxy]
                  obtain rfl := HNO.out fun h => by
                    rcases h with h | h
                    · exact K0.out h
                    · exact h.2 (hxy ▸ HIN.out)
                  clear hxy
                  go_wp2
                  go_ret
                  exact ⟨rfl, rfl⟩
                · have q9 : (y == x) = false := by simp [hxy]
                  have HXY := Lib.hid hxy
                  clear hxy
                  go_wp2
                  go_round
                  case rel => exact ⟨i + 1, by omega, by go_num, fun h => by rcases HSE.out.1 h with h | h; (exact HNI.out h); (exact HXY.out h)⟩
                  case measure => simp [intOf]; omega
              · have hij : i = j := by omega
                subst hij
                have h1 := HYES.out (.inr ⟨K1.out, HNI.out⟩)
                have H1 := Lib.hid h1
                clear h1
                go_wp2
                go_round
                case rel => exact ⟨i + 1, by omega, by go_num, H1.out⟩
                case measure => simp [intOf]; omega
          · skip
            go_wp2_with fail
            refine CWY.out.mono ?_
            rintro e w3 ⟨rfl, rfl⟩
            go_wp2
            go_loop [34, 12] (fun v34 _ => ∃ i : Nat, i ≤ j ∧ v34 = .int .i64 i ∧ y ∉ zs.take i) (fun v34 _ => j - (intOf v34).toNat)
            case atStart => exact ⟨0, Nat.zero_le _, rfl, by simp⟩
            case round =>
              obtain ⟨i, hi', rfl, hni⟩ := hrel
              have HNI := Lib.hid hni
              clear hni
              by_cases hlti : i < j
              · have hil : i < zs.length := by omega
                obtain ⟨-, d2⟩ := HC.out i hil
                have hse := mem_take_succ zs y i hil
                rw [← getD_at zs i 0 hil] at hse
                have HSE := Lib.hid hse
                have hin : zs.getD i 0 ∈ zs.take j := by
                  rw [getD_at _ _ _ hil]
                  exact List.mem_take_iff_getElem.2 ⟨i, by omega, rfl⟩
                have HIN := Lib.hid hin
                clear hse hin
                generalize zs.getD i 0 = x at *
                by_cases hxy : y = x
                · have q9 : (y == x) = true := by simp [hxy]
                  obtain rfl := HNO.out fun h => by
                    rcases h with h | h
                    · exact K0.out h
                    · exact h.2 (hxy ▸ HIN.out)
                  clear hxy
                  go_wp2
                  go_ret
                  exact ⟨rfl, rfl⟩
                · have q9 : (y == x) = false := by simp [hxy]
                  have HXY := Lib.hid hxy
                  clear hxy
                  go_wp2
                  go_round
                  case rel => exact ⟨i + 1, by omega, by go_num, fun h => by rcases HSE.out.1 h with h | h; (exact HNI.out h); (exact HXY.out h)⟩
                  case measure => simp [intOf]; omega
              · have hij : i = j := by omega
                subst hij
                have h1 := HYES.out (.inr ⟨K1.out, HNI.out⟩)
                have H1 := Lib.hid h1
                clear h1
                go_wp2
                go_round
                case rel => exact ⟨i + 1, by omega, by go_num, H1.out⟩
                case measure => simp [intOf]; omega
        · rw [decide_eq_false k1] at CWY
          obtain rfl := HNO.out fun h => by
            rcases h with h | h
            · exact K0.out h
            · exact k1 h.1
          clear k1
          rcases hfr with rfl | ⟨rfl, q⟩
          · go_wp2_with fail
            refine CWY.out.mono ?_
            rintro e w3 ⟨rfl, rfl⟩
            go_wp2
            go_ret
            exact ⟨rfl, rfl⟩
          · go_wp2_with fail
            refine CWY.out.mono ?_
            rintro e w3 ⟨rfl, rfl⟩
            go_wp2
            go_ret
            exact ⟨rfl, rfl⟩
    · have hjl : j = zs.length := by omega
      subst hjl
      obtain rfl : r = true := by rw [HR.out]; exact decide_eq_true HK.out
      go_wp2
      go_ret
      exact ⟨rfl, rfl⟩

end Go.Proofs.Ytijcicgbhcphjaa
