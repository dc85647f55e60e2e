/- Valid. -/
import Derived.Test.YtijcicgbhcphjaaB1
namespace Go.Proofs.Ytijcicgbhcphjaa
open Go.RowKit Go.Lib Go.ChangeMaps

theorem key_str : KeyOk (fun s : ByteArray => Value.string s) 9 .string := by
  refine ⟨Try.underlying9, fun em a w => by kernel_rfl, .inl fun a b => ?_⟩
  simp only [Instr.sameNow]
  exact congrArg some (by rw [Bool.eq_iff_iff, MapKept.bytes_beq]; simp)

theorem KeyOk.lookup0 {α : Type} [DecidableEq α] {enc : α → Value} {tk : TypeId} {kind : TypeDesc} (K : KeyOk enc tk kind) {tm te : TypeId} (hm : Try.prog.underlying tm = some (.map tk te)) {z : Value} (hz : ∀ w, (zeroValue te).run Try.prog w = .ok z w) {w : World} {r : Nat} {L : List (α × Value)} (hb : w.heap[r]? = some (mapObj enc L)) (a : α) :
    (Instr.lookup tm (.map (some r)) (enc a) false).run Try.prog w = .ok (match seekL a L 0 with | some p => p.2 | none => z) w := by
  unfold mapObj at hb
  simp [Instr.lookup, run_underlying hm, MapKept.run_getObj_map hb, K.chk, K.find, Result.andThen]
  cases seekL a L 0 <;> simp [hz]

instance decMemB (s : ByteArray) : (ss : List ByteArray) → Decidable (s ∈ ss)
  | [] => isFalse (by simp)
  | x :: r => match decEq s x, decMemB s r with
    | isTrue h, _ => isTrue (by simp [h])
    | isFalse _, isTrue h => isTrue (by simp [h])
    | isFalse h1, isFalse h2 => isFalse (by simp [h1, h2])
/-- A set of strings. -/
def setOf (ss : List ByteArray) : List (ByteArray × Value) := ss.map fun s => (s, .bool true)
theorem setOf_keys (ss : List ByteArray) : (setOf ss).map (·.1) = ss := by
  induction ss with
  | nil => rfl
  | cons x r ih => simp only [setOf, List.map_cons] at ih ⊢; rw [ih]
theorem look_set (s : ByteArray) : ∀ (ss : List ByteArray) (i : Nat), (match seekL s (setOf ss) i with | some p => p.2 | none => Value.bool false) = .bool (decide (s ∈ ss))
  | [], _ => by simp [setOf, seekL]
  | x :: r, i => by
    have := look_set s r (i + 1)
    by_cases h : s = x
    · subst h; simp [setOf, seekL]
    · simp only [setOf, List.map_cons, seekL, h, if_false] at this ⊢
      rw [this]
      simp [h]

theorem msOk_snoc (ms : List Mem) (j : Nat) : (∀ i, i < j + 1 → (ms.getD i default).dev = i) ↔ (∀ i, i < j → (ms.getD i default).dev = i) ∧ (ms.getD j default).dev = j := by
  constructor
  · exact fun h => ⟨fun i hi => h i (by omega), h j (by omega)⟩
  · rintro ⟨h1, h2⟩ i hi
    by_cases e : i = j
    · subst e; exact h2
    · exact h1 i (by omega)

set_option maxRecDepth 100000 in
set_option maxHeartbeats 4000000 in
theorem valid_any (v : Value) (V : Vp) (w : World) (hv : VwAt w v V) :
    Calls Try.prog 14 #[v] w fun e w' => e = .returned (.bool (decide (VOk V))) ∧ Below w.heap.size w w' := by
  obtain ⟨mv, hv, rv, wv, rfl, hM, hH, hR, hW⟩ := hv
  obtain ⟨ma, mc, mb, mo, rfl, ml, mm, mcell⟩ := hM.at
  obtain ⟨ha, hc, hb, ho, rfl, hl, hm, hcell⟩ := hH.at
  have HR0 := Lib.hid hR
  have HW0 := Lib.hid hW
  obtain ⟨ra, rc, _, _, rfl, -⟩ := hR.at
  obtain ⟨wa, wc, _, _, rfl, -⟩ := hW.at
  have MC := Lib.hid mcell
  have HC := Lib.hid hcell
  clear mcell hcell hM hH hR hW
  obtain ⟨r, hr⟩ : ∃ r, r = decide (VOk V) := ⟨_, rfl⟩
  rw [← hr]
  have hno : ¬ VOk V → r = false := fun h => by rw [hr]; exact decide_eq_false h
  have hyes : VOk V → r = true := fun h => by rw [hr]; exact decide_eq_true h
  have HNO := Lib.hid hno
  have HYES := Lib.hid hyes
  clear hno hyes hr
  have HD := Lib.hid (show VOk V ↔ ((V.mem.length ≤ 12 ∧ V.held.length ≤ 256) ∧ MsOk V.mem ∧ (V.room.length = V.mem.length ∧ CntOk V.room) ∧ (V.weight.length = V.mem.length ∧ CntOk V.weight) ∧ HpsOk V.mem.length V.held) from Iff.rfl)
  obtain ⟨ms, hs, rs, ws⟩ := V
  simp only at ml mm hl hm MC HC HD ⊢
  simp only at HR0 HW0
  generalize hrl : rs.length = rl at *
  generalize hwl : ws.length = wl at *
  have hmm := @run_makeMap Try.prog
  go_enter Try.func14, Try.ntmps14
  by_cases a1 : ms.length ≤ 12
  rotate_left
  · obtain rfl := HNO.out fun h => a1 (HD.out.1 h).1.1
    have q1 : decide (12 < (ms.length : Int)) = true := decide_eq_true (by omega)
    clear a1
    go_wp2
    go_ret
    exact ⟨rfl, by (repeat' (first | (with_reducible exact Below.refl _ _) | (with_reducible assumption) | (with_reducible refine Below.alloc ?_ ?_ _) | (with_reducible refine Below.drew ?_) | (with_reducible refine below_drewN ?_ _) | (with_reducible refine Below.setCell ?_ ?_ _) | (with_reducible refine below_step ?_ (by with_reducible assumption) ?_) | go_size))⟩
  have q1 : decide (12 < (ms.length : Int)) = false := decide_eq_false (by omega)
  by_cases a2 : hs.length ≤ 256
  rotate_left
  · obtain rfl := HNO.out fun h => a2 (HD.out.1 h).1.2
    have q2 : decide (256 < (hs.length : Int)) = true := decide_eq_true (by omega)
    clear a2
    go_wp2
    go_ret
    exact ⟨rfl, by (repeat' (first | (with_reducible exact Below.refl _ _) | (with_reducible assumption) | (with_reducible refine Below.alloc ?_ ?_ _) | (with_reducible refine Below.drew ?_) | (with_reducible refine below_drewN ?_ _) | (with_reducible refine Below.setCell ?_ ?_ _) | (with_reducible refine below_step ?_ (by with_reducible assumption) ?_) | go_size))⟩
  have q2 : decide (256 < (hs.length : Int)) = false := decide_eq_false (by omega)
  go_wp2
  clear q1 q2
  generalize hW : w.alloc _ = W
  have hb0 : Below w.heap.size w W := by subst hW; (repeat' (first | (with_reducible exact Below.refl _ _) | (with_reducible assumption) | (with_reducible refine Below.alloc ?_ ?_ _) | (with_reducible refine Below.drew ?_) | (with_reducible refine below_drewN ?_ _) | (with_reducible refine Below.setCell ?_ ?_ _) | (with_reducible refine below_step ?_ (by with_reducible assumption) ?_) | go_size))
  have hb1 : W.heap[w.heap.size]? = some (.cells #[.slice ma ms.length mc, .slice ha hs.length hc, .slice ra rl rc, .slice wa wl wc] 26 (0, 0)) := by subst hW; exact heap_alloc_new _ _
  have d0 : W.cell? ⟨w.heap.size, 0, none⟩ = some (.slice ma ms.length mc) := cell_of_row W _ 0 _ _ _ hb1
  have d1 : W.cell? ⟨w.heap.size, 1, none⟩ = some (.slice ha hs.length hc) := cell_of_row W _ 1 _ _ _ hb1
  have d2 : W.cell? ⟨w.heap.size, 2, none⟩ = some (.slice ra rl rc) := cell_of_row W _ 2 _ _ _ hb1
  have d3 : W.cell? ⟨w.heap.size, 3, none⟩ = some (.slice wa wl wc) := cell_of_row W _ 3 _ _ _ hb1
  have hbs : w.heap.size < W.heap.size := by subst hW; simp
  clear hW hb1
  go_loopw [21] (fun v21 wr => ∃ j : Nat, j ≤ ms.length ∧ v21 = .int .i64 j ∧ (∀ i, i < j → (ms.getD i default).dev = i) ∧ Below W.heap.size W wr) (fun v21 _ => ms.length - (intOf v21).toNat)
  case atStart => exact ⟨0, Nat.zero_le _, rfl, fun i hi => by omega, Below.refl _ _⟩
  case round =>
    obtain ⟨j, hj, rfl, hok, hbel⟩ := hrel
    have HK := Lib.hid hok
    clear hok
    by_cases hlt : j < ms.length
    · obtain ⟨e1, e2, e3, e4, e5, e6⟩ := MC.out j hlt
      subst e1
      have hbw := hb0.trans (hbel.mono hb0.size)
      have zr := hbel.size
      have zw := hbw.size
      rw [← hbw.cell (p := ⟨mb, _, none⟩) (cell_lt e2)] at e2
      rw [← hbw.cell (p := ⟨mb, _, none⟩) (cell_lt e3)] at e3
      rw [← hbw.cell (p := ⟨mb, _, none⟩) (cell_lt e4)] at e4
      rw [← hbw.cell (p := ⟨mb, _, none⟩) (cell_lt e5)] at e5
      rw [← hbw.cell (p := ⟨mb, _, none⟩) (cell_lt e6)] at e6
      have hs1 := msOk_snoc ms j
      have HS := Lib.hid hs1
      have hno : ¬ (ms.getD j default).dev = j → r = false := fun h => HNO.out fun hh => h ((HD.out.1 hh).2.1 j hlt)
      have HN := Lib.hid hno
      clear hs1 hno
      generalize ms.getD j default = y at *
      obtain ⟨dev, nm, pb, qu, ex⟩ := y
      simp only at e2 e3 e4 e5 e6
      by_cases k1 : dev = j
      · have h1 := HS.out.2 ⟨HK.out, k1⟩
        have H1 := Lib.hid h1
        have q1 : (dev != (j : Int)) = false := by simp [k1]
        clear k1 h1
        go_wp2
        go_roundw
        case rel => exact ⟨j + 1, by omega, by go_num, H1.out, by (repeat' (first | (with_reducible exact Below.refl _ _) | (with_reducible assumption) | (with_reducible refine Below.alloc ?_ ?_ _) | (with_reducible refine Below.drew ?_) | (with_reducible refine below_drewN ?_ _) | (with_reducible refine Below.setCell ?_ ?_ _) | (with_reducible refine below_step ?_ (by with_reducible assumption) ?_) | go_size))⟩
        case measure => simp [intOf]; omega
      · obtain rfl := HN.out k1
        have q1 : (dev != (j : Int)) = true := by simp [k1]
        clear k1
        go_wp2
        go_ret
        exact ⟨rfl, by (repeat' (first | (with_reducible exact Below.refl _ _) | (with_reducible assumption) | (with_reducible refine Below.alloc ?_ ?_ _) | (with_reducible refine Below.drew ?_) | (with_reducible refine below_drewN ?_ _) | (with_reducible refine Below.setCell ?_ ?_ _) | (with_reducible refine below_step ?_ (by with_reducible assumption) ?_) | go_size))⟩
    · have hjl : j = ms.length := by omega
      subst hjl
      have HMS := Lib.hid (show MsOk ms from HK.out)
      clear HK MC hj hlt
      have hbw := hb0.trans (hbel.mono hb0.size)
      have zr := hbel.size
      have zw := hbw.size
      rw [← hbel.cell (p := ⟨w.heap.size, 0, none⟩) hbs] at d0
      rw [← hbel.cell (p := ⟨w.heap.size, 1, none⟩) hbs] at d1
      rw [← hbel.cell (p := ⟨w.heap.size, 2, none⟩) hbs] at d2
      rw [← hbel.cell (p := ⟨w.heap.size, 3, none⟩) hbs] at d3
      have hGr := Nat.lt_of_lt_of_le hbs hbel.size
      clear zr
      have hc1 := counts_any _ rs ms.length wr (HR0.out.below (hbw))
      have hc2 := counts_any _ ws ms.length wr (HW0.out.below (hbw))
      rw [hrl] at hc1
      rw [hwl] at hc2
      have HC2 := Lib.hid hc2
      clear hbel hb0 hbs hc2
      by_cases k1 : rl = ms.length ∧ CntOk rs
      rotate_left
      · obtain rfl := HNO.out fun h => k1 (HD.out.1 h).2.2.1
        rw [decide_eq_false k1] at hc1
        have HC1 := Lib.hid hc1
        clear k1 hc1
        go_wp2_with fail
        refine HC1.out.mono ?_
        rintro e w3 ⟨rfl, rfl⟩
        go_wp2
        go_ret
        exact ⟨rfl, by (repeat' (first | (with_reducible exact Below.refl _ _) | (with_reducible assumption) | (with_reducible refine Below.alloc ?_ ?_ _) | (with_reducible refine Below.drew ?_) | (with_reducible refine below_drewN ?_ _) | (with_reducible refine Below.setCell ?_ ?_ _) | (with_reducible refine below_step ?_ (by with_reducible assumption) ?_) | go_size))⟩
      rw [decide_eq_true k1] at hc1
      have K1 := Lib.hid k1
      have HC1 := Lib.hid hc1
      clear k1 hc1
      by_cases k2 : wl = ms.length ∧ CntOk ws
      rotate_left
      · obtain rfl := HNO.out fun h => k2 (HD.out.1 h).2.2.2.1
        rw [decide_eq_false k2] at HC2
        clear k2
        go_wp2_with fail
        refine HC1.out.mono ?_
        rintro e w3 ⟨rfl, rfl⟩
        go_wp2_with fail
        refine HC2.out.mono ?_
        rintro e w3 ⟨rfl, rfl⟩
        go_wp2
        go_ret
        exact ⟨rfl, by (repeat' (first | (with_reducible exact Below.refl _ _) | (with_reducible assumption) | (with_reducible refine Below.alloc ?_ ?_ _) | (with_reducible refine Below.drew ?_) | (with_reducible refine below_drewN ?_ _) | (with_reducible refine Below.setCell ?_ ?_ _) | (with_reducible refine below_step ?_ (by with_reducible assumption) ?_) | go_size))⟩
      rw [decide_eq_true k2] at HC2
      have K2 := Lib.hid k2
      clear k2
      go_wp2_with fail
      refine HC1.out.mono ?_
      rintro e w3 ⟨rfl, rfl⟩
      go_wp2_with fail
      refine HC2.out.mono ?_
      rintro e w3 ⟨rfl, rfl⟩
      clear HC1 HC2
      go_wp2
      clear d2 d3 HR0 HW0
      have f0 : (wr.alloc (.map #[] 0)).cell? ⟨w.heap.size, 0, none⟩ = some (.slice ma ms.length mc) := (Below.cell ((Below.refl wr.heap.size _).alloc (Nat.le_refl _) _) hGr).trans d0
      have hmp : (wr.alloc (.map #[] 0)).heap[wr.heap.size]? = some (mapObj (fun s : ByteArray => Value.string s) (setOf [])) := heap_alloc_new _ _
      have hbw2 : Below w.heap.size w (wr.alloc (.map #[] 0)) := by (repeat' (first | (with_reducible exact Below.refl _ _) | (with_reducible assumption) | (with_reducible refine Below.alloc ?_ ?_ _) | (with_reducible refine Below.drew ?_) | (with_reducible refine below_drewN ?_ _) | (with_reducible refine Below.setCell ?_ ?_ _) | (with_reducible refine below_step ?_ (by with_reducible assumption) ?_) | go_size))
      have hz2 : (wr.alloc (.map #[] 0)).heap.size = wr.heap.size + 1 := World.size_alloc _ _
      clear d0 d1
      generalize hN : wr.heap.size = N at *
      generalize wr.alloc (.map #[] 0) = W2 at *
      clear hN hbw
      go_loopw [51] (fun v51 wr => ∃ j : Nat, j ≤ hs.length ∧ v51 = .int .i64 j ∧ HpsOk ms.length (hs.take j) ∧ Below w.heap.size w wr ∧ N < wr.heap.size ∧
        wr.cell? ⟨w.heap.size, 0, none⟩ = some (.slice ma ms.length mc) ∧ wr.heap[N]? = some (mapObj (fun s : ByteArray => Value.string s) (setOf ((hs.take j).map Hp.id)))) (fun v51 _ => hs.length - (intOf v51).toNat)
      case atStart => exact ⟨0, Nat.zero_le _, rfl, by simp [HpsOk], hbw2, by omega, f0, hmp⟩
      case round =>
        obtain ⟨j, hj, rfl, hok, hbel, hNl, g0, hmap⟩ := hrel
        have HO := Lib.hid hok
        have HB := Lib.hid hmap
        have zr := hbel.size
        clear hok hmap f0 hmp hz2 hbw2
        by_cases hlt : j < hs.length
        · obtain ⟨e1, e2, e3, e4, e5, e6, rv, av, e7, e8, hrr, hra⟩ := HC.out j hlt
          subst e1
          have hg := getD_at hs j default hlt
          have hs1 := hpsOk_snoc ms.length hs j hlt
          have ht := fun h => hpsOk_take (n := (ms.length : Int)) (hs := hs) h (j + 1)
          have happ : hs.take (j + 1) = hs.take j ++ [hs[j]] := List.take_succ_eq_append_getElem hlt
          have HA := Lib.hid happ
          have HT := Lib.hid ht
          have HS1 := Lib.hid hs1
          rw [hg] at e2 e3 e4 e5 e6 hrr hra
          rw [← hbel.cell (p := ⟨hb, _, none⟩) (cell_lt e2)] at e2
          rw [← hbel.cell (p := ⟨hb, _, none⟩) (cell_lt e3)] at e3
          rw [← hbel.cell (p := ⟨hb, _, none⟩) (cell_lt e4)] at e4
          rw [← hbel.cell (p := ⟨hb, _, none⟩) (cell_lt e5)] at e5
          rw [← hbel.cell (p := ⟨hb, _, none⟩) (cell_lt e6)] at e6
          rw [← hbel.cell (p := ⟨hb, _, none⟩) (cell_lt e7)] at e7
          rw [← hbel.cell (p := ⟨hb, _, none⟩) (cell_lt e8)] at e8
          have hra := hra.below hbel
          clear hs1 hg ht happ
          generalize hs[j] = y at e2 e3 e4 e5 e6 HS1 HA hra hrr
          obtain ⟨qa, qc, _, _, rfl, -⟩ := hrr.at
          clear hrr
          generalize y.refs.length = ql at *
          have HV := Lib.hid (fun o => validHeld_any y (.slice qa ql qc) av ms.length (wr.alloc o) (hra.below ((Below.refl _ _).alloc (Nat.le_refl _) _)) ⟨_, _, _, rfl⟩ a1)
          obtain ⟨ao', c', _, _, rfl, -⟩ := hra.at
          clear hra
          obtain ⟨id, vault, block, data, total, refs, at_⟩ := y
          have hlk : ∀ o, _ := fun o => key_str.lookup0 (tm := 84) (te := 4) Try.underlying84 (z := .bool false) (fun w => by kernel_rfl) (w := wr.alloc o) (r := N) (L := setOf ((hs.take j).map Hp.id)) (by rw [Below.heap_alloc wr o _ hNl]; exact HB.out) id
          simp only at e2 e3 e4 e5 e6 hlk
          unfold Hp.v at HV
          simp only at HV
          generalize at_.length = al at *
          simp only [look_set] at hlk
          by_cases k1 : id ∈ (hs.take j).map Hp.id
          · rw [decide_eq_true k1] at hlk
            obtain rfl := HNO.out fun h => (HS1.out.1 (HT.out (HD.out.1 h).2.2.2.2)).2.2 k1
            clear k1
            go_wp2
            go_ret
            exact ⟨rfl, by (repeat' (first | (with_reducible exact Below.refl _ _) | (with_reducible assumption) | (with_reducible refine Below.alloc ?_ ?_ _) | (with_reducible refine Below.drew ?_) | (with_reducible refine below_drewN ?_ _) | (with_reducible refine Below.setCell ?_ ?_ _) | (with_reducible refine below_step ?_ (by with_reducible assumption) ?_) | go_size))⟩
          · rw [decide_eq_false k1] at hlk
            have HK := Lib.hid k1
            clear k1
            have hhp : ¬ HpOk ms.length ⟨id, vault, block, data, total, refs, at_⟩ → r = false := fun h => HNO.out fun hh => h (HS1.out.1 (HT.out (HD.out.1 hh).2.2.2.2)).2.1
            have HHP := Lib.hid hhp
            have g0' : ∀ o, (wr.alloc o).cell? ⟨w.heap.size, 0, none⟩ = some (.slice ma ms.length mc) := fun o => (Below.cell ((Below.refl wr.heap.size _).alloc (Nat.le_refl _) _) (cell_lt g0)).trans g0
            clear hhp
            go_wp2_with fail
            refine (HV.out _).mono ?_
            rintro e w3 ⟨rfl, hb3⟩
            generalize hW3 : wr.alloc _ = W3 at hb3
            have zs : W3.heap.size = wr.heap.size + 1 := by subst hW3; exact World.size_alloc _ _
            have hbW : Below w.heap.size w W3 := by subst hW3; (repeat' (first | (with_reducible exact Below.refl _ _) | (with_reducible assumption) | (with_reducible refine Below.alloc ?_ ?_ _) | (with_reducible refine Below.drew ?_) | (with_reducible refine below_drewN ?_ _) | (with_reducible refine Below.setCell ?_ ?_ _) | (with_reducible refine below_step ?_ (by with_reducible assumption) ?_) | go_size))
            have z3 := hb3.size
            have hb9 : Below w.heap.size w w3 := hbW.trans (hb3.mono hbW.size)
            have hm3 : w3.heap[N]? = some (mapObj (fun s : ByteArray => Value.string s) (setOf ((hs.take j).map Hp.id))) := by
              rw [hb3.block N (by omega)]; subst hW3; rw [Below.heap_alloc wr _ _ hNl]; exact HB.out
            have g3 : w3.cell? ⟨w.heap.size, 0, none⟩ = some (.slice ma ms.length mc) := by
              rw [hb3.cell (p := ⟨_, 0, none⟩) (by rw [zs]; exact Nat.lt_succ_of_lt (cell_lt g0))]; subst hW3; exact g0' _
            have i3 : w3.cell? ⟨wr.heap.size, 0, none⟩ = some (.string id) := by
              rw [hb3.cell (p := ⟨_, 0, none⟩) (by rw [zs]; exact Nat.lt_succ_self _)]; subst hW3; exact cell_of_row _ _ 0 _ _ _ (heap_alloc_new _ _)
            by_cases k2 : HpOk ms.length ⟨id, vault, block, data, total, refs, at_⟩
            · rw [decide_eq_true k2]
              have hup := key_str.update (tm := 84) (te := 4) Try.underlying84 (w := w3) (r := N) (L := setOf ((hs.take j).map Hp.id)) hm3 id (.bool true) (by rw [setOf_keys]; exact HK.out)
              have hnx : setOf ((hs.take j).map Hp.id) ++ [(id, Value.bool true)] = setOf ((hs.take (j + 1)).map Hp.id) := by rw [HA.out]; simp [setOf]
              rw [hnx] at hup
              have K2 := Lib.hid k2
              clear k2 hnx hlk
              go_wp2
              go_roundw
              case rel =>
                refine ⟨j + 1, by omega, by go_num, HS1.out.2 ⟨HO.out, K2.out, HK.out⟩, below_setBlock hb9 (by omega) _, by rw [setBlock_size]; omega, ?_, by rw [List.map_take]; exact setBlock_at (by omega) _⟩
                rw [← g3]
                unfold World.cell?
                rw [setBlock_off _ _ (by show w.heap.size ≠ N; omega)]
              case measure => simp [intOf]; omega
            · rw [decide_eq_false k2]
              obtain rfl := HHP.out k2
              clear k2 hlk
              go_wp2
              go_ret
              exact ⟨rfl, hb9⟩
        · have hjl : j = hs.length := by omega
          subst hjl
          obtain rfl := HYES.out (HD.out.2 ⟨⟨a1, a2⟩, HMS.out, K1.out, K2.out, by have := HO.out; rw [List.take_length] at this; exact this⟩)
          go_wp2
          go_ret
          exact ⟨rfl, hbel⟩
end Go.Proofs.Ytijcicgbhcphjaa
