/- The pieces that are there, counted. -/
import Derived.Test.YtijcicgbhcphjaaX1
import Derived.Test.YtijcicgbhcphjaaS1
import Derived.Deep.DeepCutAuto
import Derived.Deep.CutBlock
namespace Go.Proofs.Ytijcicgbhcphjaa
open Go.RowKit Go.Lib Go.ChangeMaps
set_option linter.unusedSimpArgs false

def encI (i : Int) : Value := .int .i64 i
theorem key_int : KeyOk encI 3 (.int .i64) := by
  refine ⟨Try.underlying3, fun em a w => by kernel_rfl, .inl fun a b => ?_⟩
  unfold encI
  simp only [Instr.sameNow]
  by_cases h : a = b <;> simp [h]
/-- A set of numbers. -/
def setI (ds : List Int) : List (Int × Value) := ds.map fun d => (d, .bool true)
theorem setI_keys (ds : List Int) : (setI ds).map (·.1) = ds := by
  induction ds with
  | nil => rfl
  | cons x r ih => simp only [setI, List.map_cons] at ih ⊢; rw [ih]
theorem look_setI (d : Int) : ∀ (ds : List Int) (i : Nat), (match seekL d (setI ds) i with | some p => p.2 | none => Value.bool false) = .bool (decide (d ∈ ds))
  | [], _ => by simp [setI, seekL]
  | x :: r, i => by
    have := look_setI d r (i + 1)
    by_cases h : d = x
    · subst h; simp [setI, seekL]
    · simp only [setI, List.map_cons, seekL, h, if_false] at this ⊢
      rw [this]
      simp [h]

set_option maxRecDepth 100000 in
set_option maxHeartbeats 16000000 in
theorem count_any (v lv rv av : Value) (V : Vp) (ls : List Int) (h : Hp) (w : World) (hv : VwAt w v V) (hl : ReadsI w lv ls) (hat : ReadsI w av h.at_) (hr1 : ∃ a n c, rv = .slice a n c) (hok : AtOk V.mem.length h.at_) (h16 : h.at_.length ≤ 16) :
    Calls Try.prog 35 #[v, lv, h.v rv av] w fun e w' => ∃ mp, e = .returned (.tuple #[.int .i64 ((leftI (goneB V.mem ls) h.at_).length : Nat), .map (some mp)]) ∧ w'.heap[mp]? = some (mapObj encI (setI (goodsI (goneB V.mem ls) h.at_))) ∧ Below w.heap.size w w' := by
  rw [← goods_len]
  obtain ⟨mv, hv, rv0, wv, rfl, hM, hH, hR, hW⟩ := hv
  obtain ⟨ma, mc, mb, mo, rfl, ml1, mm, mcell⟩ := hM.at
  obtain ⟨ha, hc, _, _, rfl, -⟩ := hH.at
  obtain ⟨ra, rc, _, _, rfl, -⟩ := hR.at
  obtain ⟨wa, wc, _, _, rfl, -⟩ := hW.at
  obtain ⟨la, lc, lb, lo, rfl, ll1, lm1, lcell⟩ := hl.at
  obtain ⟨ua, uc, ub, uo, rfl, -, -, ucell⟩ := hat.at
  obtain ⟨qa, qn, qc, rfl⟩ := hr1
  obtain ⟨id, vault, block, data, total, refs, zs⟩ := h
  unfold Hp.v
  simp only at ucell hok h16 ⊢
  have MC := Lib.hid mcell
  have LC := Lib.hid lcell
  have UC := Lib.hid ucell
  have HOK := Lib.hid hok
  have H16 := Lib.hid h16
  obtain ⟨gone, hgone⟩ : ∃ gone, gone = goneB V.mem ls := ⟨_, rfl⟩
  rw [← hgone]
  have HGONE := Lib.hid hgone
  clear mcell lcell ucell hM hH hR hW hl hat hgone hok ml1 mm ll1
  generalize V.held.length = nh at *
  generalize V.room.length = rl at *
  generalize V.weight.length = wl at *
  obtain ⟨ml, hml⟩ : ∃ ml, ml = V.mem.length := ⟨_, rfl⟩
  have HML := Lib.hid hml
  rw [← hml] at MC HOK ⊢
  clear hml
  obtain ⟨W3, hW3⟩ : ∃ W3, W3 = ((w.alloc (.cells #[.slice ma ml mc, .slice ha nh hc, .slice ra rl rc, .slice wa wl wc] 26)).alloc (.cells #[.string id, .int .i64 vault, .int .i64 block, .int .i64 data, .int .i64 total, .slice qa qn qc, .slice ua zs.length uc] 52)).alloc (mapObj encI []) := ⟨_, rfl⟩
  have hb3 : Below w.heap.size w W3 := by rw [hW3]; (repeat' (first | (with_reducible exact Below.refl _ _) | (with_reducible assumption) | (with_reducible refine Below.alloc ?_ ?_ _) | (with_reducible refine Below.drew ?_) | (with_reducible refine below_drewN ?_ _) | (with_reducible refine Below.setCell ?_ ?_ _) | (with_reducible refine below_step ?_ (by with_reducible assumption) ?_) | go_size))
  have hz3 : W3.heap.size = w.heap.size + 3 := by rw [hW3]; simp [World.size_alloc]
  have hx26 : W3.heap[w.heap.size]? = some (.cells #[.slice ma ml mc, .slice ha nh hc, .slice ra rl rc, .slice wa wl wc] 26) := by
    rw [hW3]
    exact bb (((Below.refl _ _).alloc (Nat.le_refl _) _).alloc (by simp only [World.size_alloc]; omega) _) (heap_alloc_new w _)
  have hmap : W3.heap[w.heap.size + 2]? = some (mapObj encI []) := by
    have := heap_alloc_new ((w.alloc (.cells #[.slice ma ml mc, .slice ha nh hc, .slice ra rl rc, .slice wa wl wc] 26)).alloc (.cells #[.string id, .int .i64 vault, .int .i64 block, .int .i64 data, .int .i64 total, .slice qa qn qc, .slice ua zs.length uc] 52)) (mapObj encI [])
    rw [← hW3] at this
    simpa [World.size_alloc] using this
  obtain ⟨M, hM⟩ : ∃ M, M = w.heap.size + 2 := ⟨_, rfl⟩
  rw [← hM] at hmap
  have HM := Lib.hid hM
  have HW3 := Lib.hid hW3
  have HB3 := Lib.hid hb3
  have HZ3 := Lib.hid hz3
  have HX26 := Lib.hid hx26
  have HMAP := Lib.hid hmap
  clear hW3 hb3 hz3 hx26 hmap hM
  have hmm := @run_makeMap Try.prog
  go_enter Try.func35, Try.ntmps35
  go_upto_region 2 with fail
  have hmo : Obj.map #[] 0 = mapObj encI [] := rfl
  rw [hmo, ← HW3.out]
  try rw [← HM.out]
  have HU0 := Lib.hid (show W3.cell? ⟨w.heap.size + 1, 6, none⟩ = some (.slice ua zs.length uc) from by
    have : W3.heap[w.heap.size + 1]? = some (.cells #[.string id, .int .i64 vault, .int .i64 block, .int .i64 data, .int .i64 total, .slice qa qn qc, .slice ua zs.length uc] 52) := by
      rw [HW3.out]
      have h1 := heap_alloc_new (w.alloc (.cells #[.slice ma ml mc, .slice ha nh hc, .slice ra rl rc, .slice wa wl wc] 26)) (.cells #[.string id, .int .i64 vault, .int .i64 block, .int .i64 data, .int .i64 total, .slice qa qn qc, .slice ua zs.length uc] 52)
      rw [World.size_alloc] at h1
      exact bb ((Below.refl _ _).alloc (Nat.le_refl _) _) h1
    exact cell_of_row W3 _ 6 _ _ _ this)
  have u0 := HU0.out
  clear hmm hmo
  go_wp2
  go_loopw [19, 8, 11, 12, 14] (fun v19 v8 _ _ _ wr => ∃ i : Nat, i ≤ zs.length ∧ v19 = .int .i64 i ∧ v8 = .int .i64 (goodsI gone (zs.take i)).length ∧ Below M W3 wr ∧ wr.heap[M]? = some (mapObj encI (setI (goodsI gone (zs.take i))))) (fun v19 _ _ _ _ _ => zs.length - (intOf v19).toNat)
  case atStart => exact ⟨0, Nat.zero_le _, rfl, rfl, Below.refl _ _, HMAP.out⟩
  case round =>
    obtain ⟨i, hi, rfl, rfl, hbel, hmp⟩ := hrel
    have HMP := Lib.hid hmp
    have hbw : Below w.heap.size w wr := HB3.out.trans (hbel.mono (by have := HM.out; omega))
    clear u0 hmp
    by_cases hlt : i < zs.length
    · obtain ⟨e1, f1⟩ := UC.out i hlt
      subst e1
      have f1 := bc hbw f1
      have hsn := goods_snoc gone zs i hlt
      have hfr := fun hg => goods_fresh (gone := gone) HOK.out hlt hg
      have hat := HOK.out.2 (zs.getD i 0) (by rw [getD_at _ _ _ hlt]; exact List.getElem_mem hlt)
      obtain ⟨d, hd⟩ : ∃ d, d = zs.getD i 0 := ⟨_, rfl⟩
      rw [← hd] at f1 hsn hfr hat
      clear hd
      have HSN := Lib.hid hsn
      have HFR := Lib.hid hfr
      obtain ⟨G, hG⟩ : ∃ G, G = goodB gone d := ⟨_, rfl⟩
      rw [← hG] at HSN HFR
      have HAT := Lib.hid hat
      obtain ⟨b0, hb0⟩ : ∃ b0, b0 = (decide (d < 0) || (V.mem.getD d.toNat default).exp) := ⟨_, rfl⟩
      have HB0 := Lib.hid hb0
      have HG := Lib.hid (show (!G) = (b0 || decide (d ∈ ls)) by
        rw [hG, hb0]
        unfold goodB
        rw [HGONE.out]
        unfold goneB
        rcases hat with rfl | ⟨h0, _⟩
        · simp
        · rw [Int.toNat_of_nonneg h0, decide_eq_true h0, decide_eq_false (show ¬ d < 0 by omega)]
          cases decide (d ∈ ls) <;> cases (V.mem.getD d.toNat default).exp <;> rfl)
      have hbs := (Array.getElem?_eq_some_iff.1 HMP.out).1
      have x0 : wr.cell? ⟨w.heap.size, 0, none⟩ = some (.slice ma ml mc) := cell_of_row wr _ 0 _ _ _ ((hbel.block _ (by have := HM.out; omega)).trans HX26.out)
      clear hsn hfr hG hb0 hat
      go_upto_region 5 with fail
      go_cut [12] (fun v12 wx => v12 = .bool b0 ∧ wr = wx)
      case first =>
        by_cases h0 : d < 0
        · have q0 : decide (d < 0) = true := decide_eq_true h0
          have HBB := Lib.hid (show b0 = true by rw [HB0.out, q0]; rfl)
          clear h0
          go_wp2
          go_meet
          case rel => exact ⟨by rw [HBB.out], rfl⟩
        · have q0 : decide (d < 0) = false := decide_eq_false h0
          obtain ⟨dn, rfl⟩ : ∃ dn : Nat, d = dn := ⟨d.toNat, by omega⟩
          have hdn : dn < ml := by
            rcases HAT.out with e | ⟨_, e⟩
            · omega
            · omega
          obtain ⟨e2, _, _, _, _, g4⟩ := MC.out dn hdn
          subst e2
          have g4 := bc hbw g4
          have HBB := Lib.hid (show b0 = (V.mem.getD dn default).exp by rw [HB0.out, q0, Int.toNat_natCast]; rfl)
          generalize (V.mem.getD dn default).exp = ex at *
          clear h0
          go_wp2
          go_meet
          case rel => exact ⟨by rw [HBB.out], rfl⟩
      case rest =>
      obtain ⟨rfl, rfl⟩ := hcut
      clear x0
      go_upto_block 2 with fail
      go_cut [12] (fun v12 wx => v12 = .bool (!G) ∧ wr = wx)
      case first =>
        go_wp2_with fail
        go_loop [35, 12, 14] (fun v35 v12 _ => ∃ j : Nat, j ≤ ls.length ∧ v35 = .int .i64 j ∧ v12 = .bool (b0 || decide (d ∈ ls.take j))) (fun v35 _ _ => ls.length - (intOf v35).toNat)
        case atStart => exact ⟨0, Nat.zero_le _, rfl, by simp⟩
        case round =>
          obtain ⟨j, hj, rfl, rfl⟩ := hrel
          by_cases hlj : j < ls.length
          · obtain ⟨e3, g1⟩ := LC.out j hlj
            subst e3
            have g1 := bc hbw g1
            have HS2 := Lib.hid (show (b0 || decide (d ∈ ls.take (j + 1))) = ((b0 || decide (d ∈ ls.take j)) || decide (ls.getD j 0 = d)) by
              rw [decide_eq_decide.2 (mem_take_succ ls d j hlj), getD_at _ _ _ hlj, Bool.decide_or, Bool.or_assoc]
              congr 2
              exact decide_eq_decide.2 ⟨fun h => h.symm, fun h => h.symm⟩)
            generalize ls.getD j 0 = x at *
            generalize (b0 || decide (d ∈ ls.take j)) = B at *
            cases B with
            | true =>
              go_wp2
              go_round
              case rel => exact ⟨j + 1, by omega, by go_num, by rw [HS2.out]; rfl⟩
              case measure => simp [intOf]; omega
            | false =>
              by_cases hx : x = d
              · have q1 : (x == d) = true := by simp [hx]
                rw [decide_eq_true hx] at HS2
                clear hx
                go_wp2
                go_round
                case rel => exact ⟨j + 1, by omega, by go_num, by rw [HS2.out]; rfl⟩
                case measure => simp [intOf]; omega
              · have q1 : (x == d) = false := by simp [hx]
                rw [decide_eq_false hx] at HS2
                clear hx
                go_wp2
                go_round
                case rel => exact ⟨j + 1, by omega, by go_num, by rw [HS2.out]; rfl⟩
                case measure => simp [intOf]; omega
          · have HE := Lib.hid (show ls.take j = ls from List.take_of_length_le (by omega))
            go_wp2
            go_meet
            case rel => exact ⟨by rw [HE.out, HG.out], rfl⟩
      case rest =>
      obtain ⟨rfl, rfl⟩ := hcut
      cases G with
      | false =>
        go_wp2
        go_roundw
        case rel => exact ⟨i + 1, by omega, by go_num, by rw [HSN.out]; simp, hbel, by rw [HSN.out]; simpa using HMP.out⟩
        case measure => simp [intOf]; omega
      | true =>
        have hup := key_int.update (tm := 77) (te := 4) Try.underlying77 HMP.out d (.bool true) (by rw [setI_keys]; exact HFR.out rfl)
        have hsl : setI (goodsI gone (zs.take i)) ++ [(d, .bool true)] = setI (goodsI gone (zs.take (i + 1))) := by rw [HSN.out]; simp [setI]
        have HL := Lib.hid (show (goodsI gone (zs.take (i + 1))).length = (goodsI gone (zs.take i)).length + 1 by rw [HSN.out]; simp)
        have hn16 : (goodsI gone (zs.take i)).length ≤ 16 := by
          refine Nat.le_trans (List.length_filter_le _ _) ?_
          have := H16.out
          rw [List.length_take]
          omega
        rw [hsl] at hup
        have HBS := Lib.hid hbs
        unfold encI at hup
        clear hsl hbs
        generalize (goodsI gone (zs.take i)).length = n at *
        go_wp2
        go_roundw
        case rel => exact ⟨i + 1, by omega, by go_num, by rw [HL.out]; go_num, below_setBlock hbel (Nat.le_refl _) _, setBlock_at HBS.out _⟩
        case measure => simp [intOf]; omega
    · have hil : i = zs.length := by omega
      subst hil
      rw [List.take_length] at HMP
      have HT := Lib.hid (show zs.take zs.length = zs from List.take_length)
      go_wp2
      refine bodyPost_ret (results_tmp2 Try.results35 _ _ _) rfl ?_
      exact ⟨M, by rw [HT.out]; rfl, HMP.out, hbw⟩

end Go.Proofs.Ytijcicgbhcphjaa
