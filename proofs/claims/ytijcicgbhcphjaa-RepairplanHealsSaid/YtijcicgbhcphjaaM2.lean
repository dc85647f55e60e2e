/- Apply. -/
import Derived.Test.YtijcicgbhcphjaaP1
import Derived.Laws.ResultCell
namespace Go.Proofs.Ytijcicgbhcphjaa
open Go.RowKit Go.Lib Go.ChangeMaps
set_option linter.unusedSimpArgs false

theorem results_row_tmp {P : Program} {fn : Func} {p u : Tmp} {ty : TypeId} (h : fn.results = #[.cell p ty, .tmp u]) (tmps : Array Value) (w : World) (g : Nat) (t : TypeId) (cs : Array Value) (fr : Nat × Nat) (d : TypeDesc)
    (hp : tmps.getD p undef = .pointer (some ⟨g, 0, none⟩)) (hg : w.heap[g]? = some (.cells cs t fr))
    (hu : P.underlying ty = some d) (hd : (match d with | .struct _ | .array _ _ => true | _ => false) = true) (hi : (P.info? ty).map (·.size) = some cs.size) :
    (results fn tmps).run P w = .ok (.tuple #[.agg cs, tmps.getD u undef]) w := by
  have hp' : tmps[p]?.getD undef = .pointer (some ⟨g, 0, none⟩) := by simpa using hp
  simp [results, h, hp', asAddr, run_loadVar_row w g t ty cs fr d hg hu hd hi, Result.andThen]

theorem StAt.view {w : World} {lo hi p : Nat} {V : Vp} {gone : Nat → Bool} (h : StAt w lo hi p V gone) : ∃ ma mc ha hc ra rl rc wa wl wc, w.cell? ⟨p, 0, none⟩ = some (.slice ma V.mem.length mc) ∧ w.cell? ⟨p, 1, none⟩ = some (.slice ha V.held.length hc) ∧
    w.cell? ⟨p, 2, none⟩ = some (.slice ra rl rc) ∧ w.cell? ⟨p, 3, none⟩ = some (.slice wa wl wc) ∧ VwAt w (.agg #[.slice ma V.mem.length mc, .slice ha V.held.length hc, .slice ra rl rc, .slice wa wl wc]) V := by
  obtain ⟨mv, hv, rv, wv, gv, mp, c0, c1, c2, c3, c4, c5, hM, hH, hR, hW, hG, hmp⟩ := h.at
  have h2 : VwAt w (.agg #[mv, hv, rv, wv]) V := ⟨mv, hv, rv, wv, rfl, hM, hH, hR, hW⟩
  obtain ⟨ma, mc, ha, hc, ra, rl, rc, wa, wl, wc, e⟩ := h2.val
  simp only [Value.agg.injEq, Array.mk.injEq, List.cons.injEq, and_true] at e
  obtain ⟨rfl, rfl, rfl, rfl⟩ := e
  exact ⟨_, _, _, _, _, _, _, _, _, _, c0, c1, c2, c3, h2⟩

/-- A piece's place is written: -1. -/
theorem StAt.neg {w : World} {lo hi p : Nat} {V : Vp} {gone : Nat → Bool} (h : StAt w lo hi p V gone) {k i : Nat} (hk : k < V.held.length) (hi' : i < (V.held.getD k default).at_.length) :
    ∃ gh hc ga al ac, w.cell? ⟨p, 1, none⟩ = some (.slice (some ⟨gh, 0, none⟩) V.held.length hc) ∧ w.cell? ⟨gh, k * 7 + 6, none⟩ = some (.slice (some ⟨ga, 0, none⟩) al ac) ∧ i < al ∧ (∃ u, w.cell? ⟨ga, i, none⟩ = some u) ∧ w.frozen? ⟨ga, i, none⟩ = false ∧
      lo ≤ ga ∧ ga < hi ∧ StAt (w.setCell ⟨ga, i, none⟩ (.int .i64 (-1))) lo hi p (setAtP V k i (-1)) gone := by
  obtain ⟨⟨mv, hv, rv, wv, gv, mp, xs, h1, h2, h3⟩, hok, hrf⟩ := h
  obtain ⟨gh, ch, eh, -⟩ := h1.vw.h.set (i := k) (j := 0) hk (by omega) undef (fun i' j' => if i' = k ∧ j' = 0 then undef else hpCell V.held xs i' j') (fun _ _ _ _ => rfl)
  obtain ⟨ga, ca, ea, hca, hla, hza, fza, cca, hgap, hst2⟩ := h1.setAt hk hi' (-1)
  subst eh
  have hcA := h1.vw.cellA hk
  rw [ea] at hcA
  refine ⟨gh, ch, ga, _, ca, cell_of_row _ p 1 _ _ _ h1.blk, hcA, hi', ⟨_, cca⟩, fza, hla, h3 k hk ga (by rw [ea]; rfl), ⟨⟨mv, .slice (some ⟨gh, 0, none⟩) V.held.length ch, rv, wv, gv, mp, xs, ?_, h2, fun m hm => h3 m (by rw [setAt_len] at hm; exact hm)⟩, ?_, fun x hx => ?_⟩⟩
  · rw [show placesL (setAtP V k i (-1)).held 0 = placesL V.held 0 from placesL_congr _ _ _ setAt_ids]
    exact hst2
  · exact putAt_ok (ys := (V.held.getD k default).at_.set i (-1)) hok hk (by rw [List.length_set]) (atOk_neg (hok.small.2.2.2.2 k hk).2.2.2.2.2 i)
  · rcases List.mem_or_eq_of_mem_set (show x ∈ V.held.set _ _ from hx) with hx | rfl
    · exact hrf x hx
    · exact hrf (V.held.getD k default) (by rw [getD_at _ _ _ hk]; exact List.getElem_mem hk)

theorem StAt.same_lo {w w' : World} {lo hi p : Nat} {V : Vp} {gone : Nat → Bool} (h : StAt w lo hi p V gone) (hs : ∀ g, lo ≤ g → w'.heap[g]? = w.heap[g]?) : StAt w' lo hi p V gone := by
  obtain ⟨⟨mv, hv, rv, wv, gv, mp, xs, h1, h2, h3⟩, h4⟩ := h
  have hk : ∀ {e : TypeId} {y : Value} {k m : Nat} {q : Nat → Nat → Value}, Own w lo e y k m q → Own w' lo e y k m q := fun o => o.same fun g hg => hs g (o.lt g hg).1
  exact ⟨⟨mv, hv, rv, wv, gv, mp, xs, ⟨(hs p h1.lop).trans h1.blk, ⟨hk h1.vw.m, hk h1.vw.h, hk h1.vw.r, hk h1.vw.wt, h1.vw.len, h1.vw.jn, fun k hkk => hk (h1.vw.rf k hkk), fun k hkk => hk (h1.vw.at_ k hkk), h1.vw.apRW, h1.vw.apRA, h1.vw.apWA, h1.vw.apAA⟩, hk h1.gn, (hs mp h1.lom).trans h1.mpb, h1.lop, h1.lom⟩, h2, h3⟩, h4⟩
theorem doP_same (V : Vp) (j : Jp) : (doP V j).held.length = V.held.length ∧ (doP V j).mem = V.mem := by
  unfold doP
  split
  · exact ⟨rfl, rfl⟩
  · exact ⟨setAt_len, rfl⟩
theorem doAllP_same (gone : Nat → Bool) : ∀ (js : List Jp) (V V' : Vp), doAllP gone V js = some V' → V'.held.length = V.held.length ∧ V'.mem = V.mem
  | [], V, V', h => by cases h; exact ⟨rfl, rfl⟩
  | j :: r, V, V', h => by
    unfold doAllP at h
    split at h
    · have h1 := doAllP_same gone r _ _ h
      have h2 := doP_same V j
      exact ⟨h1.1.trans h2.1, h1.2.trans h2.2⟩
    · cases h
theorem putAt_len (V : Vp) (k : Nat) (ys : List Int) : (putAt V k ys).held.length = V.held.length := by
  unfold putAt
  simp

set_option maxRecDepth 100000 in
set_option maxHeartbeats 8000000 in
theorem apply_any (v lv jv : Value) (V : Vp) (ls : List Int) (js : List Jp) (w : World) (hv : VwAt w v V) (hl : ReadsI w lv ls) (hj : ReadsJ w jv js) (hrf : ∀ h ∈ V.held, h.refs.length ≤ 1000) :
    Calls Try.prog 27 #[v, lv, jv] w fun e w' => Below w.heap.size w w' ∧ ((¬ Fits V ls ∧ e = .returned (.tuple #[.agg #[.slice none 0 0, .slice none 0 0, .slice none 0 0, .slice none 0 0], .int .i64 1])) ∨
      (Fits V ls ∧ doAllP (goneB V.mem ls) V js = none ∧ e = .returned (.tuple #[.agg #[.slice none 0 0, .slice none 0 0, .slice none 0 0, .slice none 0 0], .int .i64 6])) ∨
      (Fits V ls ∧ ∃ V' u, doAllP (goneB V.mem ls) V js = some V' ∧ e = .returned (.tuple #[u, .int .i64 0]) ∧ VwAt w' u (cleanV (goneB V.mem ls) V'))) := by
  have hA := fun o => (Below.refl w.heap.size w).alloc (Nat.le_refl _) o
  have hA2 : ∀ o o', Below w.heap.size w ((w.alloc o).alloc o') := fun o o' => (hA o).alloc (hA o).size o'
  have CR := Lib.hid (fun o o' => read_any v lv V ls ((w.alloc o).alloc o') (hv.below (hA2 o o')) (hl.below (hA2 o o')) hrf)
  have HJ := Lib.hid (fun o o' => hj.below (hA2 o o'))
  have HA := Lib.hid hA2
  obtain ⟨ma, mc, ha, hc, ra, rl, rc, wa, wl, wc, rfl⟩ := hv.val
  obtain ⟨la, lc, _, _, rfl, -⟩ := hl.at
  obtain ⟨ja, jc, _, _, rfl, -⟩ := hj.at
  clear hA hA2 hv hl hj
  generalize goneB V.mem ls = gone at *
  obtain ⟨ml, hml⟩ : ∃ n, n = V.mem.length := ⟨_, rfl⟩
  obtain ⟨nh, hnh⟩ : ∃ n, n = V.held.length := ⟨_, rfl⟩
  have HNH := Lib.hid hnh
  rw [← hml, ← hnh] at CR ⊢
  clear hml hnh
  generalize ls.length = ll at *
  generalize js.length = jl at *
  go_enter Try.func27, Try.ntmps27
  go_wp2_with fail
  refine (CR.out _ _).mono ?_
  rintro e w3 ⟨hb3, hcase⟩
  have hb1 := HA.out (.cells #[.slice ma ml mc, .slice ha nh hc, .slice ra rl rc, .slice wa wl wc] 26) (.cells #[.slice none 0 0, .slice none 0 0, .slice none 0 0, .slice none 0 0] 26)
  have hz1 : ((w.alloc (.cells #[.slice ma ml mc, .slice ha nh hc, .slice ra rl rc, .slice wa wl wc] 26)).alloc (.cells #[.slice none 0 0, .slice none 0 0, .slice none 0 0, .slice none 0 0] 26)).heap.size = w.heap.size + 1 + 1 := by rw [World.size_alloc, World.size_alloc]
  have hr0 : ((w.alloc (.cells #[.slice ma ml mc, .slice ha nh hc, .slice ra rl rc, .slice wa wl wc] 26)).alloc (.cells #[.slice none 0 0, .slice none 0 0, .slice none 0 0, .slice none 0 0] 26)).heap[w.heap.size + 1]? = some (.cells #[.slice none 0 0, .slice none 0 0, .slice none 0 0, .slice none 0 0] 26) := by
    have := heap_alloc_new (w.alloc (.cells #[.slice ma ml mc, .slice ha nh hc, .slice ra rl rc, .slice wa wl wc] 26)) (.cells #[.slice none 0 0, .slice none 0 0, .slice none 0 0, .slice none 0 0] 26)
    rw [World.size_alloc] at this
    exact this
  have hJ1 := HJ.out (.cells #[.slice ma ml mc, .slice ha nh hc, .slice ra rl rc, .slice wa wl wc] 26) (.cells #[.slice none 0 0, .slice none 0 0, .slice none 0 0, .slice none 0 0] 26)
  generalize (w.alloc (.cells #[.slice ma ml mc, .slice ha nh hc, .slice ra rl rc, .slice wa wl wc] 26)).alloc (.cells #[.slice none 0 0, .slice none 0 0, .slice none 0 0, .slice none 0 0] 26) = W1 at *
  have hbw := hb1.trans (hb3.mono hb1.size)
  have hr3 := (hb3.block (w.heap.size + 1) (by omega)).trans hr0
  have hz3 := hb3.size
  rcases hcase with ⟨hno, rfl⟩ | ⟨hfit, p, rfl, hp, hst⟩
  · have HNO := Lib.hid hno
    have r0 := cell_of_row w3 _ 0 _ _ _ hr3
    have r1 := cell_of_row w3 _ 1 _ _ _ hr3
    have r2 := cell_of_row w3 _ 2 _ _ _ hr3
    have r3 := cell_of_row w3 _ 3 _ _ _ hr3
    have f0 := frozen_of_row w3 (w.heap.size + 1) 0 _ _ hr3
    have f1 := frozen_of_row w3 (w.heap.size + 1) 1 _ _ hr3
    have f2 := frozen_of_row w3 (w.heap.size + 1) 2 _ _ hr3
    have f3 := frozen_of_row w3 (w.heap.size + 1) 3 _ _ hr3
    obtain ⟨y1, y2, y3⟩ := four_set hr3 (.slice none 0 0) (.slice none 0 0) (.slice none 0 0) (.slice none 0 0)
    have hbF := y3 w.heap.size w (by omega) hbw
    have HBF := Lib.hid hbF
    have HY1 := Lib.hid y1
    clear hno y1 y2 y3 hbF
    go_wp2
    refine bodyPost_ret (results_row_tmp (P := Try.prog) Try.results27 _ _ (w.heap.size + 1) 26 _ (0, 0) _ (by rfl) HY1.out Try.underlying26 rfl (by kernel_rfl)) rfl ?_
    exact ⟨HBF.out, .inl ⟨HNO.out, rfl⟩⟩
  have CD := Lib.hid (doAll_any (.slice ja jl jc) js W1 w3 rfl hb3 hst hJ1 (Nat.le_refl _))
  have HFIT := Lib.hid hfit
  have h256 : nh ≤ 256 := by rw [HNH.out]; exact hfit.1.1.2
  have hp3 : p < w3.heap.size := cell_lt hst.at.choose_spec.choose_spec.choose_spec.choose_spec.choose_spec.choose_spec.1
  obtain ⟨lo, hlo⟩ : ∃ lo, lo = W1.heap.size := ⟨_, rfl⟩
  rw [← hlo] at CD hst hp hz3 hz1
  obtain ⟨hi, hhi⟩ : ∃ hi, hi = w3.heap.size := ⟨_, rfl⟩
  rw [← hhi] at CD hst
  have HLO := Lib.hid hlo
  have HHI := Lib.hid hhi
  have hlw : w.heap.size ≤ lo := by omega
  have hhw : hi ≤ w3.heap.size := by omega
  clear hfit hst hlo hhi hb3
  go_wp2_with fail
  refine CD.out.mono ?_
  rintro e w4 ⟨rfl, hk4, hst4⟩
  have hbw4 := hbw.trans (hk4.1.mono hlw)
  have hr4 := (hk4.1.block (w.heap.size + 1) (by omega)).trans hr3
  have z4 := hk4.1.size
  clear CD hr3 hr0
  cases hd : doAllP gone V js with
  | none =>
    have r0 := cell_of_row w4 _ 0 _ _ _ hr4
    have r1 := cell_of_row w4 _ 1 _ _ _ hr4
    have r2 := cell_of_row w4 _ 2 _ _ _ hr4
    have r3 := cell_of_row w4 _ 3 _ _ _ hr4
    have f0 := frozen_of_row w4 (w.heap.size + 1) 0 _ _ hr4
    have f1 := frozen_of_row w4 (w.heap.size + 1) 1 _ _ hr4
    have f2 := frozen_of_row w4 (w.heap.size + 1) 2 _ _ hr4
    have f3 := frozen_of_row w4 (w.heap.size + 1) 3 _ _ hr4
    obtain ⟨y1, y2, y3⟩ := four_set hr4 (.slice none 0 0) (.slice none 0 0) (.slice none 0 0) (.slice none 0 0)
    have hbF := y3 w.heap.size w (by omega) hbw4
    have HBF := Lib.hid hbF
    have HY1 := Lib.hid y1
    have HD := Lib.hid hd
    clear y1 y2 y3 hbF hst4 hd
    simp only [Option.isSome_none]
    go_wp2
    refine bodyPost_ret (results_row_tmp (P := Try.prog) Try.results27 _ _ (w.heap.size + 1) 26 _ (0, 0) _ (by rfl) HY1.out Try.underlying26 rfl (by kernel_rfl)) rfl ?_
    exact ⟨HBF.out, .inr (.inl ⟨HFIT.out, HD.out, rfl⟩)⟩
  | some V1 =>
    have hst5 := hst4 V1 hd
    have HD := Lib.hid hd
    have hlen1 : V1.held.length = nh := by rw [HNH.out]; exact (doAllP_same gone js V V1 hd).1
    clear hst4 hd
    simp only [Option.isSome_some]
    obtain ⟨xma, xmc, xha, xhc, xra, xrl, xrc, xwa, xwl, xwc, c0, c1, c2, c3, -⟩ := hst5.view
    rw [hlen1] at c1
    have HST5 := Lib.hid hst5
    clear hst5 c0 c2 c3
    go_wp2
    clear c1
    go_loopw [36, 10, 11, 12, 14] (fun v36 _ _ _ _ wr => ∃ k : Nat, k ≤ nh ∧ v36 = .int .i64 k ∧ StAt wr lo hi p (cleanTo gone V1 k) gone ∧ Keep lo hi w4 wr) (fun v36 _ _ _ _ _ => nh - (intOf v36).toNat)
    case atStart => exact ⟨0, Nat.zero_le _, rfl, by rw [cleanTo_zero]; exact HST5.out, Keep.refl _ _ _⟩
    case round =>
      obtain ⟨k, hk, rfl, hst, hkr⟩ := hrel
      have zk := hkr.1.size
      have HST := Lib.hid hst
      by_cases hlt : k < nh
      · have hkl : k < V1.held.length := by rw [hlen1]; exact hlt
        have hcl : (cleanTo gone V1 k).held.length = V1.held.length := cleanTo_len _ _ _ (by omega)
        have hkc : k < (cleanTo gone V1 k).held.length := by rw [hcl]; exact hkl
        have CL := Lib.hid (left_any k wr hst hkc)
        rw [cleanTo_at _ _ _ hkl] at CL
        have h16 := (hst.2.1.small.2.2.2.2 k hkc).at_small.1
        have hat := (hst.2.1.small.2.2.2.2 k hkc).2.2.2.2.2
        rw [cleanTo_at _ _ _ hkl] at h16 hat
        have HAT := Lib.hid hat
        have HZS := Lib.hid (show (cleanTo gone V1 k).held.getD k default = V1.held.getD k default from cleanTo_at _ _ _ hkl)
        have HSUC := Lib.hid (cleanTo_succ gone V1 k hkl)
        have hps : putAt (cleanTo gone V1 k) k (V1.held.getD k default).at_ = cleanTo gone V1 k := by
          have := putAt_self hkc
          rw [cleanTo_at _ _ _ hkl] at this
          exact this
        have HPS := Lib.hid hps
        have hol : (otherI gone (V1.held.getD k default).at_).length ≤ 16 := Nat.le_trans (otherTo_len _ _ _) h16
        have HMO := Lib.hid (fun x => @mem_otherI gone (V1.held.getD k default).at_ x)
        have HNO := Lib.hid (negs_other gone (V1.held.getD k default).at_)
        clear hst hat hps
        generalize (V1.held.getD k default).at_ = zs at *
        go_wp2_with fail
        refine CL.out.mono ?_
        rintro e w5 ⟨u1, u2, rfl, o1, o2, hb5⟩
        obtain ⟨a1, c1, rfl⟩ := OwnI.slice o1
        have hz5 := hb5.size
        have HO2 := Lib.hid o2
        obtain ⟨a2, c2, rfl⟩ := OwnI.slice o2
        have hk5 := hkr.trans (Keep.of_below hb5 (by omega))
        have HST5b := Lib.hid (HST.out.below hb5)
        obtain ⟨os, hos⟩ : ∃ os, os = otherI gone zs := ⟨_, rfl⟩
        rw [← hos] at HO2 HNO hol ⊢
        have HOS := Lib.hid hos
        clear o1 o2 hb5 CL hos
        generalize (leftI gone zs).length = ll1 at *
        go_wp2
        obtain ⟨wo, hwo⟩ : ∃ wo, wo = wr := ⟨_, rfl⟩
        subst hwo
        go_loopw [47, 14] (fun v47 _ wi => ∃ i : Nat, i ≤ os.length ∧ v47 = .int .i64 i ∧ StAt wi lo hi p (putAt (cleanTo gone V1 k) k (negs zs (os.take i))) gone ∧ Keep lo hi w5 wi) (fun v47 _ _ => os.length - (intOf v47).toNat)
        case atStart => exact ⟨0, Nat.zero_le _, rfl, by rw [List.take_zero]; show StAt w5 lo hi p (putAt _ _ zs) gone; rw [HPS.out]; exact HST5b.out, Keep.refl _ _ _⟩
        case round =>
          obtain ⟨i, hii, rfl, hsti, hki⟩ := hrel
          have zi := hki.1.size
          have HSTI := Lib.hid hsti
          clear hsti
          by_cases hlti : i < os.length
          · have hoi := Own.keep HO2.out hki (by omega)
            obtain ⟨oa, oc, ob, oo, e, -, -, ocell⟩ := (OwnI.reads hoi (by omega)).at
            cases e
            obtain ⟨e1, e2⟩ := ocell i hlti
            subst e1
            obtain ⟨m, hm1, hm2, _⟩ := (HMO.out (os.getD i 0)).1 (by rw [← HOS.out, getD_at _ _ _ hlti]; exact List.getElem_mem hlti)
            have hpl : ((putAt (cleanTo gone V1 k) k (negs zs (os.take i))).held.getD k default).at_ = negs zs (os.take i) := putAt_at hkc _
            obtain ⟨gh, hgc, ga, al, ac, d1, d2, d3, ⟨u, d4⟩, d5, d6, d7, d8⟩ := HSTI.out.neg (k := k) (i := m) (by rw [putAt_len]; exact hkc) (by rw [hpl, negs_len]; exact hm2)
            rw [putAt_len, hcl, hlen1] at d1
            rw [putAt_set hkc] at d8
            have htk : os.take (i + 1) = os.take i ++ [(m : Int)] := by rw [← hm1, getD_at _ _ _ hlti]; exact List.take_succ_eq_append_getElem hlti
            have hng : negs zs (os.take (i + 1)) = (negs zs (os.take i)).set m (-1) := by rw [htk, negs_snoc, Int.toNat_natCast]
            rw [← hng] at d8
            have D8 := Lib.hid d8
            have hkS := hki.trans (Keep.set (hi := hi) (i := m) (lo := lo) _ (.int .i64 (-1)) d6 d7)
            rw [hm1] at e2
            clear hoi ocell hpl htk hng d8 hm1
            go_wp2
            go_roundw
            case rel => exact ⟨i + 1, by omega, by go_num, D8.out, hkS⟩
            case measure => simp [intOf]; omega
          · have hil : i = os.length := by omega
            have hfin := HSTI.out
            rw [hil, List.take_length, HNO.out, HSUC.out] at hfin
            have HFIN := Lib.hid hfin
            clear hfin HSTI
            go_wp2
            go_roundw
            case rel => exact ⟨k + 1, by omega, by go_num, HFIN.out, hk5.trans hki⟩
            case measure => simp [intOf]; omega
      · have hkn : k = nh := by omega
        subst hkn
        have hst := HST.out
        rw [show cleanTo gone V1 k = cleanV gone V1 by rw [← hlen1]; exact cleanTo_all _ _] at hst
        obtain ⟨xma, xmc, xha, xhc, xra, xrl, xrc, xwa, xwl, xwc, c0, c1, c2, c3, hvw⟩ := hst.view
        have hbr := hbw4.trans (hkr.1.mono hlw)
        have hrr := (hkr.1.block (w.heap.size + 1) (by omega)).trans hr4
        have r0 := cell_of_row wr _ 0 _ _ _ hrr
        have r1 := cell_of_row wr _ 1 _ _ _ hrr
        have r2 := cell_of_row wr _ 2 _ _ _ hrr
        have r3 := cell_of_row wr _ 3 _ _ _ hrr
        have f0 := frozen_of_row wr (w.heap.size + 1) 0 _ _ hrr
        have f1 := frozen_of_row wr (w.heap.size + 1) 1 _ _ hrr
        have f2 := frozen_of_row wr (w.heap.size + 1) 2 _ _ hrr
        have f3 := frozen_of_row wr (w.heap.size + 1) 3 _ _ hrr
        obtain ⟨y1, y2, y3⟩ := four_set hrr (.slice xma (cleanV gone V1).mem.length xmc) (.slice xha (cleanV gone V1).held.length xhc) (.slice xra xrl xrc) (.slice xwa xwl xwc)
        have hbF := y3 w.heap.size w (by omega) hbr
        have hst' := hst.same_lo (fun g hg => y2 g (by omega))
        have hpr : p ≠ w.heap.size + 1 := by omega
        have hvw' := hst'.view
        obtain ⟨ma', mc', ha', hc', ra', rl', rc', wa', wl', wc', c0', c1', c2', c3', hvF⟩ := hvw'
        have ec : ∀ i, (((((wr.setCell ⟨w.heap.size + 1, 0, none⟩ (.slice xma (cleanV gone V1).mem.length xmc)).setCell ⟨w.heap.size + 1, 1, none⟩ (.slice xha (cleanV gone V1).held.length xhc)).setCell ⟨w.heap.size + 1, 2, none⟩ (.slice xra xrl xrc)).setCell ⟨w.heap.size + 1, 3, none⟩ (.slice xwa xwl xwc))).cell? ⟨p, i, none⟩ = wr.cell? ⟨p, i, none⟩ := fun i => by
          unfold World.cell?
          rw [y2 p hpr]
        rw [ec, c0] at c0'
        rw [ec, c1] at c1'
        rw [ec, c2] at c2'
        rw [ec, c3] at c3'
        cases c0'; cases c1'; cases c2'; cases c3'
        have HBF := Lib.hid hbF
        have HY1 := Lib.hid y1
        have HVF := Lib.hid hvF
        clear ec hst' hvF hpr
        generalize hcm : (cleanV gone V1).mem.length = cm at *
        generalize hch : (cleanV gone V1).held.length = ch at *
        clear y1 y2 y3 hbF hvw hst HST
        go_wp2
        refine bodyPost_ret (results_row_tmp (P := Try.prog) Try.results27 _ _ (w.heap.size + 1) 26 _ (0, 0) _ (by rfl) HY1.out Try.underlying26 rfl (by kernel_rfl)) rfl ?_
        exact ⟨HBF.out, .inr (.inr ⟨HFIT.out, V1, _, HD.out, rfl, HVF.out⟩)⟩

end Go.Proofs.Ytijcicgbhcphjaa
