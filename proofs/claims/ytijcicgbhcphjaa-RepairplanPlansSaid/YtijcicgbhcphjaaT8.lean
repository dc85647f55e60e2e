/- The reference's job. -/
import Derived.Test.YtijcicgbhcphjaaT5
import Derived.Deep.DeepCutAuto
import Derived.Deep.CutBlock
namespace Go.Proofs.Ytijcicgbhcphjaa
open Go.RowKit Go.Lib Go.ChangeMaps
set_option linter.unusedSimpArgs false

/-- The job found so far. -/
def bestCells (bt : Int) (id : ByteArray) (ix : Int) (fa : Option Addr) (fl fc : Nat) (block : Int) : Array Value :=
  if bt < 0 then #[.string ⟨#[]⟩, .int .i64 0, .slice none 0 0, .int .i64 (-1), .int .i64 0] else #[.string id, .int .i64 ix, .slice fa fl fc, .int .i64 bt, .int .i64 block]
theorem bestTo_succ (al : Nat → Bool) (bt : Nat → Nat → Bool) (m : Nat) : bestTo al bt (m + 1) = if al m = true ∧ (bestTo al bt m < 0 ∨ bt m (bestTo al bt m).toNat = true) then (m : Int) else bestTo al bt m := rfl

set_option maxRecDepth 100000 in
set_option maxHeartbeats 32000000 in
theorem job_ref (fv v lv : Value) (F N : Vp) (ls : List Int) (k : Nat) (w : World) (hF : VwAt w fv F) (hN : VwAt w v N) (hl : ReadsI w lv ls) (hokF : VOk F) (hokN : VOk N) (hk : k < N.held.length) (hg : Grow F (goneB N.mem ls) N) :
    Calls Try.prog 52 #[fv, v, lv, .int .i64 k] w fun e w' => Below w.heap.size w w' ∧ ∃ (j : Jp) (a : Option Addr) (l c : Nat), e = .returned (.tuple #[j.v (.slice a l c), .bool (openB N (goneB N.mem ls) k)]) ∧
      (openB N (goneB N.mem ls) k = true → j = jobK F (goneB N.mem ls) N k ∧ OwnI w' w.heap.size (.slice a l c) j.from_) := by
  have hkF : k < F.held.length := by rw [← hg.len]; exact hk
  have hmem : F.mem = N.mem := hg.mem.symm
  have CLF := Lib.hid (fun (W : World) (h : Hp) (qa : Option Addr) (ql qc : Nat) (av : Value) (hW : Below w.heap.size w W) (ha0 : ReadsI W av h.at_) (hat : ∀ x ∈ h.at_, x = -1 ∨ (0 ≤ x ∧ x < F.mem.length)) (h16 : h.at_.length ≤ 16) =>
    left_ref _ _ F ls h qa ql qc av W (hF.below hW) (hl.below hW) ha0 hat h16)
  have CLN := Lib.hid (fun (W : World) (h : Hp) (qa : Option Addr) (ql qc : Nat) (av : Value) (hW : Below w.heap.size w W) (ha0 : ReadsI W av h.at_) (hat : ∀ x ∈ h.at_, x = -1 ∨ (0 ≤ x ∧ x < N.mem.length)) (h16 : h.at_.length ≤ 16) =>
    left_ref _ _ N ls h qa ql qc av W (hN.below hW) (hl.below hW) ha0 hat h16)
  have CP := Lib.hid (fun (W : World) (u : Value) (j : Jp) (hW : Below w.heap.size w W) (hf : ReadsI W u j.from_) => possible_ref _ _ u N ls j W (hN.below hW) (hl.below hW) hf hokN)
  rw [hmem] at CLF
  have hokk := hokN.small.2.2.2.2 k hk
  have hokf := hokF.small.2.2.2.2 k hkF
  have HOD := Lib.hid (fun (ix : Nat) h1 h2 => openD (ix := ix) hokN hg hk h1 h2)
  have HDE := Lib.hid (fun h => openD_dead (k := k) hg h)
  have hwl : N.weight.length = N.mem.length := hokN.small.2.2.2.1
  obtain ⟨gone, hgone⟩ : ∃ gone, gone = goneB N.mem ls := ⟨_, rfl⟩
  rw [← hgone] at CLF CLN CP HOD HDE ⊢
  clear hgone
  obtain ⟨op, hop⟩ : ∃ op, op = openB N gone k := ⟨_, rfl⟩
  rw [← hop] at HOD HDE ⊢
  have HOP := Lib.hid hop
  clear hop hg hokF hokN
  obtain ⟨fm, fh, fr, fw, rfl, hFM, hFH, hFR, hFW⟩ := hF
  obtain ⟨nm, nh, nr, nw, rfl, hNM, hNH, hNR, hNW⟩ := hN
  obtain ⟨fma, fmc, _, _, rfl, -⟩ := hFM.at
  obtain ⟨fha, fhc, fhb, fho, rfl, fhl, fhm, fcell⟩ := hFH.at
  obtain ⟨fra, frc, _, _, rfl, -⟩ := hFR.at
  obtain ⟨fwa, fwc, _, _, rfl, -⟩ := hFW.at
  obtain ⟨nma, nmc, _, _, rfl, hnm1, hnm2, -⟩ := hNM.at
  obtain ⟨nha, nhc, nhb, nho, rfl, nhl, nhm, ncell⟩ := hNH.at
  obtain ⟨nra, nrc, _, _, rfl, -⟩ := hNR.at
  obtain ⟨nwa, nwc, nwb, nwo, rfl, hnw1, hnw2, wcell⟩ := hNW.at
  obtain ⟨la, lc, _, _, rfl, -⟩ := hl.at
  have WC := Lib.hid wcell
  obtain ⟨rfl, f0, f1, f2, f3, f4, frv, fav, f5, f6, hfr, hfa⟩ := fcell k hkF
  obtain ⟨rfl, n0, n1, n2, n3, n4, nrv, nav, n5, n6, hnr, hna⟩ := ncell k hk
  obtain ⟨fra1, frc1, _, _, rfl, -⟩ := hfr.at
  obtain ⟨nra1, nrc1, _, _, rfl, -⟩ := hnr.at
  have HFA := Lib.hid hfa
  have HNA := Lib.hid hna
  obtain ⟨faa, fac, _, _, rfl, -⟩ := hfa.at
  obtain ⟨naa, nac, _, _, rfl, -⟩ := hna.at
  have a16 := hokf.at_small.1
  have b16 := hokk.at_small.1
  have btl := hokk.at_small.2.1
  have hdt := hokk.2.1
  have htt := hokk.2.2.1
  have hbk := hokk.2.2.2.1
  have HF8 := Lib.hid hokf.2.2.2.2.2.2
  have HN8 := Lib.hid (show ∀ x ∈ (N.held.getD k default).at_, x = -1 ∨ (0 ≤ x ∧ x < N.mem.length) from hokk.2.2.2.2.2.2)
  rw [hmem] at HF8
  have CF1 := Lib.hid (fun W hW ha => CLF.out W (F.held.getD k default) fra1 (F.held.getD k default).refs.length frc1 (.slice faa (F.held.getD k default).at_.length fac) hW ha HF8.out a16)
  have CN1 := Lib.hid (fun W hW ha => CLN.out W (N.held.getD k default) nra1 (N.held.getD k default).refs.length nrc1 (.slice naa (N.held.getD k default).at_.length nac) hW ha HN8.out b16)
  have hlf := leftI_len gone (F.held.getD k default).at_
  have hln := leftI_len gone (N.held.getD k default).at_
  have HOF := Lib.hid (fun (i : Nat) h1 h2 h3 => other_first (gone := gone) (zs := (N.held.getD k default).at_) (i := i) h1 h2 h3)
  have CJ := Lib.hid (fun (W : World) (u : Value) (ix d : Int) (hW : Below w.heap.size w W) (hf : ReadsI W u ((leftI gone (F.held.getD k default).at_).take (N.held.getD k default).data.toNat)) => CP.out W u (jobD F N gone k ix d) hW hf)
  have HAL := Lib.hid (fun (ix : Int) (d : Nat) => (show possB N gone (jobD F N gone k ix d) = alD F N gone k ix d from rfl))
  have HJK := Lib.hid (fun (ix d : Int) => (show jobD F N gone k ix d = ⟨⟨(N.held.getD k default).id, ix⟩, (leftI gone (F.held.getD k default).at_).take (N.held.getD k default).data.toNat, d, (N.held.getD k default).block⟩ from rfl))
  unfold jobD at CJ
  unfold bestD at HOD
  clear fcell ncell wcell hFM hFH hFR hFW hNM hNH hNR hNW hl hfr hfa hnr hna hokk hokf CLF CLN CP HF8 HN8
  generalize hfd : F.held.getD k default = y at *
  generalize hnd : N.held.getD k default = z at *
  have HFD := Lib.hid hfd
  have HND := Lib.hid hnd
  clear hfd hnd
  obtain ⟨fid, fvault, fblock, fdata, ftotal, frefs, fzs⟩ := y
  obtain ⟨id, vault, block, data, total, refs, zs⟩ := z
  unfold Hp.v at CF1 CN1
  unfold Jp.v at CJ
  simp only at f0 f1 f2 f3 f4 f5 f6 n0 n1 n2 n3 n4 n5 n6 a16 b16 btl hdt htt hbk CF1 CN1 hlf hln HFA HNA HOD HDE HOF CJ HJK HFD HND
  generalize refs.length = ql at *
  generalize frefs.length = fql at *
  obtain ⟨dn, rfl⟩ : ∃ dn : Nat, data = dn := ⟨data.toNat, by omega⟩
  rw [Int.toNat_natCast] at CJ HJK
  obtain ⟨fml, hfml⟩ : ∃ x, x = F.mem.length := ⟨_, rfl⟩
  obtain ⟨fhn, hfhn⟩ : ∃ x, x = F.held.length := ⟨_, rfl⟩
  obtain ⟨frl, hfrl⟩ : ∃ x, x = F.room.length := ⟨_, rfl⟩
  obtain ⟨fwl, hfwl⟩ : ∃ x, x = F.weight.length := ⟨_, rfl⟩
  obtain ⟨nml, hnml⟩ : ∃ x, x = N.mem.length := ⟨_, rfl⟩
  obtain ⟨nhn, hnhn⟩ : ∃ x, x = N.held.length := ⟨_, rfl⟩
  obtain ⟨nrl, hnrl⟩ : ∃ x, x = N.room.length := ⟨_, rfl⟩
  obtain ⟨nwl, hnwl⟩ : ∃ x, x = N.weight.length := ⟨_, rfl⟩
  rw [← hnml, ← hnwl] at hwl
  rw [← hnml] at hnm1 hnm2
  rw [← hnwl] at hnw1 hnw2
  rw [← hfml, ← hfhn, ← hfrl, ← hfwl] at CF1
  rw [← hnml, ← hnhn, ← hnrl, ← hnwl] at CN1 CJ
  rw [← hnml] at HOD
  rw [← hfml, ← hfhn, ← hfrl, ← hfwl, ← hnml, ← hnhn, ← hnrl, ← hnwl]
  have hk2 : k < nhn := by rw [hnhn]; exact hk
  have hkF2 : k < fhn := by rw [hfhn]; exact hkF
  rw [← hnwl] at WC
  have hwl' := hwl.symm
  subst hwl'
  generalize ls.length = ll at *
  clear hfml hfhn hfrl hfwl hnml hnhn hnrl hnwl hmem hkF hk
  obtain ⟨lf, hlfe⟩ : ∃ lf, lf = leftI gone fzs := ⟨_, rfl⟩
  obtain ⟨lz, hlze⟩ : ∃ lz, lz = leftI gone zs := ⟨_, rfl⟩
  rw [← hlfe] at CF1 hlf HOD HDE CJ HJK
  rw [← hlze] at CN1 hln HOF
  clear hlfe hlze
  have hb0 : Below w.heap.size w (((w.alloc (.cells #[.slice fma fml fmc, .slice (some ⟨fhb, fho, none⟩) fhn fhc, .slice fra frl frc, .slice fwa fwl fwc] 33)).alloc (.cells #[.slice nma nml nmc, .slice (some ⟨nhb, nho, none⟩) nhn nhc, .slice nra nrl nrc, .slice nwa nml nwc] 33)).alloc (.cells #[.string ⟨#[]⟩, .int .i64 0, .slice none 0 0, .int .i64 0, .int .i64 0] 107)) := by (repeat' (first | (with_reducible exact Below.refl _ _) | (with_reducible assumption) | (with_reducible refine Below.alloc ?_ ?_ _) | (with_reducible refine Below.drew ?_) | (with_reducible refine below_drewN ?_ _) | (with_reducible refine Below.setCell ?_ ?_ _) | (with_reducible refine below_step ?_ (by with_reducible assumption) ?_) | go_size))
  have kA : (((w.alloc (.cells #[.slice fma fml fmc, .slice (some ⟨fhb, fho, none⟩) fhn fhc, .slice fra frl frc, .slice fwa fwl fwc] 33)).alloc (.cells #[.slice nma nml nmc, .slice (some ⟨nhb, nho, none⟩) nhn nhc, .slice nra nrl nrc, .slice nwa nml nwc] 33)).alloc (.cells #[.string ⟨#[]⟩, .int .i64 0, .slice none 0 0, .int .i64 0, .int .i64 0] 107)).heap[w.heap.size]? = some (.cells #[.slice fma fml fmc, .slice (some ⟨fhb, fho, none⟩) fhn fhc, .slice fra frl frc, .slice fwa fwl fwc] 33 (0, 0)) := by
    show (((w.heap.push _).push _).push _)[_]? = _; simp only [Array.getElem?_push, Array.size_push]; repeat (first | rw [if_pos trivial] | rw [if_pos (by omega)] | rw [if_neg (by omega)])
  have kB : (((w.alloc (.cells #[.slice fma fml fmc, .slice (some ⟨fhb, fho, none⟩) fhn fhc, .slice fra frl frc, .slice fwa fwl fwc] 33)).alloc (.cells #[.slice nma nml nmc, .slice (some ⟨nhb, nho, none⟩) nhn nhc, .slice nra nrl nrc, .slice nwa nml nwc] 33)).alloc (.cells #[.string ⟨#[]⟩, .int .i64 0, .slice none 0 0, .int .i64 0, .int .i64 0] 107)).heap[w.heap.size + 1]? = some (.cells #[.slice nma nml nmc, .slice (some ⟨nhb, nho, none⟩) nhn nhc, .slice nra nrl nrc, .slice nwa nml nwc] 33 (0, 0)) := by
    show (((w.heap.push _).push _).push _)[_]? = _; simp only [Array.getElem?_push, Array.size_push]; repeat (first | rw [if_pos trivial] | rw [if_pos (by omega)] | rw [if_neg (by omega)])
  have kC : (((w.alloc (.cells #[.slice fma fml fmc, .slice (some ⟨fhb, fho, none⟩) fhn fhc, .slice fra frl frc, .slice fwa fwl fwc] 33)).alloc (.cells #[.slice nma nml nmc, .slice (some ⟨nhb, nho, none⟩) nhn nhc, .slice nra nrl nrc, .slice nwa nml nwc] 33)).alloc (.cells #[.string ⟨#[]⟩, .int .i64 0, .slice none 0 0, .int .i64 0, .int .i64 0] 107)).heap[w.heap.size + 1 + 1]? = some (.cells #[.string ⟨#[]⟩, .int .i64 0, .slice none 0 0, .int .i64 0, .int .i64 0] 107 (0, 0)) := by
    show (((w.heap.push _).push _).push _)[_]? = _; simp only [Array.getElem?_push, Array.size_push]; repeat (first | rw [if_pos trivial] | rw [if_pos (by omega)] | rw [if_neg (by omega)])
  go_enter Try.func52, Try.ntmps52
  go_upto_region 1 with fail
  generalize (((w.alloc (.cells #[.slice fma fml fmc, .slice (some ⟨fhb, fho, none⟩) fhn fhc, .slice fra frl frc, .slice fwa fwl fwc] 33)).alloc (.cells #[.slice nma nml nmc, .slice (some ⟨nhb, nho, none⟩) nhn nhc, .slice nra nrl nrc, .slice nwa nml nwc] 33)).alloc (.cells #[.string ⟨#[]⟩, .int .i64 0, .slice none 0 0, .int .i64 0, .int .i64 0] 107)) = W0 at *
  have n0 := bc hb0 n0
  have n1 := bc hb0 n1
  have n2 := bc hb0 n2
  have n3 := bc hb0 n3
  have n4 := bc hb0 n4
  have n5 := bc hb0 n5
  have hz0 : w.heap.size + 1 + 1 < W0.heap.size := (Array.getElem?_eq_some_iff.1 kC).1
  have m1 := cell_of_row _ (w.heap.size + 1) 1 _ _ _ kB
  go_upto_region 2 with fail
  have hAl := sbell (w := W0) (.cells #[.string id, .int .i64 vault, .int .i64 block, .int .i64 (dn : Int), .int .i64 total, .slice nra1 ql nrc1] 50)
  have hks := heap_alloc_new W0 (.cells #[.string id, .int .i64 vault, .int .i64 block, .int .i64 (dn : Int), .int .i64 total, .slice nra1 ql nrc1] 50)
  have hb1 := hb0.trans (hAl.mono hb0.size)
  have kA := bb hAl kA
  have kB := bb hAl kB
  have kC := bb hAl kC
  clear hAl hb0 m1 n0 n1 n2 n3 n4 n5
  obtain ⟨S, hS⟩ : ∃ S, S = W0.heap.size := ⟨_, rfl⟩
  rw [← hS] at hks hz0 ⊢
  generalize W0.alloc (.cells #[.string id, .int .i64 vault, .int .i64 block, .int .i64 (dn : Int), .int .i64 total, .slice nra1 ql nrc1] 50) = W1 at *
  clear hS
  have a0 := cell_of_row _ w.heap.size 0 _ _ _ kA
  have a1 := cell_of_row _ w.heap.size 1 _ _ _ kA
  have a2 := cell_of_row _ w.heap.size 2 _ _ _ kA
  have a3 := cell_of_row _ w.heap.size 3 _ _ _ kA
  have f0 := bc hb1 f0
  have f1 := bc hb1 f1
  have f2 := bc hb1 f2
  have f3 := bc hb1 f3
  have f4 := bc hb1 f4
  have f5 := bc hb1 f5
  have f6 := bc hb1 f6
  have hbd := hb1.drew
  have CF2 := Lib.hid (CF1.out W1.drew hbd (HFA.out.below hbd))
  have KB := Lib.hid (show W1.drew.heap[w.heap.size + 1]? = _ from kB)
  have KC := Lib.hid (show W1.drew.heap[w.heap.size + 1 + 1]? = _ from kC)
  have KS := Lib.hid (show W1.drew.heap[S]? = _ from hks)
  clear kA kB kC hks CF1
  have HSB0 : ∀ w' : World, Below (W1).drew.heap.size (W1).drew w' → (w'.cell? ⟨w.heap.size, 0, none⟩ = some (.slice fma fml fmc) ∧ w'.cell? ⟨w.heap.size, 1, none⟩ = some (.slice (some ⟨fhb, fho, none⟩) fhn fhc) ∧ w'.cell? ⟨w.heap.size, 2, none⟩ = some (.slice fra frl frc) ∧ w'.cell? ⟨w.heap.size, 3, none⟩ = some (.slice fwa fwl fwc) ∧ w'.cell? ⟨fhb, fho + k * 7, none⟩ = some (.string fid) ∧ w'.cell? ⟨fhb, fho + k * 7 + 1, none⟩ = some (.int .i64 fvault) ∧ w'.cell? ⟨fhb, fho + k * 7 + 2, none⟩ = some (.int .i64 fblock) ∧ w'.cell? ⟨fhb, fho + k * 7 + 3, none⟩ = some (.int .i64 fdata) ∧ w'.cell? ⟨fhb, fho + k * 7 + 4, none⟩ = some (.int .i64 ftotal) ∧ w'.cell? ⟨fhb, fho + k * 7 + 5, none⟩ = some (.slice fra1 fql frc1) ∧ w'.cell? ⟨fhb, fho + k * 7 + 6, none⟩ = some (.slice faa fzs.length fac)) := fun w' hb => ⟨bc hb a0, bc hb a1, bc hb a2, bc hb a3, bc hb f0, bc hb f1, bc hb f2, bc hb f3, bc hb f4, bc hb f5, bc hb f6⟩
  refine wp_region_held_drew (S := fun w' => w'.cell? ⟨w.heap.size, 0, none⟩ = some (.slice fma fml fmc) ∧ w'.cell? ⟨w.heap.size, 1, none⟩ = some (.slice (some ⟨fhb, fho, none⟩) fhn fhc) ∧ w'.cell? ⟨w.heap.size, 2, none⟩ = some (.slice fra frl frc) ∧ w'.cell? ⟨w.heap.size, 3, none⟩ = some (.slice fwa fwl fwc) ∧ w'.cell? ⟨fhb, fho + k * 7, none⟩ = some (.string fid) ∧ w'.cell? ⟨fhb, fho + k * 7 + 1, none⟩ = some (.int .i64 fvault) ∧ w'.cell? ⟨fhb, fho + k * 7 + 2, none⟩ = some (.int .i64 fblock) ∧ w'.cell? ⟨fhb, fho + k * 7 + 3, none⟩ = some (.int .i64 fdata) ∧ w'.cell? ⟨fhb, fho + k * 7 + 4, none⟩ = some (.int .i64 ftotal) ∧ w'.cell? ⟨fhb, fho + k * 7 + 5, none⟩ = some (.slice fra1 fql frc1) ∧ w'.cell? ⟨fhb, fho + k * 7 + 6, none⟩ = some (.slice faa fzs.length fac)) (by kernel_rfl) (HSB0 _ (Below.refl _ _)) (fun hHeld => ?_)
  have HSB := Lib.hid HSB0
  clear HSB0
  generalize (W1).drew = Wd at *
  clear a0 a1 a2 a3 f0 f1 f2 f3 f4 f5 f6
  refine wpAnyH_take (i := 0) (v := ?_) rfl (by kernel_rfl) (by kernel_rfl) (by kernel_rfl) (fun _ _ _ h => h) (Or.inl ⟨by rfl, ?_⟩) (by assumption) ?_
  rotate_left; · (intro w hSw; (try dsimp only at hSw); go_simp; try with_reducible rfl)
  try simp only [Act.put, List.getElem_toArray, List.getElem_cons_zero, List.getElem_cons_succ, List.setIfInBounds_toArray, List.set_cons_zero, List.set_cons_succ]
  refine wpAnyH_take (i := 1) (v := ?_) rfl (by kernel_rfl) (by kernel_rfl) (by kernel_rfl) (fun _ _ _ h => h) (Or.inl ⟨by rfl, ?_⟩) (by assumption) ?_
  rotate_left; · (intro w hSw; (try dsimp only at hSw); go_simp; try with_reducible rfl)
  try simp only [Act.put, List.getElem_toArray, List.getElem_cons_zero, List.getElem_cons_succ, List.setIfInBounds_toArray, List.set_cons_zero, List.set_cons_succ]
  refine wpAnyH_take (i := 2) (v := ?_) rfl (by kernel_rfl) (by kernel_rfl) (by kernel_rfl) (fun _ _ _ h => h) (Or.inl ⟨by rfl, ?_⟩) (by assumption) ?_
  rotate_left; · (intro w hSw; (try dsimp only at hSw); go_simp; try with_reducible rfl)
  try simp only [Act.put, List.getElem_toArray, List.getElem_cons_zero, List.getElem_cons_succ, List.setIfInBounds_toArray, List.set_cons_zero, List.set_cons_succ]
  refine wpAnyH_take (i := 3) (v := ?_) rfl (by kernel_rfl) (by kernel_rfl) (by kernel_rfl) (fun _ _ _ h => h) (Or.inl ⟨by rfl, ?_⟩) (by assumption) ?_
  rotate_left; · (intro w hSw; (try dsimp only at hSw); go_simp; try with_reducible rfl)
  try simp only [Act.put, List.getElem_toArray, List.getElem_cons_zero, List.getElem_cons_succ, List.setIfInBounds_toArray, List.set_cons_zero, List.set_cons_succ]
  refine wpAnyH_take (i := 4) (v := ?_) rfl (by kernel_rfl) (by kernel_rfl) (by kernel_rfl) (fun _ _ _ h => h) (Or.inl ⟨by rfl, ?_⟩) (by assumption) ?_
  rotate_left; · (intro w hSw; (try dsimp only at hSw); go_simp; try with_reducible rfl)
  try simp only [Act.put, List.getElem_toArray, List.getElem_cons_zero, List.getElem_cons_succ, List.setIfInBounds_toArray, List.set_cons_zero, List.set_cons_succ]
  refine wpAnyH_take (i := 5) (v := ?_) rfl (by kernel_rfl) (by kernel_rfl) (by kernel_rfl) (fun _ _ _ h => h) (Or.inl ⟨by rfl, ?_⟩) (by assumption) ?_
  rotate_left; · (intro w hSw; (try dsimp only at hSw); go_simp; try with_reducible rfl)
  try simp only [Act.put, List.getElem_toArray, List.getElem_cons_zero, List.getElem_cons_succ, List.setIfInBounds_toArray, List.set_cons_zero, List.set_cons_succ]
  refine wpAnyH_take (i := 6) (v := ?_) rfl (by kernel_rfl) (by kernel_rfl) (by kernel_rfl) (fun _ _ _ h => h) (Or.inl ⟨by rfl, ?_⟩) (by assumption) ?_
  rotate_left; · (intro w hSw; (try dsimp only at hSw); go_simp; try with_reducible rfl)
  try simp only [Act.put, List.getElem_toArray, List.getElem_cons_zero, List.getElem_cons_succ, List.setIfInBounds_toArray, List.set_cons_zero, List.set_cons_succ]
  refine wpAnyH_ready (rs := [7]) (by kernel_rfl) (by simp) ?_
  refine AllReadyH.cons rfl (fun K hK => ?_) AllReadyH.nil
  go_simp
  refine CF2.out.mono ?_; rintro e w2 ⟨u2, rfl, o2, hb2⟩; obtain ⟨qa, qc, rfl⟩ := OwnI.slice o2
  go_wp2_with fail
  refine hK.out _ _ (HSB.out _ hb2) (fun hNew => ?_)
  clear hK K hHeld
  have hHeld := hNew
  clear hNew
  try simp only [Act.put, List.getElem_toArray, List.getElem_cons_zero, List.getElem_cons_succ, List.setIfInBounds_toArray, List.set_cons_zero, List.set_cons_succ]
  refine wpAnyH_take (i := 8) (v := ?_) rfl (by kernel_rfl) (by kernel_rfl) (by kernel_rfl) (fun _ _ _ h => h) (Or.inl ⟨by rfl, ?_⟩) (by assumption) ?_
  rotate_left; · (intro w hSw; (try dsimp only at hSw); go_simp; try with_reducible rfl)
  try simp only [Act.put, List.getElem_toArray, List.getElem_cons_zero, List.getElem_cons_succ, List.setIfInBounds_toArray, List.set_cons_zero, List.set_cons_succ]
  refine wpAnyH_done (by kernel_rfl) ?_ _
  have hbw2 := hbd.trans (hb2.mono hbd.size)
  have KB2 := Lib.hid (bb hb2 KB.out)
  have KC2 := Lib.hid (bb hb2 KC.out)
  have KS2 := Lib.hid (bb hb2 KS.out)
  have hfb := hbd.size
  have O2 := Lib.hid (Own.base o2 hfb)
  clear hHeld HSB CF2 KB KC KS hb2 hbd hb1 o2 hfb
  obtain ⟨lfl, hlfl⟩ : ∃ lfl, lfl = lf.length := ⟨_, rfl⟩
  rw [← hlfl] at hlf HOD HDE O2 ⊢
  have HLFL := Lib.hid hlfl
  clear hlfl
  have s3 := cell_of_row _ S 3 _ _ _ KS2.out
  by_cases hlt : (lfl : Int) < (dn : Int)
  · obtain rfl : op = false := HDE.out hlt
    have r0 := cell_of_row _ (w.heap.size + 1 + 1) 0 _ _ _ KC2.out
    have r1 := cell_of_row _ (w.heap.size + 1 + 1) 1 _ _ _ KC2.out
    have r2 := cell_of_row _ (w.heap.size + 1 + 1) 2 _ _ _ KC2.out
    have r3 := cell_of_row _ (w.heap.size + 1 + 1) 3 _ _ _ KC2.out
    have r4 := cell_of_row _ (w.heap.size + 1 + 1) 4 _ _ _ KC2.out
    have g0 := frozen_of_row _ (w.heap.size + 1 + 1) 0 _ _ KC2.out
    have g1 := frozen_of_row _ (w.heap.size + 1 + 1) 1 _ _ KC2.out
    have g2 := frozen_of_row _ (w.heap.size + 1 + 1) 2 _ _ KC2.out
    have g3 := frozen_of_row _ (w.heap.size + 1 + 1) 3 _ _ KC2.out
    have g4 := frozen_of_row _ (w.heap.size + 1 + 1) 4 _ _ KC2.out
    obtain ⟨x1, x2, x3⟩ := five_set KC2.out (.string ⟨#[]⟩) (.int .i64 0) (.slice none 0 0) (.int .i64 0) (.int .i64 0)
    have HBF := Lib.hid (x3 w.heap.size w (by omega) hbw2)
    have HY1 := Lib.hid x1
    clear x1 x2 x3
    go_wp2
    refine bodyPost_ret (results_row_tmp (P := Try.prog) Try.results52 _ _ (w.heap.size + 1 + 1) 107 _ (0, 0) _ (by rfl) HY1.out Try.underlying107 rfl (by kernel_rfl)) rfl ?_
    exact ⟨HBF.out, ⟨⟨⟨#[]⟩, 0⟩, [], 0, 0⟩, none, 0, 0, by first | exact ⟨rfl, fun h => by cases h⟩ | rfl⟩
  clear HDE
  go_upto_region 5 with fail
  clear s3
  have b0 := cell_of_row _ (w.heap.size + 1) 0 _ _ _ KB2.out
  have b1 := cell_of_row _ (w.heap.size + 1) 1 _ _ _ KB2.out
  have b2 := cell_of_row _ (w.heap.size + 1) 2 _ _ _ KB2.out
  have b3 := cell_of_row _ (w.heap.size + 1) 3 _ _ _ KB2.out
  have n0 := bc hbw2 n0
  have n1 := bc hbw2 n1
  have n2 := bc hbw2 n2
  have n3 := bc hbw2 n3
  have n4 := bc hbw2 n4
  have n5 := bc hbw2 n5
  have n6 := bc hbw2 n6
  have hbd := hbw2.drew
  have h2d : Below w2.heap.size w2 w2.drew := (Below.refl _ _).drew
  have CN2 := Lib.hid (CN1.out w2.drew hbd (HNA.out.below hbd))
  clear CN1
  have HSC0 : ∀ w' : World, Below (w2).drew.heap.size (w2).drew w' → (w'.cell? ⟨w.heap.size + 1, 0, none⟩ = some (.slice nma nml nmc) ∧ w'.cell? ⟨w.heap.size + 1, 1, none⟩ = some (.slice (some ⟨nhb, nho, none⟩) nhn nhc) ∧ w'.cell? ⟨w.heap.size + 1, 2, none⟩ = some (.slice nra nrl nrc) ∧ w'.cell? ⟨w.heap.size + 1, 3, none⟩ = some (.slice nwa nml nwc) ∧ w'.cell? ⟨nhb, nho + k * 7, none⟩ = some (.string id) ∧ w'.cell? ⟨nhb, nho + k * 7 + 1, none⟩ = some (.int .i64 vault) ∧ w'.cell? ⟨nhb, nho + k * 7 + 2, none⟩ = some (.int .i64 block) ∧ w'.cell? ⟨nhb, nho + k * 7 + 3, none⟩ = some (.int .i64 (dn : Int)) ∧ w'.cell? ⟨nhb, nho + k * 7 + 4, none⟩ = some (.int .i64 total) ∧ w'.cell? ⟨nhb, nho + k * 7 + 5, none⟩ = some (.slice nra1 ql nrc1) ∧ w'.cell? ⟨nhb, nho + k * 7 + 6, none⟩ = some (.slice naa zs.length nac)) := fun w' hb => ⟨bc hb b0, bc hb b1, bc hb b2, bc hb b3, bc hb n0, bc hb n1, bc hb n2, bc hb n3, bc hb n4, bc hb n5, bc hb n6⟩
  refine wp_region_held_drew (S := fun w' => w'.cell? ⟨w.heap.size + 1, 0, none⟩ = some (.slice nma nml nmc) ∧ w'.cell? ⟨w.heap.size + 1, 1, none⟩ = some (.slice (some ⟨nhb, nho, none⟩) nhn nhc) ∧ w'.cell? ⟨w.heap.size + 1, 2, none⟩ = some (.slice nra nrl nrc) ∧ w'.cell? ⟨w.heap.size + 1, 3, none⟩ = some (.slice nwa nml nwc) ∧ w'.cell? ⟨nhb, nho + k * 7, none⟩ = some (.string id) ∧ w'.cell? ⟨nhb, nho + k * 7 + 1, none⟩ = some (.int .i64 vault) ∧ w'.cell? ⟨nhb, nho + k * 7 + 2, none⟩ = some (.int .i64 block) ∧ w'.cell? ⟨nhb, nho + k * 7 + 3, none⟩ = some (.int .i64 (dn : Int)) ∧ w'.cell? ⟨nhb, nho + k * 7 + 4, none⟩ = some (.int .i64 total) ∧ w'.cell? ⟨nhb, nho + k * 7 + 5, none⟩ = some (.slice nra1 ql nrc1) ∧ w'.cell? ⟨nhb, nho + k * 7 + 6, none⟩ = some (.slice naa zs.length nac)) (by kernel_rfl) (HSC0 _ (Below.refl _ _)) (fun hHeld => ?_)
  have HSC := Lib.hid HSC0
  clear HSC0
  generalize (w2).drew = We at *
  clear b0 b1 b2 b3 n0 n1 n2 n3 n4 n5 n6
  refine wpAnyH_take (i := 0) (v := ?_) rfl (by kernel_rfl) (by kernel_rfl) (by kernel_rfl) (fun _ _ _ h => h) (Or.inl ⟨by rfl, ?_⟩) (by assumption) ?_
  rotate_left; · (intro w hSw; (try dsimp only at hSw); go_simp; try with_reducible rfl)
  try simp only [Act.put, List.getElem_toArray, List.getElem_cons_zero, List.getElem_cons_succ, List.setIfInBounds_toArray, List.set_cons_zero, List.set_cons_succ]
  refine wpAnyH_take (i := 1) (v := ?_) rfl (by kernel_rfl) (by kernel_rfl) (by kernel_rfl) (fun _ _ _ h => h) (Or.inl ⟨by rfl, ?_⟩) (by assumption) ?_
  rotate_left; · (intro w hSw; (try dsimp only at hSw); go_simp; try with_reducible rfl)
  try simp only [Act.put, List.getElem_toArray, List.getElem_cons_zero, List.getElem_cons_succ, List.setIfInBounds_toArray, List.set_cons_zero, List.set_cons_succ]
  refine wpAnyH_take (i := 2) (v := ?_) rfl (by kernel_rfl) (by kernel_rfl) (by kernel_rfl) (fun _ _ _ h => h) (Or.inl ⟨by rfl, ?_⟩) (by assumption) ?_
  rotate_left; · (intro w hSw; (try dsimp only at hSw); go_simp; try with_reducible rfl)
  try simp only [Act.put, List.getElem_toArray, List.getElem_cons_zero, List.getElem_cons_succ, List.setIfInBounds_toArray, List.set_cons_zero, List.set_cons_succ]
  refine wpAnyH_take (i := 3) (v := ?_) rfl (by kernel_rfl) (by kernel_rfl) (by kernel_rfl) (fun _ _ _ h => h) (Or.inl ⟨by rfl, ?_⟩) (by assumption) ?_
  rotate_left; · (intro w hSw; (try dsimp only at hSw); go_simp; try with_reducible rfl)
  try simp only [Act.put, List.getElem_toArray, List.getElem_cons_zero, List.getElem_cons_succ, List.setIfInBounds_toArray, List.set_cons_zero, List.set_cons_succ]
  refine wpAnyH_take (i := 4) (v := ?_) rfl (by kernel_rfl) (by kernel_rfl) (by kernel_rfl) (fun _ _ _ h => h) (Or.inl ⟨by rfl, ?_⟩) (by assumption) ?_
  rotate_left; · (intro w hSw; (try dsimp only at hSw); go_simp; try with_reducible rfl)
  try simp only [Act.put, List.getElem_toArray, List.getElem_cons_zero, List.getElem_cons_succ, List.setIfInBounds_toArray, List.set_cons_zero, List.set_cons_succ]
  refine wpAnyH_take (i := 5) (v := ?_) rfl (by kernel_rfl) (by kernel_rfl) (by kernel_rfl) (fun _ _ _ h => h) (Or.inl ⟨by rfl, ?_⟩) (by assumption) ?_
  rotate_left; · (intro w hSw; (try dsimp only at hSw); go_simp; try with_reducible rfl)
  try simp only [Act.put, List.getElem_toArray, List.getElem_cons_zero, List.getElem_cons_succ, List.setIfInBounds_toArray, List.set_cons_zero, List.set_cons_succ]
  refine wpAnyH_take (i := 6) (v := ?_) rfl (by kernel_rfl) (by kernel_rfl) (by kernel_rfl) (fun _ _ _ h => h) (Or.inl ⟨by rfl, ?_⟩) (by assumption) ?_
  rotate_left; · (intro w hSw; (try dsimp only at hSw); go_simp; try with_reducible rfl)
  try simp only [Act.put, List.getElem_toArray, List.getElem_cons_zero, List.getElem_cons_succ, List.setIfInBounds_toArray, List.set_cons_zero, List.set_cons_succ]
  refine wpAnyH_ready (rs := [7]) (by kernel_rfl) (by simp) ?_
  refine AllReadyH.cons rfl (fun K hK => ?_) AllReadyH.nil
  go_simp
  refine CN2.out.mono ?_; rintro e w5 ⟨u5, rfl, o5, hb5⟩; obtain ⟨za, zc, rfl⟩ := OwnI.slice o5
  go_wp2_with fail
  refine hK.out _ _ (HSC.out _ hb5) (fun hNew => ?_)
  clear hK K hHeld
  have hHeld := hNew
  clear hNew
  try simp only [Act.put, List.getElem_toArray, List.getElem_cons_zero, List.getElem_cons_succ, List.setIfInBounds_toArray, List.set_cons_zero, List.set_cons_succ]
  refine wpAnyH_take (i := 8) (v := ?_) rfl (by kernel_rfl) (by kernel_rfl) (by kernel_rfl) (fun _ _ _ h => h) (Or.inl ⟨by rfl, ?_⟩) (by assumption) ?_
  rotate_left; · (intro w hSw; (try dsimp only at hSw); go_simp; try with_reducible rfl)
  try simp only [Act.put, List.getElem_toArray, List.getElem_cons_zero, List.getElem_cons_succ, List.setIfInBounds_toArray, List.set_cons_zero, List.set_cons_succ]
  refine wpAnyH_done (by kernel_rfl) ?_ _
  have h25 := h2d.trans (hb5.mono h2d.size)
  have hbw5 := hbd.trans (hb5.mono hbd.size)
  have KB5 := Lib.hid (bb h25 KB2.out)
  have KC5 := Lib.hid (bb h25 KC2.out)
  have KS5 := Lib.hid (bb h25 KS2.out)
  have O5 := Lib.hid (O2.out.below h25)
  have CH := Lib.hid (fun (x : Int) => has_any _ lz x w5 (OwnI.reads o5 (by omega)))
  clear hHeld HSC CN2 KB2 KC2 KS2 O2 hb5 hbd h2d o5 h25 hbw2
  obtain ⟨lzl, hlzl⟩ : ∃ lzl, lzl = lz.length := ⟨_, rfl⟩
  rw [← hlzl] at hln CH ⊢
  clear hlzl
  have HBTL := Lib.hid btl
  clear btl
  go_upto_block 0 with fail
  have s4 := cell_of_row _ S 4 _ _ _ KS5.out
  go_cut [13] (fun v13 wx => ∃ i : Nat, v13 = .int .i64 i ∧ i ≤ zs.length ∧ (∀ m : Nat, m < i → (m : Int) ∈ lz) ∧ (i < zs.length → (i : Int) ∉ lz) ∧ w5 = wx)
  case first =>
    go_wp2_with fail
    go_loop [13] (fun v13 => ∃ i : Nat, i ≤ zs.length ∧ v13 = .int .i64 i ∧ ∀ m : Nat, m < i → (m : Int) ∈ lz) (fun v13 => zs.length - (intOf v13).toNat)
    case atStart => exact ⟨0, Nat.zero_le _, rfl, fun m hm => by omega⟩
    case round =>
      obtain ⟨i, hi, rfl, hall⟩ := hrel
      have HA := Lib.hid hall
      have hbt := HBTL.out
      clear hall
      by_cases hlti : i < zs.length
      · have q1 : decide ((i : Int) < total) = true := decide_eq_true (by omega)
        have CHi := Lib.hid (CH.out (i : Int))
        clear hbt
        by_cases hm : (i : Int) ∈ lz
        · rw [decide_eq_true hm] at CHi
          have HM := Lib.hid hm
          clear hm
          go_wp2_with fail
          refine CHi.out.mono ?_
          rintro e wx ⟨rfl, rfl⟩
          go_wp2
          go_round
          case rel => exact ⟨i + 1, by omega, by go_num, fun m hm => by by_cases e : m = i; (subst e; exact HM.out); (exact HA.out m (by omega))⟩
          case measure => simp [intOf]; omega
        · rw [decide_eq_false hm] at CHi
          have HM := Lib.hid hm
          clear hm
          go_wp2_with fail
          refine CHi.out.mono ?_
          rintro e wx ⟨rfl, rfl⟩
          go_wp2
          go_meet
          case rel => exact ⟨i, rfl, by omega, HA.out, fun _ => HM.out, rfl⟩
      · have q1 : decide ((i : Int) < total) = false := decide_eq_false (by omega)
        clear hbt
        go_wp2
        go_meet
        case rel => exact ⟨i, rfl, by omega, HA.out, fun h => absurd h hlti, rfl⟩
  case rest =>
    obtain ⟨ix, rfl, hix, hall, hnot, rfl⟩ := hcut
    have hof := HOF.out ix hix hall hnot
    have hod := HOD.out ix hlt hof
    clear s4 HOF HOD hall hnot hof hix CH
    have ho := O5.out
    rw [HLFL.out] at ho
    have ho2 : OwnI w5 w.heap.size (.slice qa dn qc) (lf.take dn) := OwnI.take ho dn (by rw [← HLFL.out]; omega)
    have hqc : lfl ≤ qc := by
      obtain ⟨_, _, _, _, e, h, _⟩ := (OwnI.reads (show OwnI w5 w.heap.size (.slice qa lf.length qc) lf from ho) (by rw [← HLFL.out]; omega)).at
      cases e
      rw [HLFL.out]
      exact h
    have HFR := Lib.hid ho2
    have HFL := Lib.hid (show (lf.take dn).length = dn by rw [List.length_take, ← HLFL.out]; omega)
    have hdl : dn ≤ lfl := by omega
    have hdq : dn ≤ qc := by omega
    have HOD2 := Lib.hid hod
    clear ho ho2 hod O5 hlt
    obtain ⟨Bst, hBst⟩ : ∃ b, b = w5.heap.size := ⟨_, rfl⟩
    have hAl := sbell (w := w5) (.cells #[.string ⟨#[]⟩, .int .i64 0, .slice none 0 0, .int .i64 (-1), .int .i64 0] 107)
    have hkb := heap_alloc_new w5 (.cells #[.string ⟨#[]⟩, .int .i64 0, .slice none 0 0, .int .i64 (-1), .int .i64 0] 107)
    rw [← hBst] at hkb
    have hm0 := cell_of_row _ (w.heap.size + 1) 0 _ _ _ KB5.out
    have hm0l := cell_lt hm0
    have HBST := Lib.hid hBst
    clear hBst
    go_upto_region 10 with fail
    rw [← HBST.out]
    have hm0 := bc hAl hm0
    generalize w5.alloc (.cells #[.string ⟨#[]⟩, .int .i64 0, .slice none 0 0, .int .i64 (-1), .int .i64 0] 107) = W5 at *
    go_wp2
    clear hm0 hm0l
    go_loopw [60, 15, 16] (fun v60 _ _ wr => ∃ d : Nat, d ≤ nml ∧ v60 = .int .i64 d ∧ Below w5.heap.size w5 wr ∧ wr.heap[Bst]? = some (.cells (bestCells (bestTo (alD F N gone k ix) (btW N) d) id ix qa dn qc block) 107 (0, 0))) (fun v60 _ _ _ => nml - (intOf v60).toNat)
    case atStart => exact ⟨0, Nat.zero_le _, rfl, hAl, hkb⟩
    case round =>
      obtain ⟨d, hd, rfl, hb5r, hkB⟩ := hrel
      have hbwr := hbw5.trans (hb5r.mono hbw5.size)
      have hkBox := bb hb5r KB5.out
      have hkS := bb hb5r KS5.out
      have HKC := Lib.hid (bb hb5r KC5.out)
      have HFRr := Lib.hid (HFR.out.below hb5r)
      clear hAl hkb
      by_cases hltd : d < nml
      · have hsu := bestTo_succ (alD F N gone k ix) (btW N) d
        have hrg := bestTo_range (alD F N gone k ix) (btW N) d
        have CPJ := Lib.hid (fun W hW hf => CJ.out W (.slice qa dn qc) ix d hW hf)
        rw [← HJK.out, HAL.out] at CPJ
        have HWE := Lib.hid (fun (x y : Nat) => (show btW N x y = decide (N.weight.getD y 0 < N.weight.getD x 0) from rfl))
        generalize alD F N gone k ix d = av at *
        generalize bestTo (alD F N gone k ix) (btW N) d = bt at *
        have HSU := Lib.hid hsu
        clear hsu
        have s0 := cell_of_row _ S 0 _ _ _ hkS
        have s2 := cell_of_row _ S 2 _ _ _ hkS
        have s3 := cell_of_row _ S 3 _ _ _ hkS
        go_upto_region 13 with fail
        have hbd := hbwr.drew
        have h5d := hb5r.drew
        have hrd : Below wr.heap.size wr wr.drew := (Below.refl _ _).drew
        have hkB0 : wr.drew.heap[Bst]? = _ := hkB
        have hkBox0 : wr.drew.heap[w.heap.size + 1]? = _ := hkBox
        have HSB0 : ∀ w' : World, Below (wr).drew.heap.size (wr).drew w' → (w'.cell? ⟨S, 0, none⟩ = some (.string id) ∧ w'.cell? ⟨S, 2, none⟩ = some (.int .i64 block) ∧ w'.cell? ⟨S, 3, none⟩ = some (.int .i64 (dn : Int))) := fun w' hb => ⟨bc hb s0, bc hb s2, bc hb s3⟩
        refine wp_region_held_drew (S := fun w' => w'.cell? ⟨S, 0, none⟩ = some (.string id) ∧ w'.cell? ⟨S, 2, none⟩ = some (.int .i64 block) ∧ w'.cell? ⟨S, 3, none⟩ = some (.int .i64 (dn : Int))) (by kernel_rfl) (HSB0 _ (Below.refl _ _)) (fun hHeld => ?_)
        have HSB := Lib.hid HSB0
        clear HSB0
        generalize (wr).drew = Wd at *
        clear s0 s2 s3
        refine wpAnyH_take (i := 0) (v := ?_) rfl (by kernel_rfl) (by kernel_rfl) (by kernel_rfl) (fun _ _ _ h => h) (Or.inl ⟨by rfl, ?_⟩) (by assumption) ?_
        rotate_left; · (intro w hSw; (try dsimp only at hSw); go_simp; try with_reducible rfl)
        try simp only [Act.put, List.getElem_toArray, List.getElem_cons_zero, List.getElem_cons_succ, List.setIfInBounds_toArray, List.set_cons_zero, List.set_cons_succ]
        refine wpAnyH_take (i := 1) (v := ?_) rfl (by kernel_rfl) (by kernel_rfl) (by kernel_rfl) (fun _ _ _ h => h) (Or.inl ⟨by rfl, ?_⟩) (by assumption) ?_
        rotate_left; · (intro w hSw; (try dsimp only at hSw); go_simp; try with_reducible rfl)
        try simp only [Act.put, List.getElem_toArray, List.getElem_cons_zero, List.getElem_cons_succ, List.setIfInBounds_toArray, List.set_cons_zero, List.set_cons_succ]
        refine wpAnyH_take (i := 2) (v := ?_) rfl (by kernel_rfl) (by kernel_rfl) (by kernel_rfl) (fun _ _ _ h => h) (Or.inl ⟨by rfl, ?_⟩) (by assumption) ?_
        rotate_left; · (intro w hSw; (try dsimp only at hSw); go_simp; try with_reducible rfl)
        try simp only [Act.put, List.getElem_toArray, List.getElem_cons_zero, List.getElem_cons_succ, List.setIfInBounds_toArray, List.set_cons_zero, List.set_cons_succ]
        refine wpAnyH_take (i := 3) (v := ?_) rfl (by kernel_rfl) (by kernel_rfl) (by kernel_rfl) (fun _ _ _ h => h) (Or.inl ⟨by rfl, ?_⟩) (by assumption) ?_
        rotate_left; · (intro w hSw; (try dsimp only at hSw); go_simp; try with_reducible rfl)
        try simp only [Act.put, List.getElem_toArray, List.getElem_cons_zero, List.getElem_cons_succ, List.setIfInBounds_toArray, List.set_cons_zero, List.set_cons_succ]
        refine wpAnyH_take (i := 4) (v := ?_) rfl (by kernel_rfl) (by kernel_rfl) (by kernel_rfl) (fun _ _ _ h => h) (Or.inl ⟨by rfl, ?_⟩) (by assumption) ?_
        rotate_left; · (intro w hSw; (try dsimp only at hSw); go_simp; try with_reducible rfl)
        try simp only [Act.put, List.getElem_toArray, List.getElem_cons_zero, List.getElem_cons_succ, List.setIfInBounds_toArray, List.set_cons_zero, List.set_cons_succ]
        refine wpAnyH_take (i := 5) (v := ?_) rfl (by kernel_rfl) (by kernel_rfl) (by kernel_rfl) (fun _ _ _ h => h) (Or.inl ⟨by rfl, ?_⟩) (by assumption) ?_
        rotate_left; · (intro w hSw; (try dsimp only at hSw); go_simp; try with_reducible rfl)
        try simp only [Act.put, List.getElem_toArray, List.getElem_cons_zero, List.getElem_cons_succ, List.setIfInBounds_toArray, List.set_cons_zero, List.set_cons_succ]
        refine wpAnyH_take (i := 6) (v := ?_) rfl (by kernel_rfl) (by kernel_rfl) (by kernel_rfl) (fun _ _ _ h => h) (Or.inl ⟨by rfl, ?_⟩) (by assumption) ?_
        rotate_left; · (intro w hSw; (try dsimp only at hSw); go_simp; try with_reducible rfl)
        try simp only [Act.put, List.getElem_toArray, List.getElem_cons_zero, List.getElem_cons_succ, List.setIfInBounds_toArray, List.set_cons_zero, List.set_cons_succ]
        refine wpAnyH_take (i := 7) (v := ?_) rfl (by kernel_rfl) (by kernel_rfl) (by kernel_rfl) (fun _ _ _ h => h) (Or.inl ⟨by rfl, ?_⟩) (by assumption) ?_
        rotate_left; · (intro w hSw; (try dsimp only at hSw); go_simp; try with_reducible rfl)
        try simp only [Act.put, List.getElem_toArray, List.getElem_cons_zero, List.getElem_cons_succ, List.setIfInBounds_toArray, List.set_cons_zero, List.set_cons_succ]
        refine wpAnyH_take (i := 8) (v := ?_) rfl (by kernel_rfl) (by kernel_rfl) (by kernel_rfl) (fun _ _ _ h => h) (Or.inl ⟨by rfl, ?_⟩) (by assumption) ?_
        rotate_left; · (intro w hSw; (try dsimp only at hSw); go_simp; try with_reducible rfl)
        try simp only [Act.put, List.getElem_toArray, List.getElem_cons_zero, List.getElem_cons_succ, List.setIfInBounds_toArray, List.set_cons_zero, List.set_cons_succ]
        refine wpAnyH_take (i := 9) (v := ?_) rfl (by kernel_rfl) (by kernel_rfl) (by kernel_rfl) (fun _ _ _ h => h) (Or.inl ⟨by rfl, ?_⟩) (by assumption) ?_
        rotate_left; · (intro w hSw; (try dsimp only at hSw); go_simp; try with_reducible rfl)
        try simp only [Act.put, List.getElem_toArray, List.getElem_cons_zero, List.getElem_cons_succ, List.setIfInBounds_toArray, List.set_cons_zero, List.set_cons_succ]
        refine wpAnyH_take (i := 10) (v := ?_) rfl (by kernel_rfl) (by kernel_rfl) (by kernel_rfl) (fun _ _ _ h => h) (Or.inl ⟨by rfl, ?_⟩) (by assumption) ?_
        rotate_left; · (intro w hSw; (try dsimp only at hSw); go_simp; try with_reducible rfl)
        try simp only [Act.put, List.getElem_toArray, List.getElem_cons_zero, List.getElem_cons_succ, List.setIfInBounds_toArray, List.set_cons_zero, List.set_cons_succ]
        refine wpAnyH_take (i := 11) (v := ?_) rfl (by kernel_rfl) (by kernel_rfl) (by kernel_rfl) (fun _ _ _ h => h) (Or.inl ⟨by rfl, ?_⟩) (by assumption) ?_
        rotate_left; · (intro w hSw; (try dsimp only at hSw); go_simp; try with_reducible rfl)
        try simp only [Act.put, List.getElem_toArray, List.getElem_cons_zero, List.getElem_cons_succ, List.setIfInBounds_toArray, List.set_cons_zero, List.set_cons_succ]
        have hal := sbell (w := Wd) (.cells #[.string ⟨#[]⟩, .int .i64 0, .slice none 0 0, .int .i64 0, .int .i64 0] 107)
        have hkj := heap_alloc_new Wd (.cells #[.string ⟨#[]⟩, .int .i64 0, .slice none 0 0, .int .i64 0, .int .i64 0] 107)
        refine wpAnyH_ready (rs := [12]) (by kernel_rfl) (by simp) ?_
        refine AllReadyH.cons rfl (fun K hK => ?_) AllReadyH.nil
        go_simp
        refine hK.out _ _ (HSB.out _ hal) (fun hNew => ?_)
        clear hK K hNew
        (try clear hHeld)
        have hHeld := HSB.out _ hal
        try simp only [Act.put, List.getElem_toArray, List.getElem_cons_zero, List.getElem_cons_succ, List.setIfInBounds_toArray, List.set_cons_zero, List.set_cons_succ]
        obtain ⟨J, hJ⟩ : ∃ J, J = Wd.heap.size := ⟨_, rfl⟩
        rw [← hJ] at hkj ⊢
        have HJE := Lib.hid hJ
        clear hJ
        have hkBx := bb hal hkB0
        have hkBoxx := bb hal hkBox0
        generalize Wd.alloc (.cells #[.string ⟨#[]⟩, .int .i64 0, .slice none 0 0, .int .i64 0, .int .i64 0] 107) = Wx at *
        have u0 := cell_of_row _ J 0 _ _ _ hkj
        have u1 := cell_of_row _ J 1 _ _ _ hkj
        have u2 := cell_of_row _ J 2 _ _ _ hkj
        have u3 := cell_of_row _ J 3 _ _ _ hkj
        have u4 := cell_of_row _ J 4 _ _ _ hkj
        have g0 := frozen_of_row _ J 0 _ _ hkj
        have g1 := frozen_of_row _ J 1 _ _ hkj
        have g2 := frozen_of_row _ J 2 _ _ hkj
        have g3 := frozen_of_row _ J 3 _ _ hkj
        have g4 := frozen_of_row _ J 4 _ _ hkj
        obtain ⟨x1, x2, x3⟩ := five_set hkj (.string id) (.int .i64 (ix : Int)) (.slice qa dn qc) (.int .i64 (d : Int)) (.int .i64 block)
        have hbJ := x3 Wd.heap.size Wd (Nat.le_of_eq HJE.out.symm) hal
        have HHS := Lib.hid (HSB.out _ hbJ)
        refine wpAnyH_ready (rs := [13]) (by kernel_rfl) (by simp) ?_
        refine AllReadyH.cons rfl (fun K hK => ?_) AllReadyH.nil
        go_simp
        refine hK.out _ _ (HHS.out) (fun hNew => ?_)
        clear hK K hNew
        (try clear hHeld)
        have hHeld := HHS.out
        try simp only [Act.put, List.getElem_toArray, List.getElem_cons_zero, List.getElem_cons_succ, List.setIfInBounds_toArray, List.set_cons_zero, List.set_cons_succ]
        have hBJ : Bst ≠ J := by have := (Array.getElem?_eq_some_iff.1 hkB0).1; have := HJE.out; omega
        have hBoxJ : w.heap.size + 1 ≠ J := by have := (Array.getElem?_eq_some_iff.1 hkBox0).1; have := HJE.out; omega
        have hkJ' := x1
        have hkB' := (x2 Bst hBJ).trans hkBx
        have hkBox' := (x2 (w.heap.size + 1) hBoxJ).trans hkBoxx
        have hb5J := h5d.trans (hbJ.mono h5d.size)
        have hbwJ := hbd.trans (hbJ.mono hbd.size)
        have hrJ := hrd.trans (hbJ.mono hrd.size)
        clear x1 x2 x3 u0 u1 u2 u3 u4 g0 g1 g2 g3 g4 hHeld HHS HSB hal hkj hkBx hkBoxx hkB0 hkBox0 hkB hkBox hkS h5d hbd hrd hbJ hBJ hBoxJ
        refine wpAnyH_done (by kernel_rfl) ?_ _
        generalize (((((Wx).setCell ⟨J, 0, none⟩ (.string id)).setCell ⟨J, 1, none⟩ (.int .i64 (ix : Int))).setCell ⟨J, 2, none⟩ (.slice qa dn qc)).setCell ⟨J, 3, none⟩ (.int .i64 (d : Int))).setCell ⟨J, 4, none⟩ (.int .i64 block) = WJ at *
        have b0 := cell_of_row _ (w.heap.size + 1) 0 _ _ _ hkBox'
        have b1 := cell_of_row _ (w.heap.size + 1) 1 _ _ _ hkBox'
        have b2 := cell_of_row _ (w.heap.size + 1) 2 _ _ _ hkBox'
        have b3 := cell_of_row _ (w.heap.size + 1) 3 _ _ _ hkBox'
        have j0 := cell_of_row _ J 0 _ _ _ hkJ'
        have j1 := cell_of_row _ J 1 _ _ _ hkJ'
        have j2 := cell_of_row _ J 2 _ _ _ hkJ'
        have j3 := cell_of_row _ J 3 _ _ _ hkJ'
        have j4 := cell_of_row _ J 4 _ _ _ hkJ'
        have CPD := Lib.hid (CPJ.out WJ.drew hbwJ.drew (OwnI.reads ((HFRr.out.below hrJ).below (Below.refl _ _).drew) (by rw [HFL.out]; omega)))
        have hb7' : ∀ w7 : World, Below WJ.drew.heap.size WJ.drew w7 → Below WJ.heap.size WJ w7 := fun _ h => (Below.refl _ WJ).drew.trans (h.mono (Nat.le_refl _))
        have HB7 := Lib.hid hb7'
        clear hb7' CPJ HFRr hrJ hbwr
        cases av with
        | false =>
          have hsu : bestTo (alD F N gone k ix) (btW N) (d + 1) = bt := by rw [HSU.out, if_neg (by simp)]
          have HS2 := Lib.hid hsu
          clear hsu
          obtain ⟨toj, htoj⟩ : ∃ t, (bestCells bt id ix qa dn qc block)[3]? = some (.int .i64 t) := by unfold bestCells; split <;> exact ⟨_, rfl⟩
          have c3 := (cell_of_row _ Bst 3 _ _ _ hkB').trans htoj
          go_upto_region 14 with fail
          have HSC0 : ∀ w' : World, Below (WJ).drew.heap.size (WJ).drew w' → (w'.cell? ⟨w.heap.size + 1, 0, none⟩ = some (.slice nma nml nmc) ∧ w'.cell? ⟨w.heap.size + 1, 1, none⟩ = some (.slice (some ⟨nhb, nho, none⟩) nhn nhc) ∧ w'.cell? ⟨w.heap.size + 1, 2, none⟩ = some (.slice nra nrl nrc) ∧ w'.cell? ⟨w.heap.size + 1, 3, none⟩ = some (.slice nwa nml nwc) ∧ w'.cell? ⟨J, 0, none⟩ = some (.string id) ∧ w'.cell? ⟨J, 1, none⟩ = some (.int .i64 (ix : Int)) ∧ w'.cell? ⟨J, 2, none⟩ = some (.slice qa dn qc) ∧ w'.cell? ⟨J, 3, none⟩ = some (.int .i64 (d : Int)) ∧ w'.cell? ⟨J, 4, none⟩ = some (.int .i64 block) ∧ w'.cell? ⟨Bst, 3, none⟩ = some (.int .i64 toj)) := fun w' hb => ⟨bc hb b0, bc hb b1, bc hb b2, bc hb b3, bc hb j0, bc hb j1, bc hb j2, bc hb j3, bc hb j4, bc hb c3⟩
          refine wp_region_held_drew (S := fun w' => w'.cell? ⟨w.heap.size + 1, 0, none⟩ = some (.slice nma nml nmc) ∧ w'.cell? ⟨w.heap.size + 1, 1, none⟩ = some (.slice (some ⟨nhb, nho, none⟩) nhn nhc) ∧ w'.cell? ⟨w.heap.size + 1, 2, none⟩ = some (.slice nra nrl nrc) ∧ w'.cell? ⟨w.heap.size + 1, 3, none⟩ = some (.slice nwa nml nwc) ∧ w'.cell? ⟨J, 0, none⟩ = some (.string id) ∧ w'.cell? ⟨J, 1, none⟩ = some (.int .i64 (ix : Int)) ∧ w'.cell? ⟨J, 2, none⟩ = some (.slice qa dn qc) ∧ w'.cell? ⟨J, 3, none⟩ = some (.int .i64 (d : Int)) ∧ w'.cell? ⟨J, 4, none⟩ = some (.int .i64 block) ∧ w'.cell? ⟨Bst, 3, none⟩ = some (.int .i64 toj)) (by kernel_rfl) (HSC0 _ (Below.refl _ _)) (fun hHeld => ?_)
          have HSC := Lib.hid HSC0
          clear HSC0
          generalize (WJ).drew = We at *
          refine wpAnyH_take (i := 0) (v := ?_) rfl (by kernel_rfl) (by kernel_rfl) (by kernel_rfl) (fun _ _ _ h => h) (Or.inl ⟨by rfl, ?_⟩) (by assumption) ?_
          rotate_left; · (intro w hSw; (try dsimp only at hSw); go_simp; try with_reducible rfl)
          try simp only [Act.put, List.getElem_toArray, List.getElem_cons_zero, List.getElem_cons_succ, List.setIfInBounds_toArray, List.set_cons_zero, List.set_cons_succ]
          refine wpAnyH_take (i := 1) (v := ?_) rfl (by kernel_rfl) (by kernel_rfl) (by kernel_rfl) (fun _ _ _ h => h) (Or.inl ⟨by rfl, ?_⟩) (by assumption) ?_
          rotate_left; · (intro w hSw; (try dsimp only at hSw); go_simp; try with_reducible rfl)
          try simp only [Act.put, List.getElem_toArray, List.getElem_cons_zero, List.getElem_cons_succ, List.setIfInBounds_toArray, List.set_cons_zero, List.set_cons_succ]
          refine wpAnyH_take (i := 2) (v := ?_) rfl (by kernel_rfl) (by kernel_rfl) (by kernel_rfl) (fun _ _ _ h => h) (Or.inl ⟨by rfl, ?_⟩) (by assumption) ?_
          rotate_left; · (intro w hSw; (try dsimp only at hSw); go_simp; try with_reducible rfl)
          try simp only [Act.put, List.getElem_toArray, List.getElem_cons_zero, List.getElem_cons_succ, List.setIfInBounds_toArray, List.set_cons_zero, List.set_cons_succ]
          refine wpAnyH_ready (rs := [3]) (by kernel_rfl) (by simp) ?_
          refine AllReadyH.cons rfl (fun K hK => ?_) AllReadyH.nil
          go_simp
          refine CPD.out.mono ?_; rintro e w7 ⟨rfl, hb7⟩
          go_wp2_with fail
          refine hK.out _ _ (HSC.out _ hb7) (fun hNew => ?_)
          clear hK K hHeld
          have hHeld := hNew
          clear hNew
          try simp only [Act.put, List.getElem_toArray, List.getElem_cons_zero, List.getElem_cons_succ, List.setIfInBounds_toArray, List.set_cons_zero, List.set_cons_succ]
          refine wpAnyH_take (i := 4) (v := ?_) rfl (by kernel_rfl) (by kernel_rfl) (by kernel_rfl) (fun _ _ _ h => h) (Or.inl ⟨by rfl, ?_⟩) (by assumption) ?_
          rotate_left; · (intro w hSw; (try dsimp only at hSw); go_simp; try with_reducible rfl)
          try simp only [Act.put, List.getElem_toArray, List.getElem_cons_zero, List.getElem_cons_succ, List.setIfInBounds_toArray, List.set_cons_zero, List.set_cons_succ]
          refine wpAnyH_take (i := 5) (v := undef) rfl (by kernel_rfl) (by kernel_rfl) (by kernel_rfl) (fun _ _ _ h => h) (Or.inr ⟨by rfl, rfl⟩) (by assumption) ?_
          try simp only [Act.put, List.getElem_toArray, List.getElem_cons_zero, List.getElem_cons_succ, List.setIfInBounds_toArray, List.set_cons_zero, List.set_cons_succ]
          refine wpAnyH_take (i := 6) (v := undef) rfl (by kernel_rfl) (by kernel_rfl) (by kernel_rfl) (fun _ _ _ h => h) (Or.inr ⟨by rfl, rfl⟩) (by assumption) ?_
          try simp only [Act.put, List.getElem_toArray, List.getElem_cons_zero, List.getElem_cons_succ, List.setIfInBounds_toArray, List.set_cons_zero, List.set_cons_succ]
          refine wpAnyH_take (i := 7) (v := undef) rfl (by kernel_rfl) (by kernel_rfl) (by kernel_rfl) (fun _ _ _ h => h) (Or.inr ⟨by rfl, rfl⟩) (by assumption) ?_
          try simp only [Act.put, List.getElem_toArray, List.getElem_cons_zero, List.getElem_cons_succ, List.setIfInBounds_toArray, List.set_cons_zero, List.set_cons_succ]
          refine wpAnyH_take (i := 8) (v := undef) rfl (by kernel_rfl) (by kernel_rfl) (by kernel_rfl) (fun _ _ _ h => h) (Or.inr ⟨by rfl, rfl⟩) (by assumption) ?_
          try simp only [Act.put, List.getElem_toArray, List.getElem_cons_zero, List.getElem_cons_succ, List.setIfInBounds_toArray, List.set_cons_zero, List.set_cons_succ]
          refine wpAnyH_take (i := 9) (v := undef) rfl (by kernel_rfl) (by kernel_rfl) (by kernel_rfl) (fun _ _ _ h => h) (Or.inr ⟨by rfl, rfl⟩) (by assumption) ?_
          try simp only [Act.put, List.getElem_toArray, List.getElem_cons_zero, List.getElem_cons_succ, List.setIfInBounds_toArray, List.set_cons_zero, List.set_cons_succ]
          refine wpAnyH_take (i := 10) (v := undef) rfl (by kernel_rfl) (by kernel_rfl) (by kernel_rfl) (fun _ _ _ h => h) (Or.inr ⟨by rfl, rfl⟩) (by assumption) ?_
          try simp only [Act.put, List.getElem_toArray, List.getElem_cons_zero, List.getElem_cons_succ, List.setIfInBounds_toArray, List.set_cons_zero, List.set_cons_succ]
          refine wpAnyH_take (i := 11) (v := undef) rfl (by kernel_rfl) (by kernel_rfl) (by kernel_rfl) (fun _ _ _ h => h) (Or.inr ⟨by rfl, rfl⟩) (by assumption) ?_
          try simp only [Act.put, List.getElem_toArray, List.getElem_cons_zero, List.getElem_cons_succ, List.setIfInBounds_toArray, List.set_cons_zero, List.set_cons_succ]
          refine wpAnyH_take (i := 12) (v := undef) rfl (by kernel_rfl) (by kernel_rfl) (by kernel_rfl) (fun _ _ _ h => h) (Or.inr ⟨by rfl, rfl⟩) (by assumption) ?_
          try simp only [Act.put, List.getElem_toArray, List.getElem_cons_zero, List.getElem_cons_succ, List.setIfInBounds_toArray, List.set_cons_zero, List.set_cons_succ]
          refine wpAnyH_take (i := 13) (v := undef) rfl (by kernel_rfl) (by kernel_rfl) (by kernel_rfl) (fun _ _ _ h => h) (Or.inr ⟨by rfl, rfl⟩) (by assumption) ?_
          try simp only [Act.put, List.getElem_toArray, List.getElem_cons_zero, List.getElem_cons_succ, List.setIfInBounds_toArray, List.set_cons_zero, List.set_cons_succ]
          refine wpAnyH_take (i := 14) (v := undef) rfl (by kernel_rfl) (by kernel_rfl) (by kernel_rfl) (fun _ _ _ h => h) (Or.inr ⟨by rfl, rfl⟩) (by assumption) ?_
          try simp only [Act.put, List.getElem_toArray, List.getElem_cons_zero, List.getElem_cons_succ, List.setIfInBounds_toArray, List.set_cons_zero, List.set_cons_succ]
          refine wpAnyH_take (i := 15) (v := undef) rfl (by kernel_rfl) (by kernel_rfl) (by kernel_rfl) (fun _ _ _ h => h) (Or.inr ⟨by rfl, rfl⟩) (by assumption) ?_
          try simp only [Act.put, List.getElem_toArray, List.getElem_cons_zero, List.getElem_cons_succ, List.setIfInBounds_toArray, List.set_cons_zero, List.set_cons_succ]
          refine wpAnyH_take (i := 16) (v := undef) rfl (by kernel_rfl) (by kernel_rfl) (by kernel_rfl) (fun _ _ _ h => h) (Or.inr ⟨by rfl, rfl⟩) (by assumption) ?_
          try simp only [Act.put, List.getElem_toArray, List.getElem_cons_zero, List.getElem_cons_succ, List.setIfInBounds_toArray, List.set_cons_zero, List.set_cons_succ]
          refine wpAnyH_take (i := 17) (v := undef) rfl (by kernel_rfl) (by kernel_rfl) (by kernel_rfl) (fun _ _ _ h => h) (Or.inr ⟨by rfl, rfl⟩) (by assumption) ?_
          try simp only [Act.put, List.getElem_toArray, List.getElem_cons_zero, List.getElem_cons_succ, List.setIfInBounds_toArray, List.set_cons_zero, List.set_cons_succ]
          refine wpAnyH_take (i := 18) (v := undef) rfl (by kernel_rfl) (by kernel_rfl) (by kernel_rfl) (fun _ _ _ h => h) (Or.inr ⟨by rfl, rfl⟩) (by assumption) ?_
          try simp only [Act.put, List.getElem_toArray, List.getElem_cons_zero, List.getElem_cons_succ, List.setIfInBounds_toArray, List.set_cons_zero, List.set_cons_succ]
          refine wpAnyH_take (i := 19) (v := undef) rfl (by kernel_rfl) (by kernel_rfl) (by kernel_rfl) (fun _ _ _ h => h) (Or.inr ⟨by rfl, rfl⟩) (by assumption) ?_
          try simp only [Act.put, List.getElem_toArray, List.getElem_cons_zero, List.getElem_cons_succ, List.setIfInBounds_toArray, List.set_cons_zero, List.set_cons_succ]
          refine wpAnyH_take (i := 20) (v := undef) rfl (by kernel_rfl) (by kernel_rfl) (by kernel_rfl) (fun _ _ _ h => h) (Or.inr ⟨by rfl, rfl⟩) (by assumption) ?_
          try simp only [Act.put, List.getElem_toArray, List.getElem_cons_zero, List.getElem_cons_succ, List.setIfInBounds_toArray, List.set_cons_zero, List.set_cons_succ]
          refine wpAnyH_take (i := 21) (v := undef) rfl (by kernel_rfl) (by kernel_rfl) (by kernel_rfl) (fun _ _ _ h => h) (Or.inr ⟨by rfl, rfl⟩) (by assumption) ?_
          try simp only [Act.put, List.getElem_toArray, List.getElem_cons_zero, List.getElem_cons_succ, List.setIfInBounds_toArray, List.set_cons_zero, List.set_cons_succ]
          refine wpAnyH_take (i := 22) (v := ?_) rfl (by kernel_rfl) (by kernel_rfl) (by kernel_rfl) (fun _ _ _ h => h) (Or.inl ⟨by rfl, ?_⟩) (by assumption) ?_
          rotate_left; · (intro w hSw; (try dsimp only at hSw); go_simp; try with_reducible rfl)
          try simp only [Act.put, List.getElem_toArray, List.getElem_cons_zero, List.getElem_cons_succ, List.setIfInBounds_toArray, List.set_cons_zero, List.set_cons_succ]
          refine wpAnyH_done (by kernel_rfl) ?_ _
          have hb5w := hb5J.trans ((HB7.out _ hb7).mono hb5J.size)
          have hK7 := bb (HB7.out _ hb7) hkB'
          rw [← HS2.out] at hK7
          have HKB7 := Lib.hid hK7
          clear hK7
          clear hHeld HSC CPD c3 hkB' hkBox' hkJ' j0 j1 j2 j3 j4 b0 b1 b2 b3 htoj
          go_wp2
          go_roundw
          case rel => exact ⟨d + 1, by omega, by go_num, hb5w, HKB7.out⟩
          case measure => simp [intOf]; omega
        | true =>
          by_cases hbt : bt < 0
          · have hsu : bestTo (alD F N gone k ix) (btW N) (d + 1) = d := by rw [HSU.out, if_pos ⟨rfl, .inl hbt⟩]
            have HS2 := Lib.hid hsu
            clear hsu
            have c3 : WJ.cell? ⟨Bst, 3, none⟩ = some (.int .i64 (-1)) := (cell_of_row _ Bst 3 _ _ _ hkB').trans (by unfold bestCells; rw [if_pos hbt]; rfl)
            have hcB : bestCells bt id ix qa dn qc block = #[.string ⟨#[]⟩, .int .i64 0, .slice none 0 0, .int .i64 (-1), .int .i64 0] := by unfold bestCells; rw [if_pos hbt]
            rw [hcB] at hkB'
            clear hcB hbt
            go_upto_region 14 with fail
            have HSC0 : ∀ w' : World, Below (WJ).drew.heap.size (WJ).drew w' → (w'.cell? ⟨w.heap.size + 1, 0, none⟩ = some (.slice nma nml nmc) ∧ w'.cell? ⟨w.heap.size + 1, 1, none⟩ = some (.slice (some ⟨nhb, nho, none⟩) nhn nhc) ∧ w'.cell? ⟨w.heap.size + 1, 2, none⟩ = some (.slice nra nrl nrc) ∧ w'.cell? ⟨w.heap.size + 1, 3, none⟩ = some (.slice nwa nml nwc) ∧ w'.cell? ⟨J, 0, none⟩ = some (.string id) ∧ w'.cell? ⟨J, 1, none⟩ = some (.int .i64 (ix : Int)) ∧ w'.cell? ⟨J, 2, none⟩ = some (.slice qa dn qc) ∧ w'.cell? ⟨J, 3, none⟩ = some (.int .i64 (d : Int)) ∧ w'.cell? ⟨J, 4, none⟩ = some (.int .i64 block) ∧ w'.cell? ⟨Bst, 3, none⟩ = some (.int .i64 (-1))) := fun w' hb => ⟨bc hb b0, bc hb b1, bc hb b2, bc hb b3, bc hb j0, bc hb j1, bc hb j2, bc hb j3, bc hb j4, bc hb c3⟩
            refine wp_region_held_drew (S := fun w' => w'.cell? ⟨w.heap.size + 1, 0, none⟩ = some (.slice nma nml nmc) ∧ w'.cell? ⟨w.heap.size + 1, 1, none⟩ = some (.slice (some ⟨nhb, nho, none⟩) nhn nhc) ∧ w'.cell? ⟨w.heap.size + 1, 2, none⟩ = some (.slice nra nrl nrc) ∧ w'.cell? ⟨w.heap.size + 1, 3, none⟩ = some (.slice nwa nml nwc) ∧ w'.cell? ⟨J, 0, none⟩ = some (.string id) ∧ w'.cell? ⟨J, 1, none⟩ = some (.int .i64 (ix : Int)) ∧ w'.cell? ⟨J, 2, none⟩ = some (.slice qa dn qc) ∧ w'.cell? ⟨J, 3, none⟩ = some (.int .i64 (d : Int)) ∧ w'.cell? ⟨J, 4, none⟩ = some (.int .i64 block) ∧ w'.cell? ⟨Bst, 3, none⟩ = some (.int .i64 (-1))) (by kernel_rfl) (HSC0 _ (Below.refl _ _)) (fun hHeld => ?_)
            have HSC := Lib.hid HSC0
            clear HSC0
            generalize (WJ).drew = We at *
            refine wpAnyH_take (i := 0) (v := ?_) rfl (by kernel_rfl) (by kernel_rfl) (by kernel_rfl) (fun _ _ _ h => h) (Or.inl ⟨by rfl, ?_⟩) (by assumption) ?_
            rotate_left; · (intro w hSw; (try dsimp only at hSw); go_simp; try with_reducible rfl)
            try simp only [Act.put, List.getElem_toArray, List.getElem_cons_zero, List.getElem_cons_succ, List.setIfInBounds_toArray, List.set_cons_zero, List.set_cons_succ]
            refine wpAnyH_take (i := 1) (v := ?_) rfl (by kernel_rfl) (by kernel_rfl) (by kernel_rfl) (fun _ _ _ h => h) (Or.inl ⟨by rfl, ?_⟩) (by assumption) ?_
            rotate_left; · (intro w hSw; (try dsimp only at hSw); go_simp; try with_reducible rfl)
            try simp only [Act.put, List.getElem_toArray, List.getElem_cons_zero, List.getElem_cons_succ, List.setIfInBounds_toArray, List.set_cons_zero, List.set_cons_succ]
            refine wpAnyH_take (i := 2) (v := ?_) rfl (by kernel_rfl) (by kernel_rfl) (by kernel_rfl) (fun _ _ _ h => h) (Or.inl ⟨by rfl, ?_⟩) (by assumption) ?_
            rotate_left; · (intro w hSw; (try dsimp only at hSw); go_simp; try with_reducible rfl)
            try simp only [Act.put, List.getElem_toArray, List.getElem_cons_zero, List.getElem_cons_succ, List.setIfInBounds_toArray, List.set_cons_zero, List.set_cons_succ]
            refine wpAnyH_ready (rs := [3]) (by kernel_rfl) (by simp) ?_
            refine AllReadyH.cons rfl (fun K hK => ?_) AllReadyH.nil
            go_simp
            refine CPD.out.mono ?_; rintro e w7 ⟨rfl, hb7⟩
            go_wp2_with fail
            refine hK.out _ _ (HSC.out _ hb7) (fun hNew => ?_)
            clear hK K hHeld
            have hHeld := hNew
            clear hNew
            try simp only [Act.put, List.getElem_toArray, List.getElem_cons_zero, List.getElem_cons_succ, List.setIfInBounds_toArray, List.set_cons_zero, List.set_cons_succ]
            refine wpAnyH_take (i := 4) (v := ?_) rfl (by kernel_rfl) (by kernel_rfl) (by kernel_rfl) (fun _ _ _ h => h) (Or.inl ⟨by rfl, ?_⟩) (by assumption) ?_
            rotate_left; · (intro w hSw; (try dsimp only at hSw); go_simp; try with_reducible rfl)
            try simp only [Act.put, List.getElem_toArray, List.getElem_cons_zero, List.getElem_cons_succ, List.setIfInBounds_toArray, List.set_cons_zero, List.set_cons_succ]
            refine wpAnyH_take (i := 5) (v := ?_) rfl (by kernel_rfl) (by kernel_rfl) (by kernel_rfl) (fun _ _ _ h => h) (Or.inl ⟨by rfl, ?_⟩) (by assumption) ?_
            rotate_left; · (intro w hSw; (try dsimp only at hSw); go_simp; try with_reducible rfl)
            try simp only [Act.put, List.getElem_toArray, List.getElem_cons_zero, List.getElem_cons_succ, List.setIfInBounds_toArray, List.set_cons_zero, List.set_cons_succ]
            refine wpAnyH_take (i := 6) (v := ?_) rfl (by kernel_rfl) (by kernel_rfl) (by kernel_rfl) (fun _ _ _ h => h) (Or.inl ⟨by rfl, ?_⟩) (by assumption) ?_
            rotate_left; · (intro w hSw; (try dsimp only at hSw); go_simp; try with_reducible rfl)
            try simp only [Act.put, List.getElem_toArray, List.getElem_cons_zero, List.getElem_cons_succ, List.setIfInBounds_toArray, List.set_cons_zero, List.set_cons_succ]
            refine wpAnyH_take (i := 7) (v := ?_) rfl (by kernel_rfl) (by kernel_rfl) (by kernel_rfl) (fun _ _ _ h => h) (Or.inl ⟨by rfl, ?_⟩) (by assumption) ?_
            rotate_left; · (intro w hSw; (try dsimp only at hSw); go_simp; try with_reducible rfl)
            try simp only [Act.put, List.getElem_toArray, List.getElem_cons_zero, List.getElem_cons_succ, List.setIfInBounds_toArray, List.set_cons_zero, List.set_cons_succ]
            refine wpAnyH_take (i := 8) (v := ?_) rfl (by kernel_rfl) (by kernel_rfl) (by kernel_rfl) (fun _ _ _ h => h) (Or.inl ⟨by rfl, ?_⟩) (by assumption) ?_
            rotate_left; · (intro w hSw; (try dsimp only at hSw); go_simp; try with_reducible rfl)
            try simp only [Act.put, List.getElem_toArray, List.getElem_cons_zero, List.getElem_cons_succ, List.setIfInBounds_toArray, List.set_cons_zero, List.set_cons_succ]
            refine wpAnyH_take (i := 9) (v := undef) rfl (by kernel_rfl) (by kernel_rfl) (by kernel_rfl) (fun _ _ _ h => h) (Or.inr ⟨by rfl, rfl⟩) (by assumption) ?_
            try simp only [Act.put, List.getElem_toArray, List.getElem_cons_zero, List.getElem_cons_succ, List.setIfInBounds_toArray, List.set_cons_zero, List.set_cons_succ]
            refine wpAnyH_take (i := 10) (v := undef) rfl (by kernel_rfl) (by kernel_rfl) (by kernel_rfl) (fun _ _ _ h => h) (Or.inr ⟨by rfl, rfl⟩) (by assumption) ?_
            try simp only [Act.put, List.getElem_toArray, List.getElem_cons_zero, List.getElem_cons_succ, List.setIfInBounds_toArray, List.set_cons_zero, List.set_cons_succ]
            refine wpAnyH_take (i := 11) (v := undef) rfl (by kernel_rfl) (by kernel_rfl) (by kernel_rfl) (fun _ _ _ h => h) (Or.inr ⟨by rfl, rfl⟩) (by assumption) ?_
            try simp only [Act.put, List.getElem_toArray, List.getElem_cons_zero, List.getElem_cons_succ, List.setIfInBounds_toArray, List.set_cons_zero, List.set_cons_succ]
            refine wpAnyH_take (i := 12) (v := undef) rfl (by kernel_rfl) (by kernel_rfl) (by kernel_rfl) (fun _ _ _ h => h) (Or.inr ⟨by rfl, rfl⟩) (by assumption) ?_
            try simp only [Act.put, List.getElem_toArray, List.getElem_cons_zero, List.getElem_cons_succ, List.setIfInBounds_toArray, List.set_cons_zero, List.set_cons_succ]
            refine wpAnyH_take (i := 13) (v := undef) rfl (by kernel_rfl) (by kernel_rfl) (by kernel_rfl) (fun _ _ _ h => h) (Or.inr ⟨by rfl, rfl⟩) (by assumption) ?_
            try simp only [Act.put, List.getElem_toArray, List.getElem_cons_zero, List.getElem_cons_succ, List.setIfInBounds_toArray, List.set_cons_zero, List.set_cons_succ]
            refine wpAnyH_take (i := 14) (v := undef) rfl (by kernel_rfl) (by kernel_rfl) (by kernel_rfl) (fun _ _ _ h => h) (Or.inr ⟨by rfl, rfl⟩) (by assumption) ?_
            try simp only [Act.put, List.getElem_toArray, List.getElem_cons_zero, List.getElem_cons_succ, List.setIfInBounds_toArray, List.set_cons_zero, List.set_cons_succ]
            refine wpAnyH_take (i := 15) (v := undef) rfl (by kernel_rfl) (by kernel_rfl) (by kernel_rfl) (fun _ _ _ h => h) (Or.inr ⟨by rfl, rfl⟩) (by assumption) ?_
            try simp only [Act.put, List.getElem_toArray, List.getElem_cons_zero, List.getElem_cons_succ, List.setIfInBounds_toArray, List.set_cons_zero, List.set_cons_succ]
            refine wpAnyH_take (i := 16) (v := undef) rfl (by kernel_rfl) (by kernel_rfl) (by kernel_rfl) (fun _ _ _ h => h) (Or.inr ⟨by rfl, rfl⟩) (by assumption) ?_
            try simp only [Act.put, List.getElem_toArray, List.getElem_cons_zero, List.getElem_cons_succ, List.setIfInBounds_toArray, List.set_cons_zero, List.set_cons_succ]
            refine wpAnyH_take (i := 17) (v := undef) rfl (by kernel_rfl) (by kernel_rfl) (by kernel_rfl) (fun _ _ _ h => h) (Or.inr ⟨by rfl, rfl⟩) (by assumption) ?_
            try simp only [Act.put, List.getElem_toArray, List.getElem_cons_zero, List.getElem_cons_succ, List.setIfInBounds_toArray, List.set_cons_zero, List.set_cons_succ]
            refine wpAnyH_take (i := 18) (v := undef) rfl (by kernel_rfl) (by kernel_rfl) (by kernel_rfl) (fun _ _ _ h => h) (Or.inr ⟨by rfl, rfl⟩) (by assumption) ?_
            try simp only [Act.put, List.getElem_toArray, List.getElem_cons_zero, List.getElem_cons_succ, List.setIfInBounds_toArray, List.set_cons_zero, List.set_cons_succ]
            refine wpAnyH_take (i := 19) (v := undef) rfl (by kernel_rfl) (by kernel_rfl) (by kernel_rfl) (fun _ _ _ h => h) (Or.inr ⟨by rfl, rfl⟩) (by assumption) ?_
            try simp only [Act.put, List.getElem_toArray, List.getElem_cons_zero, List.getElem_cons_succ, List.setIfInBounds_toArray, List.set_cons_zero, List.set_cons_succ]
            refine wpAnyH_take (i := 20) (v := undef) rfl (by kernel_rfl) (by kernel_rfl) (by kernel_rfl) (fun _ _ _ h => h) (Or.inr ⟨by rfl, rfl⟩) (by assumption) ?_
            try simp only [Act.put, List.getElem_toArray, List.getElem_cons_zero, List.getElem_cons_succ, List.setIfInBounds_toArray, List.set_cons_zero, List.set_cons_succ]
            refine wpAnyH_take (i := 21) (v := ?_) rfl (by kernel_rfl) (by kernel_rfl) (by kernel_rfl) (fun _ _ _ h => h) (Or.inl ⟨by rfl, ?_⟩) (by assumption) ?_
            rotate_left; · (intro w hSw; (try dsimp only at hSw); go_simp; try with_reducible rfl)
            try simp only [Act.put, List.getElem_toArray, List.getElem_cons_zero, List.getElem_cons_succ, List.setIfInBounds_toArray, List.set_cons_zero, List.set_cons_succ]
            refine wpAnyH_take (i := 22) (v := ?_) rfl (by kernel_rfl) (by kernel_rfl) (by kernel_rfl) (fun _ _ _ h => h) (Or.inl ⟨by rfl, ?_⟩) (by assumption) ?_
            rotate_left; · (intro w hSw; (try dsimp only at hSw); go_simp; try with_reducible rfl)
            try simp only [Act.put, List.getElem_toArray, List.getElem_cons_zero, List.getElem_cons_succ, List.setIfInBounds_toArray, List.set_cons_zero, List.set_cons_succ]
            refine wpAnyH_done (by kernel_rfl) ?_ _
            have hb5w := hb5J.trans ((HB7.out _ hb7).mono hb5J.size)
            have h7J := HB7.out _ hb7
            have K7 := bb h7J hkB'
            have j0 := bc h7J j0
            have j1 := bc h7J j1
            have j2 := bc h7J j2
            have j3 := bc h7J j3
            have j4 := bc h7J j4
            have r0 := cell_of_row _ Bst 0 _ _ _ K7
            have r1 := cell_of_row _ Bst 1 _ _ _ K7
            have r2 := cell_of_row _ Bst 2 _ _ _ K7
            have r3 := cell_of_row _ Bst 3 _ _ _ K7
            have r4 := cell_of_row _ Bst 4 _ _ _ K7
            have g0 := frozen_of_row _ Bst 0 _ _ K7
            have g1 := frozen_of_row _ Bst 1 _ _ K7
            have g2 := frozen_of_row _ Bst 2 _ _ K7
            have g3 := frozen_of_row _ Bst 3 _ _ K7
            have g4 := frozen_of_row _ Bst 4 _ _ K7
            obtain ⟨x1, x2, x3⟩ := five_set K7 (.string id) (.int .i64 (ix : Int)) (.slice qa dn qc) (.int .i64 (d : Int)) (.int .i64 block)
            have HBX := Lib.hid (x3 w5.heap.size w5 (Nat.le_of_eq HBST.out.symm) hb5w)
            have hcd : bestCells (d : Int) id ix qa dn qc block = #[.string id, .int .i64 (ix : Int), .slice qa dn qc, .int .i64 (d : Int), .int .i64 block] := by unfold bestCells; rw [if_neg (by omega)]
            have HX := Lib.hid (show ((((((w7).setCell ⟨Bst, 0, none⟩ (.string id)).setCell ⟨Bst, 1, none⟩ (.int .i64 (ix : Int))).setCell ⟨Bst, 2, none⟩ (.slice qa dn qc)).setCell ⟨Bst, 3, none⟩ (.int .i64 (d : Int))).setCell ⟨Bst, 4, none⟩ (.int .i64 block)).heap[Bst]? = some (.cells (bestCells (bestTo (alD F N gone k ix) (btW N) (d + 1)) id ix qa dn qc block) 107 (0, 0)) by rw [HS2.out, hcd]; exact x1)
            clear x1 x2 x3 hcd K7 hHeld HSC CPD h7J hb5w
            go_wp2
            go_roundw
            case rel => exact ⟨d + 1, by omega, by go_num, HBX.out, HX.out⟩
            case measure => simp [intOf]; omega
          · obtain ⟨b, rfl⟩ : ∃ b : Nat, bt = b := ⟨bt.toNat, by omega⟩
            have hbl : b < nml := by omega
            obtain ⟨rfl, wd0⟩ := WC.out d (by omega)
            obtain ⟨_, wb0⟩ := WC.out b hbl
            have w1 := bc hbwJ wd0
            have w2 := bc hbwJ wb0
            have hwe := HWE.out d b
            have hsu := HSU.out
            rw [Int.toNat_natCast, hwe] at hsu
            have HSU2 := Lib.hid hsu
            clear hwe hsu HSU HWE wd0 wb0 hbwJ
            generalize N.weight.getD d 0 = wd at *
            generalize N.weight.getD b 0 = wb at *
            have hcB : bestCells (b : Int) id ix qa dn qc block = #[.string id, .int .i64 (ix : Int), .slice qa dn qc, .int .i64 (b : Int), .int .i64 block] := by unfold bestCells; rw [if_neg (by omega)]
            have hkB2 := hkB'
            rw [hcB] at hkB2
            have c3 : WJ.cell? ⟨Bst, 3, none⟩ = some (.int .i64 (b : Int)) := cell_of_row _ Bst 3 _ _ _ hkB2
            have q5 : decide ((b : Int) < 0) = false := decide_eq_false (by omega)
            by_cases hw : wb < wd
            · have hs2 : bestTo (alD F N gone k ix) (btW N) (d + 1) = d := by rw [HSU2.out, if_pos ⟨rfl, .inr (decide_eq_true hw)⟩]
              have HS2 := Lib.hid hs2
              have q6 : decide (wb < wd) = true := decide_eq_true hw
              clear hs2 hcB hw hbt hrg hkB'
              have hkB' := hkB2
              go_upto_region 14 with fail
              have HSC0 : ∀ w' : World, Below (WJ).drew.heap.size (WJ).drew w' → (w'.cell? ⟨w.heap.size + 1, 0, none⟩ = some (.slice nma nml nmc) ∧ w'.cell? ⟨w.heap.size + 1, 1, none⟩ = some (.slice (some ⟨nhb, nho, none⟩) nhn nhc) ∧ w'.cell? ⟨w.heap.size + 1, 2, none⟩ = some (.slice nra nrl nrc) ∧ w'.cell? ⟨w.heap.size + 1, 3, none⟩ = some (.slice (some ⟨nwb, nwo, none⟩) nml nwc) ∧ w'.cell? ⟨J, 0, none⟩ = some (.string id) ∧ w'.cell? ⟨J, 1, none⟩ = some (.int .i64 (ix : Int)) ∧ w'.cell? ⟨J, 2, none⟩ = some (.slice qa dn qc) ∧ w'.cell? ⟨J, 3, none⟩ = some (.int .i64 (d : Int)) ∧ w'.cell? ⟨J, 4, none⟩ = some (.int .i64 block) ∧ w'.cell? ⟨Bst, 3, none⟩ = some (.int .i64 ((b : Int))) ∧ w'.cell? ⟨nwb, nwo + d, none⟩ = some (.int .i64 wd) ∧ w'.cell? ⟨nwb, nwo + b, none⟩ = some (.int .i64 wb)) := fun w' hb => ⟨bc hb b0, bc hb b1, bc hb b2, bc hb b3, bc hb j0, bc hb j1, bc hb j2, bc hb j3, bc hb j4, bc hb c3, bc hb w1, bc hb w2⟩
              refine wp_region_held_drew (S := fun w' => w'.cell? ⟨w.heap.size + 1, 0, none⟩ = some (.slice nma nml nmc) ∧ w'.cell? ⟨w.heap.size + 1, 1, none⟩ = some (.slice (some ⟨nhb, nho, none⟩) nhn nhc) ∧ w'.cell? ⟨w.heap.size + 1, 2, none⟩ = some (.slice nra nrl nrc) ∧ w'.cell? ⟨w.heap.size + 1, 3, none⟩ = some (.slice (some ⟨nwb, nwo, none⟩) nml nwc) ∧ w'.cell? ⟨J, 0, none⟩ = some (.string id) ∧ w'.cell? ⟨J, 1, none⟩ = some (.int .i64 (ix : Int)) ∧ w'.cell? ⟨J, 2, none⟩ = some (.slice qa dn qc) ∧ w'.cell? ⟨J, 3, none⟩ = some (.int .i64 (d : Int)) ∧ w'.cell? ⟨J, 4, none⟩ = some (.int .i64 block) ∧ w'.cell? ⟨Bst, 3, none⟩ = some (.int .i64 ((b : Int))) ∧ w'.cell? ⟨nwb, nwo + d, none⟩ = some (.int .i64 wd) ∧ w'.cell? ⟨nwb, nwo + b, none⟩ = some (.int .i64 wb)) (by kernel_rfl) (HSC0 _ (Below.refl _ _)) (fun hHeld => ?_)
              have HSC := Lib.hid HSC0
              clear HSC0
              generalize (WJ).drew = We at *
              refine wpAnyH_take (i := 0) (v := ?_) rfl (by kernel_rfl) (by kernel_rfl) (by kernel_rfl) (fun _ _ _ h => h) (Or.inl ⟨by rfl, ?_⟩) (by assumption) ?_
              rotate_left; · (intro w hSw; (try dsimp only at hSw); go_simp; try with_reducible rfl)
              try simp only [Act.put, List.getElem_toArray, List.getElem_cons_zero, List.getElem_cons_succ, List.setIfInBounds_toArray, List.set_cons_zero, List.set_cons_succ]
              refine wpAnyH_take (i := 1) (v := ?_) rfl (by kernel_rfl) (by kernel_rfl) (by kernel_rfl) (fun _ _ _ h => h) (Or.inl ⟨by rfl, ?_⟩) (by assumption) ?_
              rotate_left; · (intro w hSw; (try dsimp only at hSw); go_simp; try with_reducible rfl)
              try simp only [Act.put, List.getElem_toArray, List.getElem_cons_zero, List.getElem_cons_succ, List.setIfInBounds_toArray, List.set_cons_zero, List.set_cons_succ]
              refine wpAnyH_take (i := 2) (v := ?_) rfl (by kernel_rfl) (by kernel_rfl) (by kernel_rfl) (fun _ _ _ h => h) (Or.inl ⟨by rfl, ?_⟩) (by assumption) ?_
              rotate_left; · (intro w hSw; (try dsimp only at hSw); go_simp; try with_reducible rfl)
              try simp only [Act.put, List.getElem_toArray, List.getElem_cons_zero, List.getElem_cons_succ, List.setIfInBounds_toArray, List.set_cons_zero, List.set_cons_succ]
              refine wpAnyH_ready (rs := [3]) (by kernel_rfl) (by simp) ?_
              refine AllReadyH.cons rfl (fun K hK => ?_) AllReadyH.nil
              go_simp
              refine CPD.out.mono ?_; rintro e w7 ⟨rfl, hb7⟩
              go_wp2_with fail
              refine hK.out _ _ (HSC.out _ hb7) (fun hNew => ?_)
              clear hK K hHeld
              have hHeld := hNew
              clear hNew
              try simp only [Act.put, List.getElem_toArray, List.getElem_cons_zero, List.getElem_cons_succ, List.setIfInBounds_toArray, List.set_cons_zero, List.set_cons_succ]
              refine wpAnyH_take (i := 4) (v := ?_) rfl (by kernel_rfl) (by kernel_rfl) (by kernel_rfl) (fun _ _ _ h => h) (Or.inl ⟨by rfl, ?_⟩) (by assumption) ?_
              rotate_left; · (intro w hSw; (try dsimp only at hSw); go_simp; try with_reducible rfl)
              try simp only [Act.put, List.getElem_toArray, List.getElem_cons_zero, List.getElem_cons_succ, List.setIfInBounds_toArray, List.set_cons_zero, List.set_cons_succ]
              refine wpAnyH_take (i := 5) (v := ?_) rfl (by kernel_rfl) (by kernel_rfl) (by kernel_rfl) (fun _ _ _ h => h) (Or.inl ⟨by rfl, ?_⟩) (by assumption) ?_
              rotate_left; · (intro w hSw; (try dsimp only at hSw); go_simp; try with_reducible rfl)
              try simp only [Act.put, List.getElem_toArray, List.getElem_cons_zero, List.getElem_cons_succ, List.setIfInBounds_toArray, List.set_cons_zero, List.set_cons_succ]
              refine wpAnyH_take (i := 6) (v := ?_) rfl (by kernel_rfl) (by kernel_rfl) (by kernel_rfl) (fun _ _ _ h => h) (Or.inl ⟨by rfl, ?_⟩) (by assumption) ?_
              rotate_left; · (intro w hSw; (try dsimp only at hSw); go_simp; try with_reducible rfl)
              try simp only [Act.put, List.getElem_toArray, List.getElem_cons_zero, List.getElem_cons_succ, List.setIfInBounds_toArray, List.set_cons_zero, List.set_cons_succ]
              refine wpAnyH_take (i := 7) (v := ?_) rfl (by kernel_rfl) (by kernel_rfl) (by kernel_rfl) (fun _ _ _ h => h) (Or.inl ⟨by rfl, ?_⟩) (by assumption) ?_
              rotate_left; · (intro w hSw; (try dsimp only at hSw); go_simp; try with_reducible rfl)
              try simp only [Act.put, List.getElem_toArray, List.getElem_cons_zero, List.getElem_cons_succ, List.setIfInBounds_toArray, List.set_cons_zero, List.set_cons_succ]
              refine wpAnyH_take (i := 8) (v := ?_) rfl (by kernel_rfl) (by kernel_rfl) (by kernel_rfl) (fun _ _ _ h => h) (Or.inl ⟨by rfl, ?_⟩) (by assumption) ?_
              rotate_left; · (intro w hSw; (try dsimp only at hSw); go_simp; try with_reducible rfl)
              try simp only [Act.put, List.getElem_toArray, List.getElem_cons_zero, List.getElem_cons_succ, List.setIfInBounds_toArray, List.set_cons_zero, List.set_cons_succ]
              refine wpAnyH_take (i := 9) (v := ?_) rfl (by kernel_rfl) (by kernel_rfl) (by kernel_rfl) (fun _ _ _ h => h) (Or.inl ⟨by rfl, ?_⟩) (by assumption) ?_
              rotate_left; · (intro w hSw; (try dsimp only at hSw); go_simp; try with_reducible rfl)
              try simp only [Act.put, List.getElem_toArray, List.getElem_cons_zero, List.getElem_cons_succ, List.setIfInBounds_toArray, List.set_cons_zero, List.set_cons_succ]
              refine wpAnyH_take (i := 10) (v := ?_) rfl (by kernel_rfl) (by kernel_rfl) (by kernel_rfl) (fun _ _ _ h => h) (Or.inl ⟨by rfl, ?_⟩) (by assumption) ?_
              rotate_left; · (intro w hSw; (try dsimp only at hSw); go_simp; try with_reducible rfl)
              try simp only [Act.put, List.getElem_toArray, List.getElem_cons_zero, List.getElem_cons_succ, List.setIfInBounds_toArray, List.set_cons_zero, List.set_cons_succ]
              refine wpAnyH_take (i := 11) (v := ?_) rfl (by kernel_rfl) (by kernel_rfl) (by kernel_rfl) (fun _ _ _ h => h) (Or.inl ⟨by rfl, ?_⟩) (by assumption) ?_
              rotate_left; · (intro w hSw; (try dsimp only at hSw); go_simp; try with_reducible rfl)
              try simp only [Act.put, List.getElem_toArray, List.getElem_cons_zero, List.getElem_cons_succ, List.setIfInBounds_toArray, List.set_cons_zero, List.set_cons_succ]
              refine wpAnyH_take (i := 12) (v := ?_) rfl (by kernel_rfl) (by kernel_rfl) (by kernel_rfl) (fun _ _ _ h => h) (Or.inl ⟨by rfl, ?_⟩) (by assumption) ?_
              rotate_left; · (intro w hSw; (try dsimp only at hSw); go_simp; try with_reducible rfl)
              try simp only [Act.put, List.getElem_toArray, List.getElem_cons_zero, List.getElem_cons_succ, List.setIfInBounds_toArray, List.set_cons_zero, List.set_cons_succ]
              refine wpAnyH_take (i := 13) (v := ?_) rfl (by kernel_rfl) (by kernel_rfl) (by kernel_rfl) (fun _ _ _ h => h) (Or.inl ⟨by rfl, ?_⟩) (by assumption) ?_
              rotate_left; · (intro w hSw; (try dsimp only at hSw); go_simp; try with_reducible rfl)
              try simp only [Act.put, List.getElem_toArray, List.getElem_cons_zero, List.getElem_cons_succ, List.setIfInBounds_toArray, List.set_cons_zero, List.set_cons_succ]
              refine wpAnyH_take (i := 14) (v := ?_) rfl (by kernel_rfl) (by kernel_rfl) (by kernel_rfl) (fun _ _ _ h => h) (Or.inl ⟨by rfl, ?_⟩) (by assumption) ?_
              rotate_left; · (intro w hSw; (try dsimp only at hSw); go_simp; try with_reducible rfl)
              try simp only [Act.put, List.getElem_toArray, List.getElem_cons_zero, List.getElem_cons_succ, List.setIfInBounds_toArray, List.set_cons_zero, List.set_cons_succ]
              refine wpAnyH_take (i := 15) (v := ?_) rfl (by kernel_rfl) (by kernel_rfl) (by kernel_rfl) (fun _ _ _ h => h) (Or.inl ⟨by rfl, ?_⟩) (by assumption) ?_
              rotate_left; · (intro w hSw; (try dsimp only at hSw); go_simp; try with_reducible rfl)
              try simp only [Act.put, List.getElem_toArray, List.getElem_cons_zero, List.getElem_cons_succ, List.setIfInBounds_toArray, List.set_cons_zero, List.set_cons_succ]
              refine wpAnyH_take (i := 16) (v := ?_) rfl (by kernel_rfl) (by kernel_rfl) (by kernel_rfl) (fun _ _ _ h => h) (Or.inl ⟨by rfl, ?_⟩) (by assumption) ?_
              rotate_left; · (intro w hSw; (try dsimp only at hSw); go_simp; try with_reducible rfl)
              try simp only [Act.put, List.getElem_toArray, List.getElem_cons_zero, List.getElem_cons_succ, List.setIfInBounds_toArray, List.set_cons_zero, List.set_cons_succ]
              refine wpAnyH_take (i := 17) (v := ?_) rfl (by kernel_rfl) (by kernel_rfl) (by kernel_rfl) (fun _ _ _ h => h) (Or.inl ⟨by rfl, ?_⟩) (by assumption) ?_
              rotate_left; · (intro w hSw; (try dsimp only at hSw); go_simp; try with_reducible rfl)
              try simp only [Act.put, List.getElem_toArray, List.getElem_cons_zero, List.getElem_cons_succ, List.setIfInBounds_toArray, List.set_cons_zero, List.set_cons_succ]
              refine wpAnyH_take (i := 18) (v := ?_) rfl (by kernel_rfl) (by kernel_rfl) (by kernel_rfl) (fun _ _ _ h => h) (Or.inl ⟨by rfl, ?_⟩) (by assumption) ?_
              rotate_left; · (intro w hSw; (try dsimp only at hSw); go_simp; try with_reducible rfl)
              try simp only [Act.put, List.getElem_toArray, List.getElem_cons_zero, List.getElem_cons_succ, List.setIfInBounds_toArray, List.set_cons_zero, List.set_cons_succ]
              refine wpAnyH_take (i := 19) (v := ?_) rfl (by kernel_rfl) (by kernel_rfl) (by kernel_rfl) (fun _ _ _ h => h) (Or.inl ⟨by rfl, ?_⟩) (by assumption) ?_
              rotate_left; · (intro w hSw; (try dsimp only at hSw); go_simp; try with_reducible rfl)
              try simp only [Act.put, List.getElem_toArray, List.getElem_cons_zero, List.getElem_cons_succ, List.setIfInBounds_toArray, List.set_cons_zero, List.set_cons_succ]
              refine wpAnyH_take (i := 20) (v := ?_) rfl (by kernel_rfl) (by kernel_rfl) (by kernel_rfl) (fun _ _ _ h => h) (Or.inl ⟨by rfl, ?_⟩) (by assumption) ?_
              rotate_left; · (intro w hSw; (try dsimp only at hSw); go_simp; try with_reducible rfl)
              try simp only [Act.put, List.getElem_toArray, List.getElem_cons_zero, List.getElem_cons_succ, List.setIfInBounds_toArray, List.set_cons_zero, List.set_cons_succ]
              refine wpAnyH_take (i := 21) (v := ?_) rfl (by kernel_rfl) (by kernel_rfl) (by kernel_rfl) (fun _ _ _ h => h) (Or.inl ⟨by rfl, ?_⟩) (by assumption) ?_
              rotate_left; · (intro w hSw; (try dsimp only at hSw); go_simp; try with_reducible rfl)
              try simp only [Act.put, List.getElem_toArray, List.getElem_cons_zero, List.getElem_cons_succ, List.setIfInBounds_toArray, List.set_cons_zero, List.set_cons_succ]
              refine wpAnyH_take (i := 22) (v := ?_) rfl (by kernel_rfl) (by kernel_rfl) (by kernel_rfl) (fun _ _ _ h => h) (Or.inl ⟨by rfl, ?_⟩) (by assumption) ?_
              rotate_left; · (intro w hSw; (try dsimp only at hSw); go_simp; try with_reducible rfl)
              try simp only [Act.put, List.getElem_toArray, List.getElem_cons_zero, List.getElem_cons_succ, List.setIfInBounds_toArray, List.set_cons_zero, List.set_cons_succ]
              refine wpAnyH_done (by kernel_rfl) ?_ _
              have hb5w := hb5J.trans ((HB7.out _ hb7).mono hb5J.size)
              have h7J := HB7.out _ hb7
              have K7 := bb h7J hkB'
              have j0 := bc h7J j0
              have j1 := bc h7J j1
              have j2 := bc h7J j2
              have j3 := bc h7J j3
              have j4 := bc h7J j4
              have r0 := cell_of_row _ Bst 0 _ _ _ K7
              have r1 := cell_of_row _ Bst 1 _ _ _ K7
              have r2 := cell_of_row _ Bst 2 _ _ _ K7
              have r3 := cell_of_row _ Bst 3 _ _ _ K7
              have r4 := cell_of_row _ Bst 4 _ _ _ K7
              have g0 := frozen_of_row _ Bst 0 _ _ K7
              have g1 := frozen_of_row _ Bst 1 _ _ K7
              have g2 := frozen_of_row _ Bst 2 _ _ K7
              have g3 := frozen_of_row _ Bst 3 _ _ K7
              have g4 := frozen_of_row _ Bst 4 _ _ K7
              obtain ⟨x1, x2, x3⟩ := five_set K7 (.string id) (.int .i64 (ix : Int)) (.slice qa dn qc) (.int .i64 (d : Int)) (.int .i64 block)
              have HBX := Lib.hid (x3 w5.heap.size w5 (Nat.le_of_eq HBST.out.symm) hb5w)
              have hcd : bestCells (d : Int) id ix qa dn qc block = #[.string id, .int .i64 (ix : Int), .slice qa dn qc, .int .i64 (d : Int), .int .i64 block] := by unfold bestCells; rw [if_neg (by omega)]
              have HX := Lib.hid (show ((((((w7).setCell ⟨Bst, 0, none⟩ (.string id)).setCell ⟨Bst, 1, none⟩ (.int .i64 (ix : Int))).setCell ⟨Bst, 2, none⟩ (.slice qa dn qc)).setCell ⟨Bst, 3, none⟩ (.int .i64 (d : Int))).setCell ⟨Bst, 4, none⟩ (.int .i64 block)).heap[Bst]? = some (.cells (bestCells (bestTo (alD F N gone k ix) (btW N) (d + 1)) id ix qa dn qc block) 107 (0, 0)) by rw [HS2.out, hcd]; exact x1)
              clear x1 x2 x3 hcd K7 hHeld HSC CPD h7J hb5w
              go_wp2
              go_roundw
              case rel => exact ⟨d + 1, by omega, by go_num, HBX.out, HX.out⟩
              case measure => simp [intOf]; omega
            · have hs2 : bestTo (alD F N gone k ix) (btW N) (d + 1) = b := by rw [HSU2.out, if_neg (by rintro ⟨_, h | h⟩; (omega); (exact hw (of_decide_eq_true h)))]
              have HS2 := Lib.hid hs2
              have q6 : decide (wb < wd) = false := decide_eq_false hw
              clear hs2 hcB hw hbt hrg hkB2
              go_upto_region 14 with fail
              have HSC0 : ∀ w' : World, Below (WJ).drew.heap.size (WJ).drew w' → (w'.cell? ⟨w.heap.size + 1, 0, none⟩ = some (.slice nma nml nmc) ∧ w'.cell? ⟨w.heap.size + 1, 1, none⟩ = some (.slice (some ⟨nhb, nho, none⟩) nhn nhc) ∧ w'.cell? ⟨w.heap.size + 1, 2, none⟩ = some (.slice nra nrl nrc) ∧ w'.cell? ⟨w.heap.size + 1, 3, none⟩ = some (.slice (some ⟨nwb, nwo, none⟩) nml nwc) ∧ w'.cell? ⟨J, 0, none⟩ = some (.string id) ∧ w'.cell? ⟨J, 1, none⟩ = some (.int .i64 (ix : Int)) ∧ w'.cell? ⟨J, 2, none⟩ = some (.slice qa dn qc) ∧ w'.cell? ⟨J, 3, none⟩ = some (.int .i64 (d : Int)) ∧ w'.cell? ⟨J, 4, none⟩ = some (.int .i64 block) ∧ w'.cell? ⟨Bst, 3, none⟩ = some (.int .i64 ((b : Int))) ∧ w'.cell? ⟨nwb, nwo + d, none⟩ = some (.int .i64 wd) ∧ w'.cell? ⟨nwb, nwo + b, none⟩ = some (.int .i64 wb)) := fun w' hb => ⟨bc hb b0, bc hb b1, bc hb b2, bc hb b3, bc hb j0, bc hb j1, bc hb j2, bc hb j3, bc hb j4, bc hb c3, bc hb w1, bc hb w2⟩
              refine wp_region_held_drew (S := fun w' => w'.cell? ⟨w.heap.size + 1, 0, none⟩ = some (.slice nma nml nmc) ∧ w'.cell? ⟨w.heap.size + 1, 1, none⟩ = some (.slice (some ⟨nhb, nho, none⟩) nhn nhc) ∧ w'.cell? ⟨w.heap.size + 1, 2, none⟩ = some (.slice nra nrl nrc) ∧ w'.cell? ⟨w.heap.size + 1, 3, none⟩ = some (.slice (some ⟨nwb, nwo, none⟩) nml nwc) ∧ w'.cell? ⟨J, 0, none⟩ = some (.string id) ∧ w'.cell? ⟨J, 1, none⟩ = some (.int .i64 (ix : Int)) ∧ w'.cell? ⟨J, 2, none⟩ = some (.slice qa dn qc) ∧ w'.cell? ⟨J, 3, none⟩ = some (.int .i64 (d : Int)) ∧ w'.cell? ⟨J, 4, none⟩ = some (.int .i64 block) ∧ w'.cell? ⟨Bst, 3, none⟩ = some (.int .i64 ((b : Int))) ∧ w'.cell? ⟨nwb, nwo + d, none⟩ = some (.int .i64 wd) ∧ w'.cell? ⟨nwb, nwo + b, none⟩ = some (.int .i64 wb)) (by kernel_rfl) (HSC0 _ (Below.refl _ _)) (fun hHeld => ?_)
              have HSC := Lib.hid HSC0
              clear HSC0
              generalize (WJ).drew = We at *
              refine wpAnyH_take (i := 0) (v := ?_) rfl (by kernel_rfl) (by kernel_rfl) (by kernel_rfl) (fun _ _ _ h => h) (Or.inl ⟨by rfl, ?_⟩) (by assumption) ?_
              rotate_left; · (intro w hSw; (try dsimp only at hSw); go_simp; try with_reducible rfl)
              try simp only [Act.put, List.getElem_toArray, List.getElem_cons_zero, List.getElem_cons_succ, List.setIfInBounds_toArray, List.set_cons_zero, List.set_cons_succ]
              refine wpAnyH_take (i := 1) (v := ?_) rfl (by kernel_rfl) (by kernel_rfl) (by kernel_rfl) (fun _ _ _ h => h) (Or.inl ⟨by rfl, ?_⟩) (by assumption) ?_
              rotate_left; · (intro w hSw; (try dsimp only at hSw); go_simp; try with_reducible rfl)
              try simp only [Act.put, List.getElem_toArray, List.getElem_cons_zero, List.getElem_cons_succ, List.setIfInBounds_toArray, List.set_cons_zero, List.set_cons_succ]
              refine wpAnyH_take (i := 2) (v := ?_) rfl (by kernel_rfl) (by kernel_rfl) (by kernel_rfl) (fun _ _ _ h => h) (Or.inl ⟨by rfl, ?_⟩) (by assumption) ?_
              rotate_left; · (intro w hSw; (try dsimp only at hSw); go_simp; try with_reducible rfl)
              try simp only [Act.put, List.getElem_toArray, List.getElem_cons_zero, List.getElem_cons_succ, List.setIfInBounds_toArray, List.set_cons_zero, List.set_cons_succ]
              refine wpAnyH_ready (rs := [3]) (by kernel_rfl) (by simp) ?_
              refine AllReadyH.cons rfl (fun K hK => ?_) AllReadyH.nil
              go_simp
              refine CPD.out.mono ?_; rintro e w7 ⟨rfl, hb7⟩
              go_wp2_with fail
              refine hK.out _ _ (HSC.out _ hb7) (fun hNew => ?_)
              clear hK K hHeld
              have hHeld := hNew
              clear hNew
              try simp only [Act.put, List.getElem_toArray, List.getElem_cons_zero, List.getElem_cons_succ, List.setIfInBounds_toArray, List.set_cons_zero, List.set_cons_succ]
              refine wpAnyH_take (i := 4) (v := ?_) rfl (by kernel_rfl) (by kernel_rfl) (by kernel_rfl) (fun _ _ _ h => h) (Or.inl ⟨by rfl, ?_⟩) (by assumption) ?_
              rotate_left; · (intro w hSw; (try dsimp only at hSw); go_simp; try with_reducible rfl)
              try simp only [Act.put, List.getElem_toArray, List.getElem_cons_zero, List.getElem_cons_succ, List.setIfInBounds_toArray, List.set_cons_zero, List.set_cons_succ]
              refine wpAnyH_take (i := 5) (v := ?_) rfl (by kernel_rfl) (by kernel_rfl) (by kernel_rfl) (fun _ _ _ h => h) (Or.inl ⟨by rfl, ?_⟩) (by assumption) ?_
              rotate_left; · (intro w hSw; (try dsimp only at hSw); go_simp; try with_reducible rfl)
              try simp only [Act.put, List.getElem_toArray, List.getElem_cons_zero, List.getElem_cons_succ, List.setIfInBounds_toArray, List.set_cons_zero, List.set_cons_succ]
              refine wpAnyH_take (i := 6) (v := ?_) rfl (by kernel_rfl) (by kernel_rfl) (by kernel_rfl) (fun _ _ _ h => h) (Or.inl ⟨by rfl, ?_⟩) (by assumption) ?_
              rotate_left; · (intro w hSw; (try dsimp only at hSw); go_simp; try with_reducible rfl)
              try simp only [Act.put, List.getElem_toArray, List.getElem_cons_zero, List.getElem_cons_succ, List.setIfInBounds_toArray, List.set_cons_zero, List.set_cons_succ]
              refine wpAnyH_take (i := 7) (v := ?_) rfl (by kernel_rfl) (by kernel_rfl) (by kernel_rfl) (fun _ _ _ h => h) (Or.inl ⟨by rfl, ?_⟩) (by assumption) ?_
              rotate_left; · (intro w hSw; (try dsimp only at hSw); go_simp; try with_reducible rfl)
              try simp only [Act.put, List.getElem_toArray, List.getElem_cons_zero, List.getElem_cons_succ, List.setIfInBounds_toArray, List.set_cons_zero, List.set_cons_succ]
              refine wpAnyH_take (i := 8) (v := ?_) rfl (by kernel_rfl) (by kernel_rfl) (by kernel_rfl) (fun _ _ _ h => h) (Or.inl ⟨by rfl, ?_⟩) (by assumption) ?_
              rotate_left; · (intro w hSw; (try dsimp only at hSw); go_simp; try with_reducible rfl)
              try simp only [Act.put, List.getElem_toArray, List.getElem_cons_zero, List.getElem_cons_succ, List.setIfInBounds_toArray, List.set_cons_zero, List.set_cons_succ]
              refine wpAnyH_take (i := 9) (v := ?_) rfl (by kernel_rfl) (by kernel_rfl) (by kernel_rfl) (fun _ _ _ h => h) (Or.inl ⟨by rfl, ?_⟩) (by assumption) ?_
              rotate_left; · (intro w hSw; (try dsimp only at hSw); go_simp; try with_reducible rfl)
              try simp only [Act.put, List.getElem_toArray, List.getElem_cons_zero, List.getElem_cons_succ, List.setIfInBounds_toArray, List.set_cons_zero, List.set_cons_succ]
              refine wpAnyH_take (i := 10) (v := ?_) rfl (by kernel_rfl) (by kernel_rfl) (by kernel_rfl) (fun _ _ _ h => h) (Or.inl ⟨by rfl, ?_⟩) (by assumption) ?_
              rotate_left; · (intro w hSw; (try dsimp only at hSw); go_simp; try with_reducible rfl)
              try simp only [Act.put, List.getElem_toArray, List.getElem_cons_zero, List.getElem_cons_succ, List.setIfInBounds_toArray, List.set_cons_zero, List.set_cons_succ]
              refine wpAnyH_take (i := 11) (v := ?_) rfl (by kernel_rfl) (by kernel_rfl) (by kernel_rfl) (fun _ _ _ h => h) (Or.inl ⟨by rfl, ?_⟩) (by assumption) ?_
              rotate_left; · (intro w hSw; (try dsimp only at hSw); go_simp; try with_reducible rfl)
              try simp only [Act.put, List.getElem_toArray, List.getElem_cons_zero, List.getElem_cons_succ, List.setIfInBounds_toArray, List.set_cons_zero, List.set_cons_succ]
              refine wpAnyH_take (i := 12) (v := ?_) rfl (by kernel_rfl) (by kernel_rfl) (by kernel_rfl) (fun _ _ _ h => h) (Or.inl ⟨by rfl, ?_⟩) (by assumption) ?_
              rotate_left; · (intro w hSw; (try dsimp only at hSw); go_simp; try with_reducible rfl)
              try simp only [Act.put, List.getElem_toArray, List.getElem_cons_zero, List.getElem_cons_succ, List.setIfInBounds_toArray, List.set_cons_zero, List.set_cons_succ]
              refine wpAnyH_take (i := 13) (v := ?_) rfl (by kernel_rfl) (by kernel_rfl) (by kernel_rfl) (fun _ _ _ h => h) (Or.inl ⟨by rfl, ?_⟩) (by assumption) ?_
              rotate_left; · (intro w hSw; (try dsimp only at hSw); go_simp; try with_reducible rfl)
              try simp only [Act.put, List.getElem_toArray, List.getElem_cons_zero, List.getElem_cons_succ, List.setIfInBounds_toArray, List.set_cons_zero, List.set_cons_succ]
              refine wpAnyH_take (i := 14) (v := ?_) rfl (by kernel_rfl) (by kernel_rfl) (by kernel_rfl) (fun _ _ _ h => h) (Or.inl ⟨by rfl, ?_⟩) (by assumption) ?_
              rotate_left; · (intro w hSw; (try dsimp only at hSw); go_simp; try with_reducible rfl)
              try simp only [Act.put, List.getElem_toArray, List.getElem_cons_zero, List.getElem_cons_succ, List.setIfInBounds_toArray, List.set_cons_zero, List.set_cons_succ]
              refine wpAnyH_take (i := 15) (v := ?_) rfl (by kernel_rfl) (by kernel_rfl) (by kernel_rfl) (fun _ _ _ h => h) (Or.inl ⟨by rfl, ?_⟩) (by assumption) ?_
              rotate_left; · (intro w hSw; (try dsimp only at hSw); go_simp; try with_reducible rfl)
              try simp only [Act.put, List.getElem_toArray, List.getElem_cons_zero, List.getElem_cons_succ, List.setIfInBounds_toArray, List.set_cons_zero, List.set_cons_succ]
              refine wpAnyH_take (i := 16) (v := ?_) rfl (by kernel_rfl) (by kernel_rfl) (by kernel_rfl) (fun _ _ _ h => h) (Or.inl ⟨by rfl, ?_⟩) (by assumption) ?_
              rotate_left; · (intro w hSw; (try dsimp only at hSw); go_simp; try with_reducible rfl)
              try simp only [Act.put, List.getElem_toArray, List.getElem_cons_zero, List.getElem_cons_succ, List.setIfInBounds_toArray, List.set_cons_zero, List.set_cons_succ]
              refine wpAnyH_take (i := 17) (v := ?_) rfl (by kernel_rfl) (by kernel_rfl) (by kernel_rfl) (fun _ _ _ h => h) (Or.inl ⟨by rfl, ?_⟩) (by assumption) ?_
              rotate_left; · (intro w hSw; (try dsimp only at hSw); go_simp; try with_reducible rfl)
              try simp only [Act.put, List.getElem_toArray, List.getElem_cons_zero, List.getElem_cons_succ, List.setIfInBounds_toArray, List.set_cons_zero, List.set_cons_succ]
              refine wpAnyH_take (i := 18) (v := ?_) rfl (by kernel_rfl) (by kernel_rfl) (by kernel_rfl) (fun _ _ _ h => h) (Or.inl ⟨by rfl, ?_⟩) (by assumption) ?_
              rotate_left; · (intro w hSw; (try dsimp only at hSw); go_simp; try with_reducible rfl)
              try simp only [Act.put, List.getElem_toArray, List.getElem_cons_zero, List.getElem_cons_succ, List.setIfInBounds_toArray, List.set_cons_zero, List.set_cons_succ]
              refine wpAnyH_take (i := 19) (v := ?_) rfl (by kernel_rfl) (by kernel_rfl) (by kernel_rfl) (fun _ _ _ h => h) (Or.inl ⟨by rfl, ?_⟩) (by assumption) ?_
              rotate_left; · (intro w hSw; (try dsimp only at hSw); go_simp; try with_reducible rfl)
              try simp only [Act.put, List.getElem_toArray, List.getElem_cons_zero, List.getElem_cons_succ, List.setIfInBounds_toArray, List.set_cons_zero, List.set_cons_succ]
              refine wpAnyH_take (i := 20) (v := ?_) rfl (by kernel_rfl) (by kernel_rfl) (by kernel_rfl) (fun _ _ _ h => h) (Or.inl ⟨by rfl, ?_⟩) (by assumption) ?_
              rotate_left; · (intro w hSw; (try dsimp only at hSw); go_simp; try with_reducible rfl)
              try simp only [Act.put, List.getElem_toArray, List.getElem_cons_zero, List.getElem_cons_succ, List.setIfInBounds_toArray, List.set_cons_zero, List.set_cons_succ]
              refine wpAnyH_take (i := 21) (v := ?_) rfl (by kernel_rfl) (by kernel_rfl) (by kernel_rfl) (fun _ _ _ h => h) (Or.inl ⟨by rfl, ?_⟩) (by assumption) ?_
              rotate_left; · (intro w hSw; (try dsimp only at hSw); go_simp; try with_reducible rfl)
              try simp only [Act.put, List.getElem_toArray, List.getElem_cons_zero, List.getElem_cons_succ, List.setIfInBounds_toArray, List.set_cons_zero, List.set_cons_succ]
              refine wpAnyH_take (i := 22) (v := ?_) rfl (by kernel_rfl) (by kernel_rfl) (by kernel_rfl) (fun _ _ _ h => h) (Or.inl ⟨by rfl, ?_⟩) (by assumption) ?_
              rotate_left; · (intro w hSw; (try dsimp only at hSw); go_simp; try with_reducible rfl)
              try simp only [Act.put, List.getElem_toArray, List.getElem_cons_zero, List.getElem_cons_succ, List.setIfInBounds_toArray, List.set_cons_zero, List.set_cons_succ]
              refine wpAnyH_done (by kernel_rfl) ?_ _
              have hb5w := hb5J.trans ((HB7.out _ hb7).mono hb5J.size)
              have hK7 := bb (HB7.out _ hb7) hkB'
              rw [← HS2.out] at hK7
              have HKB7 := Lib.hid hK7
              clear hHeld HSC CPD c3 hkB' hkBox' hkJ' j0 j1 j2 j3 j4 b0 b1 b2 b3 hK7 w1 w2
              go_wp2
              go_roundw
              case rel => exact ⟨d + 1, by omega, by go_num, hb5w, HKB7.out⟩
              case measure => simp [intOf]; omega
      · have hdl : d = nml := by omega
        subst hdl
        obtain ⟨st', ix', a', l', c', to', sz', hcells, hto, hall⟩ : ∃ (st' : ByteArray) (ix' : Int) (a' : Option Addr) (l' c' : Nat) (to' sz' : Int), bestCells (bestTo (alD F N gone k ix) (btW N) d) id ix qa dn qc block = #[.string st', .int .i64 ix', .slice a' l' c', .int .i64 to', .int .i64 sz'] ∧
            decide (0 ≤ to') = op ∧ (op = true → st' = id ∧ ix' = ix ∧ a' = qa ∧ l' = dn ∧ c' = qc ∧ to' = targetI N gone k ∧ sz' = block) := by
          obtain ⟨o1, o2⟩ := HOD2.out
          by_cases hbt : bestTo (alD F N gone k ix) (btW N) d < 0
          · unfold bestCells
            rw [if_pos hbt]
            refine ⟨_, _, _, _, _, _, _, rfl, ?_, fun h => ?_⟩
            · rw [o1, decide_eq_false (by omega), decide_eq_false (by omega)]
            · rw [o1, decide_eq_false (by omega)] at h; cases h
          · unfold bestCells
            rw [if_neg hbt]
            exact ⟨_, _, _, _, _, _, _, rfl, o1.symm, fun h => ⟨rfl, rfl, rfl, rfl, rfl, (o2 h).1, rfl⟩⟩
        rw [hcells] at hkB
        have HTO := Lib.hid hto
        have HALL := Lib.hid hall
        have HJ2 := Lib.hid (fun h => (HOD2.out.2 h).2)
        have c0 := cell_of_row _ Bst 0 _ _ _ hkB
        have c1 := cell_of_row _ Bst 1 _ _ _ hkB
        have c2 := cell_of_row _ Bst 2 _ _ _ hkB
        have c3 := cell_of_row _ Bst 3 _ _ _ hkB
        have c4 := cell_of_row _ Bst 4 _ _ _ hkB
        have HKC2 := Lib.hid (show wr.drew.heap[w.heap.size + 1 + 1]? = _ from HKC.out)
        have hcb : w.heap.size + 1 + 1 ≠ Bst := by have h1 := (Array.getElem?_eq_some_iff.1 KC5.out).1; have := HBST.out; omega
        have HFR2 := Lib.hid (HFRr.out.below (Below.refl _ wr).drew)
        have hbd := hbwr.drew
        clear hcells hto hall HOD2 hkB hkBox hkS HKC HFRr CJ hb5r
        go_upto_region 17 with fail
        have HSB0 : ∀ w' : World, Below (wr).drew.heap.size (wr).drew w' → (w'.cell? ⟨Bst, 0, none⟩ = some (.string st') ∧ w'.cell? ⟨Bst, 1, none⟩ = some (.int .i64 ix') ∧ w'.cell? ⟨Bst, 2, none⟩ = some (.slice a' l' c') ∧ w'.cell? ⟨Bst, 3, none⟩ = some (.int .i64 to') ∧ w'.cell? ⟨Bst, 4, none⟩ = some (.int .i64 sz')) := fun w' hb => ⟨bc hb c0, bc hb c1, bc hb c2, bc hb c3, bc hb c4⟩
        refine wp_region_held_drew (S := fun w' => w'.cell? ⟨Bst, 0, none⟩ = some (.string st') ∧ w'.cell? ⟨Bst, 1, none⟩ = some (.int .i64 ix') ∧ w'.cell? ⟨Bst, 2, none⟩ = some (.slice a' l' c') ∧ w'.cell? ⟨Bst, 3, none⟩ = some (.int .i64 to') ∧ w'.cell? ⟨Bst, 4, none⟩ = some (.int .i64 sz')) (by kernel_rfl) (HSB0 _ (Below.refl _ _)) (fun hHeld => ?_)
        have HSB := Lib.hid HSB0
        clear HSB0
        generalize (wr).drew = Wd at *
        refine wpAnyH_take (i := 0) (v := ?_) rfl (by kernel_rfl) (by kernel_rfl) (by kernel_rfl) (fun _ _ _ h => h) (Or.inl ⟨by rfl, ?_⟩) (by assumption) ?_
        rotate_left; · (intro w hSw; (try dsimp only at hSw); go_simp; try with_reducible rfl)
        try simp only [Act.put, List.getElem_toArray, List.getElem_cons_zero, List.getElem_cons_succ, List.setIfInBounds_toArray, List.set_cons_zero, List.set_cons_succ]
        refine wpAnyH_take (i := 1) (v := ?_) rfl (by kernel_rfl) (by kernel_rfl) (by kernel_rfl) (fun _ _ _ h => h) (Or.inl ⟨by rfl, ?_⟩) (by assumption) ?_
        rotate_left; · (intro w hSw; (try dsimp only at hSw); go_simp; try with_reducible rfl)
        try simp only [Act.put, List.getElem_toArray, List.getElem_cons_zero, List.getElem_cons_succ, List.setIfInBounds_toArray, List.set_cons_zero, List.set_cons_succ]
        refine wpAnyH_take (i := 2) (v := ?_) rfl (by kernel_rfl) (by kernel_rfl) (by kernel_rfl) (fun _ _ _ h => h) (Or.inl ⟨by rfl, ?_⟩) (by assumption) ?_
        rotate_left; · (intro w hSw; (try dsimp only at hSw); go_simp; try with_reducible rfl)
        try simp only [Act.put, List.getElem_toArray, List.getElem_cons_zero, List.getElem_cons_succ, List.setIfInBounds_toArray, List.set_cons_zero, List.set_cons_succ]
        refine wpAnyH_take (i := 3) (v := ?_) rfl (by kernel_rfl) (by kernel_rfl) (by kernel_rfl) (fun _ _ _ h => h) (Or.inl ⟨by rfl, ?_⟩) (by assumption) ?_
        rotate_left; · (intro w hSw; (try dsimp only at hSw); go_simp; try with_reducible rfl)
        try simp only [Act.put, List.getElem_toArray, List.getElem_cons_zero, List.getElem_cons_succ, List.setIfInBounds_toArray, List.set_cons_zero, List.set_cons_succ]
        have e0 := cell_of_row _ (w.heap.size + 1 + 1) 0 _ _ _ HKC2.out
        have e1 := cell_of_row _ (w.heap.size + 1 + 1) 1 _ _ _ HKC2.out
        have e2 := cell_of_row _ (w.heap.size + 1 + 1) 2 _ _ _ HKC2.out
        have e3 := cell_of_row _ (w.heap.size + 1 + 1) 3 _ _ _ HKC2.out
        have e4 := cell_of_row _ (w.heap.size + 1 + 1) 4 _ _ _ HKC2.out
        have g0 := frozen_of_row _ (w.heap.size + 1 + 1) 0 _ _ HKC2.out
        have g1 := frozen_of_row _ (w.heap.size + 1 + 1) 1 _ _ HKC2.out
        have g2 := frozen_of_row _ (w.heap.size + 1 + 1) 2 _ _ HKC2.out
        have g3 := frozen_of_row _ (w.heap.size + 1 + 1) 3 _ _ HKC2.out
        have g4 := frozen_of_row _ (w.heap.size + 1 + 1) 4 _ _ HKC2.out
        obtain ⟨x1, x2, x3⟩ := five_set HKC2.out (.string st') (.int .i64 ix') (.slice a' l' c') (.int .i64 to') (.int .i64 sz')
        have hS2 : ∀ i v, Wd.cell? ⟨Bst, i, none⟩ = some v → ((((((Wd).setCell ⟨w.heap.size + 1 + 1, 0, none⟩ (.string st')).setCell ⟨w.heap.size + 1 + 1, 1, none⟩ (.int .i64 ix')).setCell ⟨w.heap.size + 1 + 1, 2, none⟩ (.slice a' l' c')).setCell ⟨w.heap.size + 1 + 1, 3, none⟩ (.int .i64 to')).setCell ⟨w.heap.size + 1 + 1, 4, none⟩ (.int .i64 sz')).cell? ⟨Bst, i, none⟩ = some v := fun i v h => by
          unfold World.cell? at h ⊢
          rw [x2 Bst (Ne.symm hcb)]
          exact h
        have HHS := Lib.hid (And.intro (hS2 _ _ hHeld.1) (And.intro (hS2 _ _ hHeld.2.1) (And.intro (hS2 _ _ hHeld.2.2.1) (And.intro (hS2 _ _ hHeld.2.2.2.1) (hS2 _ _ hHeld.2.2.2.2)))))
        have HBF := Lib.hid (x3 w.heap.size w (by omega) hbd)
        have HY1 := Lib.hid x1
        have HOF := Lib.hid (Own.same HFR2.out fun q hq => x2 q (fun e => own_ne HFR2.out HKC2.out (by decide) (e ▸ hq)))
        clear x1 x2 x3 hS2 c0 c1 c2 c3 c4
        refine wpAnyH_ready (rs := [4]) (by kernel_rfl) (by simp) ?_
        refine AllReadyH.cons rfl (fun K hK => ?_) AllReadyH.nil
        go_simp
        refine hK.out _ _ (HHS.out) (fun hNew => ?_)
        clear hK K hNew
        (try clear hHeld)
        have hHeld := HHS.out
        try simp only [Act.put, List.getElem_toArray, List.getElem_cons_zero, List.getElem_cons_succ, List.setIfInBounds_toArray, List.set_cons_zero, List.set_cons_succ]
        clear e0 e1 e2 e3 e4 g0 g1 g2 g3 g4
        refine wpAnyH_take (i := 5) (v := ?_) rfl (by kernel_rfl) (by kernel_rfl) (by kernel_rfl) (fun _ _ _ h => h) (Or.inl ⟨by rfl, ?_⟩) (by assumption) ?_
        rotate_left; · (intro w hSw; (try dsimp only at hSw); go_simp; try with_reducible rfl)
        try simp only [Act.put, List.getElem_toArray, List.getElem_cons_zero, List.getElem_cons_succ, List.setIfInBounds_toArray, List.set_cons_zero, List.set_cons_succ]
        refine wpAnyH_done (by kernel_rfl) ?_ _
        clear hHeld HHS HSB
        go_wp2
        refine bodyPost_ret (results_row_tmp (P := Try.prog) Try.results52 _ _ (w.heap.size + 1 + 1) 107 _ (0, 0) _ (by rfl) HY1.out Try.underlying107 rfl (by kernel_rfl)) rfl ?_
        refine ⟨HBF.out, ⟨⟨st', ix'⟩, lf.take dn, to', sz'⟩, a', l', c', ?_, fun h => ?_⟩
        · rw [← HTO.out]; rfl
        · obtain ⟨z1, z2, z3, z4, z5, z6, z7⟩ := HALL.out h
          subst z3 z4 z5
          refine ⟨?_, HOF.out⟩
          rw [← HJ2.out h, HJK.out, z1, z2, z6, z7]

end Go.Proofs.Ytijcicgbhcphjaa
