/- The reference's Plan. -/
import Derived.Test.YtijcicgbhcphjaaT8
namespace Go.Proofs.Ytijcicgbhcphjaa
open Go.RowKit Go.Lib Go.ChangeMaps
set_option linter.unusedSimpArgs false

/-- Jobs of the reference in a row of one's own. -/
def OwnJ7 (w : World) (base : Nat) (v : Value) (js : List Jp) : Prop := ∃ xs : List Value, xs.length = js.length ∧ Own w base 107 v 5 js.length (jpCell js xs) ∧ ∀ i, i < js.length → OwnI w base (xs.getD i undef) (js.getD i default).from_
theorem OwnJ7.lit0 (w : World) (base : Nat) (hb : base ≤ w.heap.size) : OwnJ7 (w.alloc (.cells #[] 107)) base (.slice (some ⟨w.heap.size, 0, none⟩) 0 0) [] := ⟨[], rfl, Own.lit0 w base 107 5 _ hb, fun i hi => by simp at hi⟩
theorem OwnJ7.below {w w' : World} {base : Nat} {v : Value} {js : List Jp} (h : OwnJ7 w base v js) (hb : Below w.heap.size w w') : OwnJ7 w' base v js := by
  obtain ⟨xs, h1, h2, h3⟩ := h
  exact ⟨xs, h1, h2.below hb, fun i hi => OwnI.below (h3 i hi) hb⟩
theorem OwnJ7.slice {w : World} {base : Nat} {v : Value} {js : List Jp} (h : OwnJ7 w base v js) (hn : js.length ≤ 1000000) : ∃ a c, v = .slice a js.length c := by
  obtain ⟨xs, h1, h2, h3⟩ := h
  obtain ⟨a, c, e, _⟩ := h2.row (by omega)
  exact ⟨a, c, e⟩
theorem OwnJ7.reads {w : World} {base : Nat} {v : Value} {js : List Jp} (h : OwnJ7 w base v js) (hn : js.length ≤ 1000000) (hf : ∀ j ∈ js, j.from_.length ≤ 1000000) : ReadsJ w v js := by
  obtain ⟨xs, h1, h2, h3⟩ := h
  refine ⟨xs, h1, h2.row (by omega), fun i hi => OwnI.reads (h3 i hi) ?_⟩
  have := hf (js.getD i default) (by rw [getD_at _ _ _ hi]; exact List.getElem_mem hi)
  omega
/-- Another block turns, one of a view. -/
theorem OwnJ7.off {w w' : World} {base N : Nat} {v : Value} {js : List Jp} {cs : Array Value} {fr : Nat × Nat} (h : OwnJ7 w base v js) (hN : w.heap[N]? = some (.cells cs 33 fr)) (hs : ∀ q, q ≠ N → w'.heap[q]? = w.heap[q]?) : OwnJ7 w' base v js := by
  obtain ⟨xs, h1, h2, h3⟩ := h
  exact ⟨xs, h1, h2.same fun q hq => hs q (fun e => own_ne h2 hN (by decide) (e ▸ hq)), fun i hi => Own.same (h3 i hi) fun q hq => hs q (fun e => own_ne (h3 i hi) hN (by decide) (e ▸ hq))⟩
theorem OwnJ7.app {V : World} {base : Nat} {v : Value} {js : List Jp} (h : OwnJ7 V base v js) (y : Jp) (fv : Value) (hfv : OwnI V base fv y.from_) (hn : js.length ≤ 1000000) (hbase : base ≤ V.heap.size) :
    ∃ v' w', (Builtin.append_ #[39, 39] 39 #[v, .slice (some ⟨V.heap.size, 0, none⟩) 1 1]).run Try.prog (V.alloc (.cells #[.string y.pc.st, .int .i64 y.pc.ix, fv, .int .i64 y.to, .int .i64 y.size] 107)) = .ok v' w' ∧ OwnJ7 w' base v' (js ++ [y]) ∧ Below base V w' ∧
      (∀ b, b < V.heap.size → v.ownBlock ≠ some b → w'.heap[b]? = V.heap[b]?) ∧ (v'.ownBlock = v.ownBlock ∨ v'.ownBlock = some (V.heap.size + 1)) := by
  obtain ⟨xs, hx, ho, hf⟩ := h
  have h' : Own V base 107 v 5 js.length (jpCell (js ++ [y]) (xs ++ [fv])) := Own.congr ho fun i j hi _ => (jpCell_old hx y fv hi j).symm
  have h1 : fv.oneCell' = true := by
    obtain ⟨_, _, rfl⟩ := OwnI.slice hfv
    rfl
  have hgy : (js ++ [y]).getD js.length default = y := by simp [List.getD]
  have hgx : (xs ++ [fv]).getD js.length undef = fv := by rw [← hx]; simp [List.getD]
  obtain ⟨v3, w3, r3, o1, o2, o3, o4, _⟩ := Own.append (V := V) (t := 39) (e := 107) Try.underlying39 info107 rfl (by omega) (by omega) h' 39
    [.string y.pc.st, .int .i64 y.pc.ix, fv, .int .i64 y.to, .int .i64 y.size] rfl (fun q hq => by
      match q, hq with
      | 0, _ => simp only [jpCell, hgy]; rfl
      | 1, _ => simp only [jpCell, hgy]; rfl
      | 2, _ => simp only [jpCell, hgx]; rfl
      | 3, _ => simp only [jpCell, hgy]; rfl
      | 4, _ => simp only [jpCell, hgy]; rfl) (by
      intro u hu
      simp at hu
      rcases hu with rfl | rfl | rfl | rfl | rfl
      · rfl
      · rfl
      · exact h1
      · rfl
      · rfl) (by omega) hbase
  refine ⟨v3, w3, r3, ⟨xs ++ [fv], by simp [hx], by rw [List.length_append]; exact o1, fun i hi => ?_⟩, o2, o3, o4⟩
  have hkeep : ∀ {u : Value} {ds : List Int}, OwnI V base u ds → OwnI w3 base u ds := fun o => Own.same o fun g hg => o3 g (Own.lt o g hg).2 (fun e => own_apart' ho o (by decide) g e hg)
  by_cases e : i < js.length
  · rw [getD_at _ _ _ (by rw [List.length_append]; omega), List.getElem_append_left (by omega), getD_at _ _ _ (by rw [List.length_append]; omega), List.getElem_append_left e]
    have := hf i e
    rw [getD_at _ _ _ (by omega), getD_at _ _ _ e] at this
    exact hkeep this
  · have hi2 : i = js.length := by rw [List.length_append, List.length_singleton] at hi; omega
    subst hi2
    rw [hgx, hgy]
    exact hkeep hfv

theorem OwnJ7.own {w : World} {base : Nat} {v : Value} {js : List Jp} (h : OwnJ7 w base v js) : ∃ f : Nat → Nat → Value, Own w base 107 v 5 js.length f := by
  obtain ⟨xs, h1, h2, h3⟩ := h
  exact ⟨_, h2⟩
/-- A view in a block, no row of which lies in the block g. -/
def NowAv (w : World) (N : Nat) (V : Vp) (g : Nat) : Prop := ∃ ma ml mc ha hl hc ra rl rc wa wl wc, w.heap[N]? = some (.cells #[.slice ma ml mc, .slice ha hl hc, .slice ra rl rc, .slice wa wl wc] 33 (0, 0)) ∧ VwAv w (.agg #[.slice ma ml mc, .slice ha hl hc, .slice ra rl rc, .slice wa wl wc]) V g
theorem NowAv.of_lt {w w' : World} {N : Nat} {V : Vp} {g : Nat} (h : NowAt w N V) (hg : w.heap.size ≤ g) (hb : Below w.heap.size w w') : NowAv w' N V g := by
  obtain ⟨ma, ml, mc, ha, hl, hc, ra, rl, rc, wa, wl, wc, h1, h2⟩ := h
  exact ⟨ma, ml, mc, ha, hl, hc, ra, rl, rc, wa, wl, wc, bb hb h1, (VwAv.of_lt h2 hg).below hb⟩
theorem NowAv.store {w : World} {N : Nat} {V : Vp} {g : Nat} {z0 z1 z2 z3 : Value} {ma : Option Addr} {ml mc : Nat} {ha : Option Addr} {hl hc : Nat} {ra : Option Addr} {rl rc : Nat} {wa : Option Addr} {wl wc : Nat} (h : w.heap[N]? = some (.cells #[z0, z1, z2, z3] 33 (0, 0)))
    (hN : ∀ o u, w.cell? ⟨N, o, none⟩ = some u → ∃ a l c, u = .slice a l c) (hu : VwAv w (.agg #[.slice ma ml mc, .slice ha hl hc, .slice ra rl rc, .slice wa wl wc]) V g) :
    NowAv ((((w.setCell ⟨N, 0, none⟩ (.slice ma ml mc)).setCell ⟨N, 1, none⟩ (.slice ha hl hc)).setCell ⟨N, 2, none⟩ (.slice ra rl rc)).setCell ⟨N, 3, none⟩ (.slice wa wl wc)) N V g := by
  obtain ⟨y1, y2, _⟩ := four_set h (.slice ma ml mc) (.slice ha hl hc) (.slice ra rl rc) (.slice wa wl wc)
  exact ⟨_, _, _, _, _, _, _, _, _, _, _, _, y1, hu.off hN y2⟩

theorem merge5 {goal : Prop} {M : Value → Value → Nat → Nat → World → Prop} {F : Value → Value → Nat → Nat → World → Prop} (hb : (∀ a b c d e, F a b c d e → M a b c d e) → goal) (hk : ∀ a b c d e, F a b c d e → M a b c d e) : goal := hb hk


set_option maxRecDepth 100000 in
set_option maxHeartbeats 32000000 in
theorem plan_ref (v lv : Value) (V : Vp) (ls : List Int) (w : World) (hv : VwAt w v V) (hl : ReadsI w lv ls) :
    Calls Try.prog 18 #[v, lv] w fun e w' => Below w.heap.size w w' ∧ ((¬ Fits V ls ∧ e = .returned (.tuple #[.slice none 0 0, .int .i64 1])) ∨
      (Fits V ls ∧ ∃ u, e = .returned (.tuple #[u, .int .i64 0]) ∧ OwnJ7 w' w.heap.size u (planR V (goneB V.mem ls)).2)) := by
  have CFI := Lib.hid (fun W (h : Below w.heap.size w W) => fits_any _ _ V ls W (hv.below h) (hl.below h))
  have CC := Lib.hid (fun W (hok : VOk V) (h : Below w.heap.size w W) => clean_ref _ _ V ls W (hv.below h) (hl.below h) hok)
  have CLR := Lib.hid (fun (W : World) (N : Vp) (u : Value) (h : Hp) (qa : Option Addr) (ql qc : Nat) (av : Value) (hN : VwAt W u N) (hW : Below w.heap.size w W) (ha0 : ReadsI W av h.at_) (hat : ∀ x ∈ h.at_, x = -1 ∨ (0 ≤ x ∧ x < N.mem.length)) (h16 : h.at_.length ≤ 16) =>
    left_ref _ _ N ls h qa ql qc av W hN (hl.below hW) ha0 hat h16)
  have CJR := Lib.hid (fun (W : World) (fu u : Value) (F N : Vp) (k : Nat) (hF : VwAt W fu F) (hN : VwAt W u N) (hW : Below w.heap.size w W) (hokF : VOk F) (hokN : VOk N) (hk : k < N.held.length) (hg : Grow F (goneB N.mem ls) N) => job_ref fu u _ F N ls k W hF hN (hl.below hW) hokF hokN hk hg)
  obtain ⟨ma, mc, ha, hc, ra, rl, rc, wa, wl, wc, rfl⟩ := hv.val
  obtain ⟨la, lc, _, _, rfl, -⟩ := hl.at
  clear hl hv
  obtain ⟨res, hres⟩ : ∃ res, res = (planR V (goneB V.mem ls)).2 := ⟨_, rfl⟩
  rw [← hres]
  have HRES := Lib.hid hres
  clear hres
  obtain ⟨nh, hnh⟩ : ∃ nh, nh = V.held.length := ⟨_, rfl⟩
  rw [← hnh] at CFI CC ⊢
  clear hnh
  obtain ⟨ml, hml⟩ : ∃ ml, ml = V.mem.length := ⟨_, rfl⟩
  rw [← hml] at CFI CC ⊢
  clear hml
  generalize ls.length = ll at *
  have hb0 : Below w.heap.size w (w.alloc (.cells #[.slice ma ml mc, .slice ha nh hc, .slice ra rl rc, .slice wa wl wc] 33)) := sbell _
  have kA := heap_alloc_new w (.cells #[.slice ma ml mc, .slice ha nh hc, .slice ra rl rc, .slice wa wl wc] 33)
  go_enter Try.func18, Try.ntmps18
  go_wp2_with fail
  refine (CFI.out _ hb0).mono ?_
  rintro e w1 ⟨rfl, hb1⟩
  have hbw1 := hb0.trans (hb1.mono hb0.size)
  have kA1 := bb hb1 kA
  clear hb0 hb1 kA CFI
  by_cases hfit : Fits V ls
  rotate_left
  · rw [decide_eq_false hfit]
    have HNO := Lib.hid hfit
    clear hfit
    go_wp2
    refine bodyPost_ret (results_tmp2 Try.results18 _ _ _) rfl ?_
    exact ⟨hbw1, .inl ⟨HNO.out, rfl⟩⟩
  rw [decide_eq_true hfit]
  have HFIT := Lib.hid hfit
  have CC1 := Lib.hid (fun W (h : Below w.heap.size w W) => CC.out W hfit.1 h)
  have hpl := planR_len (goneB V.mem ls) hfit.1
  have hplan := clean_planR (gone := goneB V.mem ls) hfit.1
  have hokC := cleanV_ok (gone := goneB V.mem ls) hfit.1
  have hrs := HRES.out
  rw [← hplan] at hpl hrs
  have hmemC : (cleanV (goneB V.mem ls) V).mem = V.mem := rfl
  obtain ⟨gone, hgone⟩ : ∃ gone, gone = goneB V.mem ls := ⟨_, rfl⟩
  rw [← hgone] at CC1 hokC hpl hrs hmemC
  have HG := Lib.hid hgone
  clear hgone hplan hfit CC HRES
  generalize cleanV gone V = C at *
  have HRES := Lib.hid hrs
  clear hrs
  have HOKC := Lib.hid hokC
  have HMC := Lib.hid hmemC
  have n0 := cell_of_row _ w.heap.size 0 _ _ _ kA1
  have n1 := cell_of_row _ w.heap.size 1 _ _ _ kA1
  have n2 := cell_of_row _ w.heap.size 2 _ _ _ kA1
  have n3 := cell_of_row _ w.heap.size 3 _ _ _ kA1
  clear hokC hmemC kA1
  go_upto_region 3 with fail
  have hbd := hbw1.drew
  have HSB0 : ∀ w' : World, Below (w1).drew.heap.size (w1).drew w' → (w'.cell? ⟨w.heap.size, 0, none⟩ = some (.slice ma ml mc) ∧ w'.cell? ⟨w.heap.size, 1, none⟩ = some (.slice ha nh hc) ∧ w'.cell? ⟨w.heap.size, 2, none⟩ = some (.slice ra rl rc) ∧ w'.cell? ⟨w.heap.size, 3, none⟩ = some (.slice wa wl wc)) := fun w' hb => ⟨bc hb n0, bc hb n1, bc hb n2, bc hb n3⟩
  refine wp_region_held_drew (S := fun w' => w'.cell? ⟨w.heap.size, 0, none⟩ = some (.slice ma ml mc) ∧ w'.cell? ⟨w.heap.size, 1, none⟩ = some (.slice ha nh hc) ∧ w'.cell? ⟨w.heap.size, 2, none⟩ = some (.slice ra rl rc) ∧ w'.cell? ⟨w.heap.size, 3, none⟩ = some (.slice wa wl wc)) (by kernel_rfl) (HSB0 _ (Below.refl _ _)) (fun hHeld => ?_)
  have HSB := Lib.hid HSB0
  clear HSB0
  generalize (w1).drew = Wd at *
  clear n0 n1 n2 n3
  refine wpAnyH_take (i := 0) (v := ?_) rfl (by kernel_rfl) (by kernel_rfl) (by kernel_rfl) (fun _ _ _ h => h) (Or.inl ⟨by rfl, ?_⟩) (by assumption) ?_
  rotate_left; · (intro w hSw; (try dsimp only at hSw); go_simp; try with_reducible rfl)
  try simp only [Act.put, List.getElem_toArray, List.getElem_cons_zero, List.getElem_cons_succ, List.setIfInBounds_toArray, List.set_cons_zero, List.set_cons_succ]
  refine wpAnyH_take (i := 1) (v := ?_) rfl (by kernel_rfl) (by kernel_rfl) (by kernel_rfl) (fun _ _ _ h => h) (Or.inl ⟨by rfl, ?_⟩) (by assumption) ?_
  rotate_left; · (intro w hSw; (try dsimp only at hSw); go_simp; try with_reducible rfl)
  try simp only [Act.put, List.getElem_toArray, List.getElem_cons_zero, List.getElem_cons_succ, List.setIfInBounds_toArray, List.set_cons_zero, List.set_cons_succ]
  refine wpAnyH_take (i := 3) (v := ?_) rfl (by kernel_rfl) (by kernel_rfl) (by kernel_rfl) (fun _ _ _ h => h) (Or.inl ⟨by rfl, ?_⟩) (by assumption) ?_
  rotate_left; · (intro w hSw; (try dsimp only at hSw); go_simp; try with_reducible rfl)
  try simp only [Act.put, List.getElem_toArray, List.getElem_cons_zero, List.getElem_cons_succ, List.setIfInBounds_toArray, List.set_cons_zero, List.set_cons_succ]
  refine wpAnyH_take (i := 4) (v := ?_) rfl (by kernel_rfl) (by kernel_rfl) (by kernel_rfl) (fun _ _ _ h => h) (Or.inl ⟨by rfl, ?_⟩) (by assumption) ?_
  rotate_left; · (intro w hSw; (try dsimp only at hSw); go_simp; try with_reducible rfl)
  try simp only [Act.put, List.getElem_toArray, List.getElem_cons_zero, List.getElem_cons_succ, List.setIfInBounds_toArray, List.set_cons_zero, List.set_cons_succ]
  apply merge5 (F := fun u1 u2 g1 g2 wz => Below Wd.heap.size Wd wz ∧ VwAt wz u1 C ∧ VwAt wz u2 C ∧ g1 ≠ g2 ∧ Wd.heap.size ≤ g1 ∧ Wd.heap.size ≤ g2 ∧ wz.heap[g1]? = some (.cells #[.slice none 0 0, .slice none 0 0, .slice none 0 0, .slice none 0 0] 33 (0, 0)) ∧ wz.heap[g2]? = some (.cells #[.slice none 0 0, .slice none 0 0, .slice none 0 0, .slice none 0 0] 33 (0, 0)))
  intro key
  have hdWd : Below Wd.heap.size Wd Wd := Below.refl _ _
  have hzWd : Wd.heap.size ≤ Wd.heap.size := Nat.le_refl _
  refine wpAnyH_ready (rs := [2, 6, 7]) (by kernel_rfl) (by simp) ?_
  refine AllReadyH.cons rfl (fun K hK => ?_) (AllReadyH.cons rfl (fun K hK => ?_) (AllReadyH.cons rfl (fun K hK => ?_) AllReadyH.nil))
  · skip
    go_simp
    refine (CC1.out Wd (hbd.trans (hdWd.mono hbd.size))).mono ?_
    rintro e W2 ⟨u2, rfl, v2W2, hs⟩
    go_wp2_with fail
    have hzW2 : Wd.heap.size ≤ W2.heap.size := hs.size
    have hdW2 := hdWd.trans (hs.mono hdWd.size)
    refine hK.out _ _ (HSB.out _ hdW2) (fun hNew => ?_)
    clear hK K hNew
    (try clear hHeld)
    have hHeld := HSB.out _ hdW2
    try simp only [Act.put, List.getElem_toArray, List.getElem_cons_zero, List.getElem_cons_succ, List.setIfInBounds_toArray, List.set_cons_zero, List.set_cons_succ]
    refine wpAnyH_ready (rs := [5, 6, 7]) (by kernel_rfl) (by simp) ?_
    refine AllReadyH.cons rfl (fun K hK => ?_) (AllReadyH.cons rfl (fun K hK => ?_) (AllReadyH.cons rfl (fun K hK => ?_) AllReadyH.nil))
    · skip
      go_simp
      refine (CC1.out W2 (hbd.trans (hdW2.mono hbd.size))).mono ?_
      rintro e W25 ⟨u5, rfl, v5W25, hs⟩
      go_wp2_with fail
      have hzW25 : W2.heap.size ≤ W25.heap.size := hs.size
      have hdW25 := hdW2.trans (hs.mono hdW2.size)
      have v2W25 := v2W2.below hs
      refine hK.out _ _ (HSB.out _ hdW25) (fun hNew => ?_)
      clear hK K hNew
      (try clear hHeld)
      have hHeld := HSB.out _ hdW25
      try simp only [Act.put, List.getElem_toArray, List.getElem_cons_zero, List.getElem_cons_succ, List.setIfInBounds_toArray, List.set_cons_zero, List.set_cons_succ]
      refine wpAnyH_ready (rs := [6, 7]) (by kernel_rfl) (by simp) ?_
      refine AllReadyH.cons rfl (fun K hK => ?_) (AllReadyH.cons rfl (fun K hK => ?_) AllReadyH.nil)
      · skip
        go_simp
        have hs := sbell (w := W25) (.cells #[.slice none 0 0, .slice none 0 0, .slice none 0 0, .slice none 0 0] 33)
        have k6W256 := heap_alloc_new W25 (.cells #[.slice none 0 0, .slice none 0 0, .slice none 0 0, .slice none 0 0] 33)
        obtain ⟨g6, hg6⟩ : ∃ g, g = W25.heap.size := ⟨_, rfl⟩
        rw [← hg6] at k6W256
        (try rw [← hg6])
        have hgl6 : g6 < (W25.alloc (.cells #[.slice none 0 0, .slice none 0 0, .slice none 0 0, .slice none 0 0] 33)).heap.size := (Array.getElem?_eq_some_iff.1 k6W256).1
        have hge6 : Wd.heap.size ≤ g6 := by have := hdW25.size; omega
        clear hg6
        generalize W25.alloc (.cells #[.slice none 0 0, .slice none 0 0, .slice none 0 0, .slice none 0 0] 33) = W256 at *
        have hzW256 : W25.heap.size ≤ W256.heap.size := hs.size
        have hdW256 := hdW25.trans (hs.mono hdW25.size)
        have v2W256 := v2W25.below hs
        have v5W256 := v5W25.below hs
        refine hK.out _ _ (HSB.out _ hdW256) (fun hNew => ?_)
        clear hK K hNew
        (try clear hHeld)
        have hHeld := HSB.out _ hdW256
        try simp only [Act.put, List.getElem_toArray, List.getElem_cons_zero, List.getElem_cons_succ, List.setIfInBounds_toArray, List.set_cons_zero, List.set_cons_succ]
        refine wpAnyH_ready (rs := [7]) (by kernel_rfl) (by simp) ?_
        refine AllReadyH.cons rfl (fun K hK => ?_) AllReadyH.nil
        go_simp
        have hs := sbell (w := W256) (.cells #[.slice none 0 0, .slice none 0 0, .slice none 0 0, .slice none 0 0] 33)
        have k7W2567 := heap_alloc_new W256 (.cells #[.slice none 0 0, .slice none 0 0, .slice none 0 0, .slice none 0 0] 33)
        obtain ⟨g7, hg7⟩ : ∃ g, g = W256.heap.size := ⟨_, rfl⟩
        rw [← hg7] at k7W2567
        (try rw [← hg7])
        have hgl7 : g7 < (W256.alloc (.cells #[.slice none 0 0, .slice none 0 0, .slice none 0 0, .slice none 0 0] 33)).heap.size := (Array.getElem?_eq_some_iff.1 k7W2567).1
        have hge7 : Wd.heap.size ≤ g7 := by have := hdW256.size; omega
        have hne67 : g6 < g7 := by omega
        clear hg7
        generalize W256.alloc (.cells #[.slice none 0 0, .slice none 0 0, .slice none 0 0, .slice none 0 0] 33) = W2567 at *
        have hzW2567 : W256.heap.size ≤ W2567.heap.size := hs.size
        have hdW2567 := hdW256.trans (hs.mono hdW256.size)
        have v2W2567 := v2W256.below hs
        have v5W2567 := v5W256.below hs
        have k6W2567 := bb hs k6W256
        refine hK.out _ _ (HSB.out _ hdW2567) (fun hNew => ?_)
        clear hK K hNew
        (try clear hHeld)
        have hHeld := HSB.out _ hdW2567
        try simp only [Act.put, List.getElem_toArray, List.getElem_cons_zero, List.getElem_cons_succ, List.setIfInBounds_toArray, List.set_cons_zero, List.set_cons_succ]
        exact key u2 u5 g6 g7 W2567 ⟨hdW2567, v2W2567, v5W2567, by omega, by omega, by omega, k6W2567, k7W2567⟩
      · skip
        go_simp
        have hs := sbell (w := W25) (.cells #[.slice none 0 0, .slice none 0 0, .slice none 0 0, .slice none 0 0] 33)
        have k7W257 := heap_alloc_new W25 (.cells #[.slice none 0 0, .slice none 0 0, .slice none 0 0, .slice none 0 0] 33)
        obtain ⟨g7, hg7⟩ : ∃ g, g = W25.heap.size := ⟨_, rfl⟩
        rw [← hg7] at k7W257
        (try rw [← hg7])
        have hgl7 : g7 < (W25.alloc (.cells #[.slice none 0 0, .slice none 0 0, .slice none 0 0, .slice none 0 0] 33)).heap.size := (Array.getElem?_eq_some_iff.1 k7W257).1
        have hge7 : Wd.heap.size ≤ g7 := by have := hdW25.size; omega
        clear hg7
        generalize W25.alloc (.cells #[.slice none 0 0, .slice none 0 0, .slice none 0 0, .slice none 0 0] 33) = W257 at *
        have hzW257 : W25.heap.size ≤ W257.heap.size := hs.size
        have hdW257 := hdW25.trans (hs.mono hdW25.size)
        have v2W257 := v2W25.below hs
        have v5W257 := v5W25.below hs
        refine hK.out _ _ (HSB.out _ hdW257) (fun hNew => ?_)
        clear hK K hNew
        (try clear hHeld)
        have hHeld := HSB.out _ hdW257
        try simp only [Act.put, List.getElem_toArray, List.getElem_cons_zero, List.getElem_cons_succ, List.setIfInBounds_toArray, List.set_cons_zero, List.set_cons_succ]
        refine wpAnyH_ready (rs := [6]) (by kernel_rfl) (by simp) ?_
        refine AllReadyH.cons rfl (fun K hK => ?_) AllReadyH.nil
        go_simp
        have hs := sbell (w := W257) (.cells #[.slice none 0 0, .slice none 0 0, .slice none 0 0, .slice none 0 0] 33)
        have k6W2576 := heap_alloc_new W257 (.cells #[.slice none 0 0, .slice none 0 0, .slice none 0 0, .slice none 0 0] 33)
        obtain ⟨g6, hg6⟩ : ∃ g, g = W257.heap.size := ⟨_, rfl⟩
        rw [← hg6] at k6W2576
        (try rw [← hg6])
        have hgl6 : g6 < (W257.alloc (.cells #[.slice none 0 0, .slice none 0 0, .slice none 0 0, .slice none 0 0] 33)).heap.size := (Array.getElem?_eq_some_iff.1 k6W2576).1
        have hge6 : Wd.heap.size ≤ g6 := by have := hdW257.size; omega
        have hne76 : g7 < g6 := by omega
        clear hg6
        generalize W257.alloc (.cells #[.slice none 0 0, .slice none 0 0, .slice none 0 0, .slice none 0 0] 33) = W2576 at *
        have hzW2576 : W257.heap.size ≤ W2576.heap.size := hs.size
        have hdW2576 := hdW257.trans (hs.mono hdW257.size)
        have v2W2576 := v2W257.below hs
        have v5W2576 := v5W257.below hs
        have k7W2576 := bb hs k7W257
        refine hK.out _ _ (HSB.out _ hdW2576) (fun hNew => ?_)
        clear hK K hNew
        (try clear hHeld)
        have hHeld := HSB.out _ hdW2576
        try simp only [Act.put, List.getElem_toArray, List.getElem_cons_zero, List.getElem_cons_succ, List.setIfInBounds_toArray, List.set_cons_zero, List.set_cons_succ]
        exact key u2 u5 g6 g7 W2576 ⟨hdW2576, v2W2576, v5W2576, by omega, by omega, by omega, k6W2576, k7W2576⟩
    · skip
      go_simp
      have hs := sbell (w := W2) (.cells #[.slice none 0 0, .slice none 0 0, .slice none 0 0, .slice none 0 0] 33)
      have k6W26 := heap_alloc_new W2 (.cells #[.slice none 0 0, .slice none 0 0, .slice none 0 0, .slice none 0 0] 33)
      obtain ⟨g6, hg6⟩ : ∃ g, g = W2.heap.size := ⟨_, rfl⟩
      rw [← hg6] at k6W26
      (try rw [← hg6])
      have hgl6 : g6 < (W2.alloc (.cells #[.slice none 0 0, .slice none 0 0, .slice none 0 0, .slice none 0 0] 33)).heap.size := (Array.getElem?_eq_some_iff.1 k6W26).1
      have hge6 : Wd.heap.size ≤ g6 := by have := hdW2.size; omega
      clear hg6
      generalize W2.alloc (.cells #[.slice none 0 0, .slice none 0 0, .slice none 0 0, .slice none 0 0] 33) = W26 at *
      have hzW26 : W2.heap.size ≤ W26.heap.size := hs.size
      have hdW26 := hdW2.trans (hs.mono hdW2.size)
      have v2W26 := v2W2.below hs
      refine hK.out _ _ (HSB.out _ hdW26) (fun hNew => ?_)
      clear hK K hNew
      (try clear hHeld)
      have hHeld := HSB.out _ hdW26
      try simp only [Act.put, List.getElem_toArray, List.getElem_cons_zero, List.getElem_cons_succ, List.setIfInBounds_toArray, List.set_cons_zero, List.set_cons_succ]
      refine wpAnyH_ready (rs := [5, 7]) (by kernel_rfl) (by simp) ?_
      refine AllReadyH.cons rfl (fun K hK => ?_) (AllReadyH.cons rfl (fun K hK => ?_) AllReadyH.nil)
      · skip
        go_simp
        refine (CC1.out W26 (hbd.trans (hdW26.mono hbd.size))).mono ?_
        rintro e W265 ⟨u5, rfl, v5W265, hs⟩
        go_wp2_with fail
        have hzW265 : W26.heap.size ≤ W265.heap.size := hs.size
        have hdW265 := hdW26.trans (hs.mono hdW26.size)
        have v2W265 := v2W26.below hs
        have k6W265 := bb hs k6W26
        refine hK.out _ _ (HSB.out _ hdW265) (fun hNew => ?_)
        clear hK K hNew
        (try clear hHeld)
        have hHeld := HSB.out _ hdW265
        try simp only [Act.put, List.getElem_toArray, List.getElem_cons_zero, List.getElem_cons_succ, List.setIfInBounds_toArray, List.set_cons_zero, List.set_cons_succ]
        refine wpAnyH_ready (rs := [7]) (by kernel_rfl) (by simp) ?_
        refine AllReadyH.cons rfl (fun K hK => ?_) AllReadyH.nil
        go_simp
        have hs := sbell (w := W265) (.cells #[.slice none 0 0, .slice none 0 0, .slice none 0 0, .slice none 0 0] 33)
        have k7W2657 := heap_alloc_new W265 (.cells #[.slice none 0 0, .slice none 0 0, .slice none 0 0, .slice none 0 0] 33)
        obtain ⟨g7, hg7⟩ : ∃ g, g = W265.heap.size := ⟨_, rfl⟩
        rw [← hg7] at k7W2657
        (try rw [← hg7])
        have hgl7 : g7 < (W265.alloc (.cells #[.slice none 0 0, .slice none 0 0, .slice none 0 0, .slice none 0 0] 33)).heap.size := (Array.getElem?_eq_some_iff.1 k7W2657).1
        have hge7 : Wd.heap.size ≤ g7 := by have := hdW265.size; omega
        have hne67 : g6 < g7 := by omega
        clear hg7
        generalize W265.alloc (.cells #[.slice none 0 0, .slice none 0 0, .slice none 0 0, .slice none 0 0] 33) = W2657 at *
        have hzW2657 : W265.heap.size ≤ W2657.heap.size := hs.size
        have hdW2657 := hdW265.trans (hs.mono hdW265.size)
        have v2W2657 := v2W265.below hs
        have k6W2657 := bb hs k6W265
        have v5W2657 := v5W265.below hs
        refine hK.out _ _ (HSB.out _ hdW2657) (fun hNew => ?_)
        clear hK K hNew
        (try clear hHeld)
        have hHeld := HSB.out _ hdW2657
        try simp only [Act.put, List.getElem_toArray, List.getElem_cons_zero, List.getElem_cons_succ, List.setIfInBounds_toArray, List.set_cons_zero, List.set_cons_succ]
        exact key u2 u5 g6 g7 W2657 ⟨hdW2657, v2W2657, v5W2657, by omega, by omega, by omega, k6W2657, k7W2657⟩
      · skip
        go_simp
        have hs := sbell (w := W26) (.cells #[.slice none 0 0, .slice none 0 0, .slice none 0 0, .slice none 0 0] 33)
        have k7W267 := heap_alloc_new W26 (.cells #[.slice none 0 0, .slice none 0 0, .slice none 0 0, .slice none 0 0] 33)
        obtain ⟨g7, hg7⟩ : ∃ g, g = W26.heap.size := ⟨_, rfl⟩
        rw [← hg7] at k7W267
        (try rw [← hg7])
        have hgl7 : g7 < (W26.alloc (.cells #[.slice none 0 0, .slice none 0 0, .slice none 0 0, .slice none 0 0] 33)).heap.size := (Array.getElem?_eq_some_iff.1 k7W267).1
        have hge7 : Wd.heap.size ≤ g7 := by have := hdW26.size; omega
        have hne67 : g6 < g7 := by omega
        clear hg7
        generalize W26.alloc (.cells #[.slice none 0 0, .slice none 0 0, .slice none 0 0, .slice none 0 0] 33) = W267 at *
        have hzW267 : W26.heap.size ≤ W267.heap.size := hs.size
        have hdW267 := hdW26.trans (hs.mono hdW26.size)
        have v2W267 := v2W26.below hs
        have k6W267 := bb hs k6W26
        refine hK.out _ _ (HSB.out _ hdW267) (fun hNew => ?_)
        clear hK K hNew
        (try clear hHeld)
        have hHeld := HSB.out _ hdW267
        try simp only [Act.put, List.getElem_toArray, List.getElem_cons_zero, List.getElem_cons_succ, List.setIfInBounds_toArray, List.set_cons_zero, List.set_cons_succ]
        refine wpAnyH_ready (rs := [5]) (by kernel_rfl) (by simp) ?_
        refine AllReadyH.cons rfl (fun K hK => ?_) AllReadyH.nil
        go_simp
        refine (CC1.out W267 (hbd.trans (hdW267.mono hbd.size))).mono ?_
        rintro e W2675 ⟨u5, rfl, v5W2675, hs⟩
        go_wp2_with fail
        have hzW2675 : W267.heap.size ≤ W2675.heap.size := hs.size
        have hdW2675 := hdW267.trans (hs.mono hdW267.size)
        have v2W2675 := v2W267.below hs
        have k6W2675 := bb hs k6W267
        have k7W2675 := bb hs k7W267
        refine hK.out _ _ (HSB.out _ hdW2675) (fun hNew => ?_)
        clear hK K hNew
        (try clear hHeld)
        have hHeld := HSB.out _ hdW2675
        try simp only [Act.put, List.getElem_toArray, List.getElem_cons_zero, List.getElem_cons_succ, List.setIfInBounds_toArray, List.set_cons_zero, List.set_cons_succ]
        exact key u2 u5 g6 g7 W2675 ⟨hdW2675, v2W2675, v5W2675, by omega, by omega, by omega, k6W2675, k7W2675⟩
    · skip
      go_simp
      have hs := sbell (w := W2) (.cells #[.slice none 0 0, .slice none 0 0, .slice none 0 0, .slice none 0 0] 33)
      have k7W27 := heap_alloc_new W2 (.cells #[.slice none 0 0, .slice none 0 0, .slice none 0 0, .slice none 0 0] 33)
      obtain ⟨g7, hg7⟩ : ∃ g, g = W2.heap.size := ⟨_, rfl⟩
      rw [← hg7] at k7W27
      (try rw [← hg7])
      have hgl7 : g7 < (W2.alloc (.cells #[.slice none 0 0, .slice none 0 0, .slice none 0 0, .slice none 0 0] 33)).heap.size := (Array.getElem?_eq_some_iff.1 k7W27).1
      have hge7 : Wd.heap.size ≤ g7 := by have := hdW2.size; omega
      clear hg7
      generalize W2.alloc (.cells #[.slice none 0 0, .slice none 0 0, .slice none 0 0, .slice none 0 0] 33) = W27 at *
      have hzW27 : W2.heap.size ≤ W27.heap.size := hs.size
      have hdW27 := hdW2.trans (hs.mono hdW2.size)
      have v2W27 := v2W2.below hs
      refine hK.out _ _ (HSB.out _ hdW27) (fun hNew => ?_)
      clear hK K hNew
      (try clear hHeld)
      have hHeld := HSB.out _ hdW27
      try simp only [Act.put, List.getElem_toArray, List.getElem_cons_zero, List.getElem_cons_succ, List.setIfInBounds_toArray, List.set_cons_zero, List.set_cons_succ]
      refine wpAnyH_ready (rs := [5, 6]) (by kernel_rfl) (by simp) ?_
      refine AllReadyH.cons rfl (fun K hK => ?_) (AllReadyH.cons rfl (fun K hK => ?_) AllReadyH.nil)
      · skip
        go_simp
        refine (CC1.out W27 (hbd.trans (hdW27.mono hbd.size))).mono ?_
        rintro e W275 ⟨u5, rfl, v5W275, hs⟩
        go_wp2_with fail
        have hzW275 : W27.heap.size ≤ W275.heap.size := hs.size
        have hdW275 := hdW27.trans (hs.mono hdW27.size)
        have v2W275 := v2W27.below hs
        have k7W275 := bb hs k7W27
        refine hK.out _ _ (HSB.out _ hdW275) (fun hNew => ?_)
        clear hK K hNew
        (try clear hHeld)
        have hHeld := HSB.out _ hdW275
        try simp only [Act.put, List.getElem_toArray, List.getElem_cons_zero, List.getElem_cons_succ, List.setIfInBounds_toArray, List.set_cons_zero, List.set_cons_succ]
        refine wpAnyH_ready (rs := [6]) (by kernel_rfl) (by simp) ?_
        refine AllReadyH.cons rfl (fun K hK => ?_) AllReadyH.nil
        go_simp
        have hs := sbell (w := W275) (.cells #[.slice none 0 0, .slice none 0 0, .slice none 0 0, .slice none 0 0] 33)
        have k6W2756 := heap_alloc_new W275 (.cells #[.slice none 0 0, .slice none 0 0, .slice none 0 0, .slice none 0 0] 33)
        obtain ⟨g6, hg6⟩ : ∃ g, g = W275.heap.size := ⟨_, rfl⟩
        rw [← hg6] at k6W2756
        (try rw [← hg6])
        have hgl6 : g6 < (W275.alloc (.cells #[.slice none 0 0, .slice none 0 0, .slice none 0 0, .slice none 0 0] 33)).heap.size := (Array.getElem?_eq_some_iff.1 k6W2756).1
        have hge6 : Wd.heap.size ≤ g6 := by have := hdW275.size; omega
        have hne76 : g7 < g6 := by omega
        clear hg6
        generalize W275.alloc (.cells #[.slice none 0 0, .slice none 0 0, .slice none 0 0, .slice none 0 0] 33) = W2756 at *
        have hzW2756 : W275.heap.size ≤ W2756.heap.size := hs.size
        have hdW2756 := hdW275.trans (hs.mono hdW275.size)
        have v2W2756 := v2W275.below hs
        have k7W2756 := bb hs k7W275
        have v5W2756 := v5W275.below hs
        refine hK.out _ _ (HSB.out _ hdW2756) (fun hNew => ?_)
        clear hK K hNew
        (try clear hHeld)
        have hHeld := HSB.out _ hdW2756
        try simp only [Act.put, List.getElem_toArray, List.getElem_cons_zero, List.getElem_cons_succ, List.setIfInBounds_toArray, List.set_cons_zero, List.set_cons_succ]
        exact key u2 u5 g6 g7 W2756 ⟨hdW2756, v2W2756, v5W2756, by omega, by omega, by omega, k6W2756, k7W2756⟩
      · skip
        go_simp
        have hs := sbell (w := W27) (.cells #[.slice none 0 0, .slice none 0 0, .slice none 0 0, .slice none 0 0] 33)
        have k6W276 := heap_alloc_new W27 (.cells #[.slice none 0 0, .slice none 0 0, .slice none 0 0, .slice none 0 0] 33)
        obtain ⟨g6, hg6⟩ : ∃ g, g = W27.heap.size := ⟨_, rfl⟩
        rw [← hg6] at k6W276
        (try rw [← hg6])
        have hgl6 : g6 < (W27.alloc (.cells #[.slice none 0 0, .slice none 0 0, .slice none 0 0, .slice none 0 0] 33)).heap.size := (Array.getElem?_eq_some_iff.1 k6W276).1
        have hge6 : Wd.heap.size ≤ g6 := by have := hdW27.size; omega
        have hne76 : g7 < g6 := by omega
        clear hg6
        generalize W27.alloc (.cells #[.slice none 0 0, .slice none 0 0, .slice none 0 0, .slice none 0 0] 33) = W276 at *
        have hzW276 : W27.heap.size ≤ W276.heap.size := hs.size
        have hdW276 := hdW27.trans (hs.mono hdW27.size)
        have v2W276 := v2W27.below hs
        have k7W276 := bb hs k7W27
        refine hK.out _ _ (HSB.out _ hdW276) (fun hNew => ?_)
        clear hK K hNew
        (try clear hHeld)
        have hHeld := HSB.out _ hdW276
        try simp only [Act.put, List.getElem_toArray, List.getElem_cons_zero, List.getElem_cons_succ, List.setIfInBounds_toArray, List.set_cons_zero, List.set_cons_succ]
        refine wpAnyH_ready (rs := [5]) (by kernel_rfl) (by simp) ?_
        refine AllReadyH.cons rfl (fun K hK => ?_) AllReadyH.nil
        go_simp
        refine (CC1.out W276 (hbd.trans (hdW276.mono hbd.size))).mono ?_
        rintro e W2765 ⟨u5, rfl, v5W2765, hs⟩
        go_wp2_with fail
        have hzW2765 : W276.heap.size ≤ W2765.heap.size := hs.size
        have hdW2765 := hdW276.trans (hs.mono hdW276.size)
        have v2W2765 := v2W276.below hs
        have k7W2765 := bb hs k7W276
        have k6W2765 := bb hs k6W276
        refine hK.out _ _ (HSB.out _ hdW2765) (fun hNew => ?_)
        clear hK K hNew
        (try clear hHeld)
        have hHeld := HSB.out _ hdW2765
        try simp only [Act.put, List.getElem_toArray, List.getElem_cons_zero, List.getElem_cons_succ, List.setIfInBounds_toArray, List.set_cons_zero, List.set_cons_succ]
        exact key u2 u5 g6 g7 W2765 ⟨hdW2765, v2W2765, v5W2765, by omega, by omega, by omega, k6W2765, k7W2765⟩
  · skip
    go_simp
    have hs := sbell (w := Wd) (.cells #[.slice none 0 0, .slice none 0 0, .slice none 0 0, .slice none 0 0] 33)
    have k6W6 := heap_alloc_new Wd (.cells #[.slice none 0 0, .slice none 0 0, .slice none 0 0, .slice none 0 0] 33)
    obtain ⟨g6, hg6⟩ : ∃ g, g = Wd.heap.size := ⟨_, rfl⟩
    rw [← hg6] at k6W6
    (try rw [← hg6])
    have hgl6 : g6 < (Wd.alloc (.cells #[.slice none 0 0, .slice none 0 0, .slice none 0 0, .slice none 0 0] 33)).heap.size := (Array.getElem?_eq_some_iff.1 k6W6).1
    have hge6 : Wd.heap.size ≤ g6 := by have := hdWd.size; omega
    clear hg6
    generalize Wd.alloc (.cells #[.slice none 0 0, .slice none 0 0, .slice none 0 0, .slice none 0 0] 33) = W6 at *
    have hzW6 : Wd.heap.size ≤ W6.heap.size := hs.size
    have hdW6 := hdWd.trans (hs.mono hdWd.size)
    refine hK.out _ _ (HSB.out _ hdW6) (fun hNew => ?_)
    clear hK K hNew
    (try clear hHeld)
    have hHeld := HSB.out _ hdW6
    try simp only [Act.put, List.getElem_toArray, List.getElem_cons_zero, List.getElem_cons_succ, List.setIfInBounds_toArray, List.set_cons_zero, List.set_cons_succ]
    refine wpAnyH_ready (rs := [2, 7]) (by kernel_rfl) (by simp) ?_
    refine AllReadyH.cons rfl (fun K hK => ?_) (AllReadyH.cons rfl (fun K hK => ?_) AllReadyH.nil)
    · skip
      go_simp
      refine (CC1.out W6 (hbd.trans (hdW6.mono hbd.size))).mono ?_
      rintro e W62 ⟨u2, rfl, v2W62, hs⟩
      go_wp2_with fail
      have hzW62 : W6.heap.size ≤ W62.heap.size := hs.size
      have hdW62 := hdW6.trans (hs.mono hdW6.size)
      have k6W62 := bb hs k6W6
      refine hK.out _ _ (HSB.out _ hdW62) (fun hNew => ?_)
      clear hK K hNew
      (try clear hHeld)
      have hHeld := HSB.out _ hdW62
      try simp only [Act.put, List.getElem_toArray, List.getElem_cons_zero, List.getElem_cons_succ, List.setIfInBounds_toArray, List.set_cons_zero, List.set_cons_succ]
      refine wpAnyH_ready (rs := [5, 7]) (by kernel_rfl) (by simp) ?_
      refine AllReadyH.cons rfl (fun K hK => ?_) (AllReadyH.cons rfl (fun K hK => ?_) AllReadyH.nil)
      · skip
        go_simp
        refine (CC1.out W62 (hbd.trans (hdW62.mono hbd.size))).mono ?_
        rintro e W625 ⟨u5, rfl, v5W625, hs⟩
        go_wp2_with fail
        have hzW625 : W62.heap.size ≤ W625.heap.size := hs.size
        have hdW625 := hdW62.trans (hs.mono hdW62.size)
        have k6W625 := bb hs k6W62
        have v2W625 := v2W62.below hs
        refine hK.out _ _ (HSB.out _ hdW625) (fun hNew => ?_)
        clear hK K hNew
        (try clear hHeld)
        have hHeld := HSB.out _ hdW625
        try simp only [Act.put, List.getElem_toArray, List.getElem_cons_zero, List.getElem_cons_succ, List.setIfInBounds_toArray, List.set_cons_zero, List.set_cons_succ]
        refine wpAnyH_ready (rs := [7]) (by kernel_rfl) (by simp) ?_
        refine AllReadyH.cons rfl (fun K hK => ?_) AllReadyH.nil
        go_simp
        have hs := sbell (w := W625) (.cells #[.slice none 0 0, .slice none 0 0, .slice none 0 0, .slice none 0 0] 33)
        have k7W6257 := heap_alloc_new W625 (.cells #[.slice none 0 0, .slice none 0 0, .slice none 0 0, .slice none 0 0] 33)
        obtain ⟨g7, hg7⟩ : ∃ g, g = W625.heap.size := ⟨_, rfl⟩
        rw [← hg7] at k7W6257
        (try rw [← hg7])
        have hgl7 : g7 < (W625.alloc (.cells #[.slice none 0 0, .slice none 0 0, .slice none 0 0, .slice none 0 0] 33)).heap.size := (Array.getElem?_eq_some_iff.1 k7W6257).1
        have hge7 : Wd.heap.size ≤ g7 := by have := hdW625.size; omega
        have hne67 : g6 < g7 := by omega
        clear hg7
        generalize W625.alloc (.cells #[.slice none 0 0, .slice none 0 0, .slice none 0 0, .slice none 0 0] 33) = W6257 at *
        have hzW6257 : W625.heap.size ≤ W6257.heap.size := hs.size
        have hdW6257 := hdW625.trans (hs.mono hdW625.size)
        have k6W6257 := bb hs k6W625
        have v2W6257 := v2W625.below hs
        have v5W6257 := v5W625.below hs
        refine hK.out _ _ (HSB.out _ hdW6257) (fun hNew => ?_)
        clear hK K hNew
        (try clear hHeld)
        have hHeld := HSB.out _ hdW6257
        try simp only [Act.put, List.getElem_toArray, List.getElem_cons_zero, List.getElem_cons_succ, List.setIfInBounds_toArray, List.set_cons_zero, List.set_cons_succ]
        exact key u2 u5 g6 g7 W6257 ⟨hdW6257, v2W6257, v5W6257, by omega, by omega, by omega, k6W6257, k7W6257⟩
      · skip
        go_simp
        have hs := sbell (w := W62) (.cells #[.slice none 0 0, .slice none 0 0, .slice none 0 0, .slice none 0 0] 33)
        have k7W627 := heap_alloc_new W62 (.cells #[.slice none 0 0, .slice none 0 0, .slice none 0 0, .slice none 0 0] 33)
        obtain ⟨g7, hg7⟩ : ∃ g, g = W62.heap.size := ⟨_, rfl⟩
        rw [← hg7] at k7W627
        (try rw [← hg7])
        have hgl7 : g7 < (W62.alloc (.cells #[.slice none 0 0, .slice none 0 0, .slice none 0 0, .slice none 0 0] 33)).heap.size := (Array.getElem?_eq_some_iff.1 k7W627).1
        have hge7 : Wd.heap.size ≤ g7 := by have := hdW62.size; omega
        have hne67 : g6 < g7 := by omega
        clear hg7
        generalize W62.alloc (.cells #[.slice none 0 0, .slice none 0 0, .slice none 0 0, .slice none 0 0] 33) = W627 at *
        have hzW627 : W62.heap.size ≤ W627.heap.size := hs.size
        have hdW627 := hdW62.trans (hs.mono hdW62.size)
        have k6W627 := bb hs k6W62
        have v2W627 := v2W62.below hs
        refine hK.out _ _ (HSB.out _ hdW627) (fun hNew => ?_)
        clear hK K hNew
        (try clear hHeld)
        have hHeld := HSB.out _ hdW627
        try simp only [Act.put, List.getElem_toArray, List.getElem_cons_zero, List.getElem_cons_succ, List.setIfInBounds_toArray, List.set_cons_zero, List.set_cons_succ]
        refine wpAnyH_ready (rs := [5]) (by kernel_rfl) (by simp) ?_
        refine AllReadyH.cons rfl (fun K hK => ?_) AllReadyH.nil
        go_simp
        refine (CC1.out W627 (hbd.trans (hdW627.mono hbd.size))).mono ?_
        rintro e W6275 ⟨u5, rfl, v5W6275, hs⟩
        go_wp2_with fail
        have hzW6275 : W627.heap.size ≤ W6275.heap.size := hs.size
        have hdW6275 := hdW627.trans (hs.mono hdW627.size)
        have k6W6275 := bb hs k6W627
        have v2W6275 := v2W627.below hs
        have k7W6275 := bb hs k7W627
        refine hK.out _ _ (HSB.out _ hdW6275) (fun hNew => ?_)
        clear hK K hNew
        (try clear hHeld)
        have hHeld := HSB.out _ hdW6275
        try simp only [Act.put, List.getElem_toArray, List.getElem_cons_zero, List.getElem_cons_succ, List.setIfInBounds_toArray, List.set_cons_zero, List.set_cons_succ]
        exact key u2 u5 g6 g7 W6275 ⟨hdW6275, v2W6275, v5W6275, by omega, by omega, by omega, k6W6275, k7W6275⟩
    · skip
      go_simp
      have hs := sbell (w := W6) (.cells #[.slice none 0 0, .slice none 0 0, .slice none 0 0, .slice none 0 0] 33)
      have k7W67 := heap_alloc_new W6 (.cells #[.slice none 0 0, .slice none 0 0, .slice none 0 0, .slice none 0 0] 33)
      obtain ⟨g7, hg7⟩ : ∃ g, g = W6.heap.size := ⟨_, rfl⟩
      rw [← hg7] at k7W67
      (try rw [← hg7])
      have hgl7 : g7 < (W6.alloc (.cells #[.slice none 0 0, .slice none 0 0, .slice none 0 0, .slice none 0 0] 33)).heap.size := (Array.getElem?_eq_some_iff.1 k7W67).1
      have hge7 : Wd.heap.size ≤ g7 := by have := hdW6.size; omega
      have hne67 : g6 < g7 := by omega
      clear hg7
      generalize W6.alloc (.cells #[.slice none 0 0, .slice none 0 0, .slice none 0 0, .slice none 0 0] 33) = W67 at *
      have hzW67 : W6.heap.size ≤ W67.heap.size := hs.size
      have hdW67 := hdW6.trans (hs.mono hdW6.size)
      have k6W67 := bb hs k6W6
      refine hK.out _ _ (HSB.out _ hdW67) (fun hNew => ?_)
      clear hK K hNew
      (try clear hHeld)
      have hHeld := HSB.out _ hdW67
      try simp only [Act.put, List.getElem_toArray, List.getElem_cons_zero, List.getElem_cons_succ, List.setIfInBounds_toArray, List.set_cons_zero, List.set_cons_succ]
      refine wpAnyH_ready (rs := [2]) (by kernel_rfl) (by simp) ?_
      refine AllReadyH.cons rfl (fun K hK => ?_) AllReadyH.nil
      go_simp
      refine (CC1.out W67 (hbd.trans (hdW67.mono hbd.size))).mono ?_
      rintro e W672 ⟨u2, rfl, v2W672, hs⟩
      go_wp2_with fail
      have hzW672 : W67.heap.size ≤ W672.heap.size := hs.size
      have hdW672 := hdW67.trans (hs.mono hdW67.size)
      have k6W672 := bb hs k6W67
      have k7W672 := bb hs k7W67
      refine hK.out _ _ (HSB.out _ hdW672) (fun hNew => ?_)
      clear hK K hNew
      (try clear hHeld)
      have hHeld := HSB.out _ hdW672
      try simp only [Act.put, List.getElem_toArray, List.getElem_cons_zero, List.getElem_cons_succ, List.setIfInBounds_toArray, List.set_cons_zero, List.set_cons_succ]
      refine wpAnyH_ready (rs := [5]) (by kernel_rfl) (by simp) ?_
      refine AllReadyH.cons rfl (fun K hK => ?_) AllReadyH.nil
      go_simp
      refine (CC1.out W672 (hbd.trans (hdW672.mono hbd.size))).mono ?_
      rintro e W6725 ⟨u5, rfl, v5W6725, hs⟩
      go_wp2_with fail
      have hzW6725 : W672.heap.size ≤ W6725.heap.size := hs.size
      have hdW6725 := hdW672.trans (hs.mono hdW672.size)
      have k6W6725 := bb hs k6W672
      have k7W6725 := bb hs k7W672
      have v2W6725 := v2W672.below hs
      refine hK.out _ _ (HSB.out _ hdW6725) (fun hNew => ?_)
      clear hK K hNew
      (try clear hHeld)
      have hHeld := HSB.out _ hdW6725
      try simp only [Act.put, List.getElem_toArray, List.getElem_cons_zero, List.getElem_cons_succ, List.setIfInBounds_toArray, List.set_cons_zero, List.set_cons_succ]
      exact key u2 u5 g6 g7 W6725 ⟨hdW6725, v2W6725, v5W6725, by omega, by omega, by omega, k6W6725, k7W6725⟩
  · skip
    go_simp
    have hs := sbell (w := Wd) (.cells #[.slice none 0 0, .slice none 0 0, .slice none 0 0, .slice none 0 0] 33)
    have k7W7 := heap_alloc_new Wd (.cells #[.slice none 0 0, .slice none 0 0, .slice none 0 0, .slice none 0 0] 33)
    obtain ⟨g7, hg7⟩ : ∃ g, g = Wd.heap.size := ⟨_, rfl⟩
    rw [← hg7] at k7W7
    (try rw [← hg7])
    have hgl7 : g7 < (Wd.alloc (.cells #[.slice none 0 0, .slice none 0 0, .slice none 0 0, .slice none 0 0] 33)).heap.size := (Array.getElem?_eq_some_iff.1 k7W7).1
    have hge7 : Wd.heap.size ≤ g7 := by have := hdWd.size; omega
    clear hg7
    generalize Wd.alloc (.cells #[.slice none 0 0, .slice none 0 0, .slice none 0 0, .slice none 0 0] 33) = W7 at *
    have hzW7 : Wd.heap.size ≤ W7.heap.size := hs.size
    have hdW7 := hdWd.trans (hs.mono hdWd.size)
    refine hK.out _ _ (HSB.out _ hdW7) (fun hNew => ?_)
    clear hK K hNew
    (try clear hHeld)
    have hHeld := HSB.out _ hdW7
    try simp only [Act.put, List.getElem_toArray, List.getElem_cons_zero, List.getElem_cons_succ, List.setIfInBounds_toArray, List.set_cons_zero, List.set_cons_succ]
    refine wpAnyH_ready (rs := [2, 6]) (by kernel_rfl) (by simp) ?_
    refine AllReadyH.cons rfl (fun K hK => ?_) (AllReadyH.cons rfl (fun K hK => ?_) AllReadyH.nil)
    · skip
      go_simp
      refine (CC1.out W7 (hbd.trans (hdW7.mono hbd.size))).mono ?_
      rintro e W72 ⟨u2, rfl, v2W72, hs⟩
      go_wp2_with fail
      have hzW72 : W7.heap.size ≤ W72.heap.size := hs.size
      have hdW72 := hdW7.trans (hs.mono hdW7.size)
      have k7W72 := bb hs k7W7
      refine hK.out _ _ (HSB.out _ hdW72) (fun hNew => ?_)
      clear hK K hNew
      (try clear hHeld)
      have hHeld := HSB.out _ hdW72
      try simp only [Act.put, List.getElem_toArray, List.getElem_cons_zero, List.getElem_cons_succ, List.setIfInBounds_toArray, List.set_cons_zero, List.set_cons_succ]
      refine wpAnyH_ready (rs := [5, 6]) (by kernel_rfl) (by simp) ?_
      refine AllReadyH.cons rfl (fun K hK => ?_) (AllReadyH.cons rfl (fun K hK => ?_) AllReadyH.nil)
      · skip
        go_simp
        refine (CC1.out W72 (hbd.trans (hdW72.mono hbd.size))).mono ?_
        rintro e W725 ⟨u5, rfl, v5W725, hs⟩
        go_wp2_with fail
        have hzW725 : W72.heap.size ≤ W725.heap.size := hs.size
        have hdW725 := hdW72.trans (hs.mono hdW72.size)
        have k7W725 := bb hs k7W72
        have v2W725 := v2W72.below hs
        refine hK.out _ _ (HSB.out _ hdW725) (fun hNew => ?_)
        clear hK K hNew
        (try clear hHeld)
        have hHeld := HSB.out _ hdW725
        try simp only [Act.put, List.getElem_toArray, List.getElem_cons_zero, List.getElem_cons_succ, List.setIfInBounds_toArray, List.set_cons_zero, List.set_cons_succ]
        refine wpAnyH_ready (rs := [6]) (by kernel_rfl) (by simp) ?_
        refine AllReadyH.cons rfl (fun K hK => ?_) AllReadyH.nil
        go_simp
        have hs := sbell (w := W725) (.cells #[.slice none 0 0, .slice none 0 0, .slice none 0 0, .slice none 0 0] 33)
        have k6W7256 := heap_alloc_new W725 (.cells #[.slice none 0 0, .slice none 0 0, .slice none 0 0, .slice none 0 0] 33)
        obtain ⟨g6, hg6⟩ : ∃ g, g = W725.heap.size := ⟨_, rfl⟩
        rw [← hg6] at k6W7256
        (try rw [← hg6])
        have hgl6 : g6 < (W725.alloc (.cells #[.slice none 0 0, .slice none 0 0, .slice none 0 0, .slice none 0 0] 33)).heap.size := (Array.getElem?_eq_some_iff.1 k6W7256).1
        have hge6 : Wd.heap.size ≤ g6 := by have := hdW725.size; omega
        have hne76 : g7 < g6 := by omega
        clear hg6
        generalize W725.alloc (.cells #[.slice none 0 0, .slice none 0 0, .slice none 0 0, .slice none 0 0] 33) = W7256 at *
        have hzW7256 : W725.heap.size ≤ W7256.heap.size := hs.size
        have hdW7256 := hdW725.trans (hs.mono hdW725.size)
        have k7W7256 := bb hs k7W725
        have v2W7256 := v2W725.below hs
        have v5W7256 := v5W725.below hs
        refine hK.out _ _ (HSB.out _ hdW7256) (fun hNew => ?_)
        clear hK K hNew
        (try clear hHeld)
        have hHeld := HSB.out _ hdW7256
        try simp only [Act.put, List.getElem_toArray, List.getElem_cons_zero, List.getElem_cons_succ, List.setIfInBounds_toArray, List.set_cons_zero, List.set_cons_succ]
        exact key u2 u5 g6 g7 W7256 ⟨hdW7256, v2W7256, v5W7256, by omega, by omega, by omega, k6W7256, k7W7256⟩
      · skip
        go_simp
        have hs := sbell (w := W72) (.cells #[.slice none 0 0, .slice none 0 0, .slice none 0 0, .slice none 0 0] 33)
        have k6W726 := heap_alloc_new W72 (.cells #[.slice none 0 0, .slice none 0 0, .slice none 0 0, .slice none 0 0] 33)
        obtain ⟨g6, hg6⟩ : ∃ g, g = W72.heap.size := ⟨_, rfl⟩
        rw [← hg6] at k6W726
        (try rw [← hg6])
        have hgl6 : g6 < (W72.alloc (.cells #[.slice none 0 0, .slice none 0 0, .slice none 0 0, .slice none 0 0] 33)).heap.size := (Array.getElem?_eq_some_iff.1 k6W726).1
        have hge6 : Wd.heap.size ≤ g6 := by have := hdW72.size; omega
        have hne76 : g7 < g6 := by omega
        clear hg6
        generalize W72.alloc (.cells #[.slice none 0 0, .slice none 0 0, .slice none 0 0, .slice none 0 0] 33) = W726 at *
        have hzW726 : W72.heap.size ≤ W726.heap.size := hs.size
        have hdW726 := hdW72.trans (hs.mono hdW72.size)
        have k7W726 := bb hs k7W72
        have v2W726 := v2W72.below hs
        refine hK.out _ _ (HSB.out _ hdW726) (fun hNew => ?_)
        clear hK K hNew
        (try clear hHeld)
        have hHeld := HSB.out _ hdW726
        try simp only [Act.put, List.getElem_toArray, List.getElem_cons_zero, List.getElem_cons_succ, List.setIfInBounds_toArray, List.set_cons_zero, List.set_cons_succ]
        refine wpAnyH_ready (rs := [5]) (by kernel_rfl) (by simp) ?_
        refine AllReadyH.cons rfl (fun K hK => ?_) AllReadyH.nil
        go_simp
        refine (CC1.out W726 (hbd.trans (hdW726.mono hbd.size))).mono ?_
        rintro e W7265 ⟨u5, rfl, v5W7265, hs⟩
        go_wp2_with fail
        have hzW7265 : W726.heap.size ≤ W7265.heap.size := hs.size
        have hdW7265 := hdW726.trans (hs.mono hdW726.size)
        have k7W7265 := bb hs k7W726
        have v2W7265 := v2W726.below hs
        have k6W7265 := bb hs k6W726
        refine hK.out _ _ (HSB.out _ hdW7265) (fun hNew => ?_)
        clear hK K hNew
        (try clear hHeld)
        have hHeld := HSB.out _ hdW7265
        try simp only [Act.put, List.getElem_toArray, List.getElem_cons_zero, List.getElem_cons_succ, List.setIfInBounds_toArray, List.set_cons_zero, List.set_cons_succ]
        exact key u2 u5 g6 g7 W7265 ⟨hdW7265, v2W7265, v5W7265, by omega, by omega, by omega, k6W7265, k7W7265⟩
    · skip
      go_simp
      have hs := sbell (w := W7) (.cells #[.slice none 0 0, .slice none 0 0, .slice none 0 0, .slice none 0 0] 33)
      have k6W76 := heap_alloc_new W7 (.cells #[.slice none 0 0, .slice none 0 0, .slice none 0 0, .slice none 0 0] 33)
      obtain ⟨g6, hg6⟩ : ∃ g, g = W7.heap.size := ⟨_, rfl⟩
      rw [← hg6] at k6W76
      (try rw [← hg6])
      have hgl6 : g6 < (W7.alloc (.cells #[.slice none 0 0, .slice none 0 0, .slice none 0 0, .slice none 0 0] 33)).heap.size := (Array.getElem?_eq_some_iff.1 k6W76).1
      have hge6 : Wd.heap.size ≤ g6 := by have := hdW7.size; omega
      have hne76 : g7 < g6 := by omega
      clear hg6
      generalize W7.alloc (.cells #[.slice none 0 0, .slice none 0 0, .slice none 0 0, .slice none 0 0] 33) = W76 at *
      have hzW76 : W7.heap.size ≤ W76.heap.size := hs.size
      have hdW76 := hdW7.trans (hs.mono hdW7.size)
      have k7W76 := bb hs k7W7
      refine hK.out _ _ (HSB.out _ hdW76) (fun hNew => ?_)
      clear hK K hNew
      (try clear hHeld)
      have hHeld := HSB.out _ hdW76
      try simp only [Act.put, List.getElem_toArray, List.getElem_cons_zero, List.getElem_cons_succ, List.setIfInBounds_toArray, List.set_cons_zero, List.set_cons_succ]
      refine wpAnyH_ready (rs := [2]) (by kernel_rfl) (by simp) ?_
      refine AllReadyH.cons rfl (fun K hK => ?_) AllReadyH.nil
      go_simp
      refine (CC1.out W76 (hbd.trans (hdW76.mono hbd.size))).mono ?_
      rintro e W762 ⟨u2, rfl, v2W762, hs⟩
      go_wp2_with fail
      have hzW762 : W76.heap.size ≤ W762.heap.size := hs.size
      have hdW762 := hdW76.trans (hs.mono hdW76.size)
      have k7W762 := bb hs k7W76
      have k6W762 := bb hs k6W76
      refine hK.out _ _ (HSB.out _ hdW762) (fun hNew => ?_)
      clear hK K hNew
      (try clear hHeld)
      have hHeld := HSB.out _ hdW762
      try simp only [Act.put, List.getElem_toArray, List.getElem_cons_zero, List.getElem_cons_succ, List.setIfInBounds_toArray, List.set_cons_zero, List.set_cons_succ]
      refine wpAnyH_ready (rs := [5]) (by kernel_rfl) (by simp) ?_
      refine AllReadyH.cons rfl (fun K hK => ?_) AllReadyH.nil
      go_simp
      refine (CC1.out W762 (hbd.trans (hdW762.mono hbd.size))).mono ?_
      rintro e W7625 ⟨u5, rfl, v5W7625, hs⟩
      go_wp2_with fail
      have hzW7625 : W762.heap.size ≤ W7625.heap.size := hs.size
      have hdW7625 := hdW762.trans (hs.mono hdW762.size)
      have k7W7625 := bb hs k7W762
      have k6W7625 := bb hs k6W762
      have v2W7625 := v2W762.below hs
      refine hK.out _ _ (HSB.out _ hdW7625) (fun hNew => ?_)
      clear hK K hNew
      (try clear hHeld)
      have hHeld := HSB.out _ hdW7625
      try simp only [Act.put, List.getElem_toArray, List.getElem_cons_zero, List.getElem_cons_succ, List.setIfInBounds_toArray, List.set_cons_zero, List.set_cons_succ]
      exact key u2 u5 g6 g7 W7625 ⟨hdW7625, v2W7625, v5W7625, by omega, by omega, by omega, k6W7625, k7W7625⟩
  intro u1 u2 P Q wz ⟨hbz, hu1, hu2, hPQ, hP, hQ, hkP, hkQ⟩
  obtain ⟨pa, pc, pb, pd, pe, pf, pg, ph, pi_, pj, rfl⟩ := hu1.val
  obtain ⟨ra_, rb_, rc_, rd_, re_, rf_, rg_, rh_, ri_, rj_, rfl⟩ := hu2.val
  obtain ⟨cml, hcml⟩ : ∃ x, x = C.mem.length := ⟨_, rfl⟩
  obtain ⟨cnh, hcnh⟩ : ∃ x, x = C.held.length := ⟨_, rfl⟩
  rw [← hcml, ← hcnh] at hu1 hu2 ⊢
  have HCNH := Lib.hid hcnh
  clear hcml hcnh
  have c0 := cell_of_row wz P 0 _ _ _ hkP
  have c1 := cell_of_row wz P 1 _ _ _ hkP
  have c2 := cell_of_row wz P 2 _ _ _ hkP
  have c3 := cell_of_row wz P 3 _ _ _ hkP
  have f0 := frozen_of_row wz P 0 _ _ hkP
  have f1 := frozen_of_row wz P 1 _ _ hkP
  have f2 := frozen_of_row wz P 2 _ _ hkP
  have f3 := frozen_of_row wz P 3 _ _ hkP
  obtain ⟨x1, x2, x3⟩ := four_set hkP (.slice pa cml pc) (.slice pb cnh pd) (.slice pe pf pg) (.slice ph pi_ pj)
  have hb1 := x3 Wd.heap.size Wd hP hbz
  have v1 := hu1.off (four_slices hkP) x2
  have v2 := hu2.off (four_slices hkP) x2
  have hkQ1 := (x2 Q (Ne.symm hPQ)).trans hkQ
  have HX1 := Lib.hid x1
  have HV1 := Lib.hid v1
  have HV2 := Lib.hid v2
  have HKQ := Lib.hid hkQ1
  have HS1 := Lib.hid (HSB.out _ hb1)
  have HB1 := Lib.hid hb1
  clear x1 x2 x3 v1 v2 hkQ1 hu1 hu2 hkP hkQ hbz hb1
  refine wpAnyH_ready (rs := [8]) (by kernel_rfl) (by simp) ?_
  refine AllReadyH.cons rfl (fun K hK => ?_) AllReadyH.nil
  go_simp
  refine hK.out _ _ (HS1.out) (fun hNew => ?_)
  clear hK K hNew
  (try clear hHeld)
  have hHeld := HS1.out
  try simp only [Act.put, List.getElem_toArray, List.getElem_cons_zero, List.getElem_cons_succ, List.setIfInBounds_toArray, List.set_cons_zero, List.set_cons_succ]
  clear c0 c1 c2 c3 f0 f1 f2 f3
  generalize ((((wz).setCell ⟨P, 0, none⟩ (.slice pa cml pc)).setCell ⟨P, 1, none⟩ (.slice pb cnh pd)).setCell ⟨P, 2, none⟩ (.slice pe pf pg)).setCell ⟨P, 3, none⟩ (.slice ph pi_ pj) = wy at *
  have c0 := cell_of_row wy Q 0 _ _ _ HKQ.out
  have c1 := cell_of_row wy Q 1 _ _ _ HKQ.out
  have c2 := cell_of_row wy Q 2 _ _ _ HKQ.out
  have c3 := cell_of_row wy Q 3 _ _ _ HKQ.out
  have f0 := frozen_of_row wy Q 0 _ _ HKQ.out
  have f1 := frozen_of_row wy Q 1 _ _ HKQ.out
  have f2 := frozen_of_row wy Q 2 _ _ HKQ.out
  have f3 := frozen_of_row wy Q 3 _ _ HKQ.out
  obtain ⟨x1, x2, x3⟩ := four_set HKQ.out (.slice ra_ cml rb_) (.slice rc_ cnh rd_) (.slice re_ rf_ rg_) (.slice rh_ ri_ rj_)
  have hb2 := x3 Wd.heap.size Wd hQ HB1.out
  have HNP := Lib.hid (show NowAt _ P C from ⟨_, _, _, _, _, _, _, _, _, _, _, _, (x2 P hPQ).trans HX1.out, HV1.out.off (four_slices HKQ.out) x2⟩)
  have HNQ := Lib.hid (show NowAt _ Q C from ⟨_, _, _, _, _, _, _, _, _, _, _, _, x1, HV2.out.off (four_slices HKQ.out) x2⟩)
  have HS2 := Lib.hid (HSB.out _ hb2)
  have HB2 := Lib.hid hb2
  clear x1 x2 x3 hb2 HX1 HV1 HV2 HKQ HB1
  refine wpAnyH_ready (rs := [9]) (by kernel_rfl) (by simp) ?_
  refine AllReadyH.cons rfl (fun K hK => ?_) AllReadyH.nil
  go_simp
  refine hK.out _ _ (HS2.out) (fun hNew => ?_)
  clear hK K hNew
  (try clear hHeld)
  have hHeld := HS2.out
  try simp only [Act.put, List.getElem_toArray, List.getElem_cons_zero, List.getElem_cons_succ, List.setIfInBounds_toArray, List.set_cons_zero, List.set_cons_succ]
  clear c0 c1 c2 c3 f0 f1 f2 f3 HS1
  refine wpAnyH_done (by kernel_rfl) ?_ _
  generalize ((((wy).setCell ⟨Q, 0, none⟩ (.slice ra_ cml rb_)).setCell ⟨Q, 1, none⟩ (.slice rc_ cnh rd_)).setCell ⟨Q, 2, none⟩ (.slice re_ rf_ rg_)).setCell ⟨Q, 3, none⟩ (.slice rh_ ri_ rj_) = w3 at *
  have hbw3 := hbd.trans (HB2.out.mono hbd.size)
  have hPw : w.heap.size ≤ P := Nat.le_trans hbd.size hP
  have hQw : w.heap.size ≤ Q := Nat.le_trans hbd.size hQ
  have hMISS : missN gone C.held ≤ 4096 := by
    have h2 := missN_le gone C.held fun h hh => by
      obtain ⟨k, hk, rfl⟩ := List.getElem_of_mem hh
      rw [← getD_at C.held k default hk]
      exact (HOKC.out.small.2.2.2.2 k hk).at_small.1
    have h3 := HOKC.out.small.2.1
    omega
  have HMISS := Lib.hid hMISS
  clear hHeld HS2 HSB HB2 hbd hMISS hpl
  have hAl := sbell (w := w3) (.cells #[] 107)
  have HO0 := Lib.hid (OwnJ7.lit0 w3 w.heap.size hbw3.size)
  have HNP0 := Lib.hid (NowAv.of_lt HNP.out (Nat.le_refl _) hAl)
  have HNQ0 := Lib.hid (NowAv.of_lt HNQ.out (Nat.le_refl _) hAl)
  have HZ34 := Lib.hid (show w3.heap.size < (w3.alloc (.cells #[] 107)).heap.size by rw [World.size_alloc]; omega)
  have hbw4 := hbw3.trans (hAl.mono hbw3.size)
  clear hAl HNP HNQ hbw3
  go_wp2
  generalize w3.alloc (.cells #[] 107) = W4 at *
  generalize w3.heap.size = z3 at *
  clear hbw1
  go_loopw [8, 9, 10, 11, 12, 13, 14, 15, 16] (fun v8 _ _ _ _ _ _ _ _ wr => ∃ (Vi : Vp) (js : List Jp) (fu g : Nat), Below w.heap.size w wr ∧ NowAv wr P C g ∧ NowAv wr Q Vi g ∧ v8.ownBlock = some g ∧ g < wr.heap.size ∧ Grow C gone Vi ∧ VOk Vi ∧ OwnJ7 wr w.heap.size v8 js ∧ js.length + missN gone Vi.held = missN gone C.held ∧ missN gone Vi.held + 1 ≤ fu ∧ planF C gone fu Vi js = planR C gone) (fun v8 _ _ _ _ _ _ _ _ _ => 5000 - lenV v8)
  case atStart => exact ⟨C, [], missN gone C.held + 1, z3, hbw4, HNP0.out, HNQ0.out, rfl, HZ34.out, Grow.refl _ _, HOKC.out, HO0.out, by simp, Nat.le_refl _, rfl⟩
  case round =>
    obtain ⟨Vi, js, fu, g, hbwr, hnp, hnq, hgo, hgl, hgr, hoki, hoj, hjm, hfu, hpl⟩ := hrel
    have HGR := Lib.hid hgr
    have HOKI := Lib.hid hoki
    have HOJ := Lib.hid hoj
    have HJM := Lib.hid hjm
    have HFU := Lib.hid hfu
    have HPL := Lib.hid hpl
    have hjs : js.length ≤ 4096 := by have := HMISS.out; omega
    obtain ⟨ja, jc, rfl⟩ := hoj.slice (by omega)
    obtain ⟨fa, fb, fc, fd, fe, ff, fg, fh, fi, fj, fk, fl, hkP, hvP⟩ := hnp
    obtain ⟨na, nb, nc, nd, ne, nf, ng, nh2, ni, nj, nk, nl, hkQ, hvQ⟩ := hnq
    have HAVP := Lib.hid hvP
    have HAVQ := Lib.hid hvQ
    have HGO := Lib.hid hgo
    have hvP := hvP.vw
    have hvQ := hvQ.vw
    clear hgo
    have HKP := Lib.hid hkP
    have HVP := Lib.hid hvP
    have HKQ := Lib.hid hkQ
    have HVQ := Lib.hid hvQ
    obtain ⟨_, _, _, _, e, _, hH, _, _⟩ := hvQ
    cases e
    obtain ⟨_, _, yb, yo, e, hnl, hnm, ycell⟩ := hH.at
    cases e
    have YC := Lib.hid ycell
    have hPl := (Array.getElem?_eq_some_iff.1 hkP).1
    have hQl := (Array.getElem?_eq_some_iff.1 hkQ).1
    have q1 := cell_of_row wr Q 1 _ _ _ hkQ
    clear hgr hoki hoj hjm hfu hpl hkP hvP hkQ ycell hH HNP0 HNQ0 HO0 hbw4
    obtain ⟨n, hn⟩ : ∃ n, n = Vi.held.length := ⟨_, rfl⟩
    have HN := Lib.hid hn
    rw [← hn] at YC hnl hnm HKQ HVQ HAVQ q1
    clear hn
    have hAl := sbell (w := wr) (.cells #[.string ⟨#[]⟩, .int .i64 0, .slice none 0 0, .int .i64 0, .int .i64 0] 107)
    have hkB := heap_alloc_new wr (.cells #[.string ⟨#[]⟩, .int .i64 0, .slice none 0 0, .int .i64 0, .int .i64 0] 107)
    obtain ⟨Bst, hBst⟩ : ∃ b, b = wr.heap.size := ⟨_, rfl⟩
    rw [← hBst] at hkB
    have HBST := Lib.hid hBst
    clear hBst
    have hbwA := hbwr.trans (hAl.mono hbwr.size)
    have hPB : P ≠ Bst := by have := HBST.out; omega
    have hQB : Q ≠ Bst := by have := HBST.out; omega
    go_upto_region 6 with fail
    rw [← HBST.out]
    have q1 := bc hAl q1
    generalize hWA : wr.alloc (.cells #[.string ⟨#[]⟩, .int .i64 0, .slice none 0 0, .int .i64 0, .int .i64 0] 107) = WA at *
    clear hWA
    go_wp2
    clear q1
    obtain ⟨wo, hwo⟩ : ∃ wo, wo = wr := ⟨_, rfl⟩
    subst hwo
    have hgv : goneB Vi.mem ls = gone := by rw [HGR.out.mem, HMC.out, HG.out]
    have HGV := Lib.hid hgv
    clear hgv
    go_loopw [32, 10, 11, 12, 13, 14, 15, 16] (fun v32 v10 v11 _ _ _ _ _ wi => ∃ (kk : Nat) (le : Int) (fo : Bool) (jb : Jp) (ba : Option Addr) (bl bc_ : Nat), kk ≤ n ∧ v32 = .int .i64 kk ∧ v10 = .int .i64 le ∧ v11 = .bool fo ∧ Below wo.heap.size wo wi ∧
      wi.heap[Bst]? = some (.cells #[.string jb.pc.st, .int .i64 jb.pc.ix, .slice ba bl bc_, .int .i64 jb.to, .int .i64 jb.size] 107 (0, 0)) ∧ OwnI wi wo.heap.size (.slice ba bl bc_) jb.from_ ∧
      ((fo = false ∧ bestTo (openB Vi gone) (btS Vi gone) kk < 0) ∨ (fo = true ∧ ∃ b : Nat, b < n ∧ bestTo (openB Vi gone) (btS Vi gone) kk = b ∧ le = spareI Vi gone b ∧ jb = jobK C gone Vi b))) (fun v32 _ _ _ _ _ _ _ _ => n - (intOf v32).toNat)
    case atStart => exact ⟨0, 0, false, ⟨⟨⟨#[]⟩, 0⟩, [], 0, 0⟩, none, 0, 0, Nat.zero_le _, rfl, rfl, rfl, hAl, hkB, OwnI.nil _ _, .inl ⟨rfl, by show (-1 : Int) < 0; omega⟩⟩
    case round =>
      obtain ⟨kk, le, fo, jb, ba, bl, bc_, hkk, rfl, rfl, rfl, hbi, hkb, hob, hst⟩ := hrel
      have HKb := Lib.hid hkb
      have HOb := Lib.hid hob
      have HST := Lib.hid hst
      have hbwi := hbwr.trans (hbi.mono hbwr.size)
      have hkPi := bb hbi HKP.out
      have hkQi := bb hbi HKQ.out
      have zi := hbi.size
      have HVPi := Lib.hid (HVP.out.below hbi)
      have HVQi := Lib.hid (HVQ.out.below hbi)
      have hBl := (Array.getElem?_eq_some_iff.1 hkb).1
      clear hkb hob hst hAl hkB hbwA
      by_cases hlt : kk < n
      · obtain ⟨e1, e2, e3, e4, e5, e6, xr, av, e7, e8, hrr, hra⟩ := YC.out kk hlt
        subst e1
        have HRA := Lib.hid (hra.below hbi)
        obtain ⟨ka, kc, _, _, rfl, -⟩ := hrr.at
        obtain ⟨ua, uc, _, _, rfl, -⟩ := hra.at
        have e2 := bc hbi e2
        have e3 := bc hbi e3
        have e4 := bc hbi e4
        have e5 := bc hbi e5
        have e6 := bc hbi e6
        have e7 := bc hbi e7
        have e8 := bc hbi e8
        have hkkl : kk < Vi.held.length := by rw [← HN.out]; exact hlt
        have hok := HOKI.out.small.2.2.2.2 kk hkkl
        have a16 := hok.at_small.1
        have hdt := hok.2.1
        have CL1 := Lib.hid (fun W (h : Below wr.heap.size wr W) ha => CLR.out W Vi _ (Vi.held.getD kk default) ka (Vi.held.getD kk default).refs.length kc (.slice ua (Vi.held.getD kk default).at_.length uc) (HVQi.out.below h) (hbwi.trans (h.mono hbwi.size)) ha hok.2.2.2.2.2.2 a16)
        have CJ1 := Lib.hid (fun W (h : Below wr.heap.size wr W) => CJR.out W _ _ C Vi kk (HVPi.out.below h) (HVQi.out.below h) (hbwi.trans (h.mono hbwi.size)) HOKC.out HOKI.out hkkl (by rw [HGV.out]; exact HGR.out))
        rw [HGV.out] at CL1 CJ1
        have hbs := bestTo_succ (openB Vi gone) (btS Vi gone) kk
        have HSP := Lib.hid (show spareI Vi gone kk = ((leftI gone (Vi.held.getD kk default).at_).length : Int) - (Vi.held.getD kk default).data from rfl)
        have HBT := Lib.hid (fun b => (show btS Vi gone kk b = decide (spareI Vi gone kk < spareI Vi gone b) from rfl))
        have hll := leftI_len gone (Vi.held.getD kk default).at_
        have HBS := Lib.hid hbs
        clear hrr hra hok hkkl hbs
        generalize hyy : Vi.held.getD kk default = y at *
        have HYY := Lib.hid hyy
        clear hyy
        obtain ⟨id, vault, block, data, total, refs, zs⟩ := y
        unfold Hp.v at CL1
        simp only at e2 e3 e4 e5 e6 e7 e8 a16 hdt CL1 HSP hll HRA
        generalize refs.length = ql at *
        obtain ⟨lz, hlz⟩ : ∃ lz, lz = leftI gone zs := ⟨_, rfl⟩
        rw [← hlz] at CL1 HSP hll
        clear hlz
        have hAh := sbell (w := wr) (.cells #[.string id, .int .i64 vault, .int .i64 block, .int .i64 data, .int .i64 total, .slice ka ql kc, .slice ua zs.length uc] 87)
        have hkh := heap_alloc_new wr (.cells #[.string id, .int .i64 vault, .int .i64 block, .int .i64 data, .int .i64 total, .slice ka ql kc, .slice ua zs.length uc] 87)
        have hkQh := bb hAh hkQi
        go_upto_region 9 with fail
        obtain ⟨H, hH⟩ : ∃ b, b = wr.heap.size := ⟨_, rfl⟩
        rw [← hH] at hkh ⊢
        clear hH
        generalize wr.alloc (.cells #[.string id, .int .i64 vault, .int .i64 block, .int .i64 data, .int .i64 total, .slice ka ql kc, .slice ua zs.length uc] 87) = WH at *
        have h0 := cell_of_row _ H 0 _ _ _ hkh
        have h1 := cell_of_row _ H 1 _ _ _ hkh
        have h2 := cell_of_row _ H 2 _ _ _ hkh
        have h3 := cell_of_row _ H 3 _ _ _ hkh
        have h4 := cell_of_row _ H 4 _ _ _ hkh
        have h5 := cell_of_row _ H 5 _ _ _ hkh
        have h6 := cell_of_row _ H 6 _ _ _ hkh
        have q0 := cell_of_row _ Q 0 _ _ _ hkQh
        have q1 := cell_of_row _ Q 1 _ _ _ hkQh
        have q2 := cell_of_row _ Q 2 _ _ _ hkQh
        have q3 := cell_of_row _ Q 3 _ _ _ hkQh
        have hrd := hAh.drew
        have CL2 := Lib.hid (CL1.out WH.drew hrd (HRA.out.below hrd))
        have w1' : IntKind.i64.wrap ((lz.length : Int) - data) = lz.length - data := by rw [IntKind.wrap_i64]; omega
        have HSB20 : ∀ w' : World, Below (WH).drew.heap.size (WH).drew w' → (w'.cell? ⟨H, 0, none⟩ = some (.string id) ∧ w'.cell? ⟨H, 1, none⟩ = some (.int .i64 vault) ∧ w'.cell? ⟨H, 2, none⟩ = some (.int .i64 block) ∧ w'.cell? ⟨H, 3, none⟩ = some (.int .i64 data) ∧ w'.cell? ⟨H, 4, none⟩ = some (.int .i64 total) ∧ w'.cell? ⟨H, 5, none⟩ = some (.slice ka ql kc) ∧ w'.cell? ⟨H, 6, none⟩ = some (.slice ua zs.length uc) ∧ w'.cell? ⟨Q, 0, none⟩ = some (.slice na nb nc) ∧ w'.cell? ⟨Q, 1, none⟩ = some (.slice (some ⟨yb, yo, none⟩) n nf) ∧ w'.cell? ⟨Q, 2, none⟩ = some (.slice ng nh2 ni) ∧ w'.cell? ⟨Q, 3, none⟩ = some (.slice nj nk nl)) := fun w' hb => ⟨bc hb h0, bc hb h1, bc hb h2, bc hb h3, bc hb h4, bc hb h5, bc hb h6, bc hb q0, bc hb q1, bc hb q2, bc hb q3⟩
        refine wp_region_held_drew (S := fun w' => w'.cell? ⟨H, 0, none⟩ = some (.string id) ∧ w'.cell? ⟨H, 1, none⟩ = some (.int .i64 vault) ∧ w'.cell? ⟨H, 2, none⟩ = some (.int .i64 block) ∧ w'.cell? ⟨H, 3, none⟩ = some (.int .i64 data) ∧ w'.cell? ⟨H, 4, none⟩ = some (.int .i64 total) ∧ w'.cell? ⟨H, 5, none⟩ = some (.slice ka ql kc) ∧ w'.cell? ⟨H, 6, none⟩ = some (.slice ua zs.length uc) ∧ w'.cell? ⟨Q, 0, none⟩ = some (.slice na nb nc) ∧ w'.cell? ⟨Q, 1, none⟩ = some (.slice (some ⟨yb, yo, none⟩) n nf) ∧ w'.cell? ⟨Q, 2, none⟩ = some (.slice ng nh2 ni) ∧ w'.cell? ⟨Q, 3, none⟩ = some (.slice nj nk nl)) (by kernel_rfl) (HSB20 _ (Below.refl _ _)) (fun hHeld => ?_)
        have HSB2 := Lib.hid HSB20
        clear HSB20
        generalize (WH).drew = Wd2 at *
        clear h0 h1 h2 h3 h4 h5 h6 q0 q1 q2 q3
        refine wpAnyH_take (i := 0) (v := ?_) rfl (by kernel_rfl) (by kernel_rfl) (by kernel_rfl) (fun _ _ _ h => h) (Or.inl ⟨by rfl, ?_⟩) (by assumption) ?_
        rotate_left; · (intro w hSw; (try dsimp only at hSw); go_simp; try with_reducible rfl)
        try simp only [Act.put, List.getElem_toArray, List.getElem_cons_zero, List.getElem_cons_succ, List.setIfInBounds_toArray, List.set_cons_zero, List.set_cons_succ]
        refine wpAnyH_take (i := 1) (v := ?_) rfl (by kernel_rfl) (by kernel_rfl) (by kernel_rfl) (fun _ _ _ h => h) (Or.inl ⟨by rfl, ?_⟩) (by assumption) ?_
        rotate_left; · (intro w hSw; (try dsimp only at hSw); go_simp; try with_reducible rfl)
        try simp only [Act.put, List.getElem_toArray, List.getElem_cons_zero, List.getElem_cons_succ, List.setIfInBounds_toArray, List.set_cons_zero, List.set_cons_succ]
        refine wpAnyH_take (i := 2) (v := ?_) rfl (by kernel_rfl) (by kernel_rfl) (by kernel_rfl) (fun _ _ _ h => h) (Or.inl ⟨by rfl, ?_⟩) (by assumption) ?_
        rotate_left; · (intro w hSw; (try dsimp only at hSw); go_simp; try with_reducible rfl)
        try simp only [Act.put, List.getElem_toArray, List.getElem_cons_zero, List.getElem_cons_succ, List.setIfInBounds_toArray, List.set_cons_zero, List.set_cons_succ]
        refine wpAnyH_take (i := 5) (v := ?_) rfl (by kernel_rfl) (by kernel_rfl) (by kernel_rfl) (fun _ _ _ h => h) (Or.inl ⟨by rfl, ?_⟩) (by assumption) ?_
        rotate_left; · (intro w hSw; (try dsimp only at hSw); go_simp; try with_reducible rfl)
        try simp only [Act.put, List.getElem_toArray, List.getElem_cons_zero, List.getElem_cons_succ, List.setIfInBounds_toArray, List.set_cons_zero, List.set_cons_succ]
        refine wpAnyH_take (i := 6) (v := ?_) rfl (by kernel_rfl) (by kernel_rfl) (by kernel_rfl) (fun _ _ _ h => h) (Or.inl ⟨by rfl, ?_⟩) (by assumption) ?_
        rotate_left; · (intro w hSw; (try dsimp only at hSw); go_simp; try with_reducible rfl)
        try simp only [Act.put, List.getElem_toArray, List.getElem_cons_zero, List.getElem_cons_succ, List.setIfInBounds_toArray, List.set_cons_zero, List.set_cons_succ]
        refine wpAnyH_take (i := 7) (v := ?_) rfl (by kernel_rfl) (by kernel_rfl) (by kernel_rfl) (fun _ _ _ h => h) (Or.inl ⟨by rfl, ?_⟩) (by assumption) ?_
        rotate_left; · (intro w hSw; (try dsimp only at hSw); go_simp; try with_reducible rfl)
        try simp only [Act.put, List.getElem_toArray, List.getElem_cons_zero, List.getElem_cons_succ, List.setIfInBounds_toArray, List.set_cons_zero, List.set_cons_succ]
        refine wpAnyH_ready (rs := [3]) (by kernel_rfl) (by simp) ?_
        refine AllReadyH.cons rfl (fun K hK => ?_) AllReadyH.nil
        go_simp
        refine CL2.out.mono ?_; rintro e w4 ⟨u4, rfl, o4, hb4⟩; obtain ⟨a4, c4, rfl⟩ := OwnI.slice o4
        go_wp2_with fail
        refine hK.out _ _ (HSB2.out _ hb4) (fun hNew => ?_)
        clear hK K hHeld
        have hHeld := hNew
        clear hNew
        try simp only [Act.put, List.getElem_toArray, List.getElem_cons_zero, List.getElem_cons_succ, List.setIfInBounds_toArray, List.set_cons_zero, List.set_cons_succ]
        refine wpAnyH_take (i := 4) (v := ?_) rfl (by kernel_rfl) (by kernel_rfl) (by kernel_rfl) (fun _ _ _ h => h) (Or.inl ⟨by rfl, ?_⟩) (by assumption) ?_
        rotate_left; · (intro w hSw; (try dsimp only at hSw); go_simp; try with_reducible rfl)
        try simp only [Act.put, List.getElem_toArray, List.getElem_cons_zero, List.getElem_cons_succ, List.setIfInBounds_toArray, List.set_cons_zero, List.set_cons_succ]
        refine wpAnyH_take (i := 8) (v := ?_) rfl (by kernel_rfl) (by kernel_rfl) (by kernel_rfl) (fun _ _ _ h => h) (Or.inl ⟨by rfl, ?_⟩) (by assumption) ?_
        rotate_left; · (intro w hSw; (try dsimp only at hSw); go_simp; try with_reducible rfl)
        try simp only [Act.put, List.getElem_toArray, List.getElem_cons_zero, List.getElem_cons_succ, List.setIfInBounds_toArray, List.set_cons_zero, List.set_cons_succ]
        refine wpAnyH_take (i := 9) (v := ?_) rfl (by kernel_rfl) (by kernel_rfl) (by kernel_rfl) (fun _ _ _ h => h) (Or.inl ⟨by rfl, ?_⟩) (by assumption) ?_
        rotate_left; · (intro w hSw; (try dsimp only at hSw); go_simp; try with_reducible rfl)
        try simp only [Act.put, List.getElem_toArray, List.getElem_cons_zero, List.getElem_cons_succ, List.setIfInBounds_toArray, List.set_cons_zero, List.set_cons_succ]
        refine wpAnyH_done (by kernel_rfl) ?_ _
        have hr4 := hrd.trans (hb4.mono hrd.size)
        have CJ2 := Lib.hid (CJ1.out w4 hr4)
        have hkP4 := bb hr4 hkPi
        have hkQ4 := bb hr4 hkQi
        clear hHeld HSB2 CL2 CL1 CJ1 hb4 hrd hAh hkh hkQh o4 HRA e2 e3 e4 e5 e6 e7 e8
        have p0 := cell_of_row _ P 0 _ _ _ hkP4
        have p1 := cell_of_row _ P 1 _ _ _ hkP4
        have p2 := cell_of_row _ P 2 _ _ _ hkP4
        have p3 := cell_of_row _ P 3 _ _ _ hkP4
        have q0 := cell_of_row _ Q 0 _ _ _ hkQ4
        have q1 := cell_of_row _ Q 1 _ _ _ hkQ4
        have q2 := cell_of_row _ Q 2 _ _ _ hkQ4
        have q3 := cell_of_row _ Q 3 _ _ _ hkQ4
        try rw [w1']
        rw [← HSP.out]
        generalize hop : openB Vi gone kk = op at *
        have HOP := Lib.hid hop
        clear hop w1' hkP4 hkQ4 hkPi hkQi
        have zh := hr4.size
        go_wp2_with fail
        refine CJ2.out.mono ?_
        rintro e w5 ⟨hb5, j5, a5, l5, c5, rfl, hj5⟩
        have HJ5 := Lib.hid hj5
        clear hj5 p0 p1 p2 p3 q0 q1 q2 q3 CJ2
        have hr5 := hr4.trans (hb5.mono hr4.size)
        have HKb5 := Lib.hid (bb hr5 HKb.out)
        have hob5 := HOb.out.below hr5
        have HOb5 := Lib.hid hob5
        have hbo5 := hbi.trans (hr5.mono zi)
        have z5 := hb5.size
        clear hob5 HKb HOb
        generalize hspe : spareI Vi gone kk = sp at *
        have HSPE := Lib.hid hspe
        obtain ⟨⟨st5, ix5⟩, fs5, to5, sz5⟩ := j5
        unfold Jp.v
        simp only at HJ5 ⊢
        clear hspe
        cases op with
        | false =>
          have hb2 : bestTo (openB Vi gone) (btS Vi gone) (kk + 1) = bestTo (openB Vi gone) (btS Vi gone) kk := by rw [HBS.out, if_neg (by simp)]
          have hst2 := HST.out
          rw [← hb2] at hst2
          have HST2 := Lib.hid hst2
          clear hb2 hst2
          have hK := bb (sbell (w := w5) (.cells #[.string st5, .int .i64 ix5, .slice a5 l5 c5, .int .i64 to5, .int .i64 sz5] 107)) HKb5.out
          have HK := Lib.hid hK
          have HO := Lib.hid (HOb5.out.below (sbell (w := w5) (.cells #[.string st5, .int .i64 ix5, .slice a5 l5 c5, .int .i64 to5, .int .i64 sz5] 107)))
          have HB := Lib.hid (hbo5.alloc hbo5.size (.cells #[.string st5, .int .i64 ix5, .slice a5 l5 c5, .int .i64 to5, .int .i64 sz5] 107))
          clear hK
          go_wp2
          go_roundw
          case rel => exact ⟨kk + 1, le, fo, jb, ba, bl, bc_, by omega, by go_num, rfl, rfl, HB.out, HK.out, HO.out, HST2.out⟩
          case measure => simp [intOf]; omega
        | true =>
          rcases HST.out with ⟨rfl, hneg⟩ | ⟨rfl, b, hbn, hbe, rfl, rfl⟩
          · have hb2 : bestTo (openB Vi gone) (btS Vi gone) (kk + 1) = kk := by rw [HBS.out, if_pos ⟨rfl, .inl hneg⟩]
            have HB2 := Lib.hid hb2
            clear hb2 hneg
            have HK5 := HKb5.out
            have r0 := cell_of_row _ Bst 0 _ _ _ HK5
            have r1 := cell_of_row _ Bst 1 _ _ _ HK5
            have r2 := cell_of_row _ Bst 2 _ _ _ HK5
            have r3 := cell_of_row _ Bst 3 _ _ _ HK5
            have r4 := cell_of_row _ Bst 4 _ _ _ HK5
            have f0 := frozen_of_row _ Bst 0 _ _ HK5
            have f1 := frozen_of_row _ Bst 1 _ _ HK5
            have f2 := frozen_of_row _ Bst 2 _ _ HK5
            have f3 := frozen_of_row _ Bst 3 _ _ HK5
            have f4 := frozen_of_row _ Bst 4 _ _ HK5
            obtain ⟨x1, x2, x3⟩ := five_set HK5 (.string st5) (.int .i64 ix5) (.slice a5 l5 c5) (.int .i64 to5) (.int .i64 sz5)
            have hbx := x3 wo.heap.size wo (Nat.le_of_eq HBST.out.symm) hbo5
            obtain ⟨hje, hjo⟩ := HJ5.out rfl
            have hox := Own.base (Own.same hjo fun q hq => x2 q (by have := (Own.lt hjo q hq).1; omega)) (show wo.heap.size ≤ w4.heap.size by omega)
            have HBX := Lib.hid (hbx.alloc hbx.size (.cells #[.string st5, .int .i64 ix5, .slice a5 l5 c5, .int .i64 to5, .int .i64 sz5] 107))
            have HX := Lib.hid (bb (sbell (.cells #[.string st5, .int .i64 ix5, .slice a5 l5 c5, .int .i64 to5, .int .i64 sz5] 107)) x1)
            have HOX := Lib.hid (hox.below (sbell (.cells #[.string st5, .int .i64 ix5, .slice a5 l5 c5, .int .i64 to5, .int .i64 sz5] 107)))
            have HJE := Lib.hid hje
            have hB5 : Bst < w5.heap.size := by omega
            clear x1 x2 x3 hbx hje hjo hox HK5
            go_wp2
            go_roundw
            case rel => exact ⟨kk + 1, sp, true, ⟨⟨st5, ix5⟩, fs5, to5, sz5⟩, a5, l5, c5, by omega, by go_num, rfl, rfl, HBX.out, HX.out, HOX.out, .inr ⟨rfl, kk, hlt, HB2.out, HSPE.out.symm, HJE.out⟩⟩
            case measure => simp [intOf]; omega
          · have hbt := HBT.out b
            generalize hsb : spareI Vi gone b = sb at *
            have HSB := Lib.hid hsb
            clear hsb
            by_cases hw : sp < sb
            · have hb2 : bestTo (openB Vi gone) (btS Vi gone) (kk + 1) = kk := by rw [HBS.out, if_pos ⟨rfl, .inr (by rw [hbe, Int.toNat_natCast, hbt]; exact decide_eq_true hw)⟩]
              have HB2 := Lib.hid hb2
              have q9 : decide (sp < sb) = true := decide_eq_true hw
              have HBE := Lib.hid hbe
              clear hb2 hw hbt hbe
              have HK5 := HKb5.out
              have r0 := cell_of_row _ Bst 0 _ _ _ HK5
              have r1 := cell_of_row _ Bst 1 _ _ _ HK5
              have r2 := cell_of_row _ Bst 2 _ _ _ HK5
              have r3 := cell_of_row _ Bst 3 _ _ _ HK5
              have r4 := cell_of_row _ Bst 4 _ _ _ HK5
              have f0 := frozen_of_row _ Bst 0 _ _ HK5
              have f1 := frozen_of_row _ Bst 1 _ _ HK5
              have f2 := frozen_of_row _ Bst 2 _ _ HK5
              have f3 := frozen_of_row _ Bst 3 _ _ HK5
              have f4 := frozen_of_row _ Bst 4 _ _ HK5
              obtain ⟨x1, x2, x3⟩ := five_set HK5 (.string st5) (.int .i64 ix5) (.slice a5 l5 c5) (.int .i64 to5) (.int .i64 sz5)
              have hbx := x3 wo.heap.size wo (Nat.le_of_eq HBST.out.symm) hbo5
              obtain ⟨hje, hjo⟩ := HJ5.out rfl
              have hox := Own.base (Own.same hjo fun q hq => x2 q (by have := (Own.lt hjo q hq).1; omega)) (show wo.heap.size ≤ w4.heap.size by omega)
              have HBX := Lib.hid (hbx.alloc hbx.size (.cells #[.string st5, .int .i64 ix5, .slice a5 l5 c5, .int .i64 to5, .int .i64 sz5] 107))
              have HX := Lib.hid (bb (sbell (.cells #[.string st5, .int .i64 ix5, .slice a5 l5 c5, .int .i64 to5, .int .i64 sz5] 107)) x1)
              have HOX := Lib.hid (hox.below (sbell (.cells #[.string st5, .int .i64 ix5, .slice a5 l5 c5, .int .i64 to5, .int .i64 sz5] 107)))
              have HJE := Lib.hid hje
              have hB5 : Bst < w5.heap.size := by omega
              clear x1 x2 x3 hbx hje hjo hox HK5
              go_wp2
              go_roundw
              case rel => exact ⟨kk + 1, sp, true, ⟨⟨st5, ix5⟩, fs5, to5, sz5⟩, a5, l5, c5, by omega, by go_num, rfl, rfl, HBX.out, HX.out, HOX.out, .inr ⟨rfl, kk, hlt, HB2.out, HSPE.out.symm, HJE.out⟩⟩
              case measure => simp [intOf]; omega
            · have hb2 : bestTo (openB Vi gone) (btS Vi gone) (kk + 1) = b := by rw [HBS.out, if_neg (by rintro ⟨_, h | h⟩; (omega); (rw [hbe, Int.toNat_natCast, hbt] at h; exact hw (of_decide_eq_true h))), hbe]
              have HST2 := Lib.hid (show (true = false ∧ bestTo (openB Vi gone) (btS Vi gone) (kk + 1) < 0) ∨ (true = true ∧ ∃ b' : Nat, b' < n ∧ bestTo (openB Vi gone) (btS Vi gone) (kk + 1) = b' ∧ sb = spareI Vi gone b' ∧ jobK C gone Vi b = jobK C gone Vi b') from .inr ⟨rfl, b, hbn, hb2, HSB.out.symm, rfl⟩)
              have q9 : decide (sp < sb) = false := decide_eq_false hw
              have HBE := Lib.hid hbe
              clear hb2 hw hbt hbe
              have hK := bb (sbell (w := w5) (.cells #[.string st5, .int .i64 ix5, .slice a5 l5 c5, .int .i64 to5, .int .i64 sz5] 107)) HKb5.out
              have HK := Lib.hid hK
              have HO := Lib.hid (HOb5.out.below (sbell (w := w5) (.cells #[.string st5, .int .i64 ix5, .slice a5 l5 c5, .int .i64 to5, .int .i64 sz5] 107)))
              have HB := Lib.hid (hbo5.alloc hbo5.size (.cells #[.string st5, .int .i64 ix5, .slice a5 l5 c5, .int .i64 to5, .int .i64 sz5] 107))
              clear hK
              go_wp2
              go_roundw
              case rel => exact ⟨kk + 1, sb, true, _, ba, bl, bc_, by omega, by go_num, rfl, rfl, HB.out, HK.out, HO.out, HST2.out⟩
              case measure => simp [intOf]; omega
      · have hst2 := HST.out
        rw [show kk = n by omega, HN.out] at hst2
        have r0 := cell_of_row _ Bst 0 _ _ _ HKb.out
        have r1 := cell_of_row _ Bst 1 _ _ _ HKb.out
        have r2 := cell_of_row _ Bst 2 _ _ _ HKb.out
        have r3 := cell_of_row _ Bst 3 _ _ _ HKb.out
        have r4 := cell_of_row _ Bst 4 _ _ _ HKb.out
        obtain ⟨f', hf'⟩ : ∃ f', fu = f' + 1 := ⟨fu - 1, by have := HFU.out; omega⟩
        rcases hst2 with ⟨rfl, hneg⟩ | ⟨rfl, b, hbn, hbe, rfl, rfl⟩
        · have hfin : (planR C gone).2 = js := by
            rw [← HPL.out, hf']
            unfold planF
            have hn : nextJ C gone Vi = none := by unfold nextJ; rw [if_pos (show placeI Vi gone < 0 from hneg)]
            rw [hn]
          have HFIN := Lib.hid hfin
          clear hfin hf' hneg
          go_wp2
          refine bodyPost_ret (results_tmp2 Try.results18 _ _ _) rfl ?_
          exact ⟨hbwi, .inr ⟨HFIT.out, _, rfl, by rw [HRES.out, HFIN.out]; exact HOJ.out.below hbi⟩⟩
        · have hbl : b < Vi.held.length := hbn
          have hal := bestTo_allowed (openB Vi gone) (btS Vi gone) Vi.held.length
          rw [hbe, Int.toNat_natCast] at hal
          have hopn := hal (by omega)
          have hposs := (jobK_poss HOKI.out HGR.out hbl hopn).1
          obtain ⟨hgs, hms⟩ := HGR.out.step HOKI.out hbl hopn
          have hokd := doP_ok HOKI.out hposs
          have hpl2 : planF C gone f' (doP Vi (jobK C gone Vi b)) (js ++ [jobK C gone Vi b]) = planR C gone := by
            rw [← HPL.out, hf']
            conv => rhs; unfold planF
            have hn : nextJ C gone Vi = some (jobK C gone Vi b) := by
              unfold nextJ
              rw [show placeI Vi gone = (b : Int) from hbe, if_neg (by omega), Int.toNat_natCast]
            rw [hn]
          have hfu2 : missN gone (doP Vi (jobK C gone Vi b)).held + 1 ≤ f' := by have := HFU.out; omega
          have hjm2 : (js ++ [jobK C gone Vi b]).length + missN gone (doP Vi (jobK C gone Vi b)).held = missN gone C.held := by have := HJM.out; rw [List.length_append, List.length_singleton]; omega
          have HGS := Lib.hid hgs
          have HOKD := Lib.hid hokd
          have HPL2 := Lib.hid hpl2
          have HFU2 := Lib.hid hfu2
          have HJM2 := Lib.hid hjm2
          have HPOSS := Lib.hid hposs
          clear hal hopn hposs hgs hms hokd hpl2 hfu2 hjm2 hf' hbe hbl
          generalize jobK C gone Vi b = jb at *
          obtain ⟨v6, w6, r6, o6, b6, s6, ow6⟩ := OwnJ7.app (HOJ.out.below hbi) jb (.slice ba bl bc_) (Own.base HOb.out hbwr.size) (by omega) hbwi.size
          have hb6 := hbwi.trans b6
          have hgs6 : ∀ q, q < wr.heap.size → q ≠ g → w6.heap[q]? = wr.heap[q]? := fun q hq hn => s6 q hq (by rw [HGO.out]; intro e; cases e; exact hn rfl)
          obtain ⟨fo6, ho6⟩ := (HOJ.out.below hbi).own
          have hP6 := (s6 P (by omega) (own_ne ho6 hkPi (by decide))).trans hkPi
          have hQ6 := (s6 Q (by omega) (own_ne ho6 hkQi (by decide))).trans hkQi
          have hB6 := (hgs6 Bst hBl (by have := HBST.out; omega)).trans HKb.out
          have hz6 : wr.heap.size + 1 < w6.heap.size ∨ v6.ownBlock = some g := by
            rcases ow6 with e | e
            · right; rw [e]; exact HGO.out
            · left
              obtain ⟨f7, ho7⟩ := o6.own
              have := (ho7.lt _ e).2
              omega
          obtain ⟨g6, hg6, hgl6, av1, av2⟩ : ∃ g6, v6.ownBlock = some g6 ∧ g6 < w6.heap.size ∧ VwAv w6 (.agg #[.slice fa fb fc, .slice fd fe ff, .slice fg fh fi, .slice fj fk fl]) C g6 ∧ VwAv w6 (.agg #[.slice na nb nc, .slice nd n nf, .slice ng nh2 ni, .slice nj nk nl]) Vi g6 := by
            have lt6 : ∀ q, v6.ownBlock = some q → q < w6.heap.size := fun q hq => by obtain ⟨f7, ho7⟩ := o6.own; exact (ho7.lt q hq).2
            rcases ow6 with e | e
            · rw [HGO.out] at e
              exact ⟨g, e, lt6 g e, (HAVP.out.below hbi).same hgs6, (HAVQ.out.below hbi).same hgs6⟩
            · exact ⟨wr.heap.size + 1, e, lt6 _ e, (HAVP.out.below hbi).switch (by omega) hgs6, (HAVQ.out.below hbi).switch (by omega) hgs6⟩
          have HAV1 := Lib.hid av1
          have HAV2 := Lib.hid av2
          have HO6 := Lib.hid o6
          have HP6 := Lib.hid hP6
          have HQ6 := Lib.hid hQ6
          have HG6 := Lib.hid hg6
          have CD := Lib.hid (do_ref2 _ (.slice ba bl bc_) Vi gone jb w6 av2.vw ⟨_, _, _, rfl⟩ HOKI.out HPOSS.out)
          have k0 := cell_of_row _ Bst 0 _ _ _ hB6
          have k1 := cell_of_row _ Bst 1 _ _ _ hB6
          have k2 := cell_of_row _ Bst 2 _ _ _ hB6
          have k3 := cell_of_row _ Bst 3 _ _ _ hB6
          have k4 := cell_of_row _ Bst 4 _ _ _ hB6
          have q0 := cell_of_row _ Q 0 _ _ _ hQ6
          have q1 := cell_of_row _ Q 1 _ _ _ hQ6
          have q2 := cell_of_row _ Q 2 _ _ _ hQ6
          have q3 := cell_of_row _ Q 3 _ _ _ hQ6
          obtain ⟨⟨st, ix⟩, fs, dst, size⟩ := jb
          unfold Jp.v at CD
          simp only at CD r6 r0 r1 r2 r3 r4 k0 k1 k2 k3 k4
          obtain ⟨a6, c6, e6⟩ := o6.slice (by rw [List.length_append, List.length_singleton]; omega)
          generalize hl6 : (js ++ [(⟨⟨st, ix⟩, fs, dst, size⟩ : Jp)]).length = l6 at *
          subst e6
          clear av1 av2 o6 hP6 hQ6 hg6 hB6 b6 s6 ow6 hgs6 ho6 hz6 hkPi hkQi
          go_wp2_with (at_builtin; refine wpList_append_run (by rfl) (.tmp 70) (.tmp 72) 39 (by rfl) _ (.slice (some ⟨wr.heap.size, 0, none⟩) 1 1) (.slice a6 l6 c6) w6 (by rfl) (by rfl) r6 ?_)
          refine CD.out.mono ?_
          rintro e w7 ⟨u7, rfl, hu7, hb7, hav7⟩
          have hv7 := hav7 g6 hgl6 HAV2.out
          obtain ⟨wa7, wc7, wa8, wc8, wa9, wl9, wc9, wa10, wl10, wc10, rfl⟩ := hu7.val
          have HV7 := Lib.hid hv7
          have hbw7 := hb6.trans (hb7.mono hb6.size)
          have hP7 := bb hb7 HP6.out
          have hQ7 := bb hb7 HQ6.out
          generalize doP Vi ⟨⟨st, ix⟩, fs, dst, size⟩ = Vn at *
          obtain ⟨vm, hvm⟩ : ∃ x, x = Vn.mem.length := ⟨_, rfl⟩
          obtain ⟨vh, hvh⟩ : ∃ x, x = Vn.held.length := ⟨_, rfl⟩
          rw [← hvm, ← hvh] at HV7 ⊢
          clear hvm hvh hu7 hav7 hv7 CD k0 k1 k2 k3 k4 q0 q1 q2 q3 r0 r1 r2 r3 r4 r6
          have q0 := cell_of_row _ Q 0 _ _ _ hQ7
          have q1 := cell_of_row _ Q 1 _ _ _ hQ7
          have q2 := cell_of_row _ Q 2 _ _ _ hQ7
          have q3 := cell_of_row _ Q 3 _ _ _ hQ7
          have f0 := frozen_of_row _ Q 0 _ _ hQ7
          have f1 := frozen_of_row _ Q 1 _ _ hQ7
          have f2 := frozen_of_row _ Q 2 _ _ hQ7
          have f3 := frozen_of_row _ Q 3 _ _ hQ7
          obtain ⟨x1, x2, x3⟩ := four_set hQ7 (.slice wa7 vm wc7) (.slice wa8 vh wc8) (.slice wa9 wl9 wc9) (.slice wa10 wl10 wc10)
          have HBF := Lib.hid (x3 w.heap.size w hQw hbw7)
          have HNF := Lib.hid (NowAv.store hQ7 (four_slices hQ7) HV7.out)
          have HPF := Lib.hid (show NowAv _ P C g6 from ⟨_, _, _, _, _, _, _, _, _, _, _, _, (x2 P hPQ).trans hP7, (HAV1.out.below hb7).off (four_slices hQ7) x2⟩)
          have HOF := Lib.hid ((HO6.out.below hb7).off hQ7 x2)
          have hsz : g6 < ((((w7.setCell ⟨Q, 0, none⟩ (.slice wa7 vm wc7)).setCell ⟨Q, 1, none⟩ (.slice wa8 vh wc8)).setCell ⟨Q, 2, none⟩ (.slice wa9 wl9 wc9)).setCell ⟨Q, 3, none⟩ (.slice wa10 wl10 wc10)).heap.size := by rw [setCell_size, setCell_size, setCell_size, setCell_size]; have := hb7.size; omega
          have HSZ := Lib.hid hsz
          have HL6 := Lib.hid hl6
          clear x1 x2 x3 hP7 hQ7 hsz hl6
          go_wp2
          go_roundw
          case rel => exact ⟨Vn, js ++ [⟨⟨st, ix⟩, fs, dst, size⟩], f', g6, HBF.out, HPF.out, HNF.out, HG6.out, HSZ.out, HGS.out, HOKD.out, HOF.out, by rw [HL6.out]; exact HJM2.out, HFU2.out, HPL2.out⟩
          case measure => have h1 := HL6.out; rw [List.length_append, List.length_singleton] at h1; simp [lenV]; omega

end Go.Proofs.Ytijcicgbhcphjaa
