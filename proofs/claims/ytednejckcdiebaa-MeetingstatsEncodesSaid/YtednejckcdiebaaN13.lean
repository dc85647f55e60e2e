/- The law MeetingstatsDecodes, walked. -/
import Derived.Test.YtednejckcdiebaaN12
import Derived.Test.YtednejckcdiebaaX
import Derived.Laws.BytesArg
namespace Go.Proofs.Ytednejckcdiebaa
open Go.RowKit Go.Lib Go.ChangeMaps
set_option linter.unusedSimpArgs false

theorem conv_bytes {W : World} {v : Value} {bs : List Int} (h : ReadsB W v bs) : (convert 56 9 v).run Try.prog W = .ok (.string (strOfNums bs)) W := by
  obtain ⟨ao, c, b, off, rfl, hl, _, hc⟩ := h.at
  by_cases h0 : bs.length = 0
  · have : bs = [] := List.length_eq_zero_iff.1 h0
    subst this
    show (convert 56 9 (.slice ao 0 c)).run Try.prog W = _
    rw [run_convert_bytes_string W 56 9 5 ao 0 c Try.underlying56 Try.underlying5 Try.underlying9]
    rcases ao with _ | ad
    · simp [Conv.bytesToString]; rfl
    · simp [Conv.bytesToString, loadCells]; rfl
  · obtain ⟨rfl, _⟩ := hc 0 (by omega)
    exact run_convert_bytes_arg (P := Try.prog) W 56 5 Try.underlying56 Try.underlying5 b off bs.length c bs rfl (fun i hi => (hc i hi).2) 9 Try.underlying9

set_option maxRecDepth 100000 in
set_option maxHeartbeats 1000000 in
theorem decodes_long (ao : Option Addr) (len c : Nat) (w : World) (h : 300 < len) (hm : len ≤ 9223372036854775807) :
    Calls Try.prog 10 #[.slice ao len c] w fun e w' => e = .returned (.bool true) ∧ Below w.heap.size w w' := by
  have CA := Lib.hid awake_any
  go_enter Try.func10, Try.ntmps10
  go_wp2_with fail
  refine (CA.out _).mono ?_
  rintro e w1 ⟨rfl, hb1⟩
  go_wp2
  go_ret
  exact ⟨rfl, by (repeat' (first | (with_reducible exact Below.refl _ _) | (with_reducible assumption) | (with_reducible refine Below.alloc ?_ ?_ _) | (with_reducible refine Below.drew ?_) | (with_reducible refine below_drewN ?_ _) | (with_reducible refine Below.setCell ?_ ?_ _) | (with_reducible refine below_step ?_ (by with_reducible assumption) ?_) | go_size))⟩

theorem rise_of {n : Nat} {M : Days} {N : Int} (hd : ∀ a b, DOk true 0 (M a b)) (hN : NMax N M) : Rise N M := by
  refine ⟨fun a b => (hd a b).sorted, fun a b x hx => ((hd a b).low x hx).1, fun a b x hx => hN.1 a b x hx, ?_⟩
  rcases hN.2 with ⟨h, _⟩ | ⟨a, b, h⟩
  · omega
  · exact ((hd a b).low N h).2.2

set_option maxRecDepth 100000 in
set_option maxHeartbeats 4000000 in
theorem decodes_fit (v : Value) (D : List Int) (w : World) (hv : ReadsB w v D) (hD : Byt D) (hl : D.length ≤ 300) :
    Calls Try.prog 10 #[v] w fun e w' => e = .returned (.bool true) ∧ Below w.heap.size w w' := by
  have CA := Lib.hid awake_any
  have CD := Lib.hid (Decode_any v D w hv hD (by omega))
  have HV := Lib.hid hv
  obtain ⟨a0, c0, rfl⟩ : ∃ a c, v = .slice a D.length c := by obtain ⟨ao, c, _, _, e, _⟩ := hv.at; exact ⟨ao, c, e⟩
  have HDB := Lib.hid hD
  clear hv hD
  go_enter Try.func10, Try.ntmps10
  go_wp2_with fail
  refine CD.out.mono ?_
  rintro e w1 (⟨_, rfl, hb⟩ | ⟨n, M, k, F, N, hdec, rfl, hbk, hF, hN, hb⟩)
  · go_wp2_with fail
    refine (CA.out _).mono ?_
    rintro e w2 ⟨rfl, hb2⟩
    go_wp2
    go_ret
    exact ⟨rfl, hb.trans (hb2.mono hb.size)⟩
  · obtain ⟨hE, ⟨hn2, hn12⟩, hok⟩ := decG_inv HDB.out hdec
    have HB := Lib.hid hb
    have CE := Lib.hid (fun W (h : Below w1.heap.size w1 W) => Encode_any F k n N M W (hbk.below h) hok hn12 (by rw [← hE]; omega))
    rw [← hE] at CE
    clear CD hE hdec hbk hF hN hok hb
    obtain ⟨sD, hsD⟩ : ∃ sD, sD = strOfNums D := ⟨_, rfl⟩
    have HCV := Lib.hid (fun W (h : ReadsB W (.slice a0 D.length c0) D) => show (convert 56 9 (.slice a0 D.length c0)).run Try.prog W = .ok (.string sD) W by rw [hsD]; exact conv_bytes h)
    have HCU := Lib.hid (fun W u (h : ReadsB W u D) => show (convert 56 9 u).run Try.prog W = .ok (.string sD) W by rw [hsD]; exact conv_bytes h)
    have hbd : Below w1.heap.size w1 w1.drew := (Below.refl _ _).drew
    have HBD := Lib.hid (HB.out.trans (hbd.mono HB.out.size))
    have HRD := Lib.hid ((HV.out.below HB.out).below hbd)
    clear hsD
    go_upto_region 6 with fail
    have hS0 : ∀ w' : World, Below w1.drew.heap.size w1.drew w' → (convert 56 9 (.slice a0 D.length c0)).run Try.prog w' = .ok (.string sD) w' := fun w' hb => HCV.out w' (HRD.out.below hb)
    refine wp_region_held_drew (S := fun W => (convert 56 9 (.slice a0 D.length c0)).run Try.prog W = .ok (.string sD) W) (by kernel_rfl) (hS0 _ (Below.refl _ _)) (fun hHeld => ?_)
    have HS := Lib.hid hS0
    have CE2 := Lib.hid (fun W (h : Below w1.drew.heap.size w1.drew W) => CE.out W (hbd.trans (h.mono hbd.size)))
    clear hS0 hbd
    generalize w1.drew = Wd at *
    refine wpAnyH_ready (rs := [0]) (by kernel_rfl) (by simp) ?_
    refine AllReadyH.cons rfl (fun K hK => ?_) AllReadyH.nil
    go_simp
    refine (CA.out _).mono ?_; rintro e w2 ⟨rfl, hb2⟩
    go_wp2_with fail
    refine hK.out _ _ (HS.out _ hb2) (fun hNew => ?_)
    clear hK K hHeld
    have hHeld := hNew
    clear hNew
    try simp only [Act.put, List.getElem_toArray, List.getElem_cons_zero, List.getElem_cons_succ, List.setIfInBounds_toArray, List.set_cons_zero, List.set_cons_succ]
    refine wpAnyH_take (i := 1) (v := ?_) rfl (by kernel_rfl) (by kernel_rfl) (by kernel_rfl) (fun _ _ _ h => h) (Or.inl ⟨by rfl, ?_⟩) (by assumption) ?_
    rotate_left; · (intro w hSw; (try dsimp only at hSw); go_simp; try with_reducible rfl)
    try simp only [Act.put, List.getElem_toArray, List.getElem_cons_zero, List.getElem_cons_succ, List.setIfInBounds_toArray, List.set_cons_zero, List.set_cons_succ]
    refine wpAnyH_take (i := 2) (v := ?_) rfl (by kernel_rfl) (by kernel_rfl) (by kernel_rfl) (fun _ _ _ h => h) (Or.inl ⟨by rfl, ?_⟩) (by assumption) ?_
    rotate_left; · (intro w hSw; (try dsimp only at hSw); go_simp; try with_reducible rfl)
    try simp only [Act.put, List.getElem_toArray, List.getElem_cons_zero, List.getElem_cons_succ, List.setIfInBounds_toArray, List.set_cons_zero, List.set_cons_succ]
    refine wpAnyH_take (i := 3) (v := ?_) rfl (by kernel_rfl) (by kernel_rfl) (by kernel_rfl) (fun _ _ _ h => h) (Or.inl ⟨by rfl, ?_⟩) (by assumption) ?_
    rotate_left; · (intro w hSw; (try dsimp only at hSw); go_simp; try with_reducible rfl)
    try simp only [Act.put, List.getElem_toArray, List.getElem_cons_zero, List.getElem_cons_succ, List.setIfInBounds_toArray, List.set_cons_zero, List.set_cons_succ]
    refine wpAnyH_take (i := 4) (v := ?_) rfl (by kernel_rfl) (by kernel_rfl) (by kernel_rfl) (fun _ _ _ h => h) (Or.inl ⟨by rfl, ?_⟩) (by assumption) ?_
    rotate_left; · (intro w hSw; (try dsimp only at hSw); go_simp; try with_reducible rfl)
    try simp only [Act.put, List.getElem_toArray, List.getElem_cons_zero, List.getElem_cons_succ, List.setIfInBounds_toArray, List.set_cons_zero, List.set_cons_succ]
    refine wpAnyH_take (i := 5) (v := ?_) rfl (by kernel_rfl) (by kernel_rfl) (by kernel_rfl) (fun _ _ _ h => h) (Or.inl ⟨by rfl, ?_⟩) (by assumption) ?_
    rotate_left; · (intro w hSw; (try dsimp only at hSw); go_simp; try with_reducible rfl)
    try simp only [Act.put, List.getElem_toArray, List.getElem_cons_zero, List.getElem_cons_succ, List.setIfInBounds_toArray, List.set_cons_zero, List.set_cons_succ]
    refine wpAnyH_take (i := 6) (v := ?_) rfl (by kernel_rfl) (by kernel_rfl) (by kernel_rfl) (fun _ _ _ h => h) (Or.inl ⟨by rfl, ?_⟩) (by assumption) ?_
    rotate_left; · (intro w hSw; (try dsimp only at hSw); go_simp; try with_reducible rfl)
    try simp only [Act.put, List.getElem_toArray, List.getElem_cons_zero, List.getElem_cons_succ, List.setIfInBounds_toArray, List.set_cons_zero, List.set_cons_succ]
    refine wpAnyH_take (i := 9) (v := ?_) rfl (by kernel_rfl) (by kernel_rfl) (by kernel_rfl) (fun _ _ _ h => h) (Or.inl ⟨by rfl, ?_⟩) (by assumption) ?_
    rotate_left; · (intro w hSw; (try dsimp only at hSw); go_simp; try with_reducible rfl)
    try simp only [Act.put, List.getElem_toArray, List.getElem_cons_zero, List.getElem_cons_succ, List.setIfInBounds_toArray, List.set_cons_zero, List.set_cons_succ]
    refine wpAnyH_take (i := 10) (v := ?_) rfl (by kernel_rfl) (by kernel_rfl) (by kernel_rfl) (fun _ _ _ h => h) (Or.inl ⟨by rfl, ?_⟩) (by assumption) ?_
    rotate_left; · (intro w hSw; (try dsimp only at hSw); go_simp; try with_reducible rfl)
    try simp only [Act.put, List.getElem_toArray, List.getElem_cons_zero, List.getElem_cons_succ, List.setIfInBounds_toArray, List.set_cons_zero, List.set_cons_succ]
    refine wpAnyH_ready (rs := [7]) (by kernel_rfl) (by simp) ?_
    refine AllReadyH.cons rfl (fun K hK => ?_) AllReadyH.nil
    go_simp
    refine (CE2.out _ hb2).mono ?_; rintro e w3 ⟨u, rfl, ho, hb3⟩
    go_wp2_with fail
    refine hK.out _ _ (HS.out _ (hb2.trans (hb3.mono hb2.size))) (fun hNew => ?_)
    clear hK K hHeld
    have hHeld := hNew
    clear hNew
    try simp only [Act.put, List.getElem_toArray, List.getElem_cons_zero, List.getElem_cons_succ, List.setIfInBounds_toArray, List.set_cons_zero, List.set_cons_succ]
    have hcu := HCU.out w3 u (ho.reads (by omega))
    have HB3 := Lib.hid (hb2.trans (hb3.mono hb2.size))
    clear hb2 hb3 ho
    refine wpAnyH_ready (rs := [8]) (by kernel_rfl) (by simp) ?_
    refine AllReadyH.cons rfl (fun K hK => ?_) AllReadyH.nil
    go_simp
    refine hK.out _ _ (HS.out _ HB3.out) (fun hNew => ?_)
    clear hK K hHeld
    have hHeld := hNew
    clear hNew
    try simp only [Act.put, List.getElem_toArray, List.getElem_cons_zero, List.getElem_cons_succ, List.setIfInBounds_toArray, List.set_cons_zero, List.set_cons_succ]
    refine wpAnyH_take (i := 11) (v := ?_) rfl (by kernel_rfl) (by kernel_rfl) (by kernel_rfl) (fun _ _ _ h => h) (Or.inl ⟨by rfl, ?_⟩) (by assumption) ?_
    rotate_left; · (intro w hSw; (try dsimp only at hSw); go_simp; try with_reducible rfl)
    try simp only [Act.put, List.getElem_toArray, List.getElem_cons_zero, List.getElem_cons_succ, List.setIfInBounds_toArray, List.set_cons_zero, List.set_cons_succ]
    refine wpAnyH_take (i := 12) (v := ?_) rfl (by kernel_rfl) (by kernel_rfl) (by kernel_rfl) (fun _ _ _ h => h) (Or.inl ⟨by rfl, ?_⟩) (by assumption) ?_
    rotate_left; · (intro w hSw; (try dsimp only at hSw); go_simp; try with_reducible rfl)
    try simp only [Act.put, List.getElem_toArray, List.getElem_cons_zero, List.getElem_cons_succ, List.setIfInBounds_toArray, List.set_cons_zero, List.set_cons_succ]
    refine wpAnyH_take (i := 13) (v := ?_) rfl (by kernel_rfl) (by kernel_rfl) (by kernel_rfl) (fun _ _ _ h => h) (Or.inl ⟨by rfl, ?_⟩) (by assumption) ?_
    rotate_left; · (intro w hSw; (try dsimp only at hSw); go_simp; try with_reducible rfl)
    try simp only [Act.put, List.getElem_toArray, List.getElem_cons_zero, List.getElem_cons_succ, List.setIfInBounds_toArray, List.set_cons_zero, List.set_cons_succ]
    refine wpAnyH_done (by kernel_rfl) ?_ _
    clear hHeld HS
    go_wp2
    go_ret
    exact ⟨by simp, HBD.out.trans (HB3.out.mono HBD.out.size)⟩

end Go.Proofs.Ytednejckcdiebaa
