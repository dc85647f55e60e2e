/- The reference's pieces and shares; the program's validShares; Find, Ints. -/
import Derived.Test.YtapjgjjmlbhanaaA2
import Derived.StillTailTactics
namespace Go.Proofs.Ytapjgjjmlbhanaa
open Go.RowKit Go.Lib

/-- Pieces that are valid and different. -/
def PcsOk (ps : List Pc) : Prop := ps.Nodup ∧ ∀ p ∈ ps, 0 ≤ p.ix ∧ p.ix < 16
instance (ps : List Pc) : Decidable (PcsOk ps) := inferInstanceAs (Decidable (_ ∧ _))

theorem pcsOk_snoc (ps : List Pc) (j : Nat) (h : j < ps.length) : PcsOk (ps.take (j + 1)) ↔ PcsOk (ps.take j) ∧ (0 ≤ ps[j].ix ∧ ps[j].ix < 16) ∧ ps[j] ∉ ps.take j := by
  rw [List.take_succ_eq_append_getElem h]
  unfold PcsOk
  rw [List.nodup_append]
  constructor
  · rintro ⟨⟨h1, _, h3⟩, h4⟩
    exact ⟨⟨h1, fun p hp => h4 p (List.mem_append_left _ hp)⟩, h4 _ (List.mem_append_right _ (List.mem_singleton.2 rfl)), fun hm => h3 _ hm _ (List.mem_singleton.2 rfl) rfl⟩
  · rintro ⟨⟨h1, h2⟩, h3, h4⟩
    refine ⟨⟨h1, by simp, fun a ha b hb e => ?_⟩, fun p hp => ?_⟩
    · simp at hb; subst hb; subst e; exact h4 ha
    · rcases List.mem_append.1 hp with hp | hp
      · exact h2 p hp
      · simp at hp; subst hp; exact h3

theorem pcsOk_take {ps : List Pc} (h : PcsOk ps) (j : Nat) : PcsOk (ps.take j) :=
  ⟨h.1.sublist (List.take_sublist _ _), fun p hp => h.2 p (List.mem_of_mem_take hp)⟩

set_option maxRecDepth 100000 in
set_option maxHeartbeats 1000000 in
theorem pieces_any (v : Value) (ps : List Pc) (w : World) (hv : ReadsP w v ps) :
    Calls Try.prog 46 #[v] w fun e w' => e = .returned (.bool (decide (PcsOk ps))) ∧ Below w.heap.size w w' := by
  obtain ⟨ao, c, b, off, rfl, hl, hm, hcell⟩ := hv.at
  have HV := Lib.hid hv
  have HC := Lib.hid hcell
  clear hcell hv
  obtain ⟨r, hr⟩ : ∃ r, r = decide (PcsOk ps) := ⟨_, rfl⟩
  rw [← hr]
  have HR := Lib.hid hr
  clear hr
  go_enter Try.func46, Try.ntmps46
  go_wp2
  go_loopw [3] (fun v3 wr => ∃ j : Nat, j ≤ ps.length ∧ v3 = .int .i64 j ∧ PcsOk (ps.take j) ∧ Below w.heap.size w wr) (fun v3 _ => ps.length - (intOf v3).toNat)
  case atStart => exact ⟨0, Nat.zero_le _, rfl, by simp [PcsOk], Below.refl _ _⟩
  case round =>
    obtain ⟨j, hj, rfl, hok, hbel⟩ := hrel
    have HN := Lib.hid hok
    clear hok
    by_cases hlt : j < ps.length
    · obtain ⟨e1, e2, e3⟩ := HC.out j hlt
      subst e1
      have hg := getD_at ps j default hlt
      have hs := pcsOk_snoc ps j hlt
      have ht := fun h => pcsOk_take (ps := ps) h (j + 1)
      have HT := Lib.hid ht
      have HS := Lib.hid hs
      rw [hg] at e2 e3
      rw [← hbel.cell (p := ⟨b, _, none⟩) (cell_lt e2)] at e2
      rw [← hbel.cell (p := ⟨b, _, none⟩) (cell_lt e3)] at e3
      have hh := has_any (.slice (some ⟨b, off, none⟩) j c) (ps.take j) ps[j]
      have hrd : ReadsP wr (.slice (some ⟨b, off, none⟩) j c) (ps.take j) :=
        ReadsP.below (ReadsP.take HV.out j hj) hbel
      clear hs hg ht
      generalize ps[j] = y at e2 e3 HS hh
      obtain ⟨s, i⟩ := y
      unfold Pc.v at hh
      have HH := Lib.hid hh
      have HD := Lib.hid hrd
      clear hh hrd
      simp only at e2 e3
      by_cases k1 : i < 0
      · have hr : r = false := by rw [HR.out]; exact decide_eq_false fun h => by (have := HS.out.1 (HT.out h); have := this.2.1.1; simp only at this; omega)
        subst hr
        go_wp2
        go_quiet (fail)
        go_wp2
        go_ret
        exact ⟨rfl, below_drewN hbel _⟩
      · by_cases k2 : i < 16
        · have hjc : j ≤ c := by omega
          have k3 : ¬ 16 ≤ i := by omega
          go_wp2
          go_still_tail 22, (by kernel_rfl)
          change wpList _ _ _ _ _ wr.drew
          have hwd : Below wr.heap.size wr wr.drew := (Below.refl _ _).drew
          generalize wr.drew = w2 at hwd
          by_cases k4 : (⟨s, i⟩ : Pc) ∈ ps.take j
          · have hr : r = false := by rw [HR.out]; exact decide_eq_false fun h => (HS.out.1 (HT.out h)).2.2 k4
            subst hr
            rw [decide_eq_true k4] at HH
            clear k4
            go_wp2_with fail
            refine (HH.out _ (HD.out.below hwd)).mono ?_
            rintro e w3 ⟨rfl, hb3⟩
            have hbb := (hbel.trans (hwd.mono hbel.size)).trans (hb3.mono (Nat.le_trans hbel.size hwd.size))
            go_wp2
            go_ret
            exact ⟨rfl, hbb⟩
          · rw [decide_eq_false k4] at HH
            have H4 := Lib.hid k4
            clear k4
            go_wp2_with fail
            refine (HH.out _ (HD.out.below hwd)).mono ?_
            rintro e w3 ⟨rfl, hb3⟩
            have hbb := (hbel.trans (hwd.mono hbel.size)).trans (hb3.mono (Nat.le_trans hbel.size hwd.size))
            go_wp2
            go_roundw
            case rel => exact ⟨j + 1, by omega, by go_num, HS.out.2 ⟨HN.out, ⟨by show 0 ≤ i; omega, by show i < 16; omega⟩, H4.out⟩, hbb⟩
            case measure => simp [intOf]; omega
        · have hr : r = false := by rw [HR.out]; exact decide_eq_false fun h => by (have := HS.out.1 (HT.out h); have := this.2.1.2; simp only at this; omega)
          subst hr
          have k3 : 16 ≤ i := by omega
          have q1 : decide (i < 0) = false := decide_eq_false k1
          have q2 : decide (16 ≤ i) = true := decide_eq_true k3
          clear HH HD
          go_wp2
          go_quiet (fail)
          go_wp2
          go_ret
          exact ⟨rfl, below_drewN hbel _⟩
    · have hjl : j = ps.length := by omega
      subst hjl
      have hn := HN.out
      rw [List.take_length] at hn
      obtain rfl : r = true := by rw [HR.out]; exact decide_eq_true hn
      clear hn
      go_wp2
      go_ret
      exact ⟨rfl, hbel⟩

end Go.Proofs.Ytapjgjjmlbhanaa
