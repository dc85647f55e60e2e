/- List. -/
import Derived.Test.YtcgilfnhbliadaaT4
import Derived.OwnWalk
namespace Go.Proofs.Ytcgilfnhbliadaa
open Go.RowKit Go.Lib Go.ChangeMaps
set_option linter.unusedSimpArgs false

theorem orderP_perm {l l' : List Tk} (h : l.Perm l') (hl : AllOk l) : orderP l = orderP l' :=
  orderP_eq (fun t ht => hl t (h.mem_iff.2 ht)) (orderP_srt hl) fun t => (orderP_mem hl t).trans h.mem_iff
theorem made_own {w : World} {base : Nat} {v : Value} (h : w.ownsRow base 27 7 v 0 []) : OwnT 27 w base v [] := ⟨[], h, fun i _ hi => absurd hi (by simp)⟩

theorem OwnT.block {e : TypeId} {w : World} {base g : Nat} {v : Value} {ts : List Tk} (h : OwnT e w base v ts) (hg : v.ownBlock = some g) : ∃ cs t, w.heap[g]? = some (.cells cs t) := by
  obtain ⟨xs, ⟨_, h2⟩, _⟩ := h
  rcases h2 with ⟨rfl, _⟩ | ⟨g', cap, cur, rfl, h3⟩
  · cases hg
  · cases hg
    exact ⟨_, _, h3.2.1⟩
theorem RngQ.own {e : TypeId} {w : World} {base b m r : Nat} {v : Value} {S lt ts : List Tk} (h : RngQ w b m r S lt) (ho : OwnT e w base v ts) : v.ownBlock ≠ some m ∧ v.ownBlock ≠ some r := by
  obtain ⟨_, L, ck, si, se, c0, h2, _, _, _, _, h7, _⟩ := h
  refine ⟨fun e => ?_, fun e => ?_⟩
  · obtain ⟨cs, t, e2⟩ := ho.block e
    unfold qObj at h2
    rw [h2] at e2
    cases e2
  · obtain ⟨cs, t, e2⟩ := ho.block e
    rw [h7] at e2
    cases e2
theorem RngQ.same {w w' : World} {b m r : Nat} {v : Value} {S lt : List Tk} (h : RngQ w b m r S lt) (hb : v.ownBlock ≠ some b) (hm : v.ownBlock ≠ some m) (hr : v.ownBlock ≠ some r) (hk : ∀ j, j < w.heap.size → v.ownBlock ≠ some j → w'.heap[j]? = w.heap[j]?) : RngQ w' b m r S lt := by
  have hl := h.lt
  obtain ⟨h1, L, ck, si, se, c0, h2, h3, h4, h5, h6, h7, h8⟩ := h
  have l1 := (Array.getElem?_eq_some_iff.1 h1).1
  have l2 := (Array.getElem?_eq_some_iff.1 h2).1
  exact ⟨(hk b l1 hb).trans h1, L, ck, si, se, c0, (hk m l2 hm).trans h2, h3, h4, h5, h6, (hk r hl hr).trans h7, h8⟩

set_option maxRecDepth 100000 in
set_option maxHeartbeats 8000000 in
theorem List_any (b m : Nat) (S : List Tk) (w : World) (hq : QAt w b m S) (hok : AllOk S) (hn : S.length ≤ 100000) :
    Calls Try.prog 29 #[.pointer (some ⟨b, 0, none⟩)] w fun e w' => ∃ u, e = .returned u ∧ ReadsT w' u (orderP S) ∧ Below w.heap.size w w' := by
  have HQ := Lib.hid hq
  have HOK := Lib.hid hok
  have HBL := Lib.hid (Array.getElem?_eq_some_iff.1 hq.1).1
  obtain ⟨L, ck, h2, hl⟩ := hq.len
  have c0 : w.cell? ⟨b, 0, none⟩ = some (.map (some m)) := cell_of_row w _ 0 _ _ _ hq.1
  unfold qObj at h2
  have hlen : (Builtin.len_ #[82] 3 #[.map (some m)]).run Try.prog w = .ok (.int .i64 S.length) w := by
    simp [Builtin.len_, run_underlying Try.underlying82, MapKept.run_getObj_map h2, Result.andThen, qents, hl, goInt]
  obtain ⟨i0, hi, hz0, hz1, hz2⟩ := info_parts infoE27
  clear hl h2 hq hok
  go_enter Try.func29, Try.ntmps29
  go_upto_region 2 with (refine wpList_make_own _ (by rfl) (.const (.int .i64 0)) (.tmp 10) 36 (by rfl) w.heap.size 27 i0 _ 7 Try.underlying36 hi hz0 hz1 .i64 .i64 _ S.length (by rfl) (by rfl) rfl (by rw [hz2]; omega) (by unfold maxLen; omega) (Nat.le_refl _) ?_; intro w1 ho1 hg1)
  have hb1 : Below w.heap.size w w1 := ⟨hg1.os, hg1.tape, hg1.output, hg1.size, fun k hk => hg1.block k hk (by simp)⟩
  have HQ1 := Lib.hid (HQ.out.below hb1)
  have HO1 := Lib.hid (made_own ho1)
  have c0 := bc hb1 c0
  have HB1 := Lib.hid hb1
  clear ho1 hg1 hb1 hlen hi hz0 hz1 hz2
  go_wp2_with (at_range; refine wpList_range_q _ (by rfl) (.tmp 15) (by rfl) b m S (by rfl) HQ1.out ?_; intro w2 lt0 hrg2 hp2 hb2 hs2)
  go_frame
  have HO2 := Lib.hid (HO1.out.below hb2)
  have HB2 := Lib.hid (HB1.out.trans (hb2.mono HB1.out.size))
  have HP2 := Lib.hid hp2
  obtain ⟨r, hr⟩ : ∃ r, r = w1.heap.size := ⟨_, rfl⟩
  have HR := Lib.hid hr
  rw [← hr] at hrg2 ⊢
  have HRG2 := Lib.hid hrg2
  clear hs2 hp2 hb2 hr hrg2
  have hrw : w.heap.size ≤ r := by rw [HR.out]; exact HB1.out.size
  go_loopw [3, 5] (fun v3 _ wr => ∃ us lt, RngQ wr b m r S lt ∧ (us ++ lt).Perm S ∧ Below w.heap.size w wr ∧ OwnT 27 wr w.heap.size v3 us) (fun _ _ wr => wr.rangeLeft m r)
  case atStart => exact ⟨[], lt0, HRG2.out, HP2.out, HB2.out, HO2.out⟩
  case round =>
    obtain ⟨us, lt, hrg, hp, hbel, ho⟩ := hrel
    have HO := Lib.hid ho
    have HRG := Lib.hid hrg
    have HP := Lib.hid hp
    have HBEL := Lib.hid hbel
    have HCA := Lib.hid (fun (u : Value) (W : World) (hu : ReadsT W u us) (h : us.Perm S) => order_any u us W hu (fun t ht => HOK.out t (h.mem_iff.1 ht)) (by have := h.length_eq; omega))
    clear ho hp hbel
    go_wp2_with (at_next; refine wpList_next_q _ (by rfl) (.tmp 16) (by rfl) b m r S lt (by rfl) hrg ?_ ?_)
    · intro hl0
      subst hl0
      have HP3 := HP.out
      rw [List.append_nil] at HP3
      have HC3 := Lib.hid (HCA.out u3 wr (HO.out.reads (by have := HP3.length_eq; omega)) HP3)
      have HP4 := Lib.hid (orderP_perm HP3 (fun t ht => HOK.out t (HP3.mem_iff.1 ht)))
      obtain ⟨a3, c3, rfl⟩ := HO.out.slice
      clear HP3
      go_wp2_with fail
      refine HC3.out.mono ?_
      rintro e w5 ⟨u, rfl, hu, hb5⟩
      have HU := Lib.hid hu
      rw [HP4.out] at HU
      have HB5 := Lib.hid (HBEL.out.trans (hb5.mono HBEL.out.size))
      clear hu hb5 HC3 HCA
      go_wp2
      go_ret
      exact ⟨_, rfl, HU.out, HB5.out⟩
    · intro t w3 lt3 hrg3 hp3 hg3 hs3 hen3
      have hne := HRG.out.own HO.out
      have hob := HO.out.lt
      have hnb : u3.ownBlock ≠ some b := fun e => by have := (hob _ e).1; have := HBL.out; omega
      have hB3 : Below w.heap.size w w3 := HBEL.out.trans (gb_to_below hg3 hrw HBEL.out.size)
      have hO3 : OwnT 27 w3 w.heap.size u3 us := Own.same HO.out fun g hg => hg3.block g (hob g hg).2 (fun e => hne.2 (by rw [hg, e]))
      have hlen : us.length ≤ 1000000 := by have := HP.out.length_eq; rw [List.length_append] at this; omega
      have hml : wr.rangeLeft m r = lt.length := hrg.left
      have hlt3 : lt.length = lt3.length + 1 := by have := hp3.length_eq; rw [List.length_cons] at this; exact this
      have HP6 := Lib.hid (show ((us ++ [t]) ++ lt3).Perm S by rw [List.append_assoc]; exact ((hp3.symm.append_left us)).trans HP.out)
      have HML := Lib.hid (show lt3.length < wr.rangeLeft m r by omega)
      obtain ⟨tst, tix, tsz, tsp, tnum, tden, tday⟩ := t
      have hA : Below w3.heap.size w3 (w3.alloc (.cells #[.string tst, .int .i64 tix, .int .i64 tsz, .int .i64 tsp, .int .i64 tnum, .int .i64 tden, .int .i64 tday] 27)) := sb0 _
      have hrow := heap_alloc_new w3 (.cells #[.string tst, .int .i64 tix, .int .i64 tsz, .int .i64 tsp, .int .i64 tnum, .int .i64 tden, .int .i64 tday] 27)
      obtain ⟨v6, w6, r6, o6, b6, k6⟩ := (hO3.below hA).app27 ⟨tst, tix, tsz, tsp, tnum, tden, tday⟩ hlen (Nat.le_trans hB3.size hA.size)
      simp only at r6
      have HRG6 := Lib.hid ((hrg3.below hA).same hnb hne.1 hne.2 k6)
      have HO6 := Lib.hid o6
      obtain ⟨a6, l6, c6, rfl⟩ := Own.slice o6
      have HB6 := Lib.hid ((hB3.trans (hA.mono hB3.size)).trans b6)
      simp only [World.size_alloc] at r6
      unfold Tk.v Tk.pc Pc.v at hen3
      unfold Tk.v Tk.pc Pc.v
      simp only at hen3 ⊢
      clear hne hob hnb hB3 hO3 hlen hml hlt3 hrow o6 b6 k6 hp3 hg3 hrg3 hrg hs3 hA HCA HP
      obtain ⟨a3, c3, rfl⟩ := HO.out.slice
      go_wp2_with (at_builtin; refine wpList_append_run (by rfl) (.tmp 21) (.tmp 23) 36 (by rfl) _ (.slice (some ⟨w3.heap.size + 1, 0, none⟩) 1 1) (.slice a6 l6 c6) w6 (by rfl) (by rfl) r6 ?_)
      go_roundw
      case rel => exact ⟨_, _, HRG6.out, HP6.out, HB6.out, HO6.out⟩
      case measure => rw [HRG6.out.left]; exact HML.out

end Go.Proofs.Ytcgilfnhbliadaa
