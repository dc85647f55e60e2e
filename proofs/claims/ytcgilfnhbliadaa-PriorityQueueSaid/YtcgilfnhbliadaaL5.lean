/- The law Takes: the plain part. -/
import Derived.Test.YtcgilfnhbliadaaT6
import Derived.Test.YtcgilfnhbliadaaL3
namespace Go.Proofs.Ytcgilfnhbliadaa
open Go.RowKit Go.Lib Go.ChangeMaps
set_option linter.unusedSimpArgs false

def putF (S : List Tk) (t : Tk) : List Tk := if TOk t then delS t.pc S ++ [t] else S
def putP (ts : List Tk) : List Tk := ts.foldl putF []
theorem putP_take {ts : List Tk} {i : Nat} (h : i < ts.length) : putP (ts.take (i + 1)) = putF (putP (ts.take i)) (ts.getD i default) := by
  rw [List.take_succ_eq_append_getElem h, getD_at _ _ _ h]
  unfold putP
  rw [List.foldl_append]
  rfl
theorem putF_ok {S : List Tk} (h : AllOk S) (t : Tk) : AllOk (putF S t) := by
  unfold putF
  split
  · rename_i ht
    intro u hu
    rcases List.mem_append.1 hu with hu | hu
    · exact h u (List.mem_filter.1 hu).1
    · rw [List.mem_singleton] at hu; rw [hu]; exact ht
  · exact h
theorem delS_len (a : Pc) (S : List Tk) : (delS a S).length ≤ S.length := List.length_filter_le _ _
theorem putF_len (S : List Tk) (t : Tk) : (putF S t).length ≤ S.length + 1 := by
  unfold putF
  split
  · rw [List.length_append]; have := delS_len t.pc S; simp; omega
  · omega
theorem putP_facts : ∀ (ts acc : List Tk), AllOk acc → AllOk (ts.foldl putF acc) ∧ (ts.foldl putF acc).length ≤ ts.length + acc.length
  | [], acc, h => ⟨h, by simp⟩
  | t :: r, acc, h => by
    obtain ⟨h1, h2⟩ := putP_facts r (putF acc t) (putF_ok h t)
    refine ⟨h1, ?_⟩
    have := putF_len acc t
    rw [List.length_cons]
    have h3 : (List.foldl putF acc (t :: r)).length = (List.foldl putF (putF acc t) r).length := rfl
    omega
theorem putP_ok (ts : List Tk) : AllOk (putP ts) := (putP_facts ts [] (fun _ h => absurd h List.not_mem_nil)).1
theorem putP_len (ts : List Tk) : (putP ts).length ≤ ts.length := by have := (putP_facts ts [] (fun _ h => absurd h List.not_mem_nil)).2; simpa [putP] using this

theorem QAt_new (w : World) : QAt ((w.alloc (.map #[] 0)).alloc (.cells #[.map (some w.heap.size)] 84)) (w.heap.size + 1) w.heap.size [] := by
  refine ⟨by have := heap_alloc_new (w.alloc (.map #[] 0)) (.cells #[.map (some w.heap.size)] 84); rw [World.size_alloc] at this; exact this, [], 0, bb (sb0 _) (heap_alloc_new w _), List.nodup_nil, List.nodup_nil, fun p hp => absurd hp List.not_mem_nil, List.Perm.refl _⟩
theorem cell_block {w : World} {b o : Nat} {x : Value} (h : w.cell? ⟨b, o, none⟩ = some x) : ∃ cs t f, w.heap[b]? = some (.cells cs t f) := by
  unfold World.cell? at h
  split at h
  all_goals first | exact ⟨_, _, _, by assumption⟩ | simp at h
theorem ReadsT.grown {w w' : World} {m ck : Nat} {v : Value} {ts : List Tk} {es : Array MapEntry} (h : ReadsT w v ts) (hm : w.heap[m]? = some (.map es ck)) (hg : w.grownBy w' (some m)) : ReadsT w' v ts := by
  obtain ⟨ao, c, e, h1, h2, h3⟩ := h
  refine ⟨ao, c, e, h1, h2, fun hn => ?_⟩
  obtain ⟨b, off, e2, h4⟩ := h3 hn
  refine ⟨b, off, e2, fun i j hi hj => ?_⟩
  have hc := h4 i j hi hj
  obtain ⟨cs, t, f, hb⟩ := cell_block hc
  have hne : b ≠ m := fun e => by rw [e, hm] at hb; cases hb
  have := hg.block b (Array.getElem?_eq_some_iff.1 hb).1 (fun e => hne (Option.some.inj e))
  rw [← hc]
  unfold World.cell?
  rw [this]
theorem ReadsT.gq {w w' : World} {b m : Nat} {v : Value} {ts S : List Tk} (h : ReadsT w v ts) (hq : QAt w b m S) (hg : w.grownBy w' (some m)) : ReadsT w' v ts := by
  obtain ⟨_, L, ck, h2, _⟩ := hq
  exact h.grown h2 hg
theorem best_cons {S r : List Tk} {x f : Tk} (hp : S.Perm (x :: r)) (hs : Srt (x :: r)) (hok : AllOk (x :: r)) (hb : BestP S 1048576 (some f)) : f = x := by
  obtain ⟨h1, h2, h3⟩ := hb
  rcases List.mem_cons.1 (hp.mem_iff.1 h1) with h | h
  · exact h
  · exact absurd ((List.pairwise_cons.1 hs).1 f h) (h3 x (hp.mem_iff.2 List.mem_cons_self) (hok x List.mem_cons_self).2.2.1.2)
theorem best_none {S r : List Tk} {x : Tk} (hp : S.Perm (x :: r)) (hok : AllOk (x :: r)) (hb : BestP S 1048576 none) : False :=
  hb x (hp.mem_iff.2 List.mem_cons_self) (hok x List.mem_cons_self).2.2.1.2
theorem del_cons {r : List Tk} {x : Tk} (hn : ((x :: r).map Tk.pc).Nodup) : delS x.pc (x :: r) = r := by
  obtain ⟨h1, _⟩ := List.nodup_cons.1 (by simpa using hn : (x.pc :: r.map Tk.pc).Nodup)
  unfold delS
  rw [List.filter_cons_of_neg (by simp)]
  refine List.filter_eq_self.2 fun t ht => ?_
  simp only [decide_eq_true_eq]
  exact fun e => h1 (List.mem_map.2 ⟨t, ht, e⟩)
theorem nodup_of_map {α β : Type} {f : α → β} : ∀ {l : List α}, (l.map f).Nodup → l.Nodup
  | [], _ => List.nodup_nil
  | x :: r, h => by
    obtain ⟨h1, h2⟩ := List.nodup_cons.1 (by simpa using h : (f x :: r.map f).Nodup)
    exact List.nodup_cons.2 ⟨fun hx => h1 (List.mem_map.2 ⟨x, hx, rfl⟩), nodup_of_map h2⟩
theorem srt_nodup {l : List Tk} (h : Srt l) : l.Nodup := List.Pairwise.imp (fun {a b} hab e => by rw [e, cmpT_cm.self] at hab; omega) h
theorem order_perm {S : List Tk} (hn : (S.map Tk.pc).Nodup) (hok : AllOk S) : (orderP S).Perm S :=
  (List.perm_ext_iff_of_nodup (srt_nodup (orderP_srt hok)) (nodup_of_map hn)).2 fun t => orderP_mem hok t

end Go.Proofs.Ytcgilfnhbliadaa
