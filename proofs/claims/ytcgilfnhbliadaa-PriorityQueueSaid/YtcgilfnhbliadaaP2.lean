/- The order of a list of tasks: plain laws, no program in sight. -/
import Derived.Test.YtcgilfnhbliadaaP1
namespace Go.Proofs.Ytcgilfnhbliadaa
open Go

theorem cmpT_trans {a b c : Tk} (ha : TOk a) (hb : TOk b) (hc : TOk c) (h1 : cmpT a b < 0) (h2 : cmpT b c < 0) : cmpT a c < 0 := by
  rcases (total_plain ha hb hc).2.2.2 with h | h | h | ⟨_, h, _⟩ <;> omega
theorem cmpT_asym {a b : Tk} (ha : TOk a) (hb : TOk b) (h1 : cmpT a b < 0) : ¬ cmpT b a < 0 := by
  have := (total_plain ha hb ha).1
  omega
theorem cmpT_gt {a b : Tk} (ha : TOk a) (hb : TOk b) (h1 : ¬ cmpT a b < 0) (h2 : a ≠ b) : cmpT b a < 0 := by
  have h3 := (total_plain ha hb ha).1
  have h4 : cmpT a b ≠ 0 := fun e => h2 (cmpT_eq ha hb e)
  omega
def Srt (l : List Tk) : Prop := l.Pairwise fun x y => cmpT x y < 0
def AllOk (l : List Tk) : Prop := ∀ t ∈ l, TOk t
instance (l : List Tk) : Decidable (AllOk l) := inferInstanceAs (Decidable (∀ t ∈ l, TOk t))

theorem srt_ext : ∀ {l m : List Tk}, Srt l → Srt m → AllOk l → AllOk m → (∀ t, t ∈ l ↔ t ∈ m) → l = m
  | [], [], _, _, _, _, _ => rfl
  | [], y :: s, _, _, _, _, h => absurd ((h y).2 (List.mem_cons_self ..)) List.not_mem_nil
  | x :: r, [], _, _, _, _, h => absurd ((h x).1 (List.mem_cons_self ..)) List.not_mem_nil
  | x :: r, y :: s, hl, hm, kl, km, h => by
    obtain ⟨l1, l2⟩ := List.pairwise_cons.1 hl
    obtain ⟨m1, m2⟩ := List.pairwise_cons.1 hm
    have kx := kl x (List.mem_cons_self ..)
    have ky := km y (List.mem_cons_self ..)
    have e : x = y := by
      rcases List.mem_cons.1 ((h x).1 (List.mem_cons_self ..)) with e | hx
      · exact e
      · rcases List.mem_cons.1 ((h y).2 (List.mem_cons_self ..)) with e | hy
        · exact e.symm
        · exact absurd (l1 y hy) (cmpT_asym ky kx (m1 x hx))
    subst e
    have irr : ¬ cmpT x x < 0 := by rw [cmpT_cm.self x]; omega
    rw [srt_ext (l := r) (m := s) l2 m2 (fun t ht => kl t (List.mem_cons_of_mem _ ht)) (fun t ht => km t (List.mem_cons_of_mem _ ht)) (fun t => ⟨fun ht => by
      rcases List.mem_cons.1 ((h t).1 (List.mem_cons_of_mem _ ht)) with e | ht'
      · subst e; exact absurd (l1 _ ht) irr
      · exact ht', fun ht => by
      rcases List.mem_cons.1 ((h t).2 (List.mem_cons_of_mem _ ht)) with e | ht'
      · subst e; exact absurd (m1 _ ht) irr
      · exact ht'⟩)]

/-- One task into its place. -/
def insP : List Tk → Tk → List Tk
  | [], t => [t]
  | x :: r, t => if cmpT x t < 0 then x :: insP r t else if cmpT x t = 0 then x :: r else t :: x :: r
theorem insP_mem {t : Tk} (ht : TOk t) : ∀ {l : List Tk}, AllOk l → ∀ u, u ∈ insP l t ↔ u = t ∨ u ∈ l
  | [], _, u => by simp [insP]
  | x :: r, h, u => by
    have hx := h x (List.mem_cons_self ..)
    unfold insP
    split
    · rw [List.mem_cons, insP_mem ht (fun y hy => h y (List.mem_cons_of_mem _ hy)), List.mem_cons]
      constructor
      · rintro (h | h | h) <;> simp [h]
      · rintro (h | h | h) <;> simp [h]
    · split
      · rename_i h2
        have e := cmpT_eq hx ht h2
        subst e
        simp
      · simp
theorem insP_ok {t : Tk} (ht : TOk t) {l : List Tk} (h : AllOk l) : AllOk (insP l t) := fun u hu => by
  rcases (insP_mem ht h u).1 hu with e | e
  · subst e; exact ht
  · exact h u e
theorem insP_srt {t : Tk} (ht : TOk t) : ∀ {l : List Tk}, AllOk l → Srt l → Srt (insP l t)
  | [], _, _ => by simp [insP, Srt]
  | x :: r, h, hs => by
    obtain ⟨l1, l2⟩ := List.pairwise_cons.1 hs
    have hx := h x (List.mem_cons_self ..)
    have hr : AllOk r := fun y hy => h y (List.mem_cons_of_mem _ hy)
    unfold insP
    split
    · rename_i h1
      refine List.pairwise_cons.2 ⟨fun y hy => ?_, insP_srt ht hr l2⟩
      rcases (insP_mem ht hr y).1 hy with e | e
      · subst e; exact h1
      · exact l1 y e
    · split
      · exact hs
      · rename_i h1 h2
        have h3 : cmpT t x < 0 := by have := cmpT_cm.neg t x ht hx; omega
        refine List.pairwise_cons.2 ⟨fun y hy => ?_, hs⟩
        rcases List.mem_cons.1 hy with e | e
        · subst e; exact h3
        · exact cmpT_trans ht hx (hr y e) h3 (l1 y e)
theorem insP_len (t : Tk) : ∀ l : List Tk, (insP l t).length ≤ l.length + 1
  | [] => by simp [insP]
  | x :: r => by
    have := insP_len t r
    unfold insP
    split
    · simp; omega
    · split <;> simp
/-- How the reference puts a task into its place: k tasks lie before it. -/
theorem insP_at (t : Tk) : ∀ (l : List Tk) (k : Nat), k ≤ l.length → (∀ i, i < k → cmpT (l.getD i default) t < 0) → insP l t = l.take k ++ insP (l.drop k) t
  | l, 0, _, _ => by simp
  | [], k + 1, h, _ => by simp at h
  | x :: r, k + 1, h, hk => by
    have h0 := hk 0 (by omega)
    simp only [List.getD_cons_zero] at h0
    have ih := insP_at t r k (by simpa using h) (fun i hi => by have := hk (i + 1) (by omega); simpa using this)
    rw [insP, if_pos h0, ih]
    rfl
/-- The tasks of a list in their order, as the reference finds them. -/
def orderP (ts : List Tk) : List Tk := ts.foldl insP []
theorem orderP_snoc (ts : List Tk) (t : Tk) : orderP (ts ++ [t]) = insP (orderP ts) t := by unfold orderP; rw [List.foldl_append]; rfl
theorem orderP_facts : ∀ (ts acc : List Tk), AllOk ts → AllOk acc → Srt acc → AllOk (ts.foldl insP acc) ∧ Srt (ts.foldl insP acc) ∧ (∀ t, t ∈ ts.foldl insP acc ↔ t ∈ ts ∨ t ∈ acc) ∧ (ts.foldl insP acc).length ≤ ts.length + acc.length
  | [], acc, _, h2, h3 => ⟨h2, h3, fun t => by simp, by simp⟩
  | x :: r, acc, h1, h2, h3 => by
    have hx := h1 x (List.mem_cons_self ..)
    obtain ⟨a, b, c, d⟩ := orderP_facts r (insP acc x) (fun y hy => h1 y (List.mem_cons_of_mem _ hy)) (insP_ok hx h2) (insP_srt hx h2 h3)
    refine ⟨a, b, fun t => ?_, ?_⟩
    · rw [List.foldl_cons, c, insP_mem hx h2, List.mem_cons]
      constructor
      · rintro (h | h | h) <;> simp [h]
      · rintro ((h | h) | h) <;> simp [h]
    · have := insP_len x acc
      rw [List.foldl_cons, List.length_cons]
      omega
theorem orderP_ok {ts : List Tk} (h : AllOk ts) : AllOk (orderP ts) := (orderP_facts ts [] h (fun _ h => absurd h List.not_mem_nil) List.Pairwise.nil).1
theorem orderP_srt {ts : List Tk} (h : AllOk ts) : Srt (orderP ts) := (orderP_facts ts [] h (fun _ h => absurd h List.not_mem_nil) List.Pairwise.nil).2.1
theorem orderP_mem {ts : List Tk} (h : AllOk ts) (t : Tk) : t ∈ orderP ts ↔ t ∈ ts := by
  have := (orderP_facts ts [] h (fun _ h => absurd h List.not_mem_nil) List.Pairwise.nil).2.2.1 t
  simpa [orderP] using this
theorem orderP_len {ts : List Tk} (h : AllOk ts) : (orderP ts).length ≤ ts.length := by
  have := (orderP_facts ts [] h (fun _ h => absurd h List.not_mem_nil) List.Pairwise.nil).2.2.2
  simpa [orderP] using this
theorem orderP_eq {ts l : List Tk} (h : AllOk ts) (hs : Srt l) (hm : ∀ t, t ∈ l ↔ t ∈ ts) : l = orderP ts :=
  srt_ext hs (orderP_srt h) (fun t ht => h t ((hm t).1 ht)) (orderP_ok h) fun t => (hm t).trans (orderP_mem h t).symm
theorem orderP_self {l : List Tk} (h : AllOk l) (hs : Srt l) : orderP l = l := (orderP_eq h hs fun _ => Iff.rfl).symm

/-- Equal neighbours once. -/
def dedT : List Tk → List Tk
  | [] => []
  | [x] => [x]
  | x :: y :: r => if x = y then dedT (y :: r) else x :: dedT (y :: r)
theorem dedT_mem (t : Tk) : ∀ l : List Tk, t ∈ dedT l ↔ t ∈ l
  | [] => by simp [dedT]
  | [x] => by simp [dedT]
  | x :: y :: r => by
    have ih := dedT_mem t (y :: r)
    unfold dedT
    split
    · rename_i e
      subst e
      rw [ih]
      simp
    · rw [List.mem_cons, ih]
      simp
theorem dedT_srt : ∀ l : List Tk, AllOk l → l.Pairwise (fun x y => ¬ cmpT y x < 0) → Srt (dedT l)
  | [], _, _ => by simp [dedT, Srt]
  | [x], _, _ => by simp [dedT, Srt]
  | x :: y :: r, h, hs => by
    obtain ⟨h1, h2⟩ := List.pairwise_cons.1 hs
    have hok : AllOk (y :: r) := fun t ht => h t (List.mem_cons_of_mem _ ht)
    have ih := dedT_srt (y :: r) hok h2
    have hx := h x (List.mem_cons_self ..)
    have hy := hok y (List.mem_cons_self ..)
    unfold dedT
    split
    · exact ih
    · rename_i hne
      refine List.pairwise_cons.2 ⟨fun t ht => ?_, ih⟩
      have hxy : cmpT x y < 0 := cmpT_gt hy hx (h1 y (List.mem_cons_self ..)) (fun e => hne e.symm)
      rcases List.mem_cons.1 ((dedT_mem t _).1 ht) with e | hr
      · subst e; exact hxy
      · have hty := (List.pairwise_cons.1 h2).1 t hr
        have ht' := hok t (List.mem_cons_of_mem _ hr)
        by_cases e : t = y
        · subst e; exact hxy
        · exact cmpT_trans hx hy ht' hxy (cmpT_gt ht' hy hty e)
/-- Sorted, equal ones once: the reference's order. -/
theorem ded_order {ts l : List Tk} (h : AllOk ts) (hp : l.Perm ts) (hs : l.Pairwise (fun x y => ¬ cmpT y x < 0)) : dedT l = orderP ts :=
  orderP_eq h (dedT_srt l (fun t ht => h t (hp.mem_iff.1 ht)) hs) fun t => (dedT_mem t l).trans hp.mem_iff

/-- What is taken from a budget: the tasks, and what they cost. -/
def cutP : List Tk → Int → List Tk
  | [], _ => []
  | x :: r, b => if x.size ≤ b then x :: cutP r (b - x.size) else cutP r b
def sumP (l : List Tk) : Int := (l.map Tk.size).sum
theorem sumP_snoc (l : List Tk) (t : Tk) : sumP (l ++ [t]) = sumP l + t.size := by simp [sumP]
/-- One task more. -/
theorem cutP_snoc (t : Tk) : ∀ (l : List Tk) (b : Int), cutP (l ++ [t]) b = cutP l b ++ if t.size ≤ b - sumP (cutP l b) then [t] else []
  | [], b => by simp [cutP, sumP]
  | x :: r, b => by
    rw [List.cons_append, cutP, cutP]
    split
    · rw [cutP_snoc t r, List.cons_append]
      have e : sumP (x :: cutP r (b - x.size)) = x.size + sumP (cutP r (b - x.size)) := by simp [sumP]
      rw [e]
      by_cases h : t.size ≤ b - x.size - sumP (cutP r (b - x.size))
      · rw [if_pos h, if_pos (by omega)]
      · rw [if_neg h, if_neg (by omega)]
    · exact cutP_snoc t r b
theorem cutP_len : ∀ (l : List Tk) (b : Int), (cutP l b).length ≤ l.length
  | [], _ => by simp [cutP]
  | x :: r, b => by
    unfold cutP
    split
    · have := cutP_len r (b - x.size); simp; omega
    · have := cutP_len r b; simp; omega
theorem cutP_sub : ∀ (l : List Tk) (b : Int), (cutP l b).Sublist l
  | [], _ => by simp [cutP]
  | x :: r, b => by
    unfold cutP
    split
    · exact (cutP_sub r _).cons_cons x
    · exact (cutP_sub r _).cons x
theorem sumP_nonneg : ∀ {l : List Tk}, AllOk l → 0 ≤ sumP l
  | [], _ => by simp [sumP]
  | x :: r, h => by
    have h1 := (h x (List.mem_cons_self ..)).2.2.1
    have h2 := sumP_nonneg (l := r) (fun t ht => h t (List.mem_cons_of_mem _ ht))
    simp only [sumP, List.map_cons, List.sum_cons] at *
    omega
theorem cutP_sum : ∀ {l : List Tk} {b : Int}, AllOk l → 0 ≤ b → sumP (cutP l b) ≤ b
  | [], b, _, h => by simpa [cutP, sumP] using h
  | x :: r, b, h, hb => by
    have hr : AllOk r := fun t ht => h t (List.mem_cons_of_mem _ ht)
    unfold cutP
    split
    · rename_i h1
      have := cutP_sum (l := r) (b := b - x.size) hr (by omega)
      simp only [sumP, List.map_cons, List.sum_cons] at *
      omega
    · exact cutP_sum hr hb
/-- No task that fits into what is left was passed over. -/
theorem cutP_passed {t : Tk} : ∀ {l : List Tk} {b : Int}, AllOk l → t ∈ l → t ∉ cutP l b → b - sumP (cutP l b) < t.size
  | [], _, _, h, _ => absurd h List.not_mem_nil
  | x :: r, b, h, hm, hn => by
    have hr : AllOk r := fun t ht => h t (List.mem_cons_of_mem _ ht)
    unfold cutP at hn ⊢
    split at hn
    · rename_i h1
      rw [if_pos h1]
      rw [List.mem_cons, not_or] at hn
      have hm' : t ∈ r := by
        rcases List.mem_cons.1 hm with e | e
        · exact absurd e hn.1
        · exact e
      have := cutP_passed (b := b - x.size) hr hm' hn.2
      simp only [sumP, List.map_cons, List.sum_cons] at *
      omega
    · rename_i h1
      rw [if_neg h1]
      rcases List.mem_cons.1 hm with e | e
      · subst e
        have h2 := sumP_nonneg (l := cutP r b) (fun u hu => hr u ((cutP_sub r b).subset hu))
        omega
      · exact cutP_passed hr e hn

/-- Both sides in order: which side, which task. -/
def mrgP : List Tk → List Tk → List (Int × Tk)
  | [], [] => []
  | [], y :: s => (1, y) :: mrgP [] s
  | x :: r, [] => (0, x) :: mrgP r []
  | x :: r, y :: s => if cmpT y x < 0 then (1, y) :: mrgP (x :: r) s else (0, x) :: mrgP r (y :: s)
termination_by a b => a.length + b.length
/-- What is taken of them. -/
def takP : List (Int × Tk) → Int → List (Int × Tk)
  | [], _ => []
  | x :: r, b => if x.2.size ≤ b then x :: takP r (b - x.2.size) else takP r b
theorem mrgP_left : ∀ l : List Tk, mrgP l [] = l.map fun t => (0, t)
  | [] => by rw [mrgP]; rfl
  | x :: r => by rw [mrgP, mrgP_left r]; rfl
theorem mrgP_right : ∀ l : List Tk, mrgP [] l = l.map fun t => (1, t)
  | [] => by rw [mrgP]; rfl
  | x :: r => by rw [mrgP, mrgP_right r]; rfl
theorem takP_map (s : Int) : ∀ (l : List Tk) (b : Int), takP (l.map fun t => (s, t)) b = (cutP l b).map fun t => (s, t)
  | [], b => rfl
  | x :: r, b => by
    rw [List.map_cons, takP, cutP]
    split
    · rw [takP_map s r, List.map_cons]
    · exact takP_map s r b
theorem mrgP_len : ∀ a b : List Tk, (mrgP a b).length = a.length + b.length
  | [], [] => by rw [mrgP]; rfl
  | [], y :: s => by rw [mrgP, List.length_cons, mrgP_len [] s]; simp
  | x :: r, [] => by rw [mrgP, List.length_cons, mrgP_len r []]; simp
  | x :: r, y :: s => by
    rw [mrgP]
    split
    · rw [List.length_cons, mrgP_len (x :: r) s]; simp; omega
    · rw [List.length_cons, mrgP_len r (y :: s)]; simp; omega
termination_by a b => a.length + b.length
theorem takP_len : ∀ (l : List (Int × Tk)) (b : Int), (takP l b).length ≤ l.length
  | [], _ => by simp [takP]
  | x :: r, b => by
    unfold takP
    split
    · have := takP_len r (b - x.2.size); simp; omega
    · have := takP_len r b; simp; omega

end Go.Proofs.Ytcgilfnhbliadaa
