/- Merging: lists alone: all things of rising lists, of alike ones the first alone. -/
import Derived.Test.YtldiginkmmlojaaMeD
namespace Go.Proofs.Ytldiginkmmlojaa
set_option linter.unusedVariables false

def RiseT (l : List Int) : Prop := l.Pairwise (fun a b => a / 10 ≤ b / 10)
def StrictT (l : List Int) : Prop := l.Pairwise (fun a b => a / 10 < b / 10)
def keyT (t a : Int) : Bool := a / 10 == t
def insT (n : Int) : List Int → List Int
  | [] => [n]
  | y :: t => if n / 10 < y / 10 then n :: y :: t else y :: insT n t
def putT (l : List Int) (n : Int) : List Int := if l.any (fun y => y / 10 == n / 10) then l else insT n l

theorem ins_mem (n a : Int) : ∀ l, a ∈ insT n l ↔ a = n ∨ a ∈ l
  | [] => by simp [insT]
  | y :: t => by
    unfold insT
    split
    · simp
    · rw [List.mem_cons, ins_mem n a t, List.mem_cons]
      exact ⟨fun h => h.elim (fun h => .inr (.inl h)) (fun h => h.imp id .inr), fun h => h.elim (fun h => .inr (.inl h)) (fun h => h.imp id .inr)⟩
theorem ins_strict (n : Int) : ∀ l, StrictT l → (∀ b ∈ l, b / 10 ≠ n / 10) → StrictT (insT n l)
  | [], _, _ => List.pairwise_singleton _ _
  | y :: t, h, hn => by
    have h1 := List.pairwise_cons.1 h
    unfold insT
    split
    next hlt =>
      refine List.pairwise_cons.2 ⟨fun b hb => ?_, h⟩
      rcases List.mem_cons.1 hb with rfl | hb
      · exact hlt
      · have := h1.1 b hb; omega
    next hge =>
      refine List.pairwise_cons.2 ⟨fun b hb => ?_, ins_strict n t h1.2 fun b hb => hn b (List.mem_cons_of_mem _ hb)⟩
      rcases (ins_mem n b t).1 hb with rfl | hb
      · have := hn y (List.mem_cons_self ..); omega
      · exact h1.1 b hb
theorem put_strict {l : List Int} (n : Int) (h : StrictT l) : StrictT (putT l n) := by
  unfold putT
  split
  · exact h
  next hn =>
    refine ins_strict n l h fun b hb he => hn (List.any_eq_true.2 ⟨b, hb, ?_⟩)
    simpa using he
theorem put_mem (l : List Int) (n a : Int) : a ∈ putT l n ↔ a ∈ l ∨ (a = n ∧ ∀ b ∈ l, b / 10 ≠ n / 10) := by
  unfold putT
  split
  next hn =>
    obtain ⟨b, hb, he⟩ := List.any_eq_true.1 hn
    refine ⟨.inl, fun h => h.elim id fun h => absurd ?_ (h.2 b hb)⟩
    simpa using he
  next hn =>
    rw [ins_mem]
    refine ⟨fun h => h.elim (fun h => .inr ⟨h, fun b hb he => hn (List.any_eq_true.2 ⟨b, hb, ?_⟩)⟩) .inl, fun h => h.elim .inr fun h => .inl h.1⟩
    simpa using he
theorem fold_law : ∀ (q l p : List Int), StrictT l → (∀ a, a ∈ l ↔ p.find? (keyT (a / 10)) = some a) →
    StrictT (q.foldl putT l) ∧ ∀ a, a ∈ q.foldl putT l ↔ (p ++ q).find? (keyT (a / 10)) = some a
  | [], l, p, h1, h2 => ⟨h1, fun a => by rw [List.append_nil]; exact h2 a⟩
  | n :: q, l, p, h1, h2 => by
    have h := fold_law q (putT l n) (p ++ [n]) (put_strict n h1) fun a => by
      rw [put_mem, List.find?_append]
      cases hf : p.find? (keyT (a / 10)) with
      | some b =>
        have hk : b / 10 = a / 10 := by have := List.find?_some hf; simpa [keyT] using this
        have hb : b ∈ l := (h2 b).2 (by rw [hk]; exact hf)
        rw [h2 a, hf, Option.some_or]
        refine ⟨fun h => h.elim id fun h => absurd ?_ (h.2 b hb), .inl⟩
        rw [hk, h.1]
      | none =>
        rw [h2 a, hf, Option.none_or, List.find?_cons, List.find?_nil]
        constructor
        · rintro (h | ⟨rfl, h⟩)
          · cases h
          · simp [keyT]
        · intro h
          have e : n = a := by
            revert h
            cases keyT (a / 10) n <;> simp
          refine .inr ⟨e.symm, fun b hb he => ?_⟩
          have := (h2 b).1 hb
          rw [he, e, hf] at this
          cases this
    rw [List.append_assoc] at h
    exact h
theorem strict_one : ∀ xs ys : List Int, StrictT xs → StrictT ys → (∀ a, a ∈ xs ↔ a ∈ ys) → xs = ys
  | [], ys, _, _, h => by
    cases ys with
    | nil => rfl
    | cons y t => exact absurd ((h y).2 (List.mem_cons_self ..)) (List.not_mem_nil)
  | x :: xs, [], _, _, h => absurd ((h x).1 (List.mem_cons_self ..)) (List.not_mem_nil)
  | x :: xs, y :: ys, h1, h2, h => by
    have g1 := List.pairwise_cons.1 h1
    have g2 := List.pairwise_cons.1 h2
    have e : x = y := by
      rcases List.mem_cons.1 ((h x).1 (List.mem_cons_self ..)) with e | hx
      · exact e
      · rcases List.mem_cons.1 ((h y).2 (List.mem_cons_self ..)) with e | hy
        · exact e.symm
        · have := g1.1 y hy
          have := g2.1 x hx
          omega
    subst e
    rw [strict_one xs ys g1.2 g2.2 fun a => ⟨fun ha => (List.mem_cons.1 ((h a).1 (List.mem_cons_of_mem _ ha))).resolve_left fun e => by have := g1.1 a ha; rw [e] at this; omega, fun ha => (List.mem_cons.1 ((h a).2 (List.mem_cons_of_mem _ ha))).resolve_left fun e => by have := g2.1 a ha; rw [e] at this; omega⟩]
theorem best_none (S : List (List Int)) : ∀ n, bestF cT S n = none → ∀ j, j < n → S.getD j [] = []
  | 0, _, j, hj => absurd hj (Nat.not_lt_zero _)
  | n + 1, h, j, hj => by
    cases hg : S.getD n [] with
    | nil =>
      rw [bestF_none hg] at h
      rcases Nat.lt_succ_iff_lt_or_eq.1 hj with hj | rfl
      · exact best_none S n h j hj
      · exact hg
    | cons y t =>
      cases hb : bestF cT S n with
      | none => rw [bestF_first hg hb] at h; cases h
      | some p => obtain ⟨k, z⟩ := p; rw [bestF_some hg hb] at h; split at h <;> cases h
theorem best_min (S : List (List Int)) : ∀ n i x, bestF cT S n = some (i, x) → ∀ j, j < n → ∀ y t, S.getD j [] = y :: t → x / 10 ≤ y / 10 ∧ (j < i → x / 10 < y / 10)
  | 0, i, x, h, j, hj, y, t, hy => absurd hj (Nat.not_lt_zero _)
  | n + 1, i, x, h, j, hj, y, t, hy => by
    cases hg : S.getD n [] with
    | nil =>
      rw [bestF_none hg] at h
      rcases Nat.lt_succ_iff_lt_or_eq.1 hj with hj | rfl
      · exact best_min S n i x h j hj y t hy
      · rw [hg] at hy; cases hy
    | cons y0 t0 =>
      cases hb : bestF cT S n with
      | none =>
        rw [bestF_first hg hb] at h
        rcases Nat.lt_succ_iff_lt_or_eq.1 hj with hj | rfl
        · rw [best_none S n hb j hj] at hy; cases hy
        · rw [hg] at hy
          injection hy with e1 _
          injection h with h
          injection h with e2 e3
          subst e1 e2 e3
          exact ⟨Int.le_refl _, fun h => absurd h (Nat.lt_irrefl _)⟩
      | some p =>
        obtain ⟨k, z⟩ := p
        have hk := (bestF_at hb).1
        have IH := best_min S n k z hb
        rw [bestF_some hg hb] at h
        unfold cT at h
        split at h
        next hc =>
          injection h with h
          injection h with e2 e3
          subst e2 e3
          rcases Nat.lt_succ_iff_lt_or_eq.1 hj with hj | rfl
          · have := (IH j hj y t hy).1
            exact ⟨by omega, fun _ => by omega⟩
          · rw [hg] at hy
            injection hy with e1 _
            subst e1
            exact ⟨Int.le_refl _, fun h => absurd h (Nat.lt_irrefl _)⟩
        next hc =>
          injection h with h
          injection h with e2 e3
          subst e2 e3
          rcases Nat.lt_succ_iff_lt_or_eq.1 hj with hj | rfl
          · exact IH j hj y t hy
          · rw [hg] at hy
            injection hy with e1 _
            subst e1
            exact ⟨by omega, fun h => by omega⟩
theorem drop_find (t x : Int) (ht : t ≠ x / 10) : ∀ l : List Int, (l.dropWhile (fun y => cT y x == 0)).find? (keyT t) = l.find? (keyT t)
  | [] => rfl
  | y :: l => by
    rw [List.dropWhile_cons]
    split
    next h =>
      rw [drop_find t x ht l, List.find?_cons_of_neg]
      have h1 : cT y x = 0 := by simpa using h
      unfold cT at h1
      unfold keyT
      simp
      omega
    · rfl
theorem drop_gt (x : Int) : ∀ l : List Int, RiseT l → (∀ a ∈ l, x / 10 ≤ a / 10) → ∀ a ∈ l.dropWhile (fun y => cT y x == 0), x / 10 < a / 10
  | [], _, _, a, h => absurd h (List.not_mem_nil)
  | y :: l, h1, h2, a, ha => by
    have g := List.pairwise_cons.1 h1
    rw [List.dropWhile_cons] at ha
    split at ha
    · exact drop_gt x l g.2 (fun b hb => h2 b (List.mem_cons_of_mem _ hb)) a ha
    next hc =>
      have h3 := h2 y (List.mem_cons_self ..)
      have h4 : ¬ cT y x = 0 := by simpa using hc
      unfold cT at h4
      rcases List.mem_cons.1 ha with rfl | ha
      · omega
      · have := g.1 a ha; omega
theorem map_find (t x : Int) (ht : t ≠ x / 10) : ∀ S : List (List Int), (S.map (fun l => l.dropWhile (fun y => cT y x == 0))).flatten.find? (keyT t) = S.flatten.find? (keyT t)
  | [] => rfl
  | l :: S => by
    rw [List.map_cons, List.flatten_cons, List.flatten_cons, List.find?_append, List.find?_append, drop_find t x ht, map_find t x ht S]
theorem allF_law : ∀ (f : Nat) (S : List (List Int)), (∀ l ∈ S, RiseT l) → totF S ≤ f →
    StrictT (allF cT f S) ∧ ∀ a, a ∈ allF cT f S ↔ S.flatten.find? (keyT (a / 10)) = some a := by
  intro f
  induction f with
  | zero =>
    intro S hS hf
    refine ⟨List.Pairwise.nil, fun a => ⟨fun h => absurd h (List.not_mem_nil), fun h => ?_⟩⟩
    have h1 := List.mem_of_find?_eq_some h
    have h2 : S.flatten = [] := List.eq_nil_of_length_eq_zero (by rw [List.length_flatten]; unfold totF at hf; omega)
    rw [h2] at h1
    cases h1
  | succ f IH =>
    intro S hS hf
    cases hb : bestF cT S S.length with
    | none =>
      rw [allF_none hb]
      refine ⟨List.Pairwise.nil, fun a => ⟨fun h => absurd h (List.not_mem_nil), fun h => ?_⟩⟩
      obtain ⟨l, hl, ha⟩ := List.mem_flatten.1 (List.mem_of_find?_eq_some h)
      obtain ⟨j, hj, rfl⟩ := List.getElem_of_mem hl
      have := best_none S _ hb j hj
      rw [List.getD_eq_getElem?_getD, List.getElem?_eq_getElem hj] at this
      rw [show S[j] = [] from this] at ha
      cases ha
    | some p =>
      obtain ⟨i, x⟩ := p
      rw [allF_some hb]
      obtain ⟨hi, t9, ht9⟩ := bestF_at hb
      have hmin := best_min S _ i x hb
      have hall : ∀ j, j < S.length → ∀ a ∈ S.getD j [], x / 10 ≤ a / 10 ∧ (j < i → x / 10 < a / 10) := fun j hj a ha => by
        cases hg : S.getD j [] with
        | nil => rw [hg] at ha; cases ha
        | cons y t =>
          have h1 := hmin j hj y t hg
          rw [hg] at ha
          have h2 : RiseT (y :: t) := hg ▸ hS _ (List.mem_of_getElem? (show S[j]? = some (S.getD j []) by rw [List.getD_eq_getElem?_getD, List.getElem?_eq_getElem hj]; rfl))
          rcases List.mem_cons.1 ha with rfl | ha
          · exact h1
          · have := (List.pairwise_cons.1 h2).1 a ha
            exact ⟨by omega, fun h => by have := h1.2 h; omega⟩
      have hge : ∀ l ∈ S, ∀ a ∈ l, x / 10 ≤ a / 10 := fun l hl a ha => by
        obtain ⟨j, hj, rfl⟩ := List.getElem_of_mem hl
        refine (hall j hj a ?_).1
        rw [List.getD_eq_getElem?_getD, List.getElem?_eq_getElem hj]
        exact ha
      have hfx : S.flatten.find? (keyT (x / 10)) = some x := by
        have e : S = S.take i ++ (x :: t9) :: S.drop (i + 1) := by
          rw [← ht9, List.getD_eq_getElem?_getD, List.getElem?_eq_getElem hi]
          show S = S.take i ++ S[i] :: S.drop (i + 1)
          rw [← List.drop_eq_getElem_cons hi, List.take_append_drop]
        rw [e, List.flatten_append, List.find?_append, List.find?_eq_none.2, List.flatten_cons, List.cons_append, Option.none_or, List.find?_cons_of_pos]
        · simp [keyT]
        · intro a ha
          obtain ⟨l, hl, ha⟩ := List.mem_flatten.1 ha
          obtain ⟨j, hj, rfl⟩ := List.getElem_of_mem hl
          have hji : j < i := by rw [List.length_take] at hj; omega
          have hjS : j < S.length := by omega
          have := (hall j hjS a (by rw [List.getD_eq_getElem?_getD, List.getElem?_eq_getElem hjS]; rw [List.getElem_take] at ha; exact ha)).2 hji
          unfold keyT
          simp
          omega
      have hlt := totF_lt (fun y => cT y x == 0) S i x t9 ht9 (by unfold cT; simp)
      obtain ⟨g1, g2⟩ := IH (S.map (fun l => l.dropWhile (fun y => cT y x == 0))) (fun l hl => by
        obtain ⟨l2, hl2, rfl⟩ := List.mem_map.1 hl
        exact (hS l2 hl2).sublist (List.dropWhile_sublist _)) (by omega)
      have hgt : ∀ a ∈ (S.map (fun l => l.dropWhile (fun y => cT y x == 0))).flatten, x / 10 < a / 10 := fun a ha => by
        obtain ⟨l, hl, ha⟩ := List.mem_flatten.1 ha
        obtain ⟨l2, hl2, rfl⟩ := List.mem_map.1 hl
        exact drop_gt x l2 (hS l2 hl2) (hge l2 hl2) a ha
      refine ⟨List.pairwise_cons.2 ⟨fun a ha => hgt a (List.mem_of_find?_eq_some ((g2 a).1 ha)), g1⟩, fun a => ?_⟩
      rw [List.mem_cons, g2 a]
      by_cases hk : a / 10 = x / 10
      · rw [hk, hfx]
        constructor
        · rintro (rfl | h)
          · rfl
          · have := hgt a (List.mem_of_find?_eq_some h)
            omega
        · intro h
          injection h with h
          exact .inl h.symm
      · rw [map_find _ _ hk]
        exact ⟨fun h => h.elim (fun e => absurd (by rw [e]) hk) id, .inr⟩
theorem all_want (S : List (List Int)) (f : Nat) (hS : ∀ l ∈ S, RiseT l) (hf : totF S ≤ f) : allF cT f S = S.flatten.foldl putT [] := by
  obtain ⟨a1, a2⟩ := allF_law f S hS hf
  obtain ⟨b1, b2⟩ := fold_law S.flatten [] [] List.Pairwise.nil (fun a => by simp)
  exact strict_one _ _ a1 b1 fun a => by rw [a2, b2]; rfl
/-- Sorted: numbers that rise by tens, as they come. -/
def posT (out : List Int) (x : Int) : Nat → Nat
  | 0 => 0
  | n + 1 => if x / 10 < out.getD n 0 / 10 then posT out x n else n + 1
def insS (out : List Int) (x : Int) : List Int := out.take (posT out x out.length) ++ x :: out.drop (posT out x out.length)
def sortT (l : List Int) : List Int := l.foldl insS []
theorem pos_le (out : List Int) (x : Int) : ∀ n, posT out x n ≤ n
  | 0 => Nat.le_refl _
  | n + 1 => by
    unfold posT
    split
    · exact Nat.le_succ_of_le (pos_le out x n)
    · exact Nat.le_refl _
theorem pos_gt (out : List Int) (x : Int) : ∀ n j, posT out x n ≤ j → j < n → x / 10 < out.getD j 0 / 10
  | 0, j, _, h => absurd h (Nat.not_lt_zero _)
  | n + 1, j, h1, h2 => by
    unfold posT at h1
    split at h1
    next h =>
      rcases Nat.lt_succ_iff_lt_or_eq.1 h2 with h3 | rfl
      · exact pos_gt out x n j h1 h3
      · exact h
    next h => omega
theorem pos_lo (out : List Int) (x : Int) : ∀ n k, posT out x n = k + 1 → out.getD k 0 / 10 ≤ x / 10
  | 0, k, h => by cases h
  | n + 1, k, h => by
    unfold posT at h
    split at h
    · exact pos_lo out x n k h
    next h2 =>
      obtain rfl : n = k := by omega
      omega
theorem insS_mem (out : List Int) (x a : Int) : a ∈ insS out x ↔ a ∈ out ∨ a = x := by
  unfold insS
  rw [List.mem_append, List.mem_cons]
  have h : a ∈ out ↔ a ∈ out.take (posT out x out.length) ∨ a ∈ out.drop (posT out x out.length) := by rw [← List.mem_append, List.take_append_drop]
  rw [h]
  exact ⟨fun h => h.elim (fun h => .inl (.inl h)) (fun h => h.elim .inr (fun h => .inl (.inr h))), fun h => h.elim (fun h => h.imp id .inr) (fun h => .inr (.inl h))⟩
theorem insS_len (out : List Int) (x : Int) : (insS out x).length = out.length + 1 := by
  unfold insS
  have := pos_le out x out.length
  rw [List.length_append, List.length_cons, List.length_take, List.length_drop]
  omega
theorem insS_rise (out : List Int) (x : Int) (h : RiseT out) : RiseT (insS out x) := by
  have hle := pos_le out x out.length
  have hgt := pos_gt out x out.length
  have hlo := pos_lo out x out.length
  have hp := List.pairwise_iff_getElem.1 h
  unfold insS
  generalize posT out x out.length = n at *
  have hT : ∀ a ∈ out.take n, a / 10 ≤ x / 10 := fun a ha => by
    obtain ⟨j, hj, rfl⟩ := List.getElem_of_mem ha
    rw [List.length_take] at hj
    obtain ⟨k, rfl⟩ : ∃ k, n = k + 1 := ⟨n - 1, by omega⟩
    have h1 := hlo k rfl
    rw [List.getD_eq_getElem?_getD, List.getElem?_eq_getElem (by omega)] at h1
    rw [List.getElem_take]
    rcases Nat.lt_or_ge j k with h2 | h2
    · have := hp j k (by omega) (by omega) h2
      exact Int.le_trans this h1
    · obtain rfl : j = k := by omega
      exact h1
  have hD : ∀ a ∈ out.drop n, x / 10 < a / 10 := fun a ha => by
    obtain ⟨j, hj, rfl⟩ := List.getElem_of_mem ha
    rw [List.length_drop] at hj
    have h1 := hgt (n + j) (by omega) (by omega)
    rw [List.getD_eq_getElem?_getD, List.getElem?_eq_getElem (by omega)] at h1
    rw [List.getElem_drop]
    exact h1
  refine List.pairwise_append.2 ⟨h.sublist (List.take_sublist _ _), List.pairwise_cons.2 ⟨fun b hb => Int.le_of_lt (hD b hb), h.sublist (List.drop_sublist _ _)⟩, fun a ha b hb => ?_⟩
  have h1 := hT a ha
  rcases List.mem_cons.1 hb with rfl | hb
  · exact h1
  · have := hD b hb; omega
theorem sortT_law : ∀ (q l : List Int), RiseT l → RiseT (q.foldl insS l) ∧ (∀ a, a ∈ q.foldl insS l → a ∈ l ∨ a ∈ q) ∧ (q.foldl insS l).length = l.length + q.length
  | [], l, h => ⟨h, fun a h => .inl h, rfl⟩
  | x :: q, l, h => by
    obtain ⟨a1, a2, a3⟩ := sortT_law q (insS l x) (insS_rise l x h)
    refine ⟨a1, fun a ha => ?_, ?_⟩
    · rcases a2 a ha with h | h
      · exact ((insS_mem l x a).1 h).imp id (fun e => by rw [e]; exact List.mem_cons_self ..)
      · exact .inr (List.mem_cons_of_mem _ h)
    · rw [List.foldl_cons, a3, insS_len, List.length_cons]; omega
theorem putT_len (l : List Int) (n : Int) : (putT l n).length ≤ l.length + 1 := by
  have h : ∀ l, (insT n l).length = l.length + 1 := fun l => by
    induction l with
    | nil => rfl
    | cons y t ih =>
      unfold insT
      split
      · rfl
      · rw [List.length_cons, ih, List.length_cons]
  unfold putT
  split
  · exact Nat.le_succ _
  · rw [h]; exact Nat.le_refl _
theorem putT_foldlen : ∀ (q l : List Int), (q.foldl putT l).length ≤ l.length + q.length
  | [], l => Nat.le_refl _
  | x :: q, l => by
    have h1 := putT_foldlen q (putT l x)
    have h2 := putT_len l x
    rw [List.foldl_cons, List.length_cons]
    omega
/-- Put, as it goes: what lies there behind the first ones, and whether the number lies there yet. -/
def bigT (n : Int) (l : List Int) : Bool := l.any (fun y => decide (n / 10 < y / 10))
def outT (n : Int) (l : List Int) : List Int := if bigT n l then insT n l else l
theorem ins_big (n y : Int) : ∀ l, insT n (l ++ [y]) = if bigT n l then insT n l ++ [y] else if n / 10 < y / 10 then l ++ [n, y] else l ++ [y, n]
  | [] => by
    simp only [List.nil_append, insT, bigT, List.any_nil, Bool.false_eq_true, if_false]
  | z :: t => by
    have ih := ins_big n y t
    rw [List.cons_append]
    unfold insT
    by_cases hz : n / 10 < z / 10
    · rw [if_pos hz, if_pos hz, if_pos (by unfold bigT; simp [hz])]; rfl
    · rw [if_neg hz, if_neg hz, ih, show bigT n (z :: t) = bigT n t by unfold bigT; simp [hz]]
      split
      · rfl
      · split <;> rfl
theorem ins_none (n : Int) : ∀ l, bigT n l = false → insT n l = l ++ [n]
  | [], _ => rfl
  | y :: t, h => by
    unfold bigT at h
    rw [List.any_cons, Bool.or_eq_false_iff] at h
    unfold insT
    rw [if_neg (by simpa using h.1), ins_none n t h.2]
    rfl
theorem big_snoc (n y : Int) (l : List Int) : bigT n (l ++ [y]) = (bigT n l || decide (n / 10 < y / 10)) := by
  unfold bigT; simp
theorem outT_snoc (n y : Int) (l : List Int) : outT n (l ++ [y]) = if bigT n l then outT n l ++ [y] else if n / 10 < y / 10 then (outT n l ++ [n]) ++ [y] else outT n l ++ [y] := by
  unfold outT
  rw [big_snoc, ins_big]
  cases hb : bigT n l with
  | true => simp
  | false => by_cases h : n / 10 < y / 10 <;> simp [h]
theorem insT_len (n : Int) : ∀ l, (insT n l).length = l.length + 1
  | [] => rfl
  | y :: t => by
    unfold insT
    split
    · rfl
    · rw [List.length_cons, insT_len n t, List.length_cons]
theorem outT_len (n : Int) (l : List Int) : (outT n l).length ≤ l.length + 1 := by
  unfold outT
  split
  · rw [insT_len]; exact Nat.le_refl _
  · exact Nat.le_succ _
theorem put_hit {l : List Int} {n y : Int} (hy : y ∈ l) (h : y / 10 = n / 10) : putT l n = l := by
  unfold putT
  rw [if_pos]
  exact List.any_eq_true.2 ⟨y, hy, by simpa using h⟩
theorem put_end {l : List Int} {n : Int} (h : ∀ y ∈ l, y / 10 ≠ n / 10) : putT l n = if bigT n l then outT n l else outT n l ++ [n] := by
  have h1 : l.any (fun y => y / 10 == n / 10) = false := by
    rw [List.any_eq_false]
    intro y hy
    simpa using h y hy
  unfold putT outT
  rw [h1]
  cases hb : bigT n l with
  | true => simp
  | false => simp [ins_none n l hb]
end Go.Proofs.Ytldiginkmmlojaa
