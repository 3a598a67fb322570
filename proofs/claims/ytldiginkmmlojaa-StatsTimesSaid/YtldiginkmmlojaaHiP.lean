/- Spans of time, told plainly: lists alone. -/
import Derived.Test.YtldiginkmmlojaaSoM
namespace Go.Proofs.Ytldiginkmmlojaa
set_option linter.unusedVariables false

/-- How many buckets begin before x. -/
def atH : List (Int × Int) → Int → Nat
  | [], _ => 0
  | p :: t, x => if p.1 < x then atH t x + 1 else 0
def zHB : Int × Int := (0, 0)
/-- One more in the bucket that begins at x. -/
def hitH (l : List (Int × Int)) (x : Int) : List (Int × Int) :=
  if atH l x < l.length ∧ (l.getD (atH l x) zHB).1 = x then l.set (atH l x) (x, (l.getD (atH l x) zHB).2 + 1) else (l.take (atH l x) ++ [(x, 1)]) ++ l.drop (atH l x)
def histF (ks : List Int) : List (Int × Int) := ks.foldl hitH []
theorem histF_snoc (ks : List Int) (x : Int) : histF (ks ++ [x]) = hitH (histF ks) x := by unfold histF; rw [List.foldl_append]; rfl
theorem atH_le : ∀ (l : List (Int × Int)) (x : Int), atH l x ≤ l.length
  | [], _ => Nat.le_refl _
  | p :: t, x => by
    unfold atH
    split
    · exact Nat.succ_le_succ (atH_le t x)
    · exact Nat.zero_le _
theorem atH_is : ∀ (l : List (Int × Int)) (x : Int) (k : Nat), k ≤ l.length → (∀ j, j < k → (l.getD j zHB).1 < x) → (k = l.length ∨ ¬ (l.getD k zHB).1 < x) → atH l x = k
  | [], x, k, h, _, _ => by simp at h; subst h; rfl
  | p :: t, x, 0, h, h1, h2 => by
    unfold atH
    rw [if_neg]
    rcases h2 with h2 | h2
    · simp at h2
    · simpa using h2
  | p :: t, x, k + 1, h, h1, h2 => by
    unfold atH
    rw [if_pos (show p.1 < x from h1 0 (Nat.succ_pos _)), atH_is t x k (by simpa using h) (fun j hj => by have := h1 (j + 1) (by omega); simpa using this) (by simpa using h2)]
theorem hitH_len (l : List (Int × Int)) (x : Int) : (hitH l x).length ≤ l.length + 1 := by
  have := atH_le l x
  unfold hitH
  split
  · rw [List.length_set]; omega
  · simp only [List.length_append, List.length_take, List.length_drop, List.length_cons, List.length_nil]; omega
theorem histF_len : ∀ ks, (histF ks).length ≤ ks.length := by
  have h : ∀ (ks : List Int) (l : List (Int × Int)), (ks.foldl hitH l).length ≤ l.length + ks.length := by
    intro ks
    induction ks with
    | nil => intro l; simp
    | cons x t ih =>
      intro l
      rw [List.foldl_cons, List.length_cons]
      have := ih (hitH l x)
      have := hitH_len l x
      omega
  intro ks
  unfold histF
  simpa using h ks []
/-- Buckets that rise, each with as many as there are. -/
structure HI (ks : List Int) (l : List (Int × Int)) : Prop where
  rise : l.Pairwise (fun p q => p.1 < q.1)
  mem : ∀ k, k ∈ l.map Prod.fst ↔ k ∈ ks
  cnt : ∀ p ∈ l, p.2 = (ks.count p.1 : Int)
theorem atH_spec : ∀ (l : List (Int × Int)) (x : Int), l.Pairwise (fun p q => p.1 < q.1) → (∀ p ∈ l.take (atH l x), p.1 < x) ∧ (∀ p ∈ l.drop (atH l x), x ≤ p.1)
  | [], x, _ => by simp
  | p :: t, x, h => by
    have g := List.pairwise_cons.1 h
    obtain ⟨i1, i2⟩ := atH_spec t x g.2
    unfold atH
    split
    next hlt =>
      rw [List.take_succ_cons, List.drop_succ_cons]
      refine ⟨fun q hq => ?_, i2⟩
      rcases List.mem_cons.1 hq with rfl | hq
      · exact hlt
      · exact i1 q hq
    next hge =>
      refine ⟨fun q hq => by simp at hq, fun q hq => ?_⟩
      rw [List.drop_zero] at hq
      rcases List.mem_cons.1 hq with rfl | hq
      · omega
      · have := g.1 q hq; omega
theorem HI.step {ks : List Int} {l : List (Int × Int)} (h : HI ks l) (x : Int) : HI (ks ++ [x]) (hitH l x) := by
  have hle := atH_le l x
  obtain ⟨s1, s2⟩ := atH_spec l x h.rise
  have hsp : l = l.take (atH l x) ++ l.drop (atH l x) := (List.take_append_drop _ _).symm
  unfold hitH
  generalize atH l x = i at *
  have hr := h.rise
  split
  next hit =>
    obtain ⟨hi, he⟩ := hit
    obtain ⟨p, hp⟩ : ∃ p, p = l.getD i zHB := ⟨_, rfl⟩
    rw [← hp] at he ⊢
    have hd : l.drop i = p :: l.drop (i + 1) := by
      rw [List.drop_eq_getElem_cons hi, hp, List.getD_eq_getElem?_getD, List.getElem?_eq_getElem hi]; rfl
    have hset : l.set i (x, p.2 + 1) = l.take i ++ (x, p.2 + 1) :: l.drop (i + 1) := by rw [List.set_eq_take_append_cons_drop, if_pos hi]
    have hl : l = l.take i ++ p :: l.drop (i + 1) := by rw [← hd]; exact hsp
    generalize hA : l.take i = A at *
    generalize hB : l.drop (i + 1) = B at *
    rw [hset]
    clear hset hd hsp hA hB hp
    subst hl
    have hpw := List.pairwise_append.1 hr
    have hpc := List.pairwise_cons.1 hpw.2.1
    refine ⟨?_, fun k => ?_, fun q hq => ?_⟩
    · refine List.pairwise_append.2 ⟨hpw.1, List.pairwise_cons.2 ⟨fun q hq => ?_, hpc.2⟩, fun a ha b hb => ?_⟩
      · have := hpc.1 q hq; show x < q.1; omega
      · rcases List.mem_cons.1 hb with rfl | hb
        · exact s1 a ha
        · exact hpw.2.2 a ha b (List.mem_cons_of_mem _ hb)
    · have hm := h.mem k
      rw [List.map_append, List.map_cons] at hm ⊢
      rw [List.mem_append (s := ks), ← hm]
      simp only [List.mem_append, List.mem_cons, List.not_mem_nil, or_false]
      rw [he]
      exact ⟨fun h => h.elim (fun h => .inl (.inl h)) (fun h => h.elim .inr (fun h => .inl (.inr (.inr h)))), fun h => h.elim id (fun h => .inr (.inl h))⟩
    · rw [List.count_append]
      rcases List.mem_append.1 hq with hq | hq
      · have h1 := s1 q hq
        rw [h.cnt q (List.mem_append.2 (.inl hq)), List.count_cons, List.count_nil, if_neg (by simp; omega)]
        rfl
      · rcases List.mem_cons.1 hq with rfl | hq
        · have h2 := h.cnt p (List.mem_append.2 (.inr (List.mem_cons_self ..)))
          show p.2 + 1 = _
          rw [h2, he]
          simp
        · have h1 := hpc.1 q hq
          rw [h.cnt q (List.mem_append.2 (.inr (List.mem_cons_of_mem _ hq))), List.count_cons, List.count_nil, if_neg (by simp; omega)]
          rfl
  next hit =>
    have hnx : x ∉ l.map Prod.fst := fun hx => by
      obtain ⟨q, hq, hqx⟩ := List.mem_map.1 hx
      rw [hsp] at hq
      rcases List.mem_append.1 hq with hq | hq
      · have := s1 q hq; omega
      · cases hd : l.drop i with
        | nil => rw [hd] at hq; cases hq
        | cons p t =>
          have hi : i < l.length := by
            rcases Nat.lt_or_ge i l.length with h | h
            · exact h
            · rw [List.drop_eq_nil_of_le h] at hd; cases hd
          have hpi : l.getD i zHB = p := by
            rw [List.drop_eq_getElem_cons hi] at hd
            injection hd with hd _
            rw [List.getD_eq_getElem?_getD, List.getElem?_eq_getElem hi]
            exact hd
          refine hit ⟨hi, ?_⟩
          rw [hpi]
          have hrd : (l.drop i).Pairwise (fun p q => p.1 < q.1) := hr.sublist (List.drop_sublist _ _)
          rw [hd] at hrd hq s2
          have h3 := s2 p (List.mem_cons_self ..)
          rcases List.mem_cons.1 hq with rfl | hq
          · exact hqx
          · have := (List.pairwise_cons.1 hrd).1 q hq; omega
    have hcx : ks.count x = 0 := List.count_eq_zero.2 (fun hx => hnx ((h.mem x).2 hx))
    refine ⟨?_, fun k => ?_, fun q hq => ?_⟩
    · rw [List.append_assoc]
      refine List.pairwise_append.2 ⟨hr.sublist (List.take_sublist _ _), List.pairwise_cons.2 ⟨fun q hq => ?_, hr.sublist (List.drop_sublist _ _)⟩, fun a ha b hb => ?_⟩
      · have h1 := s2 q hq
        have h2 : q.1 ≠ x := fun e => hnx (List.mem_map.2 ⟨q, List.drop_subset _ _ hq, e⟩)
        show x < q.1
        omega
      · have h1 := s1 a ha
        rcases List.mem_cons.1 hb with rfl | hb
        · exact h1
        · have := s2 b hb; omega
    · have hm := h.mem k
      have hk : k ∈ l.map Prod.fst ↔ k ∈ (l.take i).map Prod.fst ∨ k ∈ (l.drop i).map Prod.fst := by
        conv => lhs; rw [hsp]
        rw [List.map_append, List.mem_append]
      rw [List.map_append, List.map_append, List.mem_append, List.mem_append, List.mem_append (s := ks), ← hm, hk]
      simp only [List.map_cons, List.map_nil, List.mem_singleton]
      exact ⟨fun h => h.elim (fun h => h.elim (fun h => .inl (.inl h)) .inr) (fun h => .inl (.inr h)), fun h => h.elim (fun h => h.elim (fun h => .inl (.inl h)) .inr) (fun h => .inl (.inr h))⟩
    · rw [List.count_append]
      have hold : ∀ q ∈ l, q.2 = ((ks.count q.1 + [x].count q.1 : Nat) : Int) := fun q hq => by
        have h2 : q.1 ≠ x := fun e => hnx (List.mem_map.2 ⟨q, hq, e⟩)
        rw [h.cnt q hq, List.count_cons, List.count_nil, if_neg (by simp; omega)]
        rfl
      rcases List.mem_append.1 hq with hq | hq
      · rcases List.mem_append.1 hq with hq | hq
        · exact hold q (List.take_subset _ _ hq)
        · rw [List.mem_singleton.1 hq]
          show (1 : Int) = _
          rw [hcx]
          simp
      · exact hold q (List.drop_subset _ _ hq)
theorem histF_HI (ks : List Int) : HI ks (histF ks) := by
  have h : ∀ (q p : List Int) (l : List (Int × Int)), HI p l → HI (p ++ q) (q.foldl hitH l) := by
    intro q
    induction q with
    | nil => intro p l h; rw [List.append_nil]; exact h
    | cons x t ih => intro p l h; have := ih (p ++ [x]) (hitH l x) (h.step x); rwa [List.append_assoc] at this
  have := h ks [] [] ⟨List.Pairwise.nil, fun k => by simp, fun p hp => by cases hp⟩
  simpa [histF] using this
/-- The buckets' keys, each once. -/
def keysH : List Int → List Int
  | [] => []
  | x :: t => if x ∈ keysH t then keysH t else x :: keysH t
theorem keysH_law : ∀ ks : List Int, (keysH ks).Nodup ∧ (∀ k, k ∈ keysH ks ↔ k ∈ ks) ∧ (keysH ks).length ≤ ks.length
  | [] => ⟨List.nodup_nil, fun k => Iff.rfl, Nat.le_refl _⟩
  | x :: t => by
    obtain ⟨i1, i2, i3⟩ := keysH_law t
    unfold keysH
    split
    next h =>
      refine ⟨i1, fun k => ?_, by rw [List.length_cons]; omega⟩
      rw [List.mem_cons, i2 k]
      exact ⟨.inr, fun hk => hk.elim (fun e => by rw [e]; exact (i2 x).1 h) id⟩
    next h => exact ⟨List.nodup_cons.2 ⟨h, i1⟩, fun k => by rw [List.mem_cons, List.mem_cons, i2 k], by rw [List.length_cons, List.length_cons]; omega⟩
theorem strict_same : ∀ xs ys : List Int, xs.Pairwise (· < ·) → ys.Pairwise (· < ·) → (∀ a, a ∈ xs ↔ a ∈ ys) → xs = ys
  | [], ys, _, _, h => by
    cases ys with
    | nil => rfl
    | cons y t => exact absurd ((h y).2 (List.mem_cons_self ..)) (List.not_mem_nil)
  | x :: xs, [], _, _, h => absurd ((h x).1 (List.mem_cons_self ..)) (List.not_mem_nil)
  | x :: xs, y :: ys, h1, h2, h => by
    have g1 := List.pairwise_cons.1 h1
    have g2 := List.pairwise_cons.1 h2
    have e : x = y := by
      rcases List.mem_cons.1 ((h x).1 (List.mem_cons_self ..)) with e | hx
      · exact e
      · rcases List.mem_cons.1 ((h y).2 (List.mem_cons_self ..)) with e | hy
        · exact e.symm
        · have := g1.1 y hy
          have := g2.1 x hx
          omega
    subst e
    rw [strict_same xs ys g1.2 g2.2 fun a => ⟨fun ha => (List.mem_cons.1 ((h a).1 (List.mem_cons_of_mem _ ha))).resolve_left fun e => by have := g1.1 a ha; omega, fun ha => (List.mem_cons.1 ((h a).2 (List.mem_cons_of_mem _ ha))).resolve_left fun e => by have := g2.1 a ha; omega⟩]
theorem sorted64_law (ks : List Int) : (sorted64 ks).Perm ks ∧ (sorted64 ks).Pairwise (· ≤ ·) := by
  have tr : ∀ a b c : Int, (fun x y : Int => decide (x ≤ y)) a b = true → (fun x y : Int => decide (x ≤ y)) b c = true → (fun x y : Int => decide (x ≤ y)) a c = true := fun a b c h1 h2 => by simp only [decide_eq_true_eq] at *; omega
  have tt : ∀ a b : Int, ((fun x y : Int => decide (x ≤ y)) a b || (fun x y : Int => decide (x ≤ y)) b a) = true := fun a b => by simp only [Bool.or_eq_true, decide_eq_true_eq]; omega
  refine ⟨List.mergeSort_perm _ _, ?_⟩
  exact (List.pairwise_mergeSort tr tt ks).imp (fun h => by simpa using h)
/-- Buckets out of a map's sorted keys are the same. -/
theorem hist_law (ks : List Int) : histF ks = (sorted64 (keysH ks)).map (fun k => (k, (ks.count k : Int))) := by
  have H := histF_HI ks
  obtain ⟨k1, k2, _⟩ := keysH_law ks
  obtain ⟨p1, p2⟩ := sorted64_law (keysH ks)
  have hf : (histF ks).map Prod.fst = sorted64 (keysH ks) := by
    refine strict_same _ _ (List.pairwise_map.2 H.rise) ?_ fun a => by rw [H.mem a, p1.mem_iff, k2 a]
    have hnd : (sorted64 (keysH ks)).Nodup := p1.nodup_iff.2 k1
    exact (p2.and hnd).imp (fun h => by have h1 := h.1; have h2 := h.2; omega)
  rw [← hf, List.map_map]
  conv => lhs; rw [← List.map_id (histF ks)]
  refine List.map_congr_left fun p hp => ?_
  show p = (p.1, (ks.count p.1 : Int))
  rw [← H.cnt p hp]
end Go.Proofs.Ytldiginkmmlojaa
