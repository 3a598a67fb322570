/- The limit on many writers, lists alone: rows that rise by their names; a row new, turned, forgotten. -/
import Derived.Test.YtldiginkmmlojaaRaC
import Derived.Sort.Walk0
namespace Go.Proofs.Ytldiginkmmlojaa
set_option linter.unusedVariables false
open Go.RowKit Go.Maps

/-- A writer and its window. -/
abbrev LW := ByteArray × WV
def zLW : LW := (⟨#[]⟩, ⟨0, 0, 0⟩)
def nmW (l : List LW) : List (List UInt8) := l.map (fun p => p.1.data.toList)
def RisW (l : List LW) : Prop := (nmW l).Pairwise (· < ·)
def getW (l : List LW) (s : ByteArray) : Option WV := (l.find? (fun p => decide (p.1 = s))).map (·.2)
theorem kStr_inj {s t : ByteArray} (h : kStr s = kStr t) : s = t := by
  unfold kStr at h
  injection h with h
  cases s; cases t
  simp at h
  rw [h]
open Classical in
noncomputable def mapW (l : List LW) : Lit → Option Value := fun q => match l.find? (fun p => decide (kStr p.1 = q)) with | some p => some p.2.v | none => none
open Classical in
theorem mapW_at (l : List LW) (s : ByteArray) : mapW l (kStr s) = (getW l s).map WV.v := by
  unfold mapW getW
  have e : (fun p : LW => decide (kStr p.1 = kStr s)) = fun p => decide (p.1 = s) := by
    funext p
    by_cases h : p.1 = s
    · simp [h]
    · have h2 : kStr p.1 ≠ kStr s := fun e => h (kStr_inj e)
      simp [h, h2]
  rw [e]
  cases l.find? (fun p => decide (p.1 = s)) <;> rfl
open Classical in
theorem mapW_cons (p : LW) (l : List LW) (q : Lit) : mapW (p :: l) q = if kStr p.1 = q then some p.2.v else mapW l q := by
  unfold mapW
  rw [List.find?_cons]
  by_cases h : kStr p.1 = q <;> simp [h]
theorem mapW_nil : mapW [] = fun _ => none := by
  funext q
  unfold mapW
  rfl
theorem mapW_no (l : List LW) (q : Lit) (h : ∀ p ∈ l, kStr p.1 ≠ q) : mapW l q = none := by
  induction l with
  | nil => rw [mapW_nil]
  | cons p t ih => rw [mapW_cons, if_neg (h p (List.mem_cons_self ..)), ih (fun x hx => h x (List.mem_cons_of_mem _ hx))]
theorem mapW_mem : ∀ (l : List LW), (nmW l).Nodup → ∀ p ∈ l, mapW l (kStr p.1) = some p.2.v
  | [], _, p, hp => by simp at hp
  | q :: t, hn, p, hp => by
    unfold nmW at hn
    rw [List.map_cons, List.nodup_cons] at hn
    rw [mapW_cons]
    rcases List.mem_cons.1 hp with rfl | hp
    · rw [if_pos rfl]
    · have hne : kStr q.1 ≠ kStr p.1 := fun e => hn.1 (by rw [kStr_inj e]; exact List.mem_map.2 ⟨p, hp, rfl⟩)
      rw [if_neg hne]
      exact mapW_mem t hn.2 p hp
theorem mapW_perm {l l' : List LW} (hp : l.Perm l') (hn : (nmW l).Nodup) : mapW l = mapW l' := by
  have hn' : (nmW l').Nodup := (hp.map _).nodup_iff.1 hn
  funext q
  by_cases h : ∃ p ∈ l, kStr p.1 = q
  · obtain ⟨p, hm, rfl⟩ := h
    rw [mapW_mem l hn p hm, mapW_mem l' hn' p (hp.mem_iff.1 hm)]
  · have h1 : ∀ p ∈ l, kStr p.1 ≠ q := fun p hm e => h ⟨p, hm, e⟩
    rw [mapW_no l q h1, mapW_no l' q (fun p hm => h1 p (hp.mem_iff.2 hm))]
theorem risW_nodup {l : List LW} (h : RisW l) : (nmW l).Nodup := h.imp (fun hab e => by subst e; exact List.lt_irrefl _ hab)
theorem getW_none {l : List LW} {s : ByteArray} (h : getW l s = none) : ∀ p ∈ l, p.1 ≠ s := fun p hp e => by
  unfold getW at h
  rw [Option.map_eq_none_iff, List.find?_eq_none] at h
  have := h p hp
  simp [e] at this
theorem getW_some {l : List LW} {s : ByteArray} {x : WV} (h : getW l s = some x) : ∃ i : Nat, l[i]? = some (s, x) := by
  unfold getW at h
  obtain ⟨p, hp, rfl⟩ := Option.map_eq_some_iff.1 h
  have hm := List.mem_of_find?_eq_some hp
  have he : p.1 = s := by simpa using List.find?_some hp
  obtain ⟨i, hi⟩ := List.mem_iff_getElem?.1 hm
  exact ⟨i, by rw [hi, ← he]⟩
theorem risW_lt {l : List LW} (h : RisW l) {i j : Nat} {p q : LW} (hi : l[i]? = some p) (hj : l[j]? = some q) (hij : i < j) : p.1.data.toList < q.1.data.toList := by
  obtain ⟨h1, rfl⟩ := List.getElem?_eq_some_iff.1 hi
  obtain ⟨h2, rfl⟩ := List.getElem?_eq_some_iff.1 hj
  have := List.pairwise_iff_getElem.1 h i j (by unfold nmW; rw [List.length_map]; exact h1) (by unfold nmW; rw [List.length_map]; exact h2) hij
  simpa [nmW] using this
theorem risW_inj {l : List LW} (h : RisW l) {i j : Nat} {p q : LW} (hi : l[i]? = some p) (hj : l[j]? = some q) (e : p.1 = q.1) : i = j := by
  rcases Nat.lt_trichotomy i j with h1 | h1 | h1
  · have := risW_lt h hi hj h1
    rw [e] at this
    exact absurd this (List.lt_irrefl _)
  · exact h1
  · have := risW_lt h hj hi h1
    rw [e] at this
    exact absurd this (List.lt_irrefl _)
theorem getW_at {l : List LW} (h : RisW l) {i : Nat} {s : ByteArray} {x : WV} (hi : l[i]? = some (s, x)) : getW l s = some x := by
  cases hg : getW l s with
  | none => exact absurd rfl (getW_none hg _ (List.mem_of_getElem? hi))
  | some y =>
    obtain ⟨j, hj⟩ := getW_some hg
    have := risW_inj h hi hj rfl
    subst this
    rw [hi] at hj
    cases hj
    rfl
/-- A row turned. -/
theorem mapW_set {l : List LW} (h : RisW l) {i : Nat} {s : ByteArray} {x : WV} (hi : l[i]? = some (s, x)) (y : WV) : mapW (l.set i (s, y)) = upd (mapW l) (kStr s) (some y.v) := by
  have hil := (List.getElem?_eq_some_iff.1 hi).1
  have hle : l[i] = (s, x) := (List.getElem?_eq_some_iff.1 hi).2
  have hnm : nmW (l.set i (s, y)) = nmW l := by
    unfold nmW
    rw [List.map_set]
    refine List.ext_getElem? (fun j => ?_)
    rw [List.getElem?_set]
    by_cases e : i = j
    · subst e
      rw [if_pos rfl, if_pos (by rw [List.length_map]; exact hil), List.getElem?_map, hi]
      rfl
    · rw [if_neg e]
  have hn := risW_nodup h
  funext q
  unfold upd
  by_cases hq : q = kStr s
  · rw [if_pos hq, hq]
    exact mapW_mem _ (by rw [hnm]; exact hn) (s, y) (List.mem_of_getElem? (by rw [List.getElem?_set_self hil]))
  · rw [if_neg hq]
    by_cases hx : ∃ p ∈ l, kStr p.1 = q
    · obtain ⟨p, hm, rfl⟩ := hx
      obtain ⟨j, hj⟩ := List.mem_iff_getElem?.1 hm
      have hij : i ≠ j := fun e => by
        subst e
        rw [hi] at hj
        cases hj
        exact hq rfl
      rw [mapW_mem l hn p hm, mapW_mem _ (by rw [hnm]; exact hn) p (List.mem_of_getElem? (by rw [List.getElem?_set_ne hij]; exact hj))]
    · have h1 : ∀ p ∈ l, kStr p.1 ≠ q := fun p hm e => hx ⟨p, hm, e⟩
      rw [mapW_no l q h1]
      refine mapW_no _ q (fun p hm => ?_)
      rcases List.mem_or_eq_of_mem_set hm with hm | rfl
      · exact h1 p hm
      · exact fun e => hq e.symm
theorem risW_set {l : List LW} (h : RisW l) {i : Nat} {s : ByteArray} {x : WV} (hi : l[i]? = some (s, x)) (y : WV) : RisW (l.set i (s, y)) := by
  have hil := (List.getElem?_eq_some_iff.1 hi).1
  have hnm : nmW (l.set i (s, y)) = nmW l := by
    unfold nmW
    rw [List.map_set]
    refine List.ext_getElem? (fun j => ?_)
    rw [List.getElem?_set]
    by_cases e : i = j
    · subst e
      rw [if_pos rfl, if_pos (by rw [List.length_map]; exact hil), List.getElem?_map, hi]
      rfl
    · rw [if_neg e]
  unfold RisW
  rw [hnm]
  exact h
/-- A row forgotten. -/
theorem erase_perm {α : Type} : ∀ (l : List α) (i : Nat) (h : i < l.length), (l[i] :: l.eraseIdx i).Perm l
  | [], i, h => absurd h (Nat.not_lt_zero _)
  | a :: t, 0, _ => List.Perm.refl _
  | a :: t, i + 1, h => (List.Perm.swap a (t[i]'(by simpa using h)) (t.eraseIdx i)).trans ((erase_perm t i (by simpa using h)).cons a)
theorem mapW_erase {l : List LW} (h : RisW l) {i : Nat} {p : LW} (hi : l[i]? = some p) : mapW (l.eraseIdx i) = upd (mapW l) (kStr p.1) none := by
  obtain ⟨hil, rfl⟩ := List.getElem?_eq_some_iff.1 hi
  have hp : l.Perm (l[i] :: l.eraseIdx i) := (erase_perm l i hil).symm
  have hn := risW_nodup h
  have hn' : (nmW (l[i] :: l.eraseIdx i)).Nodup := (hp.map _).nodup_iff.1 hn
  rw [mapW_perm hp hn]
  funext q
  unfold upd
  rw [mapW_cons]
  by_cases hq : q = kStr l[i].1
  · rw [if_pos hq, hq]
    unfold nmW at hn'
    rw [List.map_cons, List.nodup_cons] at hn'
    exact mapW_no _ _ (fun x hx e => hn'.1 (by rw [← kStr_inj e]; exact List.mem_map.2 ⟨x, hx, rfl⟩))
  · rw [if_neg hq, if_neg (fun e => hq e.symm)]
theorem risW_erase {l : List LW} (h : RisW l) (i : Nat) : RisW (l.eraseIdx i) := List.Pairwise.sublist (List.Sublist.map _ (List.eraseIdx_sublist ..)) h
/-- Where a name belongs. -/
def posW (l : List LW) (s : ByteArray) : Nat := (l.takeWhile (fun p => decide (p.1.data.toList < s.data.toList))).length
def insW (l : List LW) (s : ByteArray) (x : WV) : List LW := l.take (posW l s) ++ [(s, x)] ++ l.drop (posW l s)
theorem posW_le (l : List LW) (s : ByteArray) : posW l s ≤ l.length := by
  unfold posW
  exact (List.takeWhile_sublist _).length_le
theorem posW_is : ∀ (l : List LW) (s : ByteArray) (k : Nat), k ≤ l.length → (∀ j p, j < k → l[j]? = some p → p.1.data.toList < s.data.toList) → (∀ p, l[k]? = some p → ¬ p.1.data.toList < s.data.toList) → posW l s = k
  | [], s, k, hk, _, _ => by
    have : k = 0 := by simpa using hk
    subst this
    rfl
  | x :: t, s, 0, _, _, h2 => by
    have := h2 x rfl
    unfold posW
    rw [List.takeWhile_cons_of_neg (by simpa using this)]
    rfl
  | x :: t, s, k + 1, hk, h1, h2 => by
    have := h1 0 x (by omega) rfl
    have ih := posW_is t s k (by simpa using hk) (fun j p hj hp => h1 (j + 1) p (by omega) (by rw [List.getElem?_cons_succ]; exact hp)) (fun p hp => h2 p (by rw [List.getElem?_cons_succ]; exact hp))
    unfold posW at ih ⊢
    rw [List.takeWhile_cons_of_pos (by simpa using this), List.length_cons, ih]
theorem posW_lt {l : List LW} {s : ByteArray} {p : LW} (h : p ∈ l.take (posW l s)) : p.1.data.toList < s.data.toList := by
  have e : l.take (posW l s) = l.takeWhile (fun p => decide (p.1.data.toList < s.data.toList)) := by
    unfold posW
    exact (List.prefix_iff_eq_take.1 (List.takeWhile_prefix _)).symm
  rw [e] at h
  have := List.all_eq_true.1 (List.all_takeWhile (p := fun p : LW => decide (p.1.data.toList < s.data.toList)) (l := l)) p h
  simpa using this
theorem posW_ge {l : List LW} (hr : RisW l) {s : ByteArray} {p : LW} (h : p ∈ l.drop (posW l s)) : ¬ p.1.data.toList < s.data.toList := by
  have hd : l.drop (posW l s) = l.dropWhile (fun p => decide (p.1.data.toList < s.data.toList)) := by
    have e := List.takeWhile_append_dropWhile (p := fun p : LW => decide (p.1.data.toList < s.data.toList)) (l := l)
    unfold posW
    generalize l.takeWhile (fun p : LW => decide (p.1.data.toList < s.data.toList)) = a at e ⊢
    generalize l.dropWhile (fun p : LW => decide (p.1.data.toList < s.data.toList)) = b at e ⊢
    rw [← e]
    exact List.drop_left ..
  rw [hd] at h
  cases hl : l.dropWhile (fun p => decide (p.1.data.toList < s.data.toList)) with
  | nil => rw [hl] at h; simp at h
  | cons x t =>
    have hx : ¬ x.1.data.toList < s.data.toList := by
      have := List.head_dropWhile_not (fun p : LW => decide (p.1.data.toList < s.data.toList)) (l := l) (by rw [hl]; simp)
      simp only [hl, List.head_cons] at this
      simpa using this
    rw [hl] at h
    rcases List.mem_cons.1 h with rfl | h
    · exact hx
    · have hs : (x :: t).Sublist l := hl ▸ List.dropWhile_sublist _
      have hrs : RisW (x :: t) := List.Pairwise.sublist (List.Sublist.map _ hs) hr
      unfold RisW nmW at hrs
      rw [List.map_cons, List.pairwise_cons] at hrs
      have h2 := hrs.1 _ (List.mem_map.2 ⟨p, h, rfl⟩)
      exact fun h3 => hx (List.lt_trans h2 h3)
theorem insW_perm (l : List LW) (s : ByteArray) (x : WV) : (insW l s x).Perm ((s, x) :: l) := by
  unfold insW
  have h : (l.take (posW l s) ++ [(s, x)] ++ l.drop (posW l s)).Perm ((s, x) :: (l.take (posW l s) ++ l.drop (posW l s))) := by
    rw [List.append_assoc]
    exact List.perm_middle
  rw [List.take_append_drop] at h
  exact h
theorem risW_ins {l : List LW} (h : RisW l) {s : ByteArray} (hn : ∀ p ∈ l, p.1 ≠ s) (x : WV) : RisW (insW l s x) := by
  unfold RisW nmW insW
  rw [List.append_assoc, List.map_append, List.pairwise_append]
  have h1 : RisW (l.take (posW l s)) := List.Pairwise.sublist (List.Sublist.map _ (List.take_sublist ..)) h
  have h2 : RisW (l.drop (posW l s)) := List.Pairwise.sublist (List.Sublist.map _ (List.drop_sublist ..)) h
  have h3 : ∀ q ∈ l.drop (posW l s), s.data.toList < q.1.data.toList := fun q hq => by
    have h4 := posW_ge h hq
    rcases List.le_iff_lt_or_eq.1 (List.not_lt.1 h4) with h5 | h5
    · exact h5
    · exact absurd (by cases hs : s; cases hq1 : q.1; rw [hs, hq1] at h5; simp at h5; rw [h5]) (hn q (List.mem_of_mem_drop hq))
  refine ⟨h1, ?_, fun a ha b hb => ?_⟩
  · rw [List.singleton_append, List.map_cons, List.pairwise_cons]
    refine ⟨fun b hb => ?_, h2⟩
    obtain ⟨q, hq, rfl⟩ := List.mem_map.1 hb
    exact h3 q hq
  · obtain ⟨p, hp, rfl⟩ := List.mem_map.1 ha
    have hp1 := posW_lt hp
    rw [List.singleton_append, List.map_cons] at hb
    rcases List.mem_cons.1 hb with rfl | hb
    · exact hp1
    · obtain ⟨q, hq, rfl⟩ := List.mem_map.1 hb
      exact List.lt_trans hp1 (h3 q hq)
theorem insW_get {l : List LW} (s : ByteArray) (x : WV) : (insW l s x)[posW l s]? = some (s, x) := by
  unfold insW
  have hl : (l.take (posW l s)).length = posW l s := by rw [List.length_take]; have := posW_le l s; omega
  rw [List.append_assoc, List.getElem?_append_right (by omega), hl, Nat.sub_self]
  rfl
theorem insW_len (l : List LW) (s : ByteArray) (x : WV) : (insW l s x).length = l.length + 1 := (insW_perm l s x).length_eq
theorem mapW_ins {l : List LW} (h : RisW l) {s : ByteArray} (hn : ∀ p ∈ l, p.1 ≠ s) (x : WV) : mapW (insW l s x) = upd (mapW l) (kStr s) (some x.v) := by
  rw [mapW_perm (insW_perm l s x) (risW_nodup (risW_ins h hn x))]
  funext q
  unfold upd
  rw [mapW_cons]
  by_cases hq : q = kStr s
  · rw [if_pos hq, if_pos hq.symm]
  · rw [if_neg hq, if_neg (fun e => hq e.symm)]
theorem insW_set (l : List LW) (s : ByteArray) (x y : WV) : (insW l s x).set (posW l s) (s, y) = insW l s y := by
  unfold insW
  have hl : (l.take (posW l s)).length = posW l s := by rw [List.length_take]; have := posW_le l s; omega
  rw [List.append_assoc, List.set_append_right _ _ (by omega), hl, Nat.sub_self, List.append_assoc]
  rfl
/-- Whose window began first, among the first ones. -/
def minW (l : List LW) : Nat → Nat
  | 0 => 0
  | i + 1 => if (l.getD i zLW).2.since < (l.getD (minW l i) zLW).2.since then i else minW l i
theorem minW_lt (l : List LW) : ∀ i, 0 < i → minW l i < i
  | 0, h => absurd h (Nat.lt_irrefl _)
  | 1, _ => by unfold minW; split <;> first | omega | exact Nat.lt_of_le_of_lt (Nat.le_refl 0) (by decide)
  | i + 2, _ => by
    have ih := minW_lt l (i + 1) (by omega)
    unfold minW
    split <;> omega
def forgetW (l : List LW) : List LW := l.eraseIdx (minW l l.length)
/-- Does a window end? -/
def endsW (span now : Int) (x : WV) : Bool := decide (now < x.since) || decide (span ≤ now - x.since)
def begW (span now : Int) (x : WV) : WV := if endsW span now x then ⟨now, 0, 0⟩ else x
def tellW (span now : Int) (x : WV) : Int := if endsW span now x then x.barred else 0
def roomW (most : Int) (l : List LW) : List LW := if most ≤ (l.length : Int) then forgetW l else l
/-- What a call does: who may write, what is told, the rows. -/
def stepW (span burst most : Int) (l : List LW) (s : ByteArray) (now : Int) : (Bool × Int) × List LW :=
  match getW l s with
  | some x => (((allowW burst (begW span now x)).1, tellW span now x), l.set (posW l s) (s, (allowW burst (begW span now x)).2))
  | none => (((allowW burst ⟨now, 0, 0⟩).1, 0), insW (roomW most l) s (allowW burst ⟨now, 0, 0⟩).2)
theorem posW_at {l : List LW} (h : RisW l) {i : Nat} {s : ByteArray} {x : WV} (hi : l[i]? = some (s, x)) : posW l s = i :=
  posW_is l s i (Nat.le_of_lt (List.getElem?_eq_some_iff.1 hi).1) (fun j p hj hp => risW_lt h hp hi hj) (fun p hp => by rw [hi] at hp; cases hp; exact List.lt_irrefl _)
theorem roomW_ris {l : List LW} (h : RisW l) (most : Int) : RisW (roomW most l) := by
  unfold roomW
  split
  · exact risW_erase h _
  · exact h
theorem roomW_mem {l : List LW} {most : Int} {p : LW} (h : p ∈ roomW most l) : p ∈ l := by
  unfold roomW at h
  split at h
  · exact List.mem_of_mem_eraseIdx h
  · exact h
/-- What holds of the rows. -/
structure OkL (l : List LW) (k : Nat) : Prop where
  ris : RisW l
  len : l.length ≤ k
  ok : ∀ p ∈ l, p.1.size ≤ maxLen ∧ (0 ≤ p.2.since ∧ p.2.since < 18446744073709551616) ∧ (0 ≤ p.2.n ∧ p.2.n ≤ k) ∧ (0 ≤ p.2.barred ∧ p.2.barred ≤ k)
theorem allowW_ok {burst : Int} {x : WV} {k : Nat} (h : (0 ≤ x.since ∧ x.since < 18446744073709551616) ∧ (0 ≤ x.n ∧ x.n ≤ k) ∧ (0 ≤ x.barred ∧ x.barred ≤ k)) : (0 ≤ (allowW burst x).2.since ∧ (allowW burst x).2.since < 18446744073709551616) ∧ (0 ≤ (allowW burst x).2.n ∧ (allowW burst x).2.n ≤ (k + 1 : Nat)) ∧ (0 ≤ (allowW burst x).2.barred ∧ (allowW burst x).2.barred ≤ (k + 1 : Nat)) := by
  unfold allowW
  split
  · exact ⟨h.1, ⟨by show 0 ≤ x.n + 1; omega, by show x.n + 1 ≤ _; omega⟩, ⟨h.2.2.1, by show x.barred ≤ _; omega⟩⟩
  · exact ⟨h.1, ⟨h.2.1.1, by show x.n ≤ _; omega⟩, ⟨by show 0 ≤ x.barred + 1; omega, by show x.barred + 1 ≤ _; omega⟩⟩
theorem stepW_ok {span burst most : Int} {l : List LW} {k : Nat} {s : ByteArray} {now : Int} (h : OkL l k) (hs : s.size ≤ maxLen) (hn : 0 ≤ now ∧ now < 18446744073709551616) : OkL (stepW span burst most l s now).2 (k + 1) := by
  unfold stepW
  cases hg : getW l s with
  | some x =>
    obtain ⟨i, hi⟩ := getW_some hg
    have hp := posW_at h.ris hi
    have hx := h.ok _ (List.mem_of_getElem? hi)
    dsimp only at hx ⊢
    rw [hp]
    refine ⟨risW_set h.ris hi _, by rw [List.length_set]; have := h.len; omega, fun p hm => ?_⟩
    rcases List.mem_or_eq_of_mem_set hm with hm | rfl
    · have h1 := h.ok p hm
      exact ⟨h1.1, h1.2.1, ⟨h1.2.2.1.1, by omega⟩, ⟨h1.2.2.2.1, by omega⟩⟩
    · have hb : (0 ≤ (begW span now x).since ∧ (begW span now x).since < 18446744073709551616) ∧ (0 ≤ (begW span now x).n ∧ (begW span now x).n ≤ k) ∧ (0 ≤ (begW span now x).barred ∧ (begW span now x).barred ≤ k) := by
        unfold begW
        split
        · exact ⟨hn, ⟨Int.le_refl _, Int.natCast_nonneg k⟩, ⟨Int.le_refl _, Int.natCast_nonneg k⟩⟩
        · exact hx.2
      exact ⟨hs, allowW_ok hb⟩
  | none =>
    have hno := getW_none hg
    have hl : (roomW most l).length ≤ l.length := by
      unfold roomW
      split
      · exact List.length_eraseIdx_le ..
      · exact Nat.le_refl _
    dsimp only
    refine ⟨risW_ins (roomW_ris h.ris most) (fun p hp => hno p (roomW_mem hp)) _, by rw [insW_len]; have := h.len; omega, fun p hm => ?_⟩
    rcases List.mem_cons.1 ((insW_perm _ _ _).mem_iff.1 hm) with rfl | hm
    · exact ⟨hs, allowW_ok ⟨hn, ⟨Int.le_refl _, Int.natCast_nonneg k⟩, ⟨Int.le_refl _, Int.natCast_nonneg k⟩⟩⟩
    · have h1 := h.ok p (roomW_mem hm)
      exact ⟨h1.1, h1.2.1, ⟨h1.2.2.1.1, by omega⟩, ⟨h1.2.2.2.1, by omega⟩⟩
end Go.Proofs.Ytldiginkmmlojaa
