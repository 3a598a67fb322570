/- Directories, lists alone: names that rise, what is done to them. -/
import Derived.Test.YtpnbjpkdbiiogaaMap
import Derived.Sort.Walk0
namespace Go.Proofs.Ytpnbjpkdbiiogaa
set_option linter.unusedVariables false
open Go.RowKit Go.Maps

/-- A name and its file. -/
abbrev DN := ByteArray × Int
def gtS (a b : ByteArray) : Bool := !(Op.bytesLess a.toList b.toList || a.toList == b.toList)
def withoutL (l : List DN) (s : ByteArray) : List DN := l.filter (fun p => !decide (p.1 = s))
def insL (s : ByteArray) (a : Int) : List DN → List DN
  | [] => [(s, a)]
  | p :: t => if gtS p.1 s then (s, a) :: p :: t else p :: insL s a t
def withL (l : List DN) (s : ByteArray) (a : Int) : List DN := insL s a (withoutL l s)
def getN (l : List DN) (s : ByteArray) : Option Int := (l.find? (fun p => decide (p.1 = s))).map (·.2)
/-- Something done to names: 0 Create, 1 Rename, else Unlink. -/
structure DOp where
  kd : Int
  a : ByteArray
  b : ByteArray
  id : Int
def zDop : DOp := ⟨0, ⟨#[]⟩, ⟨#[]⟩, 0⟩
def didL (l : List DN) (o : DOp) : List DN :=
  if o.kd = 0 then withL l o.a o.id else
    match getN l o.a with
    | none => l
    | some id => if o.kd = 1 then withL (withoutL l o.a) o.b id else withoutL l o.a

/-! ### a round of 'with' -/
def insW (s : ByteArray) (a : Int) (st : List DN × Bool) (p : DN) : List DN × Bool := if !st.2 && gtS p.1 s then (st.1 ++ [(s, a)] ++ [p], true) else (st.1 ++ [p], st.2)
def insEnd (s : ByteArray) (a : Int) (st : List DN × Bool) : List DN := if st.2 then st.1 else st.1 ++ [(s, a)]
theorem insW_true (s : ByteArray) (a : Int) : ∀ (l o : List DN), l.foldl (insW s a) (o, true) = (o ++ l, true)
  | [], o => by simp
  | p :: t, o => by
    rw [List.foldl_cons, show insW s a (o, true) p = (o ++ [p], true) from by simp [insW], insW_true s a t]
    simp
theorem insW_end (s : ByteArray) (a : Int) : ∀ (l o : List DN), insEnd s a (l.foldl (insW s a) (o, false)) = o ++ insL s a l
  | [], o => by simp [insEnd, insL]
  | p :: t, o => by
    rw [List.foldl_cons]
    cases h : gtS p.1 s with
    | true =>
      rw [show insW s a (o, false) p = (o ++ [(s, a)] ++ [p], true) from by simp [insW, h], insW_true]
      simp [insEnd, insL, h]
    | false =>
      rw [show insW s a (o, false) p = (o ++ [p], false) from by simp [insW, h], insW_end s a t]
      simp [insL, h]
theorem insW_len (s : ByteArray) (a : Int) : ∀ (l : List DN) (st : List DN × Bool), (l.foldl (insW s a) st).1.length ≤ st.1.length + l.length + (if st.2 then 0 else 1)
  | [], st => by simp
  | p :: t, st => by
    rw [List.foldl_cons]
    have h := insW_len s a t (insW s a st p)
    obtain ⟨o, d⟩ := st
    cases d with
    | true => simp [insW] at h ⊢; omega
    | false =>
      cases hg : gtS p.1 s with
      | true => simp [insW, hg] at h ⊢; omega
      | false => simp [insW, hg] at h ⊢; omega
theorem insL_len (s : ByteArray) (a : Int) : ∀ l : List DN, (insL s a l).length = l.length + 1
  | [] => rfl
  | p :: t => by
    unfold insL
    split
    · simp
    · simp [insL_len s a t]
theorem withoutL_len (l : List DN) (s : ByteArray) : (withoutL l s).length ≤ l.length := List.length_filter_le _ _
theorem withL_len (l : List DN) (s : ByteArray) (a : Int) : (withL l s a).length ≤ l.length + 1 := by unfold withL; rw [insL_len]; have := withoutL_len l s; omega
theorem didL_len (l : List DN) (o : DOp) : (didL l o).length ≤ l.length + 1 := by
  unfold didL
  split
  · exact withL_len _ _ _
  · split
    · omega
    · split
      · have := withL_len (withoutL l o.a) o.b (by assumption); have := withoutL_len l o.a; omega
      · have := withoutL_len l o.a; omega

/-! ### the map that the names are -/
def kS (s : ByteArray) : Lit := .string s.data.toList
theorem kS_inj {s t : ByteArray} (h : kS s = kS t) : s = t := by
  unfold kS at h
  injection h with h
  cases s; cases t
  simp at h
  rw [h]
open Classical in
noncomputable def mapF (l : List DN) : Lit → Option Value := fun q => match l.find? (fun p => decide (kS p.1 = q)) with | some p => some (.int .i64 p.2) | none => none
open Classical in
theorem mapF_at (l : List DN) (s : ByteArray) : mapF l (kS s) = (getN l s).map (Value.int .i64) := by
  unfold mapF getN
  have e : (fun p : DN => decide (kS p.1 = kS s)) = fun p => decide (p.1 = s) := by
    funext p
    by_cases h : p.1 = s
    · simp [h]
    · have h2 : kS p.1 ≠ kS s := fun e => h (kS_inj e)
      simp [h, h2]
  rw [e]
  cases l.find? (fun p => decide (p.1 = s)) <;> rfl
open Classical in
theorem mapF_cons (p : DN) (l : List DN) (q : Lit) : mapF (p :: l) q = if kS p.1 = q then some (.int .i64 p.2) else mapF l q := by
  unfold mapF
  rw [List.find?_cons]
  by_cases h : kS p.1 = q <;> simp [h]
open Classical in
theorem mapF_without (l : List DN) (s : ByteArray) : mapF (withoutL l s) = upd (mapF l) (kS s) none := by
  funext q
  induction l with
  | nil => unfold upd; simp [mapF, withoutL]
  | cons p t ih =>
    by_cases h : p.1 = s
    · have e : withoutL (p :: t) s = withoutL t s := by simp [withoutL, h]
      rw [e, ih]
      unfold upd
      by_cases hq : q = kS s
      · simp [hq]
      · rw [if_neg hq, if_neg hq, mapF_cons, if_neg (fun e2 => hq (by rw [← e2, h]))]
    · have e : withoutL (p :: t) s = p :: withoutL t s := by simp [withoutL, h]
      rw [e, mapF_cons, ih]
      unfold upd
      rw [mapF_cons]
      by_cases hq : q = kS s
      · rw [if_pos hq, if_pos hq, if_neg (fun e2 => h (kS_inj (e2.trans hq)))]
      · rw [if_neg hq, if_neg hq]
open Classical in
theorem mapF_ins (s : ByteArray) (a : Int) : ∀ (l : List DN), (∀ p ∈ l, p.1 ≠ s) → mapF (insL s a l) = upd (mapF l) (kS s) (some (.int .i64 a))
  | [], _ => by
    funext q
    unfold upd
    by_cases hq : q = kS s
    · rw [if_pos hq]; simp [mapF, insL, hq]
    · rw [if_neg hq]; simp [mapF, insL, Ne.symm hq]
  | p :: t, h => by
    have hp := h p (List.mem_cons_self ..)
    funext q
    unfold insL
    split
    · rw [mapF_cons]
      unfold upd
      by_cases hq : q = kS s
      · simp [hq]
      · rw [if_neg (Ne.symm hq), if_neg hq]
    · rw [mapF_cons, mapF_ins s a t (fun x hx => h x (List.mem_cons_of_mem _ hx))]
      unfold upd
      by_cases hq : q = kS s
      · rw [if_pos hq, if_pos hq, if_neg (fun e => hp (kS_inj (e.trans hq)))]
      · rw [if_neg hq, if_neg hq, mapF_cons]
theorem without_no (l : List DN) (s : ByteArray) : ∀ p ∈ withoutL l s, p.1 ≠ s := by
  intro p hp
  simpa using (List.mem_filter.1 hp).2
open Classical in
theorem mapF_with (l : List DN) (s : ByteArray) (a : Int) : mapF (withL l s a) = upd (mapF l) (kS s) (some (.int .i64 a)) := by
  unfold withL
  rw [mapF_ins s a _ (without_no l s), mapF_without]
  funext q
  unfold upd
  by_cases hq : q = kS s
  · simp [hq]
  · simp [hq]
theorem getN_nil (s : ByteArray) : getN [] s = none := rfl
theorem getN_cons (p : DN) (l : List DN) (s : ByteArray) : getN (p :: l) s = if p.1 = s then some p.2 else getN l s := by
  unfold getN
  rw [List.find?_cons]
  by_cases h : p.1 = s <;> simp [h]
end Go.Proofs.Ytpnbjpkdbiiogaa
