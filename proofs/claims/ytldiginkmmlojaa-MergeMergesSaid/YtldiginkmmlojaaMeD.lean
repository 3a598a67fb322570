/- Merging: what a step does to the rests (lists alone). -/
import Derived.Test.YtldiginkmmlojaaMeC
namespace Go.Proofs.Ytldiginkmmlojaa
set_option linter.unusedVariables false

def totF (S : List (List Int)) : Nat := (S.map List.length).sum
theorem dropWhile_len (p : Int → Bool) : ∀ l : List Int, (l.dropWhile p).length ≤ l.length
  | [] => Nat.le_refl _
  | a :: t => by
    rw [List.dropWhile_cons]
    split
    · exact Nat.le_trans (dropWhile_len p t) (Nat.le_succ _)
    · exact Nat.le_refl _
theorem totF_le (p : Int → Bool) : ∀ S : List (List Int), totF (S.map (fun l => l.dropWhile p)) ≤ totF S
  | [] => Nat.le_refl _
  | l :: t => by
    have h1 := totF_le p t
    have h2 := dropWhile_len p l
    unfold totF at h1 ⊢
    simp only [List.map_cons, List.sum_cons]
    omega
theorem totF_lt (p : Int → Bool) : ∀ (S : List (List Int)) (j : Nat) (x : Int) (t : List Int), S.getD j [] = x :: t → p x = true → totF (S.map (fun l => l.dropWhile p)) < totF S
  | [], j, x, t, h, _ => by simp at h
  | l :: s, 0, x, t, h, hp => by
    have hl : l = x :: t := by simpa using h
    have h1 := totF_le p s
    have h2 := dropWhile_len p t
    unfold totF at h1 ⊢
    simp only [List.map_cons, List.sum_cons, hl, List.dropWhile_cons, hp, if_true, List.length_cons]
    omega
  | l :: s, j + 1, x, t, h, hp => by
    have h1 := totF_lt p s j x t (by simpa using h) hp
    have h2 := dropWhile_len p l
    unfold totF at h1 ⊢
    simp only [List.map_cons, List.sum_cons]
    omega
theorem allF_none {cmp : Int → Int → Int} {f : Nat} {S : List (List Int)} (h : bestF cmp S S.length = none) : allF cmp f S = [] := by
  cases f with
  | zero => rfl
  | succ f =>
    show (match bestF cmp S S.length with | none => _ | some (_, x) => _) = _
    rw [h]
theorem allF_some {cmp : Int → Int → Int} {f : Nat} {S : List (List Int)} {i : Nat} {x : Int} (h : bestF cmp S S.length = some (i, x)) : allF cmp (f + 1) S = x :: allF cmp f (S.map (fun l => l.dropWhile (fun y => cmp y x == 0))) := by
  show (match bestF cmp S S.length with | none => _ | some (_, x) => _) = _
  rw [h]
theorem sufF_len {L : List (List Int)} {ats : List Nat} (he : ats.length = L.length) : (sufF L ats).length = L.length := by
  unfold sufF
  rw [List.length_zipWith]
  omega
theorem sufF_map {L : List (List Int)} {ats ats1 : List Nat} (he : ats.length = L.length) (he1 : ats1.length = L.length) (p : Int → Bool) (h : ∀ j, j < L.length → (L.getD j []).drop (ats1.getD j 0) = ((L.getD j []).drop (ats.getD j 0)).dropWhile p) : sufF L ats1 = (sufF L ats).map (fun l => l.dropWhile p) := by
  apply List.ext_getElem
  · rw [List.length_map, sufF_len he1, sufF_len he]
  · intro j h1 h2
    have hj : j < L.length := by rw [sufF_len he1] at h1; exact h1
    have e1 := sufF_get he1 hj
    have e2 := sufF_get he hj
    rw [List.getElem_map]
    have g1 : (sufF L ats1).getD j [] = (sufF L ats1)[j] := by rw [List.getD_eq_getElem?_getD, List.getElem?_eq_getElem h1]; rfl
    have g2 : (sufF L ats).getD j [] = (sufF L ats)[j]'(by rw [sufF_len he]; exact hj) := by rw [List.getD_eq_getElem?_getD, List.getElem?_eq_getElem]; rfl
    rw [← g1, ← g2, e1, e2, h j hj]
theorem getD_setN {ats : List Nat} {j k : Nat} (v : Nat) (hk : k < ats.length) : (ats.set k v).getD j 0 = if j = k then v else ats.getD j 0 := by
  rw [List.getD_eq_getElem?_getD, List.getElem?_set]
  by_cases h : k = j
  · subst h
    rw [if_pos rfl, if_pos hk, if_pos rfl]
    rfl
  · rw [if_neg h, if_neg (fun e => h e.symm), ← List.getD_eq_getElem?_getD]
theorem atI_set (ats : List Nat) (k v : Nat) : (atI ats).set k (v : Int) = atI (ats.set k v) := by
  unfold atI
  rw [List.map_set]
theorem cT_refl (x : Int) : (cT x x == 0) = true := by unfold cT; simp
theorem cS_refl (x : Int) : (cS x x == 0) = true := by unfold cS; simp
theorem tot_start (L : List (List Int)) : sufF L (List.replicate L.length 0) = L := by
  apply List.ext_getElem
  · rw [sufF_len (by simp)]
  · intro j h1 h2
    have e := sufF_get (L := L) (ats := List.replicate L.length 0) (by simp) (i := j) h2
    have g : (sufF L (List.replicate L.length 0)).getD j [] = (sufF L (List.replicate L.length 0))[j] := by rw [List.getD_eq_getElem?_getD, List.getElem?_eq_getElem h1]; rfl
    have z : (List.replicate L.length 0).getD j 0 = 0 := by
      rw [List.getD_eq_getElem?_getD, List.getElem?_replicate]
      split <;> rfl
    rw [← g, e, z, List.drop_zero, List.getD_eq_getElem?_getD, List.getElem?_eq_getElem h2]
    rfl
end Go.Proofs.Ytldiginkmmlojaa
