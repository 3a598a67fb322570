/- Lists alone: what is laid over bytes, bytes of another size, a sector of bytes. -/
import Derived.Test.YtpnbjpkdbiiogaaSecE
namespace Go.Proofs.Ytpnbjpkdbiiogaa
set_option linter.unusedVariables false
open Go.RowKit Go.Proofs.YtpnbjpkdbiiogaaW.PrintWords

/-- y laid over x from place k on, as far as x goes. -/
def overlay (x : List Int) (k : Nat) (y : List Int) : List Int := x.take k ++ y.take (x.length - k) ++ x.drop (k + y.length)
theorem overlay_get {x y : List Int} {k : Nat} (hk : k ≤ x.length) (i : Nat) : (overlay x k y)[i]? = if k ≤ i ∧ i < k + y.length ∧ i < x.length then y[i - k]? else x[i]? := by
  unfold overlay
  by_cases h1 : i < k
  · rw [if_neg (by omega), List.append_assoc, List.getElem?_append_left (by rw [List.length_take]; omega), List.getElem?_take, if_pos h1]
  · rw [List.append_assoc, List.getElem?_append_right (by rw [List.length_take]; omega), List.length_take, Nat.min_eq_left hk]
    by_cases h2 : i < k + y.length ∧ i < x.length
    · rw [if_pos ⟨by omega, h2⟩, List.getElem?_append_left (by rw [List.length_take]; omega), List.getElem?_take, if_pos (by omega)]
    · rw [if_neg (by omega), List.getElem?_append_right (by rw [List.length_take]; omega), List.getElem?_drop, List.length_take]
      by_cases h3 : y.length ≤ x.length - k
      · rw [Nat.min_eq_right h3]
        congr 1
        omega
      · rw [List.getElem?_eq_none (by omega), List.getElem?_eq_none (by omega)]
theorem overlay_length {x y : List Int} {k : Nat} (hk : k ≤ x.length) : (overlay x k y).length = x.length := by
  unfold overlay
  simp only [List.length_append, List.length_take, List.length_drop]
  omega
theorem overlay_nil (x : List Int) (k : Nat) : overlay x k [] = x := by simp [overlay]
theorem overlay_step {x y : List Int} {k i : Nat} (hk : k ≤ x.length) (hi : i < y.length) : overlay x k (y.take (i + 1)) = (overlay x k (y.take i)).set (k + i) (rd y (i : Int)) := by
  have hr : rd y (i : Int) = y[i] := by simp [rd, List.getD_eq_getElem?_getD, hi]
  rw [hr]
  apply List.ext_getElem?
  intro j
  rw [overlay_get hk, List.getElem?_set, overlay_length hk, overlay_get hk]
  simp only [List.length_take]
  by_cases h1 : k + i = j
  · subst h1
    by_cases h2 : k + i < x.length
    · rw [if_pos (by omega), if_pos rfl, if_pos h2, List.getElem?_take, if_pos (by omega)]
      simp [hi]
    · rw [if_neg (by omega), if_pos rfl, if_neg h2, List.getElem?_eq_none (by omega)]
  · rw [if_neg h1]
    by_cases h2 : k ≤ j ∧ j < k + min i y.length ∧ j < x.length
    · rw [if_pos (by omega), if_pos h2, List.getElem?_take, List.getElem?_take, if_pos (by omega), if_pos (by omega)]
    · rw [if_neg (by omega), if_neg h2]
/-- Behind the end of x nothing more is laid. -/
theorem overlay_far {x y : List Int} {k i : Nat} (hk : k ≤ x.length) (hi : x.length ≤ k + i) : overlay x k (y.take i) = overlay x k y := by
  apply List.ext_getElem?
  intro j
  rw [overlay_get hk, overlay_get hk]
  simp only [List.length_take]
  by_cases h2 : k ≤ j ∧ j < k + y.length ∧ j < x.length
  · rw [if_pos (by omega), if_pos h2, List.getElem?_take, if_pos (by omega)]
  · rw [if_neg (by omega), if_neg h2]
theorem overlay_take_all {x y : List Int} {k i : Nat} (h : y.length ≤ i) : overlay x k (y.take i) = overlay x k y := by rw [List.take_of_length_le h]

/-- Bytes of another size: what is new is nought. -/
def sizeL (b : List Int) (n : Int) : List Int := overlay (List.replicate n.toNat 0) 0 b
theorem sizeL_length (b : List Int) (n : Int) : (sizeL b n).length = n.toNat := by unfold sizeL; rw [overlay_length (Nat.zero_le _), List.length_replicate]
theorem sizeL_get (b : List Int) (n : Int) (i : Nat) : (sizeL b n)[i]? = if i < n.toNat then some (b.getD i 0) else none := by
  unfold sizeL
  rw [overlay_get (Nat.zero_le _), List.length_replicate]
  by_cases h1 : i < n.toNat
  · rw [if_pos h1]
    by_cases h2 : i < b.length
    · rw [if_pos (by omega)]
      simp [List.getD_eq_getElem?_getD, h2]
    · rw [if_neg (by omega)]
      simp [List.getD_eq_getElem?_getD, h1, List.getElem?_eq_none (Nat.le_of_not_lt h2)]
  · rw [if_neg (by omega), if_neg h1, List.getElem?_eq_none (by rw [List.length_replicate]; omega)]
theorem rd_sizeL (b : List Int) (n : Int) (i : Nat) (h : i < n.toNat) : rd (sizeL b n) (i : Int) = b.getD i 0 := by
  simp [rd, List.getD_eq_getElem?_getD, sizeL_get, h]
theorem take_snoc_rd (l : List Int) (k : Nat) (h : k < l.length) : l.take (k + 1) = l.take k ++ [rd l (k : Int)] := by
  rw [List.take_succ_eq_append_getElem h]
  simp [rd, List.getD_eq_getElem?_getD, h]

/-- A sector of bytes. -/
def atL (b : List Int) (n : Int) : List Int := if 0 ≤ n ∧ n < cnt b.length then sizeL (b.drop (n * 64).toNat) 64 else List.replicate 64 0
theorem atL_length (b : List Int) (n : Int) : (atL b n).length = 64 := by
  unfold atL
  split
  · exact sizeL_length _ _
  · simp
/-- A piece laid over a sector. -/
def layL (old : List Int) (f : Int) (d : List Int) : List Int := if 0 ≤ f ∧ f ≤ 64 then overlay (sizeL old 64) f.toNat d else sizeL old 64
/-- Bytes with another sector. -/
def setL (b : List Int) (n : Int) (s : List Int) : List Int := if 0 ≤ n ∧ n < cnt b.length then overlay b (n * 64).toNat (s.take 64) else b
theorem setL_length (b : List Int) (n : Int) (s : List Int) : (setL b n s).length = b.length := by
  unfold setL
  split
  · rename_i h
    exact overlay_length (by have := h.2; unfold cnt at this; split at this <;> omega)
  · rfl
theorem cnt_room {n : Int} {l : Nat} (h0 : 0 ≤ n) (h : n < cnt l) : n * 64 < l := by unfold cnt at h; split at h <;> omega

/-- Target and base, parted at i. -/
def mixL (t b : List Int) (i : Nat) : List Int := t.take i ++ b.drop i
theorem mixL_zero (t b : List Int) : mixL t b 0 = b := by simp [mixL]
theorem mixL_all (t b : List Int) (i : Nat) (h1 : t.length ≤ i) (h2 : b.length ≤ i) : mixL t b i = t := by simp [mixL, List.take_of_length_le h1, List.drop_of_length_le h2]
theorem mixL_length (t b : List Int) (i : Nat) (h : t.length = b.length) (hi : i ≤ b.length) : (mixL t b i).length = b.length := by simp [mixL]; omega
theorem mixL_set (t b : List Int) (i : Nat) (h : t.length = b.length) (hi : i < b.length) : (mixL t b i).set i (rd t (i : Int)) = mixL t b (i + 1) := by
  unfold mixL
  rw [take_snoc_rd t i (by omega), List.set_append_right _ _ (by rw [List.length_take]; omega), List.length_take, Nat.min_eq_left (by omega), Nat.sub_self, List.drop_eq_getElem_cons hi, List.set_cons_zero, List.append_assoc]
  rfl
theorem mixL_skip (t b : List Int) (i : Nat) (h : t.length = b.length) (hi : i < b.length) (e : rd t (i : Int) = rd b (i : Int)) : mixL t b i = mixL t b (i + 1) := by
  unfold mixL
  rw [take_snoc_rd t i (by omega), List.drop_eq_getElem_cons hi, List.append_assoc, e]
  simp [rd, List.getD_eq_getElem?_getD, hi]
end Go.Proofs.Ytpnbjpkdbiiogaa
