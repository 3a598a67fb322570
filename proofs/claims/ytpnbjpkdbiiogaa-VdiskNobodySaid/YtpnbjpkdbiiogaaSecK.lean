/- Lists alone: what is written piece by piece stands where it was written. -/
import Derived.Test.YtpnbjpkdbiiogaaSecI
namespace Go.Proofs.Ytpnbjpkdbiiogaa
set_option linter.unusedVariables false
open Go.RowKit Go.Proofs.YtpnbjpkdbiiogaaW.PrintWords

/-- Bytes with one piece laid over its sector. -/
def put1 (out : List Int) (p : Pc) : List Int := setL out p.s (layL (atL out p.s) p.f p.d)
theorem put1_eq (out : List Int) (a : Nat) (d : List Int) (n : Nat) (hn : d.length = n) (h : a % 64 + n ≤ 64) (h2 : a + n ≤ out.length) (hpos : 0 < n) : put1 out ⟨(a : Int) / 64, (a : Int) % 64, d⟩ = overlay out a d := by
  subst hn
  unfold put1
  have hk : 0 ≤ (a : Int) / 64 ∧ (a : Int) / 64 < cnt out.length := by
    unfold cnt
    split <;> omega
  have e64 : ((a : Int) / 64 * 64).toNat = a / 64 * 64 := by omega
  have e1 : setL out ((a : Int) / 64) (layL (atL out ((a : Int) / 64)) ((a : Int) % 64) d) = overlay out (a / 64 * 64) ((layL (atL out ((a : Int) / 64)) ((a : Int) % 64) d).take 64) := by
    unfold setL
    rw [if_pos hk, e64]
  have e2 : atL out ((a : Int) / 64) = sizeL (out.drop (a / 64 * 64)) 64 := by
    unfold atL
    rw [if_pos hk, e64]
  have e3 : layL (atL out ((a : Int) / 64)) ((a : Int) % 64) d = overlay (sizeL (out.drop (a / 64 * 64)) 64) (a % 64) d := by
    unfold layL
    rw [if_pos (by omega), sizeL_own _ _ (by rw [atL_length]; rfl), e2, show ((a : Int) % 64).toNat = a % 64 by omega]
  rw [e1, e3]
  have l1 : (sizeL (out.drop (a / 64 * 64)) 64).length = 64 := sizeL_length _ _
  have l2 : (overlay (sizeL (out.drop (a / 64 * 64)) 64) (a % 64) d).length = 64 := by rw [overlay_length (by omega), l1]
  rw [List.take_of_length_le (by omega)]
  apply List.ext_getElem?
  intro i
  rw [overlay_get (by omega), overlay_get (by omega), l2, overlay_get (by omega), l1, sizeL_get]
  by_cases c1 : a / 64 * 64 ≤ i ∧ i < a / 64 * 64 + 64 ∧ i < out.length
  · rw [if_pos c1, if_pos (show i - a / 64 * 64 < (64 : Int).toNat by show _ < 64; omega)]
    by_cases c2 : a ≤ i ∧ i < a + d.length
    · rw [if_pos (by omega), if_pos (by omega)]
      congr 1
      omega
    · rw [if_neg (by omega), if_neg (by omega), List.getD_eq_getElem?_getD, List.getElem?_drop, show a / 64 * 64 + (i - a / 64 * 64) = i by omega]
      rw [List.getElem?_eq_getElem c1.2.2]
      rfl
  · rw [if_neg c1, if_neg (by omega)]
theorem overlay_two (x b : List Int) (a n : Nat) (h : a + b.length ≤ x.length) (hn : n ≤ b.length) : overlay (overlay x a (b.take n)) (a + n) (b.drop n) = overlay x a b := by
  have l1 : (b.take n).length = n := by rw [List.length_take]; omega
  apply List.ext_getElem?
  intro i
  rw [overlay_get (by rw [overlay_length (by omega)]; omega), overlay_length (by omega), overlay_get (by omega), overlay_get (by omega), l1, List.length_drop]
  by_cases c1 : a + n ≤ i ∧ i < a + n + (b.length - n) ∧ i < x.length
  · rw [if_pos c1, if_pos (by omega), List.getElem?_drop]
    congr 1
    omega
  · rw [if_neg c1]
    by_cases c2 : a ≤ i ∧ i < a + n ∧ i < x.length
    · rw [if_pos c2, if_pos (by omega), List.getElem?_take, if_pos (by omega)]
    · rw [if_neg c2, if_neg (by omega)]
theorem puts_eq : ∀ (g : Nat) (b : List Int) (a : Nat) (out : List Int), b.length ≤ g → a + b.length ≤ out.length → (pieces a b).foldl put1 out = overlay out a b
  | 0, b, a, out, hg, _ => by
    obtain rfl := List.eq_nil_of_length_eq_zero (Nat.le_zero.1 hg)
    rw [pieces_nil, overlay_nil]
    rfl
  | g + 1, b, a, out, hg, h => by
    by_cases h0 : 0 < b.length
    · have hn : min (64 - a % 64) b.length ≤ b.length := Nat.min_le_right _ _
      have hn2 : min (64 - a % 64) b.length ≤ 64 - a % 64 := Nat.min_le_left _ _
      have hn3 : 0 < min (64 - a % 64) b.length := by omega
      obtain ⟨n, hne⟩ : ∃ n, n = min (64 - a % 64) b.length := ⟨_, rfl⟩
      rw [← hne] at hn hn2 hn3
      have lt : (b.take n).length = n := by rw [List.length_take]; omega
      rw [pieces_step a b n hne h0, List.foldl_cons, put1_eq out a (b.take n) n lt (by omega) (by omega) hn3,
        puts_eq g (b.drop n) (a + n) _ (by rw [List.length_drop]; omega) (by rw [overlay_length (by omega), List.length_drop]; omega), overlay_two out b a n h hn]
    · obtain rfl := List.eq_nil_of_length_eq_zero (Nat.eq_zero_of_not_pos h0)
      rw [pieces_nil, overlay_nil]
      rfl
theorem puts_wrL (l : List Int) (k : Nat) (x : List Int) : (pieces k x).foldl put1 (sizeL l (max l.length (k + x.length) : Nat)) = wrL l k x := by
  rw [puts_eq x.length x k _ (Nat.le_refl _) (by rw [sizeL_length]; omega)]
  rfl
theorem puts_take (P : List Pc) (z : Pc) (x : List Int) (i : Nat) (h : i < P.length) : (P.take (i + 1)).foldl put1 x = put1 ((P.take i).foldl put1 x) (P.getD i z) := by
  rw [List.take_succ_eq_append_getElem h, List.foldl_append]
  simp [List.getD_eq_getElem?_getD, h]
theorem puts_length (P : List Pc) : ∀ (x : List Int), (P.foldl put1 x).length = x.length := by
  induction P with
  | nil => intro x; rfl
  | cons p t ih => intro x; rw [List.foldl_cons, ih]; exact setL_length _ _ _
end Go.Proofs.Ytpnbjpkdbiiogaa
