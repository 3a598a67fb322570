/- The reference's pieces are the program's: plain lists, no memory. -/
import Derived.Test.YtpnbjpkdbiiogaaSecB
namespace Go.Proofs.Ytpnbjpkdbiiogaa
set_option linter.unusedVariables false
open Go.RowKit Go.Proofs.YtpnbjpkdbiiogaaW.PrintWords

/-! ### the reference's pieces are the program's -/
theorem addB_same (out0 : List Pc) (p : Pc) (s f x : Int) (h : p.s = s) : addB (out0 ++ [p]) s f x = out0 ++ [⟨p.s, p.f, p.d ++ [x]⟩] := by
  unfold addB
  rw [if_pos (by simp [List.getD_eq_getElem?_getD, h])]
  simp [List.getD_eq_getElem?_getD]
theorem addB_fresh (out : List Pc) (s f x : Int) (h : ∀ p, out.getLast? = some p → p.s ≠ s) : addB out s f x = out ++ [⟨s, f, [x]⟩] := by
  unfold addB
  rw [if_neg]
  rintro ⟨h0, h1⟩
  refine h (out.getD (out.length - 1) zPc) ?_ h1
  rw [List.getLast?_eq_getElem?, List.getD_eq_getElem?_getD, List.getElem?_eq_getElem (by omega)]
  rfl
theorem rpcs_chunk : ∀ (n : Nat) (out0 : List Pc) (a : Nat) (s f : Int) (d l : List Int), n ≤ l.length → (n = 0 ∨ (a : Int) / 64 = s ∧ a % 64 + n ≤ 64) →
    rpcs (out0 ++ [Pc.mk s f d]) a l = rpcs (out0 ++ [Pc.mk s f (d ++ l.take n)]) (a + n) (l.drop n) := by
  intro n
  induction n with
  | zero => intro out0 a s f d l _ _; simp
  | succ n ih =>
    intro out0 a s f d l hl ha
    match l, hl with
    | x :: l, hl =>
      rcases ha with ha | ⟨rfl, ha⟩
      · omega
      · rw [rpcs, addB_same out0 (Pc.mk ((a : Int) / 64) f d) _ _ x rfl]
        simp only [List.length_cons] at hl
        rw [ih out0 (a + 1) ((a : Int) / 64) f (d ++ [x]) l (by omega) (by omega)]
        simp [Nat.add_assoc, Nat.add_comm 1 n]
theorem rpcs_pieces : ∀ (g : Nat) (l : List Int) (out : List Pc) (a : Nat), l.length ≤ g → (∀ p, out.getLast? = some p → p.s ≠ (a : Int) / 64) → rpcs out a l = out ++ pieces a l := by
  intro g
  induction g with
  | zero =>
    intro l out a hl _
    obtain rfl : l = [] := List.eq_nil_of_length_eq_zero (by omega)
    simp [rpcs, pieces_nil]
  | succ g ih =>
    intro l out a hl hf
    match l, hl with
    | [], _ => simp [rpcs, pieces_nil]
    | x :: l, hl =>
      obtain ⟨n, hn⟩ : ∃ n, n = min (64 - a % 64) (x :: l).length := ⟨_, rfl⟩
      rw [pieces_step a (x :: l) n hn (by simp)]
      simp only [List.length_cons] at hl hn
      obtain ⟨m, rfl⟩ : ∃ m, n = m + 1 := ⟨n - 1, by omega⟩
      rw [rpcs, addB_fresh out _ _ x hf, rpcs_chunk m out (a + 1) _ _ _ l (by omega) (by omega)]
      by_cases h0 : l.drop m = []
      · simp [h0, rpcs, pieces_nil]
      · have hml : m < l.length := by
          rcases Nat.lt_or_ge m l.length with h | h
          · exact h
          · exact absurd (List.drop_of_length_le h) h0
        rw [ih (l.drop m) _ (a + 1 + m) (by rw [List.length_drop]; omega)]
        · simp [Nat.add_assoc, Nat.add_comm 1 m]
        · intro p hp
          rw [List.getLast?_concat] at hp
          injection hp with hp
          subst hp
          show (a : Int) / 64 ≠ _
          omega

end Go.Proofs.Ytpnbjpkdbiiogaa
