/- The limit: no limit; the example; a call, whatever was before. -/
import Derived.Test.YtldiginkmmlojaaRaB
import Derived.Test.YtldiginkmmlojaaOpen
namespace Go.Proofs.Ytldiginkmmlojaa
set_option linter.unusedVariables false
open Go.RowKit Go.Maps Go.Proofs.YtldiginkmmlojaaW.PrintWords
attribute [local go_sem] mx2 mn2 mxTwo mnTwo

theorem allow_nil (s : ByteArray) (now : Int) (w : World) : Calls Try.prog 61 #[.pointer none, .string s, .int .u64 now] w fun e w' => e = .returned (.tuple #[.bool true, .int .i64 0]) ∧ w' = w := by
  go_enter Try.func61, Try.ntmps61
  go_wp2
  go_ret2
  exact ⟨rfl, rfl⟩
theorem known_nil (w : World) : Calls Try.prog 63 #[.pointer none] w fun e w' => e = .returned (.slice none 0 0) ∧ w' = w := by
  go_enter Try.func63, Try.ntmps63
  go_wp2
  go_ret
  exact ⟨rfl, rfl⟩
def goodW (now : Int) (o : Option WV) : Prop := ∀ x, o = some x → 0 ≤ x.since ∧ x.since ≤ now ∧ 0 ≤ x.n ∧ x.n ≤ 1000 ∧ 0 ≤ x.barred ∧ x.barred ≤ 1000
theorem allow_any (b g m N : Nat) (span burst most : Int) (o : Option WV) (now : Int) (w : World) (h : LI w b g m N span burst most o) (hN : N < 100000) (hmo : 1 ≤ most) (h1 : 0 ≤ now) (h2 : now ≤ 1000000) (ho : goodW now o) :
    Calls Try.prog 61 #[.pointer (some ⟨g, 0, none⟩), .string ⟨#[97]⟩, .int .u64 now] w fun e w' => e = .returned (.tuple #[.bool (allowW burst (baseW span now o)).1, .int .i64 (toldW span now o)]) ∧ LI w' b g m (N + 1) span burst most (some (allowW burst (baseW span now o)).2) ∧ Below b w w' := by
  cases o with
  | none => exact allow_none b g m N span burst most now w h hN hmo h2 h1
  | some x =>
    obtain ⟨a1, a2, a3, a4, a5, a6⟩ := ho x rfl
    by_cases hf : span ≤ now - x.since
    · have := allow_fresh b g m N span burst most x now w h hN a1 a2 h2 hf
      unfold baseW toldW
      dsimp only
      rw [if_pos hf, if_pos hf]
      exact this
    · have := allow_old b g m N span burst most x now w h hN a1 a2 h2 hf a3 a4 a5 a6
      unfold baseW toldW
      dsimp only
      rw [if_neg hf, if_neg hf]
      exact this
set_option maxRecDepth 100000 in
theorem awake38_any (w : World) : Calls Try.prog 60 #[] w fun e w' => e = .returned (.bool true) ∧ Below w.heap.size w w' := by
  have e1 : allowW 1 (baseW 10 0 none) = (true, ⟨0, 1, 0⟩) := by simp [allowW, baseW]
  have e2 : allowW 1 (baseW 10 5 (some ⟨0, 1, 0⟩)) = (false, ⟨0, 1, 1⟩) := by simp [allowW, baseW]
  have e3 : allowW 1 (baseW 10 10 (some ⟨0, 1, 1⟩)) = (true, ⟨10, 1, 0⟩) := by simp [allowW, baseW]
  have t1 : toldW 10 0 none = 0 := rfl
  have t2 : toldW 10 5 (some ⟨0, 1, 0⟩) = 0 := by simp [toldW]
  have t3 : toldW 10 10 (some ⟨0, 1, 1⟩) = 1 := by simp [toldW]
  have E := Aside0.mk (And.intro (And.intro e1 t1) (And.intro (And.intro e2 t2) (And.intro e3 t3)))
  clear e1 e2 e3 t1 t2 t3
  go_enter Try.func60, Try.ntmps60
  go_wp2_with (first
    | (go_at_call 58; refine (lnew_any w.heap.size 10 1 5 _ (Nat.le_refl _)).mono ?_; rintro e W ⟨g, m, rfl, hl, hb⟩; have HL := Aside0.mk (show LI W w.heap.size g m 0 10 1 5 none from hl); have HB := Aside0.mk hb; clear hl hb)
    | (go_at_call 61; refine (allow_any w.heap.size g m _ 10 1 5 _ _ _ HL.out (by decide) (by decide) (by decide) (by decide) (by intro x hx; first | (cases hx; done) | (cases hx; decide))).mono ?_; rintro e W1 ⟨rfl, hl, hb⟩; (first | (rw [E.out.1.1] at hl ⊢; rw [E.out.1.2]) | (rw [E.out.2.1.1] at hl ⊢; rw [E.out.2.1.2]) | (rw [E.out.2.2.1] at hl ⊢; rw [E.out.2.2.2])); dsimp only at hl ⊢; have hbn := HB.out.trans hb; clear HB HL; have HB := Aside0.mk hbn; have HL := Aside0.mk hl; clear hl hb hbn))
  go_ret
  exact ⟨rfl, HB.out⟩
end Go.Proofs.Ytldiginkmmlojaa
