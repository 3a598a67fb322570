/- Merging: lists alone; the orders; least. -/
import Derived.Test.YtldiginkmmlojaaStC
namespace Go.Proofs.Ytldiginkmmlojaa
set_option linter.unusedVariables false
open Go.RowKit Go.Proofs.YtldiginkmmlojaaW.PrintWords
attribute [local go_sem] mx2 mn2 mxTwo mnTwo

def cT (a b : Int) : Int := a / 10 - b / 10
def cS (a b : Int) : Int := a - b
/-- Which of the first i rests begins with the least thing, the first one of alike ones. -/
def bestF (cmp : Int → Int → Int) (S : List (List Int)) : Nat → Option (Nat × Int)
  | 0 => none
  | i + 1 => match S.getD i [] with
    | [] => bestF cmp S i
    | y :: _ => match bestF cmp S i with
      | none => some (i, y)
      | some (j, z) => if cmp y z < 0 then some (i, y) else some (j, z)
def codeB : Option (Nat × Int) → Int
  | none => -1
  | some (i, _) => (i : Int)
/-- All things, of alike ones the first alone. -/
def allF (cmp : Int → Int → Int) : Nat → List (List Int) → List Int
  | 0, _ => []
  | f + 1, S => match bestF cmp S S.length with
    | none => []
    | some (_, x) => x :: allF cmp f (S.map (fun l => l.dropWhile (fun y => cmp y x == 0)))
theorem awake_all : allF cS 5 [[1, 3, 5], [2, 3]] = [1, 2, 3, 5] := by decide
theorem tens_any (a b : Int) (w : World) (ha : 0 ≤ a ∧ a ≤ 1000000) (hb : 0 ≤ b ∧ b ≤ 1000000) : Calls Try.prog 38 #[.int .i64 a, .int .i64 b] w fun e w' => e = .returned (.int .i64 (cT a b)) ∧ w' = w := by
  obtain ⟨a0, a1⟩ := ha
  obtain ⟨b0, b1⟩ := hb
  go_enter Try.func38, Try.ntmps38
  go_wp2
  go_ret
  refine ⟨?_, rfl⟩
  unfold cT
  rfl
theorem subs_any (a b : Int) (w : World) (ha : 0 ≤ a ∧ a ≤ 1000000) (hb : 0 ≤ b ∧ b ≤ 1000000) : Calls Try.prog 67 #[.int .i64 a, .int .i64 b] w fun e w' => e = .returned (.int .i64 (cS a b)) ∧ w' = w := by
  obtain ⟨a0, a1⟩ := ha
  obtain ⟨b0, b1⟩ := hb
  go_enter Try.func67, Try.ntmps67
  go_wp2
  go_ret
  refine ⟨?_, rfl⟩
  rfl
end Go.Proofs.Ytldiginkmmlojaa
