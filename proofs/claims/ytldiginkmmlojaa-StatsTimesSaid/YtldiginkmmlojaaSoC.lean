/- Sorting numbers: the other way round. -/
import Derived.Test.YtldiginkmmlojaaSoB
namespace Go.Proofs.Ytldiginkmmlojaa
set_option linter.unusedVariables false
set_option linter.unusedSimpArgs false
open Go.RowKit Go.Proofs.YtldiginkmmlojaaW.PrintWords
open Go.Sort (swp ltInt reverseLoop reverseRange)

theorem rev_step {i j : Nat} {d : Array Int} (h : i < j) : reverseLoop i j d = reverseLoop (i + 1) (j - 1) (swp d i j) := by
  rw [reverseLoop, if_pos h]
theorem rev_end {i j : Nat} {d : Array Int} (h : ¬ i < j) : reverseLoop i j d = d := by
  rw [reverseLoop, if_neg h]
set_option maxRecDepth 100000 in
set_option maxHeartbeats 4000000 in
theorem rev_any (base g n c a b : Nat) (d : Array Int) (w : World) (h : DR w base g n c d) (hbn : b ≤ n) (hn : n ≤ 1000) (hab : a < b) :
    Calls Try.prog 104 #[.slice (some ⟨g, 0, none⟩) n c, .int .i64 (a : Int), .int .i64 (b : Int)] w fun e w' => e = .returned (.tuple #[]) ∧ DR w' base g n c (reverseRange d a b) ∧ Below base w w' := by
  have HD := Aside0.mk h
  clear h
  go_enter Try.func104, Try.ntmps104
  go_wp2_with fail
  go_loopg [6, 7] b (fun q v6 v7 wr => ∃ (i j : Nat) (d1 : Array Int), v6 = .int .i64 (i : Int) ∧ v7 = .int .i64 (j : Int) ∧ i ≤ b ∧ j < b ∧ Aside0 (q = b - (i - a)) ∧ a ≤ i ∧ Aside0 (reverseLoop i j d1 = reverseRange d a b) ∧ Aside0 (DR wr base g n c d1) ∧ Aside0 (Below base w wr))
  case atStart => exact ⟨a, b - 1, d, rfl, by go_num, by omega, by omega, ⟨by omega⟩, Nat.le_refl _, ⟨rfl⟩, HD, ⟨Below.refl _ _⟩⟩
  case round =>
    clear HD
    obtain ⟨i, j, d1, rfl, rfl, hi, hj, hq, hai, HE, HD, HB⟩ := hrel
    by_cases hlt : i < j
    · have HE2 := Aside0.mk (show reverseLoop (i + 1) (j - 1) (swp d1 i j) = reverseRange d a b by rw [← rev_step hlt]; exact HE.out)
      have hin : i < n := by omega
      have hjn : j < n := by omega
      obtain ⟨r1, f1⟩ := HD.out.at hin
      obtain ⟨r2, f2⟩ := HD.out.at hjn
      generalize hx : d1[i]! = x at r1
      generalize hy : d1[j]! = y at r2
      have HXY := Aside0.mk (And.intro hx hy)
      obtain ⟨r3, f3⟩ := (HD.out.put i y).at hjn
      have hi0 : (0 : Int) ≤ (i : Int) := by omega
      have hi1 : (i : Int) < (n : Int) := by omega
      have hj0 : (0 : Int) ≤ (j : Int) := by omega
      have hj1 : (j : Int) < (n : Int) := by omega
      clear hx hy HE
      go_wp2_with fail
      go_region
      · go_wp2_with fail
        go_roundg (b - (i + 1 - a))
        case measure => have := hq.out; omega
        case rel => exact ⟨i + 1, j - 1, swp d1 i j, by go_num, by go_num, by omega, by omega, ⟨rfl⟩, by omega, HE2, ⟨by rw [← HXY.out.1, ← HXY.out.2]; exact HD.out.drew.swp i j⟩, ⟨HD.out.drew.low (below_drew1 HB.out) i j _ _⟩⟩
    · have HN := Aside0.mk (show d1 = reverseRange d a b by rw [← HE.out, rev_end hlt])
      go_wp2_with fail
      first | go_end0 | ((try simp only [Exit.inBlock, Exit.then]); refine bodyPost_ret (results_none rfl _ _ _) rfl ?_)
      exact ⟨rfl, by rw [← HN.out]; exact HD.out, HB.out⟩
end Go.Proofs.Ytldiginkmmlojaa
