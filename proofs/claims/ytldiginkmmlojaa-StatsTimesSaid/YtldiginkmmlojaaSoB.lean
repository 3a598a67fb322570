/- Sorting numbers: one by one. -/
import Derived.Test.YtldiginkmmlojaaSoA
namespace Go.Proofs.Ytldiginkmmlojaa
set_option linter.unusedVariables false
set_option linter.unusedSimpArgs false
open Go.RowKit Go.Proofs.YtldiginkmmlojaaW.PrintWords
open Go.Sort (swp ltInt insInner insOuter insertionSort)

theorem insOuter_step {a b i : Nat} {d : Array Int} (h : i < b) : insOuter ltInt a b i d = insOuter ltInt a b (i + 1) (insInner ltInt a i d) := by
  rw [insOuter, if_pos h]
theorem insOuter_end {a b i : Nat} {d : Array Int} (h : ¬ i < b) : insOuter ltInt a b i d = d := by
  rw [insOuter, if_neg h]
theorem insInner_step {a m : Nat} {d : Array Int} (h : a < m + 1) (hl : ltInt d[m + 1]! d[m]! = true) : insInner ltInt a (m + 1) d = insInner ltInt a m (swp d (m + 1) m) := by
  rw [insInner, if_pos]
  simp [h, hl]
theorem insInner_end {a j : Nat} {d : Array Int} (h : ¬ a < j) : insInner ltInt a j d = d := by
  cases j with
  | zero => rw [insInner]
  | succ m => rw [insInner, if_neg]; simp; omega
theorem insInner_end2 {a m : Nat} {d : Array Int} (hl : ltInt d[m + 1]! d[m]! = false) : insInner ltInt a (m + 1) d = d := by
  rw [insInner, if_neg]; simp [hl]
set_option maxRecDepth 100000 in
set_option maxHeartbeats 4000000 in
theorem ins_any (base g n c a b : Nat) (d : Array Int) (w : World) (h : DR w base g n c d) (hbn : b ≤ n) (hn : n ≤ 1000) (hab : a ≤ b) :
    Calls Try.prog 100 #[.slice (some ⟨g, 0, none⟩) n c, .int .i64 (a : Int), .int .i64 (b : Int)] w fun e w' => e = .returned (.tuple #[]) ∧ DR w' base g n c (insertionSort ltInt d a b) ∧ Below base w w' := by
  have HD := Aside0.mk h
  clear h
  go_enter Try.func100, Try.ntmps100
  go_wp2_with fail
  go_loopg [6] (b - (a + 1)) (fun q v6 wr => ∃ (i : Nat) (d1 : Array Int), v6 = .int .i64 (i : Int) ∧ a < i ∧ i ≤ b + 1 ∧ Aside0 (q = b - i) ∧ Aside0 (insOuter ltInt a b i d1 = insertionSort ltInt d a b) ∧ Aside0 (DR wr base g n c d1) ∧ Aside0 (Below base w wr))
  case atStart => exact ⟨a + 1, d, by go_num, by omega, by omega, ⟨rfl⟩, ⟨rfl⟩, HD, ⟨Below.refl _ _⟩⟩
  case round =>
    clear HD
    obtain ⟨i, d1, rfl, hai, hib, hq, HE, HD, HB⟩ := hrel
    by_cases hlt : i < b
    · have HE2 := Aside0.mk (show insOuter ltInt a b (i + 1) (insInner ltInt a i d1) = insertionSort ltInt d a b by rw [← insOuter_step hlt]; exact HE.out)
      clear HE
      obtain ⟨dr, hdr⟩ : ∃ dr, dr = insInner ltInt a i d1 := ⟨_, rfl⟩
      rw [← hdr] at HE2
      have HDR := Aside0.mk hdr.symm
      clear hdr
      go_wp2_with fail
      go_loopg [7] i (fun q v7 wr2 => ∃ (j : Nat) (d2 : Array Int), v7 = .int .i64 (j : Int) ∧ a ≤ j ∧ j ≤ i ∧ Aside0 (q = j) ∧ Aside0 (insInner ltInt a j d2 = dr) ∧ Aside0 (DR wr2 base g n c d2) ∧ Aside0 (Below base w wr2))
      case atStart => exact ⟨i, d1, rfl, by omega, Nat.le_refl _, ⟨rfl⟩, HDR, HD, HB⟩
      case round =>
        clear HD HB HDR
        obtain ⟨j, d2, rfl, haj, hji, hq2, HI, HD, HB⟩ := hrel
        by_cases hlj : a < j
        · have d1x : decide (a < j) = true := decide_eq_true hlj
          obtain ⟨m, hm⟩ : ∃ m, m = j - 1 := ⟨_, rfl⟩
          have hjm : j = m + 1 := by omega
          have hmn : m < n := by omega
          obtain ⟨r1, f1⟩ := HD.out.at (show j < n by omega)
          obtain ⟨r2, f2⟩ := HD.out.at hmn
          have hwm : IntKind.i64.wrap ((j : Int) - 1) = (m : Int) := by rw [IntKind.wrap_i64]; omega
          have hm0 : (0 : Int) ≤ (m : Int) := by omega
          have hm1 : (m : Int) < (n : Int) := by omega
          have hj0 : (0 : Int) ≤ (j : Int) := by omega
          have hj1 : (j : Int) < (n : Int) := by omega
          have HJM := Aside0.mk hjm
          have ham : a ≤ m := by omega
          have hmi : m ≤ i := by omega
          clear hm hjm
          cases hl : ltInt d2[j]! d2[m]! with
          | true =>
            have HN := Aside0.mk (show insInner ltInt a m (swp d2 j m) = dr by
              have hh := HI.out
              rw [HJM.out] at hh
              rw [HJM.out] at hl hlj ⊢
              rw [← insInner_step hlj hl]; exact hh)
            go_wp2_with fail
            go_quiet (first | (go_at_call 106; exact Calls.quiet_of_same (less_any _ _ _)))
            generalize hWq : World.drewN _ _ = wq
            have HDq := Aside0.mk (show DR wq base g n c d2 by rw [← hWq]; exact HD.out.drewN _)
            have HBq := Aside0.mk (show Below base w wq by rw [← hWq]; exact pw_below_drewN HB.out _)
            clear r1 f1 r2 f2 HD HB hWq
            obtain ⟨r1, f1⟩ := HDq.out.at (show j < n by omega)
            obtain ⟨r2, f2⟩ := HDq.out.at hmn
            generalize hx : d2[j]! = x at r1
            generalize hy : d2[m]! = y at r2
            have HXY := Aside0.mk (And.intro hx hy)
            obtain ⟨r3, f3⟩ := (HDq.out.put j y).at hmn
            clear hx hy hl
            go_wp2_with fail
            go_region
            all_goals
              go_wp2_with fail
              go_roundg m
              case measure => have := hq2.out; have := HJM.out; omega
              case rel => exact ⟨m, swp d2 j m, by go_num, ham, hmi, ⟨rfl⟩, HN, ⟨by rw [← HXY.out.1, ← HXY.out.2]; exact HDq.out.drew.swp j m⟩, ⟨HDq.out.drew.low (below_drew1 HBq.out) j m _ _⟩⟩
          | false =>
            have HN := Aside0.mk (show d2 = dr by
              have hh := HI.out
              rw [HJM.out] at hh
              rw [HJM.out] at hl
              rw [insInner_end2 hl] at hh; exact hh)
            go_wp2_with fail
            go_quiet (first | (go_at_call 106; exact Calls.quiet_of_same (less_any _ _ _)))
            go_wp2_with fail
            go_roundg (b - (i + 1))
            case measure => have := hq.out; omega
            case rel => exact ⟨i + 1, dr, by go_num, by omega, by omega, ⟨rfl⟩, HE2, ⟨by rw [← HN.out]; exact HD.out.drewN _⟩, ⟨pw_below_drewN HB.out _⟩⟩
        · have d1x : decide (a < j) = false := decide_eq_false hlj
          have HN := Aside0.mk (show d2 = dr by have hh := HI.out; rw [insInner_end hlj] at hh; exact hh)
          go_wp2_with fail
          go_quiet (first | (go_at_call 106; exact Calls.quiet_of_same (less_any _ _ _)))
          go_wp2_with fail
          go_roundg (b - (i + 1))
          case measure => have := hq.out; omega
          case rel => exact ⟨i + 1, dr, by go_num, by omega, by omega, ⟨rfl⟩, HE2, ⟨by rw [← HN.out]; exact HD.out.drewN _⟩, ⟨pw_below_drewN HB.out _⟩⟩
    · have HN := Aside0.mk (show d1 = insertionSort ltInt d a b by rw [← HE.out, insOuter_end hlt])
      go_wp2_with fail
      first | go_end0 | ((try simp only [Exit.inBlock, Exit.then]); refine bodyPost_ret (results_none rfl _ _ _) rfl ?_)
      exact ⟨rfl, by rw [← HN.out]; exact HD.out, HB.out⟩
end Go.Proofs.Ytldiginkmmlojaa
