/- Sorting numbers: the partition of those that are equal. -/
import Derived.Test.YtldiginkmmlojaaSoD
namespace Go.Proofs.Ytldiginkmmlojaa
set_option linter.unusedVariables false
set_option linter.unusedSimpArgs false
open Go.RowKit Go.Proofs.YtldiginkmmlojaaW.PrintWords
open Go.Sort (swp ltInt scanUp scanDown partLoop partEqLoop partition partitionEqual)

set_option maxRecDepth 100000 in
set_option maxHeartbeats 8000000 in
theorem parteq_any (base g n c a b p : Nat) (d : Array Int) (w : World) (h : DR w base g n c d) (hbn : b ≤ n) (hn : n ≤ 1000) (hap : a ≤ p) (hpb : p < b) :
    Calls Try.prog 107 #[.slice (some ⟨g, 0, none⟩) n c, .int .i64 (a : Int), .int .i64 (b : Int), .int .i64 (p : Int)] w fun e w' => e = .returned (.int .i64 ((partitionEqual ltInt d a b p).1 : Int)) ∧ DR w' base g n c (partitionEqual ltInt d a b p).2 ∧ Below base w w' := by
  have HD := Aside0.mk h
  have HB := Aside0.mk (Below.refl base w)
  have han : a < n := by omega
  clear h
  go_enter Try.func107, Try.ntmps107
  have hin : a < n := by omega
  have hjn : p < n := by omega
  obtain ⟨r1, f1⟩ := HD.out.at hin
  obtain ⟨r2, f2⟩ := HD.out.at hjn
  have hi0 : (0 : Int) ≤ (a : Int) := by omega
  have hi1 : (a : Int) < (n : Int) := by omega
  have hj0 : (0 : Int) ≤ (p : Int) := by omega
  have hj1 : (p : Int) < (n : Int) := by omega
  obtain ⟨x, hx⟩ : ∃ x, x = d[a]! := ⟨_, rfl⟩
  obtain ⟨y, hy⟩ : ∃ y, y = d[p]! := ⟨_, rfl⟩
  rw [← hx] at r1
  rw [← hy] at r2
  obtain ⟨r3, f3⟩ := (HD.out.put a y).at hjn
  have HXY := Aside0.mk (And.intro hx hy)
  clear hx hy
  go_wp2_with fail
  go_region
  have HD1 := Aside0.mk (HD.out.sw3 a p HXY.out)
  have HB1 := Aside0.mk (HD.out.low3 HB.out a p x y)
  generalize World.drew (World.setCell (World.setCell w ⟨g, a, none⟩ (.int .u64 y)) ⟨g, p, none⟩ (.int .u64 x)) = wn at HD1 HB1 ⊢
  clear HD HB HXY r1 r2 r3 f1 f2 f3 hin hjn hi0 hi1 hj0 hj1
  have HD := HD1
  have HB := HB1
  clear HD1 HB1
  obtain ⟨R, hR⟩ : ∃ R, R = partEqLoop ltInt a (a + 1) (b - 1) (swp d a p) := ⟨_, rfl⟩
  have HP := Aside0.mk (show partitionEqual ltInt d a b p = R by rw [hR]; rfl)
  have HR := Aside0.mk hR.symm
  clear hR
  go_wp2_with fail
  go_loopg [9, 10] (b - 1 + 1 - (a + 1)) (fun q v10 v11 wr => ∃ (i j : Nat) (d2 : Array Int), v10 = .int .i64 (i : Int) ∧ v11 = .int .i64 (j : Int) ∧ a < i ∧ j < b ∧ i ≤ 1001 ∧ Aside0 (q = j + 1 - i) ∧ Aside0 (partEqLoop ltInt a i j d2 = R) ∧ Aside0 (DR wr base g n c d2) ∧ Aside0 (Below base w wr))
  case atStart => exact ⟨a + 1, b - 1, swp d a p, by go_num, by go_num, by omega, by omega, by omega, ⟨rfl⟩, HR, HD, HB⟩
  case round =>
    clear HD HB HR
    obtain ⟨i0, j0, d2, rfl, rfl, hai0, hjb0, hi0s, hq, HR, HD, HB⟩ := hrel
    obtain ⟨i3, hi3⟩ : ∃ i3, i3 = scanUp (fun x => !ltInt d2[a]! x) d2 j0 i0 := ⟨_, rfl⟩
    have HI2 := Aside0.mk hi3.symm
    have HI3E := Aside0.mk hi3
    clear hi3
    have HD0 := HD
    have HB0 := HB
    go_wp2_with fail
    go_loopg [9] (j0 + 1 - (i0)) (fun q vv wr => ∃ i : Nat, vv = .int .i64 (i : Int) ∧ i ≤ 1001 ∧ a < i ∧ (i0) ≤ i ∧ Aside0 (q = j0 + 1 - i) ∧ Aside0 (scanUp (fun x => !ltInt d2[a]! x) d2 j0 i = i3) ∧ Aside0 (DR wr base g n c d2) ∧ Aside0 (Below base w wr))
    case atStart => exact ⟨i0, by go_num, by omega, by omega, Nat.le_refl _, ⟨rfl⟩, HI2, HD, HB⟩
    case round =>
      clear HD HB HD0 HB0 HI2
      obtain ⟨i, rfl, hi9, hai, hii, hq2, HI2, HD, HB⟩ := hrel
      go_upto_region 3 with (fail)
      go_cut [43] (fun vr wx => ∃ bo : Bool, vr = .bool bo ∧ Aside0 (bo = (decide (i ≤ j0) && (fun x => !ltInt d2[a]! x) d2[i]!)) ∧ Aside0 (DR wx base g n c d2) ∧ Aside0 (Below base w wx))
      case first =>
        obtain ⟨r0, f0⟩ := HD.out.at han
        by_cases hij : i ≤ j0
        · have dx : decide (i ≤ j0) = true := decide_eq_true hij
          obtain ⟨r1, f1⟩ := HD.out.at (show i < n by omega)
          have hi0 : (0 : Int) ≤ (i : Int) := by omega
          have hi1 : (i : Int) < (n : Int) := by omega
          go_wp2_with fail
          go_quiet (first | (go_at_call 106; exact Calls.quiet_of_same (less_any _ _ _)))
          go_wp2_with fail
          go_meet
          exact ⟨_, rfl, ⟨by rw [dx, Bool.true_and]⟩, ⟨HD.out.drewN _⟩, ⟨pw_below_drewN HB.out _⟩⟩
        · have dx : decide (i ≤ j0) = false := decide_eq_false hij
          go_wp2_with fail
          go_quiet (first | (go_at_call 106; exact Calls.quiet_of_same (less_any _ _ _)))
          go_wp2_with fail
          go_meet
          exact ⟨_, rfl, ⟨by rw [dx, Bool.false_and]⟩, ⟨HD.out.drewN _⟩, ⟨pw_below_drewN HB.out _⟩⟩
      case rest =>
        clear HD HB
        obtain ⟨bo, rfl, HBO, HD, HB⟩ := hcut
        cases bo with
        | true =>
          have hst := HBO.out.symm
          have hij : i ≤ j0 := of_decide_eq_true ((Bool.and_eq_true _ _).mp hst).1
          have HI3 := Aside0.mk (show scanUp (fun x => !ltInt d2[a]! x) d2 j0 (i + 1) = i3 by rw [← sU_step (p := fun x => !ltInt d2[a]! x) hst]; exact HI2.out)
          clear hst
          go_wp2_with fail
          go_roundg (j0 + 1 - (i + 1))
          case measure => have := hq2.out; omega
          case rel => exact ⟨i + 1, by go_num, by omega, by omega, by omega, ⟨rfl⟩, HI3, HD, HB⟩
        | false =>
          have hsp := HBO.out.symm
          have hie : i = i3 := by rw [← HI2.out]; exact (sU_stop (p := fun x => !ltInt d2[a]! x) hsp).symm
          subst hie
          clear HI2 HBO hsp hq2
          obtain ⟨j3, hj3⟩ : ∃ j3, j3 = scanDown (fun x => ltInt d2[a]! x) d2 i j0 := ⟨_, rfl⟩
          have HJ2 := Aside0.mk hj3.symm
          have HJ3E := Aside0.mk hj3
          clear hj3
          have HD0 := HD
          have HB0 := HB
          go_wp2_with fail
          go_loopg [10] (j0) (fun q vv wr => ∃ j : Nat, vv = .int .i64 (j : Int) ∧ j ≤ j0 ∧ Aside0 (q = j) ∧ Aside0 (scanDown (fun x => ltInt d2[a]! x) d2 i j = j3) ∧ Aside0 (DR wr base g n c d2) ∧ Aside0 (Below base w wr))
          case atStart => exact ⟨j0, by go_num, Nat.le_refl _, ⟨rfl⟩, HJ2, HD, HB⟩
          case round =>
            clear HD HB HD0 HB0 HJ2
            obtain ⟨j, rfl, hj9, hq3, HJ2, HD, HB⟩ := hrel
            go_upto_region 5 with (fail)
            go_cut [59] (fun vr wx => ∃ bo : Bool, vr = .bool bo ∧ Aside0 (bo = (decide (i ≤ j) && (fun x => ltInt d2[a]! x) d2[j]!)) ∧ Aside0 (DR wx base g n c d2) ∧ Aside0 (Below base w wx))
            case first =>
              obtain ⟨r0, f0⟩ := HD.out.at han
              obtain ⟨r1, f1⟩ := HD.out.at (show j < n by omega)
              have hj0 : (0 : Int) ≤ (j : Int) := by omega
              have hj1 : (j : Int) < (n : Int) := by omega
              by_cases hij : i ≤ j
              · have dx : decide (i ≤ j) = true := decide_eq_true hij
                go_wp2_with fail
                go_quiet (first | (go_at_call 106; exact Calls.quiet_of_same (less_any _ _ _)))
                go_wp2_with fail
                go_meet
                exact ⟨_, rfl, ⟨by rw [dx, Bool.true_and]⟩, ⟨HD.out.drewN _⟩, ⟨pw_below_drewN HB.out _⟩⟩
              · have dx : decide (i ≤ j) = false := decide_eq_false hij
                go_wp2_with fail
                go_quiet (first | (go_at_call 106; exact Calls.quiet_of_same (less_any _ _ _)))
                go_wp2_with fail
                go_meet
                exact ⟨_, rfl, ⟨by rw [dx, Bool.false_and]⟩, ⟨HD.out.drewN _⟩, ⟨pw_below_drewN HB.out _⟩⟩
            case rest =>
              clear HD HB
              obtain ⟨bo, rfl, HBO, HD, HB⟩ := hcut
              cases bo with
              | true =>
                have hst := HBO.out.symm
                have hij : i ≤ j := of_decide_eq_true ((Bool.and_eq_true _ _).mp hst).1
                have HI3 := Aside0.mk (show scanDown (fun x => ltInt d2[a]! x) d2 i (j - 1) = j3 by rw [← sD_step (p := fun x => ltInt d2[a]! x) (by omega) hst]; exact HJ2.out)
                clear hst
                go_wp2_with fail
                go_roundg (j - 1)
                case measure => have := hq3.out; omega
                case rel => exact ⟨j - 1, by go_num, by omega, ⟨rfl⟩, HI3, HD, HB⟩
              | false =>
                have hsp := HBO.out.symm
                have hie : j = j3 := by rw [← HJ2.out]; exact (sD_stop (p := fun x => ltInt d2[a]! x) hsp).symm
                subst hie
                clear HJ2 HBO hsp hq3
                have HPL := Aside0.mk (show (if j < i then (i, d2) else partEqLoop ltInt a (i + 1) (j - 1) (swp d2 i j)) = R by
                  rw [← HR.out, Sort.partEqLoop_eq ltInt a i0 j0 d2, ← HI3E.out, ← HJ3E.out])
                by_cases hgt2 : j < i
                · have dg2 : decide (j < i) = true := decide_eq_true hgt2
                  have HRE := Aside0.mk (show R = (i, d2) by rw [← HPL.out, if_pos hgt2])
                  go_wp2_with fail
                  go_ret
                  rw [HP.out, HRE.out]
                  exact ⟨rfl, HD.out, HB.out⟩
                · have dg2 : decide (j < i) = false := decide_eq_false hgt2
                  have HRE := Aside0.mk (show partEqLoop ltInt a (i + 1) (j - 1) (swp d2 i j) = R by rw [← HPL.out, if_neg hgt2])
                  go_upto_region 8 with (fail)
                  have hin : i < n := by omega
                  have hjn : j < n := by omega
                  obtain ⟨r1, f1⟩ := HD.out.at hin
                  obtain ⟨r2, f2⟩ := HD.out.at hjn
                  have hi0 : (0 : Int) ≤ (i : Int) := by omega
                  have hi1 : (i : Int) < (n : Int) := by omega
                  have hj0 : (0 : Int) ≤ (j : Int) := by omega
                  have hj1 : (j : Int) < (n : Int) := by omega
                  obtain ⟨x, hx⟩ : ∃ x, x = d2[i]! := ⟨_, rfl⟩
                  obtain ⟨y, hy⟩ : ∃ y, y = d2[j]! := ⟨_, rfl⟩
                  rw [← hx] at r1
                  rw [← hy] at r2
                  obtain ⟨r3, f3⟩ := (HD.out.put i y).at hjn
                  have HXY := Aside0.mk (And.intro hx hy)
                  clear hx hy
                  go_wp2_with fail
                  go_region
                  have HD1 := Aside0.mk (HD.out.sw3 i j HXY.out)
                  have HB1 := Aside0.mk (HD.out.low3 HB.out i j x y)
                  generalize World.drew (World.setCell (World.setCell wc ⟨g, i, none⟩ (.int .u64 y)) ⟨g, j, none⟩ (.int .u64 x)) = wn at HD1 HB1 ⊢
                  clear HD HB HXY r1 r2 r3 f1 f2 f3 hin hjn hi0 hi1 hj0 hj1
                  have HD := HD1
                  have HB := HB1
                  clear HD1 HB1
                  go_wp2_with fail
                  go_roundg (j - 1 + 1 - (i + 1))
                  case measure => have := hq.out; omega
                  case rel => exact ⟨i + 1, j - 1, swp d2 i j, by go_num, by go_num, by omega, by omega, by omega, ⟨rfl⟩, HRE, HD, HB⟩
end Go.Proofs.Ytldiginkmmlojaa
