/- Sorting numbers: the heap. -/
import Derived.Test.YtldiginkmmlojaaSoE
namespace Go.Proofs.Ytldiginkmmlojaa
set_option linter.unusedVariables false
set_option linter.unusedSimpArgs false
open Go.RowKit Go.Proofs.YtldiginkmmlojaaW.PrintWords
open Go.Sort (swp ltInt siftDown heapBuild heapPop heapSort)

theorem sift_end {hi F r : Nat} {d : Array Int} (h : hi ≤ 2 * r + 1) : siftDown ltInt hi F r d = d := by
  rw [siftDown, dif_pos h]
theorem sift_eq {hi F r ch : Nat} {d : Array Int} (h : ¬ hi ≤ 2 * r + 1) (hc : ch = if (decide (2 * r + 2 < hi) && ltInt d[F + (2 * r + 1)]! d[F + (2 * r + 1) + 1]!) = true then 2 * r + 2 else 2 * r + 1) :
    ch < hi ∧ siftDown ltInt hi F r d = if ltInt d[F + r]! d[F + ch]! = true then siftDown ltInt hi F ch (swp d (F + r) (F + ch)) else d := by
  by_cases hb : (decide (2 * r + 2 < hi) && ltInt d[F + (2 * r + 1)]! d[F + (2 * r + 1) + 1]!) = true
  · rw [if_pos hb] at hc
    have h2 : 2 * r + 2 < hi := of_decide_eq_true ((Bool.and_eq_true _ _).mp hb).1
    subst hc
    refine ⟨h2, ?_⟩
    rw [siftDown, dif_neg (by omega), if_pos hb]
    by_cases hl : ltInt d[F + r]! d[F + (2 * r + 2)]! = true
    · rw [if_neg (by rw [hl]; decide), dif_pos h2, if_pos hl]
    · have hl' : ltInt d[F + r]! d[F + (2 * r + 2)]! = false := by simpa using hl
      rw [if_pos (by rw [hl']; rfl), if_neg hl]
  · rw [if_neg hb] at hc
    subst hc
    refine ⟨by omega, ?_⟩
    rw [siftDown, dif_neg (by omega), if_neg hb]
    by_cases hl : ltInt d[F + r]! d[F + (2 * r + 1)]! = true
    · rw [if_neg (by rw [hl]; decide), if_pos hl]
    · have hl' : ltInt d[F + r]! d[F + (2 * r + 1)]! = false := by simpa using hl
      rw [if_pos (by rw [hl']; rfl), if_neg hl]
set_option maxRecDepth 100000 in
set_option maxHeartbeats 8000000 in
theorem sift_any (base g n c lo hi F : Nat) (d : Array Int) (w : World) (h : DR w base g n c d) (hbn : F + hi ≤ n) (hn : n ≤ 1000) (hlo : lo ≤ 1000) :
    Calls Try.prog 120 #[.slice (some ⟨g, 0, none⟩) n c, .int .i64 (lo : Int), .int .i64 (hi : Int), .int .i64 (F : Int)] w fun e w' => e = .returned (.tuple #[]) ∧ DR w' base g n c (siftDown ltInt hi F lo d) ∧ Below base w w' := by
  have HD := Aside0.mk h
  have HB := Aside0.mk (Below.refl base w)
  clear h
  obtain ⟨R, hR⟩ : ∃ R, R = siftDown ltInt hi F lo d := ⟨_, rfl⟩
  have HR := Aside0.mk hR.symm
  rw [← hR]
  clear hR
  go_enter Try.func120, Try.ntmps120
  go_wp2_with fail
  go_loopg [8] (hi - lo) (fun q v8 wr => ∃ (r : Nat) (d1 : Array Int), v8 = .int .i64 (r : Int) ∧ r ≤ 1000 ∧ Aside0 (q = hi - r) ∧ Aside0 (siftDown ltInt hi F r d1 = R) ∧ Aside0 (DR wr base g n c d1) ∧ Aside0 (Below base w wr))
  case atStart => exact ⟨lo, d, rfl, hlo, ⟨rfl⟩, HR, HD, HB⟩
  case round =>
    clear HD HB HR
    obtain ⟨r, d1, rfl, hr, hq, HR, HD, HB⟩ := hrel
    go_upto_region 1 with (fail)
    go_cut [9] (fun v9 wx => ∃ c1 : Nat, v9 = .int .i64 (c1 : Int) ∧ Aside0 (c1 = 2 * r + 1) ∧ wx = wr)
    case first =>
      go_wp2_with fail
      go_meet
      exact ⟨2 * r + 1, by go_num, ⟨rfl⟩, rfl⟩
    case rest =>
      obtain ⟨c1, rfl, HC1, rfl⟩ := hcut
      have hc1b : c1 ≤ 2001 := by have := HC1.out; omega
      by_cases hend : hi ≤ c1
      · have dx : decide (hi ≤ c1) = true := decide_eq_true hend
        have HRE := Aside0.mk (show R = d1 by rw [← HR.out]; exact sift_end (by rw [← HC1.out]; exact hend))
        go_wp2_with fail
        first | go_end0 | ((try simp only [Exit.inBlock, Exit.then]); refine bodyPost_ret (results_none rfl _ _ _) rfl ?_)
        exact ⟨rfl, by rw [HRE.out]; exact HD.out, HB.out⟩
      · have dx : decide (hi ≤ c1) = false := decide_eq_false hend
        have hc1n : c1 < hi := by omega
        obtain ⟨k1, hk1⟩ : ∃ k1, k1 = F + c1 := ⟨_, rfl⟩
        have hw1 : IntKind.i64.wrap ((F : Int) + (c1 : Int)) = (k1 : Int) := by rw [IntKind.wrap_i64]; omega
        have hk1n : k1 < n := by omega
        have hw2 : IntKind.i64.wrap ((k1 : Int) + 1) = ((k1 + 1 : Nat) : Int) := by rw [IntKind.wrap_i64]; omega
        have HK1 := Aside0.mk hk1
        have hkn : c1 + 1 < hi → k1 + 1 < n := fun h => by omega
        have hkn := Aside0.mk hkn
        clear hk1
        go_upto_region 3 with (fail)
        go_cut [36] (fun vr wx => ∃ bo : Bool, vr = .bool bo ∧ Aside0 (bo = (decide (2 * r + 2 < hi) && ltInt d1[F + (2 * r + 1)]! d1[F + (2 * r + 1) + 1]!)) ∧ Aside0 (DR wx base g n c d1) ∧ Aside0 (Below base w wx))
        case first =>
          obtain ⟨r1, f1⟩ := HD.out.at hk1n
          have hk10 : (0 : Int) ≤ (k1 : Int) := by omega
          have hk11 : (k1 : Int) < (n : Int) := by omega
          by_cases h2 : c1 + 1 < hi
          · have d2 : decide ((c1 : Int) + 1 < (hi : Int)) = true := decide_eq_true (by omega)
            have hkn2 := hkn.out h2
            obtain ⟨r2, f2⟩ := HD.out.at hkn2
            obtain ⟨k2, hk2⟩ : ∃ k2, k2 = k1 + 1 := ⟨_, rfl⟩
            rw [← hk2] at r2 f2 hw2 hkn2
            have hk20 : (0 : Int) ≤ (k2 : Int) := by omega
            have hk21 : (k2 : Int) < (n : Int) := by omega
            have HK2 := Aside0.mk hk2
            clear hk2
            go_wp2_with fail
            go_quiet (first | (go_at_call 106; exact Calls.quiet_of_same (less_any _ _ _)))
            go_wp2_with fail
            go_meet
            exact ⟨_, rfl, ⟨by rw [show decide (2 * r + 2 < hi) = true from decide_eq_true (by have := HC1.out; omega), Bool.true_and, ← HC1.out, ← HK1.out, ← HK2.out]⟩, ⟨HD.out.drewN _⟩, ⟨pw_below_drewN HB.out _⟩⟩
          · have d2 : decide ((c1 : Int) + 1 < (hi : Int)) = false := decide_eq_false (by omega)
            go_wp2_with fail
            go_quiet (first | (go_at_call 106; exact Calls.quiet_of_same (less_any _ _ _)))
            go_wp2_with fail
            go_meet
            exact ⟨_, rfl, ⟨by rw [show decide (2 * r + 2 < hi) = false from decide_eq_false (by have := HC1.out; omega), Bool.false_and]⟩, ⟨HD.out.drewN _⟩, ⟨pw_below_drewN HB.out _⟩⟩
        case rest =>
          clear HD HB
          obtain ⟨bo, rfl, HBO, HD, HB⟩ := hcut
          go_upto_if 36 with (fail)
          go_cut [9] (fun v9 wx => ∃ ch : Nat, v9 = .int .i64 (ch : Int) ∧ Aside0 (ch = if bo = true then 2 * r + 2 else 2 * r + 1) ∧ Aside0 (DR wx base g n c d1) ∧ Aside0 (Below base w wx))
          case first =>
            cases bo with
            | true =>
              go_wp2_with fail
              go_meet
              exact ⟨c1 + 1, by go_num, ⟨by simp; have := HC1.out; omega⟩, HD, HB⟩
            | false =>
              go_wp2_with fail
              go_meet
              exact ⟨c1, rfl, ⟨by simp; exact HC1.out⟩, HD, HB⟩
          case rest =>
            clear HD HB
            obtain ⟨ch, rfl, HCH, HD, HB⟩ := hcut
            have hse := sift_eq (F := F) (d := d1) (ch := ch) (show ¬ hi ≤ 2 * r + 1 by have := HC1.out; omega) (by rw [← HBO.out]; exact HCH.out)
            have hchi := hse.1
            have HSE := Aside0.mk hse.2
            obtain ⟨kr, hkr⟩ : ∃ kr, kr = F + r := ⟨_, rfl⟩
            obtain ⟨kc, hkc⟩ : ∃ kc, kc = F + ch := ⟨_, rfl⟩
            have hrc : r < ch := by
              have := HCH.out
              split at this <;> omega
            have HCR := Aside0.mk hrc
            have hwr : IntKind.i64.wrap ((F : Int) + (r : Int)) = (kr : Int) := by rw [IntKind.wrap_i64]; omega
            have hwc : IntKind.i64.wrap ((F : Int) + (ch : Int)) = (kc : Int) := by rw [IntKind.wrap_i64]; omega
            have hkcb : kc < n := by omega
            have hkrb : kr < n := by omega
            have HKR := Aside0.mk hkr
            have HKC := Aside0.mk hkc
            clear hse hkr hkc hw1 hw2 hkn hk1n
            have hcn : kc < n := by omega
            have hrn : kr < n := by omega
            obtain ⟨r1, f1⟩ := HD.out.at hrn
            obtain ⟨r2, f2⟩ := HD.out.at hcn
            have hkr0 : (0 : Int) ≤ (kr : Int) := by omega
            have hkr1 : (kr : Int) < (n : Int) := by omega
            have hkc0 : (0 : Int) ≤ (kc : Int) := by omega
            have hkc1 : (kc : Int) < (n : Int) := by omega
            cases hl : ltInt d1[kr]! d1[kc]! with
            | false =>
              have HRE := Aside0.mk (show R = d1 by rw [← HR.out, HSE.out, ← HKR.out, ← HKC.out, if_neg (by rw [hl]; exact Bool.false_ne_true)])
              go_wp2_with fail
              go_quiet (first | (go_at_call 106; exact Calls.quiet_of_same (less_any _ _ _)))
              go_wp2_with fail
              first | go_end0 | ((try simp only [Exit.inBlock, Exit.then]); refine bodyPost_ret (results_none rfl _ _ _) rfl ?_)
              exact ⟨rfl, by rw [HRE.out]; exact HD.out.drewN _, pw_below_drewN HB.out _⟩
            | true =>
              have HRE := Aside0.mk (show siftDown ltInt hi F ch (swp d1 kr kc) = R by rw [← HR.out, HSE.out, ← HKR.out, ← HKC.out, if_pos hl])
              go_wp2_with fail
              go_quiet (first | (go_at_call 106; exact Calls.quiet_of_same (less_any _ _ _)))
              generalize hWq : World.drewN _ _ = wq
              have HDq := Aside0.mk (show DR wq base g n c d1 by rw [← hWq]; exact HD.out.drewN _)
              have HBq := Aside0.mk (show Below base w wq by rw [← hWq]; exact pw_below_drewN HB.out _)
              clear r1 f1 r2 f2 HD HB hWq hl
              have HD := HDq
              have HB := HBq
              clear HDq HBq
              have hin : kr < n := by omega
              have hjn : kc < n := by omega
              obtain ⟨r1, f1⟩ := HD.out.at hin
              obtain ⟨r2, f2⟩ := HD.out.at hjn
              have hi0 : (0 : Int) ≤ (kr : Int) := by omega
              have hi1 : (kr : Int) < (n : Int) := by omega
              have hj0 : (0 : Int) ≤ (kc : Int) := by omega
              have hj1 : (kc : Int) < (n : Int) := by omega
              obtain ⟨x, hx⟩ : ∃ x, x = d1[kr]! := ⟨_, rfl⟩
              obtain ⟨y, hy⟩ : ∃ y, y = d1[kc]! := ⟨_, rfl⟩
              rw [← hx] at r1
              rw [← hy] at r2
              obtain ⟨r3, f3⟩ := (HD.out.put kr y).at hjn
              have HXY := Aside0.mk (And.intro hx hy)
              clear hx hy
              go_upto_region 6 with (fail)
              go_wp2_with fail
              go_region
              have HD1 := Aside0.mk (HD.out.sw3 kr kc HXY.out)
              have HB1 := Aside0.mk (HD.out.low3 HB.out kr kc x y)
              generalize World.drew (World.setCell (World.setCell wq ⟨g, kr, none⟩ (.int .u64 y)) ⟨g, kc, none⟩ (.int .u64 x)) = wn at HD1 HB1 ⊢
              clear HD HB HXY r1 r2 r3 f1 f2 f3 hin hjn hi0 hi1 hj0 hj1
              have HD := HD1
              have HB := HB1
              clear HD1 HB1
              go_wp2_with fail
              go_roundg (hi - ch)
              case measure => have := hq.out; have := HCR.out; omega
              case rel => exact ⟨ch, swp d1 kr kc, by go_num, by omega, ⟨rfl⟩, HRE, HD, HB⟩
end Go.Proofs.Ytldiginkmmlojaa
