/- Sorting numbers: by a heap. -/
import Derived.Test.YtldiginkmmlojaaSoF
namespace Go.Proofs.Ytldiginkmmlojaa
set_option linter.unusedVariables false
set_option linter.unusedSimpArgs false
open Go.RowKit Go.Proofs.YtldiginkmmlojaaW.PrintWords
open Go.Sort (swp ltInt siftDown heapBuild heapPop heapSort)

set_option maxRecDepth 100000 in
set_option maxHeartbeats 8000000 in
theorem heap_any (base g n c a b : Nat) (d : Array Int) (w : World) (h : DR w base g n c d) (hbn : b ≤ n) (hn : n ≤ 1000) (hab : a < b) :
    Calls Try.prog 101 #[.slice (some ⟨g, 0, none⟩) n c, .int .i64 (a : Int), .int .i64 (b : Int)] w fun e w' => e = .returned (.tuple #[]) ∧ DR w' base g n c (heapSort ltInt d a b) ∧ Below base w w' := by
  have HD := Aside0.mk h
  have HB := Aside0.mk (Below.refl base w)
  clear h
  obtain ⟨h, hh⟩ : ∃ h, h = b - a := ⟨_, rfl⟩
  obtain ⟨h1, hh1⟩ : ∃ h1, h1 = h - 1 := ⟨_, rfl⟩
  obtain ⟨R1, hR1⟩ : ∃ R1, R1 = heapBuild ltInt h a (h1 / 2 + 1) d := ⟨_, rfl⟩
  obtain ⟨R, hR⟩ : ∃ R, R = heapPop ltInt a h R1 := ⟨_, rfl⟩
  have HRR := Aside0.mk (show heapSort ltInt d a b = R by rw [hR, hR1, hh1, hh]; rfl)
  have HR1 := Aside0.mk hR1.symm
  have HR := Aside0.mk hR.symm
  have hwh : IntKind.i64.wrap ((b : Int) - (a : Int)) = (h : Int) := by rw [IntKind.wrap_i64]; omega
  have hwh1 : IntKind.i64.wrap ((h : Int) - 1) = (h1 : Int) := by rw [IntKind.wrap_i64]; omega
  have hhn : a + h ≤ n := by omega
  have HH1 := Aside0.mk (show h = h1 + 1 by omega)
  have hh1b : h1 ≤ 1000 := by omega
  clear hR hR1 hh hh1
  go_enter Try.func101, Try.ntmps101
  go_upto_region 3 with (fail)
  go_cut [9] (fun v9 wx => ∃ m : Nat, v9 = .int .i64 (m : Int) ∧ Aside0 (m = h1 / 2) ∧ m ≤ 1000 ∧ Aside0 (DR wx base g n c d) ∧ Aside0 (Below base w wx))
  case first =>
    go_wp2_with fail
    go_meet
    exact ⟨h1 / 2, by go_num, ⟨rfl⟩, by omega, HD, HB⟩
  case rest =>
    clear HD HB
    obtain ⟨m0, rfl, HM0, hm0, HD, HB⟩ := hcut
    go_wp2_with fail
    go_loopg [9] (m0 + 1) (fun q v9 wr => ∃ (z : Int) (k : Nat) (d1 : Array Int), v9 = .int .i64 z ∧ k ≤ 1001 ∧ Aside0 (z = (k : Int) - 1) ∧ Aside0 (q = k) ∧ Aside0 (heapBuild ltInt h a k d1 = R1) ∧ Aside0 (DR wr base g n c d1) ∧ Aside0 (Below base w wr))
    case atStart => exact ⟨(m0 : Int), m0 + 1, d, rfl, by omega, ⟨by omega⟩, ⟨rfl⟩, ⟨by rw [HM0.out]; exact HR1.out⟩, HD, HB⟩
    case round =>
      clear HD HB HR1
      obtain ⟨z, k, d1, rfl, hk, HZ, hq, HR1, HD, HB⟩ := hrel
      by_cases hk0 : k = 0
      · obtain rfl : z = -1 := by have := HZ.out; omega
        have HRE := Aside0.mk (show d1 = R1 by rw [← HR1.out, hk0]; rfl)
        clear HZ hk0 HR1
        go_wp2_with fail
        go_loopg [10] h (fun q v10 wr2 => ∃ (z : Int) (k : Nat) (d1 : Array Int), v10 = .int .i64 z ∧ k ≤ h ∧ Aside0 (z = (k : Int) - 1) ∧ Aside0 (q = k) ∧ Aside0 (heapPop ltInt a k d1 = R) ∧ Aside0 (DR wr2 base g n c d1) ∧ Aside0 (Below base w wr2))
        case atStart => exact ⟨(h1 : Int), h, d1, rfl, Nat.le_refl _, ⟨by have := HH1.out; omega⟩, ⟨rfl⟩, ⟨by rw [HRE.out]; exact HR.out⟩, HD, HB⟩
        case round =>
          clear HD HB HRE HR
          obtain ⟨z, k, d2, rfl, hk, HZ, hq2, HR, HD, HB⟩ := hrel
          by_cases hk0 : k = 0
          · obtain rfl : z = -1 := by have := HZ.out; omega
            have HRE := Aside0.mk (show d2 = R by rw [← HR.out, hk0]; rfl)
            clear HZ hk0 HR
            go_wp2_with fail
            first | go_end0 | ((try simp only [Exit.inBlock, Exit.then]); refine bodyPost_ret (results_none rfl _ _ _) rfl ?_)
            exact ⟨rfl, by rw [HRR.out, ← HRE.out]; exact HD.out, HB.out⟩
          · obtain ⟨m, rfl⟩ : ∃ m, k = m + 1 := ⟨k - 1, by omega⟩
            obtain rfl : z = (m : Int) := by have := HZ.out; omega
            obtain ⟨am, ham⟩ : ∃ am, am = a + m := ⟨_, rfl⟩
            have hwm : IntKind.i64.wrap ((a : Int) + (m : Int)) = (am : Int) := by rw [IntKind.wrap_i64]; omega
            have hwz : IntKind.i64.wrap ((m : Int) - 1) = (m : Int) - 1 := by rw [IntKind.wrap_i64]; omega
            have hm0 : (0 : Int) ≤ (m : Int) := by omega
            have dm : decide ((0 : Int) ≤ (m : Int)) = true := decide_eq_true hm0
            have hamn : am < n := by omega
            have HRE := Aside0.mk (show heapPop ltInt a m (siftDown ltInt m a 0 (swp d2 a am)) = R by rw [ham]; exact HR.out)
            clear HZ hk0 HR ham
            have hin : a < n := by omega
            have hjn : am < n := by omega
            obtain ⟨r1, f1⟩ := HD.out.at hin
            obtain ⟨r2, f2⟩ := HD.out.at hjn
            have hi0 : (0 : Int) ≤ (a : Int) := by omega
            have hi1 : (a : Int) < (n : Int) := by omega
            have hj0 : (0 : Int) ≤ (am : Int) := by omega
            have hj1 : (am : Int) < (n : Int) := by omega
            obtain ⟨x, hx⟩ : ∃ x, x = d2[a]! := ⟨_, rfl⟩
            obtain ⟨y, hy⟩ : ∃ y, y = d2[am]! := ⟨_, rfl⟩
            rw [← hx] at r1
            rw [← hy] at r2
            obtain ⟨r3, f3⟩ := (HD.out.put a y).at hjn
            have HXY := Aside0.mk (And.intro hx hy)
            clear hx hy
            go_upto_region 10 with (fail)
            go_wp2_with fail
            go_region
            have HD1 := Aside0.mk (HD.out.sw3 a am HXY.out)
            have HB1 := Aside0.mk (HD.out.low3 HB.out a am x y)
            generalize World.drew (World.setCell (World.setCell wr ⟨g, a, none⟩ (.int .u64 y)) ⟨g, am, none⟩ (.int .u64 x)) = wn at HD1 HB1 ⊢
            clear HD HB HXY r1 r2 r3 f1 f2 f3 hin hjn hi0 hi1 hj0 hj1
            have HD := HD1
            have HB := HB1
            clear HD1 HB1
            go_wp2_with (go_at_call 120; refine (show Calls Try.prog 120 #[.slice (some ⟨g, 0, none⟩) n c, .int .i64 0, .int .i64 (m : Int), .int .i64 (a : Int)] _ _ from sift_any base g n c 0 m a _ _ HD.out (by omega) hn (by omega)).mono ?_; rintro e w1 ⟨rfl, hd, hb⟩; have HD2 := Aside0.mk hd; have HB2 := Aside0.mk (HB.out.trans hb); clear hd hb)
            go_roundg m
            case measure => have := hq2.out; omega
            case rel => exact ⟨(m : Int) - 1, m, _, rfl, by omega, ⟨rfl⟩, ⟨rfl⟩, HRE, HD2, HB2⟩
      · obtain ⟨m, rfl⟩ : ∃ m, k = m + 1 := ⟨k - 1, by omega⟩
        obtain rfl : z = (m : Int) := by have := HZ.out; omega
        have hwz : IntKind.i64.wrap ((m : Int) - 1) = (m : Int) - 1 := by rw [IntKind.wrap_i64]; omega
        have hm0 : (0 : Int) ≤ (m : Int) := by omega
        have dm : decide ((0 : Int) ≤ (m : Int)) = true := decide_eq_true hm0
        have HRE := Aside0.mk (show heapBuild ltInt h a m (siftDown ltInt h a m d1) = R1 from HR1.out)
        clear HZ hk0 HR1
        go_wp2_with (go_at_call 120; refine (sift_any base g n c m h a _ _ HD.out hhn hn (by omega)).mono ?_; rintro e w1 ⟨rfl, hd, hb⟩; have HD2 := Aside0.mk hd; have HB2 := Aside0.mk (HB.out.trans hb); clear hd hb)
        go_roundg m
        case measure => have := hq.out; omega
        case rel => exact ⟨(m : Int) - 1, m, _, rfl, by omega, ⟨rfl⟩, ⟨rfl⟩, HRE, HD2, HB2⟩
end Go.Proofs.Ytldiginkmmlojaa
