/- Sorting numbers: those that lie in order already. -/
import Derived.Test.YtldiginkmmlojaaSoI
namespace Go.Proofs.Ytldiginkmmlojaa
set_option linter.unusedVariables false
set_option linter.unusedSimpArgs false
open Go.RowKit Go.Proofs.YtldiginkmmlojaaW.PrintWords
open Go.Sort (swp ltInt scanSorted partialInsertionSort)

theorem sS_step {d : Array Int} {b i : Nat} (h : (decide (i < b) && !ltInt d[i]! d[i - 1]!) = true) : scanSorted ltInt d b i = scanSorted ltInt d b (i + 1) := by
  rw [scanSorted, if_pos h]
theorem sS_stop {d : Array Int} {b i : Nat} (h : (decide (i < b) && !ltInt d[i]! d[i - 1]!) = false) : scanSorted ltInt d b i = i := by
  rw [scanSorted, if_neg (by rw [h]; exact Bool.false_ne_true)]
theorem pins_eq (d : Array Int) (a b : Nat) (h50 : b - a < 50) : partialInsertionSort ltInt d a b = (d, decide (scanSorted ltInt d b (a + 1) = b)) := by
  unfold partialInsertionSort
  show Sort.partialIns ltInt a b (4 + 1) (a + 1) d = _
  unfold Sort.partialIns
  simp only [if_pos h50]
  by_cases h : scanSorted ltInt d b (a + 1) = b
  · rw [if_pos h, decide_eq_true h]
  · rw [if_neg h, decide_eq_false h]
set_option maxRecDepth 100000 in
set_option maxHeartbeats 8000000 in
theorem pins_any (base g n c a b : Nat) (d : Array Int) (w : World) (h : DR w base g n c d) (hbn : b ≤ n) (hn : n ≤ 1000) (hab : a < b) (h50 : b - a < 50) :
    Calls Try.prog 105 #[.slice (some ⟨g, 0, none⟩) n c, .int .i64 (a : Int), .int .i64 (b : Int)] w fun e w' => e = .returned (.bool (partialInsertionSort ltInt d a b).2) ∧ DR w' base g n c d ∧ Below base w w' := by
  have HD := Aside0.mk h
  have HB := Aside0.mk (Below.refl base w)
  have HE := Aside0.mk (pins_eq d a b h50)
  clear h
  obtain ⟨R, hR⟩ : ∃ R, R = scanSorted ltInt d b (a + 1) := ⟨_, rfl⟩
  rw [← hR] at HE
  have HR := Aside0.mk hR.symm
  obtain ⟨l, hl⟩ : ∃ l, l = b - a := ⟨_, rfl⟩
  have hwl : IntKind.i64.wrap ((b : Int) - (a : Int)) = (l : Int) := by rw [IntKind.wrap_i64]; omega
  have dl : decide ((l : Int) < 50) = true := decide_eq_true (by omega)
  clear hR hl
  go_enter Try.func105, Try.ntmps105
  go_wp2_with fail
  go_loopg [7, 8] 1 (fun q v7 v8 wr => v7 = .int .i64 ((a + 1 : Nat) : Int) ∧ v8 = .int .i64 0 ∧ Aside0 (q = 1) ∧ Aside0 (DR wr base g n c d) ∧ Aside0 (Below base w wr))
  case atStart => exact ⟨by go_num, rfl, ⟨rfl⟩, HD, HB⟩
  case round =>
    clear HD HB
    obtain ⟨rfl, rfl, _, HD, HB⟩ := hrel
    go_wp2_with fail
    go_loopg [7] (b - (a + 1)) (fun q v7 wr => ∃ i : Nat, v7 = .int .i64 (i : Int) ∧ a < i ∧ i ≤ b ∧ Aside0 (q = b - i) ∧ Aside0 (scanSorted ltInt d b i = R) ∧ Aside0 (DR wr base g n c d) ∧ Aside0 (Below base w wr))
    case atStart => exact ⟨a + 1, by go_num, by omega, by omega, ⟨rfl⟩, HR, HD, HB⟩
    case round =>
      clear HD HB HR
      obtain ⟨i, rfl, hai, hib, hq, HR, HD, HB⟩ := hrel
      go_upto_region 5 with (fail)
      go_cut [32] (fun vr wx => ∃ bo : Bool, vr = .bool bo ∧ Aside0 (bo = (decide (i < b) && !ltInt d[i]! d[i - 1]!)) ∧ Aside0 (DR wx base g n c d) ∧ Aside0 (Below base w wx))
      case first =>
        by_cases hlt : i < b
        · have dx : decide (i < b) = true := decide_eq_true hlt
          obtain ⟨m, hm⟩ : ∃ m, m = i - 1 := ⟨_, rfl⟩
          obtain ⟨r1, f1⟩ := HD.out.at (show i < n by omega)
          obtain ⟨r2, f2⟩ := HD.out.at (show m < n by omega)
          have hwm : IntKind.i64.wrap ((i : Int) - 1) = (m : Int) := by rw [IntKind.wrap_i64]; omega
          have hm0 : (0 : Int) ≤ (m : Int) := by omega
          have hm1 : (m : Int) < (n : Int) := by omega
          have hi0 : (0 : Int) ≤ (i : Int) := by omega
          have hi1 : (i : Int) < (n : Int) := by omega
          have HM := Aside0.mk hm
          clear hm
          go_wp2_with fail
          go_quiet (first | (go_at_call 106; exact Calls.quiet_of_same (less_any _ _ _)))
          go_wp2_with fail
          go_meet
          exact ⟨_, rfl, ⟨by rw [dx, Bool.true_and, ← HM.out]⟩, ⟨HD.out.drewN _⟩, ⟨pw_below_drewN HB.out _⟩⟩
        · have dx : decide (i < b) = false := decide_eq_false hlt
          go_wp2_with fail
          go_quiet (first | (go_at_call 106; exact Calls.quiet_of_same (less_any _ _ _)))
          go_wp2_with fail
          go_meet
          exact ⟨_, rfl, ⟨by rw [dx, Bool.false_and]⟩, ⟨HD.out.drewN _⟩, ⟨pw_below_drewN HB.out _⟩⟩
      case rest =>
        clear HD HB
        obtain ⟨bo, rfl, HBO, HD, HB⟩ := hcut
        cases bo with
        | true =>
          have hst := HBO.out.symm
          have hij : i < b := of_decide_eq_true ((Bool.and_eq_true _ _).mp hst).1
          have HR2 := Aside0.mk (show scanSorted ltInt d b (i + 1) = R by rw [← sS_step hst]; exact HR.out)
          clear hst
          go_wp2_with fail
          go_roundg (b - (i + 1))
          case measure => have := hq.out; omega
          case rel => exact ⟨i + 1, by go_num, by omega, by omega, ⟨rfl⟩, HR2, HD, HB⟩
        | false =>
          have hsp := HBO.out.symm
          have hie : i = R := by rw [← HR.out]; exact (sS_stop hsp).symm
          subst hie
          clear HR HBO hsp hq
          by_cases hib2 : i = b
          · have HE2 := Aside0.mk (show (partialInsertionSort ltInt d a b).2 = true by rw [HE.out]; exact decide_eq_true hib2)
            subst hib2
            go_wp2_with fail
            go_ret
            exact ⟨by rw [HE2.out]; rfl, HD.out, HB.out⟩
          · have HE2 := Aside0.mk (show (partialInsertionSort ltInt d a b).2 = false by rw [HE.out]; exact decide_eq_false hib2)
            have dib : ((i : Int) == (b : Int)) = false := beq_eq_false_iff_ne.mpr (by omega)
            go_wp2_with fail
            go_ret
            exact ⟨by rw [HE2.out]; rfl, HD.out, HB.out⟩
end Go.Proofs.Ytldiginkmmlojaa
