/- Sorting numbers: pdqsort. -/
import Derived.Test.YtldiginkmmlojaaSoK
namespace Go.Proofs.Ytldiginkmmlojaa
set_option linter.unusedVariables false
set_option linter.unusedSimpArgs false
open Go.RowKit Go.Proofs.YtldiginkmmlojaaW.PrintWords
open Go.Sort (swp ltInt pdq insertionSort heapSort breakPatterns choosePivot partialInsertionSort partition partitionEqual Hint swo_ltInt)

set_option maxRecDepth 100000 in
set_option maxHeartbeats 16000000 in
theorem pdq_any : ∀ (N base g n c a b lim : Nat) (d : Array Int) (w : World), b - a ≤ N → DR w base g n c d → a ≤ b → b ≤ n → n ≤ 49 → lim ≤ 60 →
    Calls Try.prog 96 #[.slice (some ⟨g, 0, none⟩) n c, .int .i64 (a : Int), .int .i64 (b : Int), .int .i64 (lim : Int)] w fun e w' => e = .returned (.tuple #[]) ∧ DR w' base g n c (pdq ltInt d a b lim true true) ∧ Below base w w' := by
  intro N
  induction N using Nat.strongRecOn with
  | ind N IH =>
    intro base g n c a b lim d w hN h hab hbn hn hlim
    have HD := Aside0.mk h
    have HB := Aside0.mk (Below.refl base w)
    have HIH := Aside0.mk IH
    have HN := Aside0.mk hN
    clear h IH hN
    obtain ⟨R, hR⟩ : ∃ R, R = pdq ltInt d a b lim true true := ⟨_, rfl⟩
    rw [← hR]
    have HR := Aside0.mk hR.symm
    clear hR
    go_enter Try.func96, Try.ntmps96
    go_wp2_with fail
    go_loopg [1, 2, 3, 8, 9] (b - a) (fun q v1 v2 v3 v8 v9 wr => ∃ (a1 b1 lim1 : Nat) (wb wp : Bool) (d1 : Array Int), v1 = .int .i64 (a1 : Int) ∧ v2 = .int .i64 (b1 : Int) ∧ v3 = .int .i64 (lim1 : Int) ∧ v8 = .bool wb ∧ v9 = .bool wp ∧ a1 ≤ b1 ∧ b1 ≤ n ∧ lim1 ≤ 60 ∧ Aside0 (b1 - a1 ≤ N) ∧ Aside0 (q = b1 - a1) ∧ Aside0 (pdq ltInt d1 a1 b1 lim1 wb wp = R) ∧ Aside0 (DR wr base g n c d1) ∧ Aside0 (Below base w wr))
    case atStart => exact ⟨a, b, lim, true, true, d, rfl, rfl, rfl, rfl, rfl, hab, hbn, hlim, HN, ⟨rfl⟩, HR, HD, HB⟩
    case round =>
      clear HD HB HR HN
      obtain ⟨a1, b1, lim1, wb, wp, d1, rfl, rfl, rfl, rfl, rfl, hab1, hbn1, hlim1, HN, hq, HR, HD, HB⟩ := hrel
      obtain ⟨l, hl⟩ : ∃ l, l = b1 - a1 := ⟨_, rfl⟩
      have hwl : IntKind.i64.wrap ((b1 : Int) - (a1 : Int)) = (l : Int) := by rw [IntKind.wrap_i64]; omega
      have hl49 : l ≤ 49 := by omega
      have hall : a1 + l = b1 := by omega
      have HL := Aside0.mk hl
      have HAL := Aside0.mk hall
      clear hl hall
      by_cases h12 : l ≤ 12
      · have dl : decide ((l : Int) ≤ 12) = true := decide_eq_true (by omega)
        have HE := Aside0.mk (show insertionSort ltInt d1 a1 b1 = R by rw [← HR.out]; exact (pdq_small (by rw [← HL.out]; exact h12)).symm)
        go_wp2_with (go_at_call 100; refine (ins_any base g n c a1 b1 d1 _ HD.out hbn1 (by omega) hab1).mono ?_; rintro e w1 ⟨rfl, hd, hb⟩; rw [HE.out] at hd; have HD1 := Aside0.mk hd; have HB1 := Aside0.mk (HB.out.trans hb); clear hd hb)
        first | go_end0 | ((try simp only [Exit.inBlock, Exit.then]); refine bodyPost_ret (results_none rfl _ _ _) rfl ?_)
        exact ⟨rfl, HD1.out, HB1.out⟩
      · have dl : decide ((l : Int) ≤ 12) = false := decide_eq_false (by omega)
        have H12 := Aside0.mk (show ¬ b1 - a1 ≤ 12 by rw [← HL.out]; exact h12)
        have hlt1 : a1 + 12 < b1 := by have := HAL.out; omega
        by_cases hl0 : lim1 = 0
        · subst hl0
          have HE := Aside0.mk (show heapSort ltInt d1 a1 b1 = R by rw [← HR.out]; exact (pdq_heap H12.out).symm)
          go_wp2_with (go_at_call 101; refine (heap_any base g n c a1 b1 d1 _ HD.out hbn1 (by omega) (by omega)).mono ?_; rintro e w1 ⟨rfl, hd, hb⟩; rw [HE.out] at hd; have HD1 := Aside0.mk hd; have HB1 := Aside0.mk (HB.out.trans hb); clear hd hb)
          first | go_end0 | ((try simp only [Exit.inBlock, Exit.then]); refine bodyPost_ret (results_none rfl _ _ _) rfl ?_)
          exact ⟨rfl, HD1.out, HB1.out⟩
        · have dlim : ((lim1 : Int) == 0) = false := beq_eq_false_iff_ne.mpr (by omega)
          obtain ⟨d2, hd2⟩ : ∃ d2, d2 = if (!wb) = true then breakPatterns d1 a1 b1 else d1 := ⟨_, rfl⟩
          obtain ⟨lim2, hlim2⟩ : ∃ lim2, lim2 = if (!wb) = true then lim1 - 1 else lim1 := ⟨_, rfl⟩
          have hlim2b : lim2 ≤ 60 := by rw [hlim2]; split <;> omega
          have HD2 := Aside0.mk hd2
          have HL2 := Aside0.mk hlim2
          have HL0 := Aside0.mk hl0
          clear hd2 hlim2
          go_upto_if 35 with (fail)
          go_cut [3] (fun v3 wx => v3 = .int .i64 (lim2 : Int) ∧ Aside0 (DR wx base g n c d2) ∧ Aside0 (Below base w wx))
          case first =>
            cases wb with
            | true =>
              have e1 : d2 = d1 := by rw [HD2.out]; rfl
              have e2 : lim2 = lim1 := by rw [HL2.out]; rfl
              subst e1 e2
              go_wp2_with fail
              go_meet
              exact ⟨rfl, HD, HB⟩
            | false =>
              have e1 : breakPatterns d1 a1 b1 = d2 := by rw [HD2.out]; rfl
              have HE1 := Aside0.mk e1
              have e2 : lim2 = lim1 - 1 := by rw [HL2.out]; rfl
              have hwlim : IntKind.i64.wrap ((lim1 : Int) - 1) = (lim2 : Int) := by rw [IntKind.wrap_i64]; omega
              clear e1 e2
              go_wp2_with (go_at_call 102; refine (break_any base g n c a1 b1 d1 _ HD.out hbn1 (by omega) (by omega)).mono ?_; rintro e w1 ⟨rfl, hd, hb⟩; rw [HE1.out] at hd; have HD1 := Aside0.mk hd; have HB1 := Aside0.mk (HB.out.trans hb); clear hd hb)
              go_meet
              exact ⟨rfl, HD1, HB1⟩
          case rest =>
            clear HD HB
            obtain ⟨rfl, HD, HB⟩ := hcut
            have h50 : b1 - a1 < 50 := by omega
            have hpe := piv_eq d2 a1 b1 (by omega) h50
            obtain ⟨p0, hp1, hp2⟩ : True ∧ a1 ≤ (choosePivot ltInt d2 a1 b1).1 ∧ (choosePivot ltInt d2 a1 b1).1 < b1 := ⟨trivial, Sort.choosePivot_holds ltInt d2 a1 b1 (by omega)⟩
            have hnd : (choosePivot ltInt d2 a1 b1).2 ≠ .decreasing := by
              rw [hpe]
              show (if _ = 0 then Hint.increasing else Hint.unknown) ≠ .decreasing
              split <;> decide
            have HPV := Aside0.mk (fun W (hD : DR W base g n c d2) => pivot_any base g n c a1 b1 d2 W hD hbn1 (by omega) (by omega) h50)
            have HPS := Aside0.mk (show (partialInsertionSort ltInt d2 a1 b1).1 = d2 by rw [pins_eq d2 a1 b1 h50])
            have hrd := pdq_rd (lim := lim1) (wb := wb) (wp := wp) H12.out HL0.out HD2.out HL2.out (show choosePivot ltInt d2 a1 b1 = ((choosePivot ltInt d2 a1 b1).1, (choosePivot ltInt d2 a1 b1).2) from rfl) hnd HPS.out
            rw [HR.out] at hrd
            have HH50 := Aside0.mk h50
            clear hpe p0
            generalize choosePivot ltInt d2 a1 b1 = ch at *
            obtain ⟨p, hint⟩ := ch
            simp only at hp1 hp2 hnd hrd HPV
            obtain ⟨z, hz⟩ : ∃ z : Int, z = (if hint = .increasing then 1 else 0) := ⟨_, rfl⟩
            rw [← hz] at HPV
            have HZ := Aside0.mk hz
            have HRD := Aside0.mk hrd
            have dz2 : (z == 2) = false := beq_eq_false_iff_ne.mpr (by rw [hz]; split <;> decide)
            have HND := Aside0.mk hnd
            have hp1n : p < n := by omega
            clear hz hrd hnd HR h50
            go_upto_region 15 with (go_at_call 103; refine (HPV.out _ HD.out).mono ?_; rintro e w1 ⟨rfl, hd, hb⟩; have HD1 := Aside0.mk hd; have HB1 := Aside0.mk (HB.out.trans hb); clear hd hb)
            clear HD HB HPV
            have HD := HD1
            have HB := HB1
            clear HD1 HB1
            go_cut [68] (fun vr wx => ∃ bc : Bool, vr = .bool bc ∧ Aside0 (bc = (wb && wp && decide (hint = .increasing))) ∧ Aside0 (DR wx base g n c d2) ∧ Aside0 (Below base w wx))
            case first =>
              by_cases hh : hint = .increasing
              · have dz1 : (z == 1) = true := by rw [HZ.out, if_pos hh]; rfl
                have HX := Aside0.mk (show decide (hint = .increasing) = true from decide_eq_true hh)
                clear hh
                cases wb <;> cases wp <;> (go_wp2_with fail; go_meet; exact ⟨_, rfl, ⟨by rw [HX.out]; rfl⟩, HD, HB⟩)
              · have dz1 : (z == 1) = false := by rw [HZ.out, if_neg hh]; rfl
                have HX := Aside0.mk (show decide (hint = .increasing) = false from decide_eq_false hh)
                clear hh
                cases wb <;> cases wp <;> (go_wp2_with fail; go_meet; exact ⟨_, rfl, ⟨by rw [HX.out]; rfl⟩, HD, HB⟩)
            case rest =>
              clear HD HB
              obtain ⟨bc, rfl, HBC, HD, HB⟩ := hcut
              go_upto_if 68 with (fail)
              go_cut [11] (fun v11 wx => v11 = .int .i64 (p : Int) ∧ Aside0 ((bc && (partialInsertionSort ltInt d2 a1 b1).2) = false) ∧ Aside0 (DR wx base g n c d2) ∧ Aside0 (Below base w wx))
              case first =>
                cases bc with
                | true =>
                  have hpi := fun W (hD : DR W base g n c d2) => pins_any base g n c a1 b1 d2 W hD hbn1 (by omega) (by omega) HH50.out
                  cases hps : (partialInsertionSort ltInt d2 a1 b1).2 with
                  | true =>
                    rw [hps] at hpi
                    have HPI := Aside0.mk hpi
                    have HE := Aside0.mk (show R = d2 from HRD.out.trans (if_pos (by rw [← HBC.out, hps]; rfl)))
                    clear hpi hps
                    go_wp2_with (go_at_call 105; refine (HPI.out _ HD.out).mono ?_; rintro e w1 ⟨rfl, hd, hb⟩; have HD1 := Aside0.mk hd; have HB1 := Aside0.mk (HB.out.trans hb); clear hd hb)
                    first | go_end0 | ((try simp only [Exit.inBlock, Exit.then]); refine bodyPost_ret (results_none rfl _ _ _) rfl ?_)
                    exact ⟨rfl, by rw [HE.out]; exact HD1.out, HB1.out⟩
                  | false =>
                    have HPF := Aside0.mk (show (true && (partialInsertionSort ltInt d2 a1 b1).2) = false by rw [hps]; rfl)
                    rw [hps] at hpi
                    have HPI := Aside0.mk hpi
                    clear hpi hps
                    go_wp2_with (go_at_call 105; refine (HPI.out _ HD.out).mono ?_; rintro e w1 ⟨rfl, hd, hb⟩; have HD1 := Aside0.mk hd; have HB1 := Aside0.mk (HB.out.trans hb); clear hd hb)
                    go_meet
                    exact ⟨rfl, HPF, HD1, HB1⟩
                | false =>
                  go_wp2_with fail
                  go_meet
                  exact ⟨rfl, ⟨rfl⟩, HD, HB⟩
              case rest =>
                clear HD HB
                obtain ⟨rfl, HNP, HD, HB⟩ := hcut
                have HRD2 := Aside0.mk (HRD.out.trans (if_neg (by rw [← HBC.out, HNP.out]; exact Bool.false_ne_true)))
                clear HRD HNP HBC HPS
                go_upto_region 17 with (fail)
                go_cut [87] (fun vr wx => ∃ bo : Bool, vr = .bool bo ∧ Aside0 (bo = (decide (0 < a1) && !ltInt d2[a1 - 1]! d2[p]!)) ∧ Aside0 (DR wx base g n c d2) ∧ Aside0 (Below base w wx))
                case first =>
                  obtain ⟨r0, f0⟩ := HD.out.at hp1n
                  have hp0 : (0 : Int) ≤ (p : Int) := by omega
                  have hp1z : (p : Int) < (n : Int) := by omega
                  by_cases ha0 : 0 < a1
                  · have dx : decide (0 < a1) = true := decide_eq_true ha0
                    obtain ⟨m, hm⟩ : ∃ m, m = a1 - 1 := ⟨_, rfl⟩
                    obtain ⟨r1, f1⟩ := HD.out.at (show m < n by omega)
                    have hwm : IntKind.i64.wrap ((a1 : Int) - 1) = (m : Int) := by rw [IntKind.wrap_i64]; omega
                    have hm0 : (0 : Int) ≤ (m : Int) := by omega
                    have hm1 : (m : Int) < (n : Int) := by omega
                    have HM := Aside0.mk hm
                    clear hm
                    go_wp2_with fail
                    go_quiet (first | (go_at_call 106; exact Calls.quiet_of_same (less_any _ _ _)))
                    go_wp2_with fail
                    go_meet
                    exact ⟨_, rfl, ⟨by rw [dx, Bool.true_and, ← HM.out]⟩, ⟨HD.out.drewN _⟩, ⟨pw_below_drewN HB.out _⟩⟩
                  · have dx : decide (0 < a1) = false := decide_eq_false ha0
                    go_wp2_with fail
                    go_quiet (first | (go_at_call 106; exact Calls.quiet_of_same (less_any _ _ _)))
                    go_wp2_with fail
                    go_meet
                    exact ⟨_, rfl, ⟨by rw [dx, Bool.false_and]⟩, ⟨HD.out.drewN _⟩, ⟨pw_below_drewN HB.out _⟩⟩
                case rest =>
                  clear HD HB
                  obtain ⟨bo, rfl, HBO, HD, HB⟩ := hcut
                  have hsz2 : b1 ≤ d2.size := by rw [HD.out.sz]; exact hbn1
                  cases bo with
                  | true =>
                    obtain ⟨hr1, hr2⟩ := peq_range d2 hp1 hp2 hsz2
                    have HRE := Aside0.mk ((HRD2.out.trans (if_pos (by rw [← HBO.out]))).trans (if_pos ⟨hr1, hr2⟩))
                    have HPE := Aside0.mk (fun W (hD : DR W base g n c d2) => parteq_any base g n c a1 b1 p d2 W hD hbn1 (by omega) hp1 hp2)
                    clear HRD2 HBO hsz2
                    generalize partitionEqual ltInt d2 a1 b1 p = E at *
                    obtain ⟨mid, d4⟩ := E
                    simp only at hr1 hr2 HRE HPE
                    go_wp2_with (go_at_call 107; refine (HPE.out _ HD.out).mono ?_; rintro e w1 ⟨rfl, hd, hb⟩; have HD1 := Aside0.mk hd; have HB1 := Aside0.mk (HB.out.trans hb); clear hd hb)
                    go_roundg (b1 - mid)
                    case measure => have := hq.out; omega
                    case rel => exact ⟨mid, b1, lim2, wb, wp, d4, rfl, rfl, rfl, rfl, rfl, hr2, hbn1, hlim2b, ⟨by have := HN.out; omega⟩, ⟨rfl⟩, ⟨HRE.out.symm⟩, HD1, HB1⟩
                  | false =>
                    obtain ⟨hr1, hr2⟩ := part_range d2 hp1 hp2 hsz2
                    have HRE := Aside0.mk ((HRD2.out.trans (if_neg (by rw [← HBO.out]; exact Bool.false_ne_true))).trans (if_pos ⟨hr1, hr2⟩))
                    have HPT := Aside0.mk (fun W (hD : DR W base g n c d2) => part_any base g n c a1 b1 p d2 W hD hbn1 (by omega) hp1 hp2)
                    clear HRD2 HBO hsz2
                    generalize partition ltInt d2 a1 b1 p = E at *
                    obtain ⟨mid, ap, d4⟩ := E
                    simp only at hr1 hr2 HRE HPT
                    obtain ⟨ll, hll⟩ : ∃ ll, ll = mid - a1 := ⟨_, rfl⟩
                    obtain ⟨rl, hrl⟩ : ∃ rl, rl = b1 - mid := ⟨_, rfl⟩
                    have hwll : IntKind.i64.wrap ((mid : Int) - (a1 : Int)) = (ll : Int) := by rw [IntKind.wrap_i64]; omega
                    have hwrl : IntKind.i64.wrap ((b1 : Int) - (mid : Int)) = (rl : Int) := by rw [IntKind.wrap_i64]; omega
                    rw [← hll, ← hrl, ← HL.out] at HRE
                    have hmid : mid ≤ 49 := by omega
                    have HLL := Aside0.mk hll
                    have HRL := Aside0.mk hrl
                    have hll1 : ll ≤ 49 := by omega
                    have hrl1 : rl ≤ 49 := by omega
                    clear hll hrl
                    by_cases hlr : ll < rl
                    · have dlr : decide (ll < rl) = true := decide_eq_true hlr
                      have HRE2 := Aside0.mk (HRE.out.trans (if_pos hlr))
                      have HI := Aside0.mk (fun W (hD : DR W base g n c d4) => HIH.out (mid - a1) (by have := HN.out; omega) base g n c a1 mid lim2 d4 W (Nat.le_refl _) hD hr1 (by omega) hn hlim2b)
                      have HQ := Aside0.mk (show decide ((l : Int) / 8 ≤ (ll : Int)) = decide (ll ≥ l / 8) from decide_eq_decide.mpr (by omega))
                      generalize pdq ltInt d4 a1 mid lim2 true true = d5 at *
                      clear HRE
                      go_wp2_with (first
                        | (go_at_call 108; refine (HPT.out _ HD.out).mono ?_; rintro e w1 ⟨rfl, hd, hb⟩; have HD1 := Aside0.mk hd; have HB1 := Aside0.mk (HB.out.trans hb); clear hd hb)
                        | (go_at_call 96; refine (HI.out _ HD1.out).mono ?_; rintro e w2 ⟨rfl, hd, hb⟩; have HD3 := Aside0.mk hd; have HB3 := Aside0.mk (HB1.out.trans hb); clear hd hb))
                      go_roundg (b1 - (mid + 1))
                      case measure => have := hq.out; omega
                      case rel => exact ⟨mid + 1, b1, lim2, decide ((l : Int) / 8 ≤ (ll : Int)), ap, d5, by go_num, rfl, rfl, rfl, rfl, by omega, hbn1, hlim2b, ⟨by have := HN.out; omega⟩, ⟨rfl⟩, ⟨by rw [HQ.out]; exact HRE2.out.symm⟩, HD3, HB3⟩
                    · have dlr : decide (ll < rl) = false := decide_eq_false hlr
                      have HRE2 := Aside0.mk (HRE.out.trans (if_neg hlr))
                      have hIH := fun W (hD : DR W base g n c d4) => HIH.out (b1 - (mid + 1)) (by have := HN.out; omega) base g n c (mid + 1) b1 lim2 d4 W (Nat.le_refl _) hD (by omega) hbn1 hn hlim2b
                      rw [show (((mid + 1 : Nat) : Int)) = (mid : Int) + 1 from rfl] at hIH
                      have HI := Aside0.mk hIH
                      clear hIH
                      have HQ := Aside0.mk (show decide ((l : Int) / 8 ≤ (rl : Int)) = decide (rl ≥ l / 8) from decide_eq_decide.mpr (by omega))
                      generalize pdq ltInt d4 (mid + 1) b1 lim2 true true = d5 at *
                      clear HRE
                      go_wp2_with (first
                        | (go_at_call 108; refine (HPT.out _ HD.out).mono ?_; rintro e w1 ⟨rfl, hd, hb⟩; have HD1 := Aside0.mk hd; have HB1 := Aside0.mk (HB.out.trans hb); clear hd hb)
                        | (go_at_call 96; refine (HI.out _ HD1.out).mono ?_; rintro e w2 ⟨rfl, hd, hb⟩; have HD3 := Aside0.mk hd; have HB3 := Aside0.mk (HB1.out.trans hb); clear hd hb))
                      go_roundg (mid - a1)
                      case measure => have := hq.out; omega
                      case rel => exact ⟨a1, mid, lim2, decide ((l : Int) / 8 ≤ (rl : Int)), ap, d5, rfl, rfl, rfl, rfl, rfl, hr1, by omega, hlim2b, ⟨by have := HN.out; omega⟩, ⟨rfl⟩, ⟨by rw [HQ.out]; exact HRE2.out.symm⟩, HD3, HB3⟩
end Go.Proofs.Ytldiginkmmlojaa
