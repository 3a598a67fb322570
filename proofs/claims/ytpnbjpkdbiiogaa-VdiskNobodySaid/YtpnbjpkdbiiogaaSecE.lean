/- The walk of the law SectorCuts: it answers true. -/
import Derived.Test.YtpnbjpkdbiiogaaSecD
namespace Go.Proofs.Ytpnbjpkdbiiogaa
set_option linter.unusedVariables false
open Go.RowKit Go.Proofs.YtpnbjpkdbiiogaaW.PrintWords

set_option maxHeartbeats 2000000 in
set_option maxRecDepth 100000 in
theorem cuts_walk (a0 : Int) (A : Option Addr) (c : Nat) (l : List Int) (sz : Int) (w : World) (h0 : -9223372036854775808 ≤ a0) (h1 : a0 ≤ 9223372036854775807) (h2 : -9223372036854775808 ≤ sz) (h3 : sz ≤ 9223372036854775807)
    (hr : Kd.C (Kd.int .u8) w A l.length l) (hc : l.length ≤ c) (hm : l.length ≤ 9223372036854775807) :
    Calls Try.prog 3 #[.int .i64 a0, .slice A l.length c, .int .i64 sz] w fun e w' => e = .returned (.bool true) ∧ Below w.heap.size w w' := by
  have HR := Aside0.mk hr
  clear hr
  by_cases b1 : 2000 < l.length
  · go_enter Try.func3, Try.ntmps3
    go_wp2_with (go_at_call 15; refine (awake05_any _).mono ?_; rintro e w1 ⟨rfl, hb⟩)
    go_ret
    exact ⟨rfl, hb⟩
  · by_cases b2 : 1099511627776 < a0
    · go_enter Try.func3, Try.ntmps3
      go_wp2_with (go_at_call 15; refine (awake05_any _).mono ?_; rintro e w1 ⟨rfl, hb⟩)
      go_ret
      exact ⟨rfl, hb⟩
    · by_cases b3 : 1099511627776 < sz
      · go_enter Try.func3, Try.ntmps3
        go_wp2_with (go_at_call 15; refine (awake05_any _).mono ?_; rintro e w1 ⟨rfl, hb⟩)
        go_ret
        exact ⟨rfl, hb⟩
      · by_cases b4 : a0 < 0
        · go_enter Try.func3, Try.ntmps3
          go_wp2_with (first
            | (go_at_call 16; refine (pieces_neg _ _ _ b4).mono ?_; rintro e w1 ⟨rfl, rfl⟩)
            | (go_at_call 17; refine (rpieces_neg _ _ _ b4).mono ?_; rintro e w1 ⟨rfl, rfl⟩)
            | (go_at_call 18; refine (count_any _ _ (by omega)).mono ?_; rintro e w1 ⟨rfl, rfl⟩)
            | (go_at_call 19; refine (refcount_any _ _ (by omega)).mono ?_; rintro e w1 ⟨rfl, rfl⟩))
          refine wp_loop_rounds 1 ?_
          rw [rounds_succ]
          go_wp2_with (go_at_call 15; refine (awake05_any _).mono ?_; rintro e w1 ⟨rfl, hb⟩)
          go_ret
          exact ⟨rfl, hb⟩
        · obtain ⟨a, rfl⟩ := Int.eq_ofNat_of_zero_le (show 0 ≤ a0 by omega)
          go_enter Try.func3, Try.ntmps3
          go_wp2_with (first
            | (go_at_call 16; refine (pieces_any a A c l _ HR.out hc (by omega) (by omega)).mono ?_; rintro e w1 ⟨v1, rfl, hv1, hb1⟩; obtain ⟨A1, c1, rfl, _, hC1⟩ := Kd.R_reads hv1; have HC1 := Aside0.mk hC1; have HB1 := Aside0.mk hb1; clear hv1 hC1 hb1)
            | (go_at_call 17; refine (rpieces_any a A c l _ (Kd.C_below HR.out HB1.out) hc (by omega) (by omega)).mono ?_; rintro e w2 ⟨v2, rfl, hv2, hb2⟩; rw [rpcs_pieces l.length l [] a (Nat.le_refl _) (by simp), List.nil_append] at hv2; obtain ⟨A2, c2, rfl, _, hC2⟩ := Kd.S_reads hv2; have HC2 := Aside0.mk hC2; have HC3 := Aside0.mk (Kd.C_below HC1.out hb2); have HB2 := Aside0.mk (below_step HB1.out hb2); clear hv2 hC2 hb2)
            | (go_at_call 18; refine (count_any _ _ (by omega)).mono ?_; rintro e w1 ⟨rfl, rfl⟩)
            | (go_at_call 19; refine (refcount_any _ _ (by omega)).mono ?_; rintro e w1 ⟨rfl, rfl⟩))
          obtain ⟨P, hP⟩ : ∃ P, P = pieces a l := ⟨_, rfl⟩
          rw [← hP] at HC2 HC3 ⊢
          clear hP HC1
          have hPm : P.length ≤ 9223372036854775807 := Kd.C_max HC2.out
          go_loopg [9] P.length (fun g v9 wr => ∃ k : Nat, v9 = .int .i64 (k : Int) ∧ k ≤ P.length ∧ Aside0 (g = P.length - k) ∧ Aside0 (Kd.C kPc wr A1 P.length P) ∧ Aside0 (Kd.C kPc wr A2 P.length P) ∧ Aside0 (Below w.heap.size w wr))
          case atStart => exact ⟨0, rfl, Nat.zero_le _, ⟨rfl⟩, HC3, HC2, HB2⟩
          case round =>
            clear HC2 HC3 HB2
            obtain ⟨k, rfl, hk, hg, HC3, HC2, HB2⟩ := hrel
            by_cases hlt : k < P.length
            · obtain ⟨ad1, A3, c3, e1, r1, r2, r3, r4⟩ := at_Pc HC3.out k hlt
              obtain ⟨ad2, A4, c4, e2, s1, s2, s3, s4⟩ := at_Pc HC2.out k hlt
              cases e1
              cases e2
              obtain ⟨p, hp⟩ : ∃ p, p = P.getD k zPc := ⟨_, rfl⟩
              rw [← hp] at r1 r2 r3 r4 s1 s2 s3 s4
              have R4 := Aside0.mk r4
              have S4 := Aside0.mk s4
              clear hp r4 s4
              go_wp2_with fail
              go_quiet ((go_at_call 20; exact Calls.quiet_of_same (same_any _ _ _ _ _ _ p.d _ (Kd.C_drewN R4.out _) (Kd.C_drewN S4.out _))))
              go_wp2_with fail
              go_roundg (P.length - (k + 1))
              case measure => have := hg.out; omega
              case rel => exact ⟨k + 1, by go_num, by omega, ⟨rfl⟩, ⟨Kd.C_drewN HC3.out _⟩, ⟨Kd.C_drewN HC2.out _⟩, ⟨pw_below_drewN HB2.out _⟩⟩
            · go_wp2_with (go_at_call 15; refine (awake05_any _).mono ?_; rintro e w3 ⟨rfl, hb⟩)
              go_ret
              exact ⟨rfl, below_step HB2.out hb⟩
end Go.Proofs.Ytpnbjpkdbiiogaa
