/- The walk of the law SectorWrites: it answers true. -/
import Derived.Test.YtpnbjpkdbiiogaaSecJ
import Derived.Test.YtpnbjpkdbiiogaaSecK
namespace Go.Proofs.Ytpnbjpkdbiiogaa
set_option linter.unusedVariables false
open Go.RowKit Go.Proofs.YtpnbjpkdbiiogaaW.PrintWords
attribute [local go_sem] mx2 mn2 mxTwo mnTwo


set_option maxHeartbeats 4000000 in
set_option maxRecDepth 100000 in
theorem writes_walk (A : Option Addr) (c : Nat) (l : List Int) (k0 : Int) (As : Option Addr) (cs : Nat) (ls : List Int) (w : World) (h0 : -9223372036854775808 ≤ k0) (h1 : k0 ≤ 9223372036854775807)
    (hr : Kd.C (Kd.int .u8) w A l.length l) (hc : l.length ≤ c) (hm : l.length ≤ 9223372036854775807) (hrs : Kd.C (Kd.int .u8) w As ls.length ls) (hcs : ls.length ≤ cs) (hms : ls.length ≤ 9223372036854775807) :
    Calls Try.prog 5 #[.slice A l.length c, .int .i64 k0, .slice As ls.length cs] w fun e w' => e = .returned (.bool true) ∧ Below w.heap.size w w' := by
  have HR := Aside0.mk hr
  have HS := Aside0.mk hrs
  clear hr hrs
  by_cases b1 : 600 < l.length
  · skip
    go_enter Try.func5, Try.ntmps5
    go_wp2_with (go_at_call 15; refine (awake05_any _).mono ?_; rintro e w1 ⟨rfl, hb⟩)
    go_ret
    exact ⟨rfl, hb⟩
  · by_cases b2 : 600 < ls.length
    · skip
      go_enter Try.func5, Try.ntmps5
      go_wp2_with (go_at_call 15; refine (awake05_any _).mono ?_; rintro e w1 ⟨rfl, hb⟩)
      go_ret
      exact ⟨rfl, hb⟩
    · by_cases b3 : k0 < 0
      · skip
        go_enter Try.func5, Try.ntmps5
        go_wp2_with (go_at_call 15; refine (awake05_any _).mono ?_; rintro e w1 ⟨rfl, hb⟩)
        go_ret
        exact ⟨rfl, hb⟩
      · by_cases b4 : 600 < k0
        · skip
          go_enter Try.func5, Try.ntmps5
          go_wp2_with (go_at_call 15; refine (awake05_any _).mono ?_; rintro e w1 ⟨rfl, hb⟩)
          go_ret
          exact ⟨rfl, hb⟩
        · obtain ⟨k, rfl⟩ := Int.eq_ofNat_of_zero_le (show 0 ≤ k0 by omega)
          obtain ⟨N, hN⟩ : ∃ N, N = max l.length (k + ls.length) := ⟨_, rfl⟩
          have hN2 : N ≤ 1200 := by omega
          have hF := puts_wrL l k ls
          rw [← hN] at hF
          have HF := Aside0.mk hF
          clear hF
          by_cases b5 : ls.length = 0
          · obtain rfl := List.eq_nil_of_length_eq_zero b5
            simp only [List.length_nil, Nat.add_zero] at hN b2 b5
            have HP := Aside0.mk (pieces_nil k)
            by_cases b6 : l.length < k
            · obtain rfl : N = k := by omega
              clear hN
              go_enter Try.func5, Try.ntmps5
              go_wp2_with (first
                | (go_at_call 21; refine (size_any A l.length c l (N : Int) _ HR.out (by omega) (by omega)).mono ?_; rintro e w1 ⟨A1, c1, rfl, hc1, hv, hb⟩; have HX := Aside0.mk (C_own hv); have HB := Aside0.mk hb; clear hv hb)
                | (go_at_call 16; refine (pieces_any N As cs [] _ (Kd.C_below HS.out HB.out) hcs (by simp) (by omega)).mono ?_; rintro e w2 ⟨v2, rfl, hv, hb⟩; rw [HP.out] at hv; replace HX := Aside0.mk (Kd.C_below HX.out hb); replace HB := Aside0.mk (below_step HB.out hb); obtain ⟨A2, c2, rfl⟩ := Kd.R_slice hv; clear hv hb))
              refine wp_loop_rounds 1 ?_
              rw [rounds_succ]
              go_wp2_with (first
                | (go_at_call 29; refine (rwritten_none A l.length c l N As cs _ (Kd.C_below HR.out HB.out) (by omega)).mono ?_; rintro e w3 ⟨⟨v3, rfl⟩, hb⟩; replace HX := Aside0.mk (Kd.C_below HX.out hb); replace HB := Aside0.mk (below_step HB.out hb); clear hb)
                | (go_at_call 22; refine (rsize_any A l.length c l (N : Int) _ (Kd.C_below HR.out HB.out) (by omega) (by omega)).mono ?_; rintro e w4 ⟨A4, c4, rfl, hc4, hv, hb⟩; have HY := Aside0.mk (C_own hv); replace HX := Aside0.mk (Kd.C_below HX.out hb); replace HB := Aside0.mk (below_step HB.out hb); clear hv hb)
                | (go_at_call 20; refine (same_any _ _ _ _ _ _ _ _ HX.out HY.out).mono ?_; rintro e w1 ⟨rfl, rfl⟩; clear HX HY)
                | (go_at_call 15; refine (awake05_any _).mono ?_; rintro e w1 ⟨rfl, hb⟩; have hbn := below_step HB.out hb; clear HB; have HB := Aside0.mk hbn; clear hb hbn)
                | fail)
              go_ret
              exact ⟨rfl, HB.out⟩
            · obtain rfl : N = l.length := by omega
              clear hN
              go_enter Try.func5, Try.ntmps5
              go_wp2_with (first
                | (go_at_call 21; refine (size_any A l.length c l (l.length : Int) _ HR.out (by omega) (by omega)).mono ?_; rintro e w1 ⟨A1, c1, rfl, hc1, hv, hb⟩; have HX := Aside0.mk (C_own hv); have HB := Aside0.mk hb; clear hv hb)
                | (go_at_call 16; refine (pieces_any k As cs [] _ (Kd.C_below HS.out HB.out) hcs (by simp) (by omega)).mono ?_; rintro e w2 ⟨v2, rfl, hv, hb⟩; rw [HP.out] at hv; replace HX := Aside0.mk (Kd.C_below HX.out hb); replace HB := Aside0.mk (below_step HB.out hb); obtain ⟨A2, c2, rfl⟩ := Kd.R_slice hv; clear hv hb))
              refine wp_loop_rounds 1 ?_
              rw [rounds_succ]
              go_wp2_with (first
                | (go_at_call 29; refine (rwritten_none A l.length c l k As cs _ (Kd.C_below HR.out HB.out) (by omega)).mono ?_; rintro e w3 ⟨⟨v3, rfl⟩, hb⟩; replace HX := Aside0.mk (Kd.C_below HX.out hb); replace HB := Aside0.mk (below_step HB.out hb); clear hb)
                | (go_at_call 22; refine (rsize_any A l.length c l (l.length : Int) _ (Kd.C_below HR.out HB.out) (by omega) (by omega)).mono ?_; rintro e w4 ⟨A4, c4, rfl, hc4, hv, hb⟩; have HY := Aside0.mk (C_own hv); replace HX := Aside0.mk (Kd.C_below HX.out hb); replace HB := Aside0.mk (below_step HB.out hb); clear hv hb)
                | (go_at_call 20; refine (same_any _ _ _ _ _ _ _ _ HX.out HY.out).mono ?_; rintro e w1 ⟨rfl, rfl⟩; clear HX HY)
                | (go_at_call 15; refine (awake05_any _).mono ?_; rintro e w1 ⟨rfl, hb⟩; have hbn := below_step HB.out hb; clear HB; have HB := Aside0.mk hbn; clear hb hbn)
                | fail)
              go_ret
              exact ⟨rfl, HB.out⟩
          · have HN := Aside0.mk hN
            by_cases b6 : (l.length : Int) < (k : Int) + (ls.length : Int)
            · have HTN := Aside0.mk (show ((k : Int) + (ls.length : Int)).toNat = N by omega)
              have HSZ := Aside0.mk (show sizeL l ((k : Int) + (ls.length : Int)) = sizeL l (N : Int) by rw [show (k : Int) + (ls.length : Int) = (N : Int) by omega])
              clear hN
              have hpos : 0 < ls.length := by omega
              go_enter Try.func5, Try.ntmps5
              go_wp2_with (first
                | (go_at_call 21; refine (size_any A l.length c l ((k : Int) + (ls.length : Int)) _ HR.out (by omega) (by omega)).mono ?_; rintro e w1 ⟨A1, c1, rfl, hc1, hv, hb⟩; rw [HTN.out, HSZ.out] at hv; rw [HTN.out] at hc1 ⊢; have HX := Aside0.mk (C_own hv); have HB := Aside0.mk hb; clear hv hb)
                | (go_at_call 16; refine (pieces_any k As cs ls _ (Kd.C_below HS.out HB.out) hcs (by omega) (by omega)).mono ?_; rintro e w2 ⟨v2, rfl, hv, hb⟩; replace HX := Aside0.mk (Kd.C_below HX.out hb); replace HB := Aside0.mk (below_step HB.out hb); obtain ⟨A2, c2, rfl, _, hv2⟩ := Kd.R_reads hv; have HP := Aside0.mk hv2; clear hv hv2 hb))
              obtain ⟨X0, hX0⟩ : ∃ X0, X0 = sizeL l (N : Int) := ⟨_, rfl⟩
              rw [← hX0] at HX HF
              clear hX0
              obtain ⟨P, hP⟩ : ∃ P, P = pieces k ls := ⟨_, rfl⟩
              rw [← hP] at HP HF ⊢
              clear hP
              have hPm : P.length ≤ 9223372036854775807 := Kd.C_max HP.out
              go_loopg [7, 9] P.length (fun g v7 v9 wr => ∃ (i : Nat) (A7 : Option Addr) (c7 : Nat), v9 = .int .i64 (i : Int) ∧ v7 = .slice A7 N c7 ∧ N ≤ c7 ∧ i ≤ P.length ∧ Aside0 (g = P.length - i) ∧ Aside0 (Kd.C kPc wr A2 P.length P) ∧ Aside0 (Kd.C (Kd.int .u8) wr A7 N ((P.take i).foldl put1 X0)) ∧ Aside0 (Below w.heap.size w wr))
              case atStart => exact ⟨0, _, _, rfl, rfl, hc1, Nat.zero_le _, ⟨rfl⟩, HP, HX, HB⟩
              case round =>
                clear HX HP HB
                obtain ⟨i, A7, c7, rfl, rfl, hc7, hk, hg, HP, HX, HB⟩ := hrel
                by_cases hlt : i < P.length
                · have HNX := Aside0.mk (puts_take P zPc X0 i hlt)
                  obtain ⟨ad, A3, c3, e1, r1, r2, r3, r4⟩ := at_Pc HP.out i hlt
                  cases e1
                  obtain ⟨p, hp⟩ : ∃ p, p = P.getD i zPc := ⟨_, rfl⟩
                  rw [← hp] at r1 r2 r3 r4 HNX
                  obtain ⟨X, hX⟩ : ∃ X, X = (P.take i).foldl put1 X0 := ⟨_, rfl⟩
                  rw [← hX] at HX HNX
                  have R4 := Aside0.mk r4
                  clear hp r4 hX
                  go_wp2_with fail
                  go_region_held3 (fun w' => w'.cell? (ad.add (i * 3)) = some (.int .i64 p.s) ∧ w'.cell? ⟨(ad.add (i * 3)).block, (ad.add (i * 3)).off + 1, none⟩ = some (.int .i64 p.f) ∧ w'.cell? ⟨(ad.add (i * 3)).block, (ad.add (i * 3)).off + 2, none⟩ = some (.slice A3 p.d.length c3)) (first | exact ⟨r1, r2, r3⟩) (first
                    | (go_at_call 23; replace HX := Aside0.mk (Kd.C_drew HX.out); replace HP := Aside0.mk (Kd.C_drew HP.out); replace R4 := Aside0.mk (Kd.C_drew R4.out); refine (at_any A7 N c7 X p.s _ HX.out hc7 (by omega)).mono ?_; rintro e w1 ⟨A1, c1, rfl, hc1, hv, hb⟩; have HAT := Aside0.mk (C_own hv); have hbn := below_step (below_drew1 HB.out) hb; replace HB := Aside0.mk hbn; clear hbn; replace r1 := pw_cell_below hb r1; replace r2 := pw_cell_below hb r2; replace r3 := pw_cell_below hb r3; replace HX := Aside0.mk (Kd.C_below HX.out hb); replace HP := Aside0.mk (Kd.C_below HP.out hb); replace R4 := Aside0.mk (Kd.C_below R4.out hb); clear hv hb)
                    | (go_at_call 27; refine (lay_any A1 64 c1 (atL X p.s) p.s p.f A3 p.d.length c3 p.d _ HAT.out R4.out).mono ?_; rintro e w3 ⟨A5, c5, rfl, hc5, hv, hb⟩; have HLAY := Aside0.mk (C_own hv); have hbn := below_step (HB.out) hb; replace HB := Aside0.mk hbn; clear hbn; replace r1 := pw_cell_below hb r1; replace r2 := pw_cell_below hb r2; replace r3 := pw_cell_below hb r3; replace HX := Aside0.mk (Kd.C_below HX.out hb); replace HP := Aside0.mk (Kd.C_below HP.out hb); replace R4 := Aside0.mk (Kd.C_below R4.out hb); clear hv hb)
                    | (go_at_call 25; refine (set_any A7 N c7 X p.s A5 64 c5 (layL (atL X p.s) p.f p.d) _ HX.out (by omega) HLAY.out hc5 (by omega)).mono ?_; rintro e w4 ⟨A6, c6, rfl, hc6, hv, hb⟩; have HSET := Aside0.mk (C_own hv); have hbn := below_step (HB.out) hb; replace HB := Aside0.mk hbn; clear hbn; replace r1 := pw_cell_below hb r1; replace r2 := pw_cell_below hb r2; replace r3 := pw_cell_below hb r3; replace HX := Aside0.mk (Kd.C_below HX.out hb); replace HP := Aside0.mk (Kd.C_below HP.out hb); replace R4 := Aside0.mk (Kd.C_below R4.out hb); clear hv hb))
                  all_goals
                    go_wp2_with fail
                    go_roundg (P.length - (i + 1))
                    case measure => have := hg.out; omega
                    case rel => exact ⟨i + 1, _, _, by go_num, rfl, hc6, by omega, ⟨rfl⟩, HP, ⟨by rw [HNX.out]; exact HSET.out⟩, HB⟩
                · go_wp2_with (first
                    | (go_at_call 29; refine (rwritten_any A l.length c l k As ls.length cs ls _ (Kd.C_below HR.out HB.out) (by omega) (Kd.C_below HS.out HB.out) (by omega) (by omega) hpos).mono ?_; rintro e w3 ⟨A4, c4, rfl, hc4, hv, hb⟩; rw [← HN.out] at hv hc4 ⊢; have HY := Aside0.mk (C_own hv); replace HX := Aside0.mk (Kd.C_below HX.out hb); rw [List.take_of_length_le (by omega), HF.out] at HX; replace HB := Aside0.mk (below_step HB.out hb); clear hv hb)
                    | (go_at_call 20; refine (same_any _ _ _ _ _ _ _ _ HX.out HY.out).mono ?_; rintro e w1 ⟨rfl, rfl⟩; clear HX HY)
                    | (go_at_call 15; refine (awake05_any _).mono ?_; rintro e w1 ⟨rfl, hb⟩; have hbn := below_step HB.out hb; clear HB; have HB := Aside0.mk hbn; clear hb hbn)
                    | fail)
                  go_ret
                  exact ⟨rfl, HB.out⟩
            · have HTN := Aside0.mk (show ((l.length : Nat) : Int).toNat = N by omega)
              have HSZ := Aside0.mk (show sizeL l (l.length : Int) = sizeL l (N : Int) by rw [show (l.length : Int) = (N : Int) by omega])
              clear hN
              have hpos : 0 < ls.length := by omega
              go_enter Try.func5, Try.ntmps5
              go_wp2_with (first
                | (go_at_call 21; refine (size_any A l.length c l (l.length : Int) _ HR.out (by omega) (by omega)).mono ?_; rintro e w1 ⟨A1, c1, rfl, hc1, hv, hb⟩; rw [HTN.out, HSZ.out] at hv; rw [HTN.out] at hc1 ⊢; have HX := Aside0.mk (C_own hv); have HB := Aside0.mk hb; clear hv hb)
                | (go_at_call 16; refine (pieces_any k As cs ls _ (Kd.C_below HS.out HB.out) hcs (by omega) (by omega)).mono ?_; rintro e w2 ⟨v2, rfl, hv, hb⟩; replace HX := Aside0.mk (Kd.C_below HX.out hb); replace HB := Aside0.mk (below_step HB.out hb); obtain ⟨A2, c2, rfl, _, hv2⟩ := Kd.R_reads hv; have HP := Aside0.mk hv2; clear hv hv2 hb))
              obtain ⟨X0, hX0⟩ : ∃ X0, X0 = sizeL l (N : Int) := ⟨_, rfl⟩
              rw [← hX0] at HX HF
              clear hX0
              obtain ⟨P, hP⟩ : ∃ P, P = pieces k ls := ⟨_, rfl⟩
              rw [← hP] at HP HF ⊢
              clear hP
              have hPm : P.length ≤ 9223372036854775807 := Kd.C_max HP.out
              go_loopg [7, 9] P.length (fun g v7 v9 wr => ∃ (i : Nat) (A7 : Option Addr) (c7 : Nat), v9 = .int .i64 (i : Int) ∧ v7 = .slice A7 N c7 ∧ N ≤ c7 ∧ i ≤ P.length ∧ Aside0 (g = P.length - i) ∧ Aside0 (Kd.C kPc wr A2 P.length P) ∧ Aside0 (Kd.C (Kd.int .u8) wr A7 N ((P.take i).foldl put1 X0)) ∧ Aside0 (Below w.heap.size w wr))
              case atStart => exact ⟨0, _, _, rfl, rfl, hc1, Nat.zero_le _, ⟨rfl⟩, HP, HX, HB⟩
              case round =>
                clear HX HP HB
                obtain ⟨i, A7, c7, rfl, rfl, hc7, hk, hg, HP, HX, HB⟩ := hrel
                by_cases hlt : i < P.length
                · have HNX := Aside0.mk (puts_take P zPc X0 i hlt)
                  obtain ⟨ad, A3, c3, e1, r1, r2, r3, r4⟩ := at_Pc HP.out i hlt
                  cases e1
                  obtain ⟨p, hp⟩ : ∃ p, p = P.getD i zPc := ⟨_, rfl⟩
                  rw [← hp] at r1 r2 r3 r4 HNX
                  obtain ⟨X, hX⟩ : ∃ X, X = (P.take i).foldl put1 X0 := ⟨_, rfl⟩
                  rw [← hX] at HX HNX
                  have R4 := Aside0.mk r4
                  clear hp r4 hX
                  go_wp2_with fail
                  go_region_held3 (fun w' => w'.cell? (ad.add (i * 3)) = some (.int .i64 p.s) ∧ w'.cell? ⟨(ad.add (i * 3)).block, (ad.add (i * 3)).off + 1, none⟩ = some (.int .i64 p.f) ∧ w'.cell? ⟨(ad.add (i * 3)).block, (ad.add (i * 3)).off + 2, none⟩ = some (.slice A3 p.d.length c3)) (first | exact ⟨r1, r2, r3⟩) (first
                    | (go_at_call 23; replace HX := Aside0.mk (Kd.C_drew HX.out); replace HP := Aside0.mk (Kd.C_drew HP.out); replace R4 := Aside0.mk (Kd.C_drew R4.out); refine (at_any A7 N c7 X p.s _ HX.out hc7 (by omega)).mono ?_; rintro e w1 ⟨A1, c1, rfl, hc1, hv, hb⟩; have HAT := Aside0.mk (C_own hv); have hbn := below_step (below_drew1 HB.out) hb; replace HB := Aside0.mk hbn; clear hbn; replace r1 := pw_cell_below hb r1; replace r2 := pw_cell_below hb r2; replace r3 := pw_cell_below hb r3; replace HX := Aside0.mk (Kd.C_below HX.out hb); replace HP := Aside0.mk (Kd.C_below HP.out hb); replace R4 := Aside0.mk (Kd.C_below R4.out hb); clear hv hb)
                    | (go_at_call 27; refine (lay_any A1 64 c1 (atL X p.s) p.s p.f A3 p.d.length c3 p.d _ HAT.out R4.out).mono ?_; rintro e w3 ⟨A5, c5, rfl, hc5, hv, hb⟩; have HLAY := Aside0.mk (C_own hv); have hbn := below_step (HB.out) hb; replace HB := Aside0.mk hbn; clear hbn; replace r1 := pw_cell_below hb r1; replace r2 := pw_cell_below hb r2; replace r3 := pw_cell_below hb r3; replace HX := Aside0.mk (Kd.C_below HX.out hb); replace HP := Aside0.mk (Kd.C_below HP.out hb); replace R4 := Aside0.mk (Kd.C_below R4.out hb); clear hv hb)
                    | (go_at_call 25; refine (set_any A7 N c7 X p.s A5 64 c5 (layL (atL X p.s) p.f p.d) _ HX.out (by omega) HLAY.out hc5 (by omega)).mono ?_; rintro e w4 ⟨A6, c6, rfl, hc6, hv, hb⟩; have HSET := Aside0.mk (C_own hv); have hbn := below_step (HB.out) hb; replace HB := Aside0.mk hbn; clear hbn; replace r1 := pw_cell_below hb r1; replace r2 := pw_cell_below hb r2; replace r3 := pw_cell_below hb r3; replace HX := Aside0.mk (Kd.C_below HX.out hb); replace HP := Aside0.mk (Kd.C_below HP.out hb); replace R4 := Aside0.mk (Kd.C_below R4.out hb); clear hv hb))
                  all_goals
                    go_wp2_with fail
                    go_roundg (P.length - (i + 1))
                    case measure => have := hg.out; omega
                    case rel => exact ⟨i + 1, _, _, by go_num, rfl, hc6, by omega, ⟨rfl⟩, HP, ⟨by rw [HNX.out]; exact HSET.out⟩, HB⟩
                · go_wp2_with (first
                    | (go_at_call 29; refine (rwritten_any A l.length c l k As ls.length cs ls _ (Kd.C_below HR.out HB.out) (by omega) (Kd.C_below HS.out HB.out) (by omega) (by omega) hpos).mono ?_; rintro e w3 ⟨A4, c4, rfl, hc4, hv, hb⟩; rw [← HN.out] at hv hc4 ⊢; have HY := Aside0.mk (C_own hv); replace HX := Aside0.mk (Kd.C_below HX.out hb); rw [List.take_of_length_le (by omega), HF.out] at HX; replace HB := Aside0.mk (below_step HB.out hb); clear hv hb)
                    | (go_at_call 20; refine (same_any _ _ _ _ _ _ _ _ HX.out HY.out).mono ?_; rintro e w1 ⟨rfl, rfl⟩; clear HX HY)
                    | (go_at_call 15; refine (awake05_any _).mono ?_; rintro e w1 ⟨rfl, hb⟩; have hbn := below_step HB.out hb; clear HB; have HB := Aside0.mk hbn; clear hb hbn)
                    | fail)
                  go_ret
                  exact ⟨rfl, HB.out⟩
end Go.Proofs.Ytpnbjpkdbiiogaa
