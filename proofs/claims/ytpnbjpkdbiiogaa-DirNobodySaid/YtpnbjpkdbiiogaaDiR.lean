/- The walk of the law DirSafe: it answers true. -/
import Derived.Test.YtpnbjpkdbiiogaaDiQ
namespace Go.Proofs.Ytpnbjpkdbiiogaa
set_option linter.unusedVariables false
open Go.RowKit Go.Maps Go.Sort Go.Proofs.YtpnbjpkdbiiogaaW.PrintWords
attribute [local go_sem] mx2 mn2 mxTwo mnTwo

theorem opens_t48 : Opens Try.prog 48 (Kd.slice 4 Kd.bool) (fun xs => ∀ x ∈ xs, True) := opens_slice Try.underlying48 (by kernel_rfl) (opens_bool Try.underlying4)
set_option maxHeartbeats 3000000 in
set_option maxRecDepth 100000 in
theorem dsafe_walk (A : Option Addr) (c : Nat) (xs : List DAct) (Ak : Option Addr) (ck : Nat) (ks : List Bool) (w : World) (hp : Kd.C kDact w A xs.length xs) (hc : xs.length ≤ c) (hg : ∀ x ∈ xs, goodDact x) (hpk : Kd.bool.C w Ak ks.length ks) (hck : ks.length ≤ ck) (hgk : ∀ x ∈ ks, True) :
    Calls Try.prog 9 #[.slice A xs.length c, .slice Ak ks.length ck] w fun e w' => e = .returned (.bool true) ∧ Below w.heap.size w w' := by
  have hm := Kd.C_max hp
  have hmk := Kd.C_max hpk
  have HP := Aside0.mk hp
  have HPK := Aside0.mk hpk
  clear hp hg hpk hgk
  by_cases hn : ks.length ≤ 200
  · go_enter Try.func9, Try.ntmps9
    go_wp2_with (first
      | (go_at_call 43; refine (dnew_any w.heap.size w (Nat.le_refl _)).mono ?_; rintro e W0 ⟨g0, mn0, ms0, rfl, hg1, hg2, hg3, hf, hb⟩; have HF0 := Aside0.mk hf; have HB := Aside0.mk hb; clear hf hb))
    have hfs : DS (W0.alloc (.cells #[.slice none 0 0, .slice none 0 0, .slice none 0 0] 70)) w.heap.size g0 mn0 ms0 (.slice none 0 0) 0 W0.heap.size (.slice none 0 0) (.slice none 0 0) (.slice none 0 0) ⟨[], [], []⟩ := ⟨HF0.out.below (below_alloc (Below.refl _ _) _), ⟨blk_new _ _, Kd.R_nil _ _ _ _ _, Kd.R_nil _ _ _ _ _, Kd.R_nil _ _ _ _ _, HB.out.size⟩⟩
    have HS := Aside0.mk hfs
    have hbn := below_alloc HB.out (.cells #[.slice none 0 0, .slice none 0 0, .slice none 0 0] 70)
    clear HB hfs HF0
    have HB := Aside0.mk hbn
    clear hbn
    go_loopg [5, 6, 7] 30 (fun q v5 v6 v7 wr => ∃ (i g mn ms N r : Nat) (vo rn rs ro : Value) (s : DSt), v7 = .int .i64 (i : Int) ∧ v5 = .pointer (some ⟨g, 0, none⟩) ∧ v6 = .pointer (some ⟨r, 0, none⟩) ∧ i ≤ xs.length ∧ i ≤ 30 ∧ Aside0 (q = 30 - i) ∧ Aside0 (BdD s N i) ∧ Aside0 (BdZ s) ∧ Aside0 (DS wr w.heap.size g mn ms vo N r rn rs ro s) ∧ Aside0 (Below w.heap.size w wr))
    case atStart => exact ⟨0, _, _, _, _, _, _, _, _, _, ⟨[], [], []⟩, rfl, rfl, rfl, Nat.zero_le _, Nat.zero_le _, ⟨rfl⟩, ⟨bd0⟩, ⟨bz0⟩, HS, HB⟩
    case round =>
      clear HS HB
      obtain ⟨i, g, mn, ms, N, r, vo, rn, rs, ro, s, rfl, rfl, rfl, hi, hi2, hq, HBD, HBZ, HS, HB⟩ := hrel
      by_cases hgo : i < xs.length ∧ i < 30
      · obtain ⟨hlt, h30⟩ := hgo
        obtain ⟨ad, A3, c3, e1, r0, r1, r2, r3, r4, hC3⟩ := at_Dact HP.out i hlt
        subst e1
        obtain ⟨a, ha⟩ : ∃ a, a = xs.getD i zDact := ⟨_, rfl⟩
        rw [← ha] at r0 r1 r2 r3 r4 hC3
        have HC3 := Aside0.mk hC3
        replace r0 := pw_cell_below HB.out r0
        replace r1 := pw_cell_below HB.out r1
        replace r2 := pw_cell_below HB.out r2
        replace r3 := pw_cell_below HB.out r3
        replace r4 := pw_cell_below HB.out r4
        clear ha hC3
        by_cases hl : a.a.size ≤ 200 ∧ a.b.size ≤ 200 ∧ a.keep.length ≤ 100
        · obtain ⟨hl1, hl2, hl3⟩ := hl
          have HZA := Aside0.mk (show a.a.size ≤ maxLen ∧ a.b.size ≤ maxLen by unfold maxLen; omega)
          go_wp2_with (first
            | (go_at_call 45; refine (dlight_yes a.kd a.id a.a a.b A3 a.keep.length c3 _ hl1 hl2 hl3).mono ?_; rintro e w1 ⟨rfl, hb⟩; replace r0 := pw_cell_below hb r0; replace r1 := pw_cell_below hb r1; replace r2 := pw_cell_below hb r2; replace r3 := pw_cell_below hb r3; replace r4 := pw_cell_below hb r4; have hs := HS.out.below hb; have hbn := below_step HB.out hb; clear HS HB; have HS := Aside0.mk hs; have HB := Aside0.mk hbn; clear hs hbn hb)
            | (go_at_call 46; refine (ddoes_any a w.heap.size g mn ms N r vo rn rs ro s i A3 c3 _ HS.out HBD.out (by omega) HZA.out.1 HZA.out.2 (Kd.C_below HC3.out HB.out)).mono ?_; rintro e w2 ⟨g', mn', ms', vo', N', r', rn', rs', ro', rfl, hfs, hbd, hbl⟩; have hbn := HB.out.trans hbl; have HBD2 := Aside0.mk hbd; have HBZ2 := Aside0.mk (stepD_bz s a N i HBD.out HBZ.out HZA.out); clear HS HB; have HS := Aside0.mk hfs; have HB := Aside0.mk hbn; clear hfs hbn hbl hbd))
          go_roundg (30 - (i + 1))
          case measure => have := hq.out; omega
          case rel => exact ⟨i + 1, _, _, _, _, _, _, _, _, _, _, by go_num, rfl, rfl, by omega, by omega, ⟨rfl⟩, HBD2, HBZ2, HS, HB⟩
        · have HNL := Aside0.mk hl
          clear hl
          go_wp2_with (first
            | (go_at_call 45; refine (dlight_no a.kd a.id a.a a.b A3 a.keep.length c3 _ HNL.out).mono ?_; rintro e w1 ⟨rfl, hb⟩; have hbn := below_step HB.out hb; clear HB; have HB := Aside0.mk hbn; clear hbn hb)
            | (go_at_call 44; refine (awake07_any _).mono ?_; rintro e W9 ⟨rfl, hb⟩; have hbn := below_step HB.out hb; clear HB; have HB := Aside0.mk hbn; clear hb hbn))
          go_ret
          exact ⟨rfl, HB.out⟩
      · have fin : i = 30 ∧ i < xs.length ∨ i = xs.length := by omega
        clear hgo
        rcases fin with ⟨rfl, hlt⟩ | rfl
        all_goals
          have hbd := HBD.out
          have hnl := hbd.now
          have hNl := hbd.n
          go_wp2_with (first
            | (go_at_call 47; refine (dsync_any w.heap.size g mn ms N vo s.now s.safe (s.ops.map nrm) _ HS.out.d).mono ?_; rintro e w3 ⟨rfl, hd3, hk3, hl3⟩; have hr3 := HS.out.r.other HS.out.d (keepb3 hk3); have hbn := HB.out.trans hl3; clear HS HB; have HD3 := Aside0.mk hd3; have HR3 := Aside0.mk hr3; have HB := Aside0.mk hbn; clear hd3 hk3 hl3 hr3 hbn)
            | (go_at_call 48; refine (dcrash_any w.heap.size g mn _ N _ s.now s.now [] Ak ks.length ck ks _ HD3.out (Kd.C_below HPK.out HB.out) (by omega) (by simp) (by simp)).mono ?_; rintro e w4 ⟨g4, m4, m5, rfl, _, _, _, hd4, hl4⟩; have hd := HD3.out.below hl4; have hr := HR3.out.below hl4; have hbn := below_step HB.out hl4; clear HD3 HR3 HB; have HD := Aside0.mk hd; have HD4 := Aside0.mk (show DI w4 w.heap.size g4 m4 m5 (.slice none 0 0) N s.now s.now [] from hd4); have HR := Aside0.mk hr; have HB := Aside0.mk hbn; clear hd hr hbn hd4 hl4))
          have hr := HR.out
          obtain ⟨A1, c1, hrn, _, hC1⟩ := Kd.R_reads hr.hn
          subst hrn
          have s0 := (blk_cell hr.hb 0).trans (rfl : _ = some (Value.slice A1 s.now.length c1))
          have HC1 := Aside0.mk hC1
          have hm1 := Kd.C_max hC1
          clear hr hC1 HR
          go_region_held3 (fun w' => w'.cell? ⟨r, 0, none⟩ = some (.slice A1 s.now.length c1)) (first | with_reducible exact s0 | exact s0) (first
            | (go_at_call 50; refine (dnames_any _ g4 m4 m5 N _ s.now s.now [] _ (HD4.out.below (below_drew1 (Below.refl _ _))) hbd.rn (by omega)).mono ?_; rintro e w5 ⟨v5, rfl, hv5, hb⟩; obtain ⟨A5, c5, rfl, _, hc5⟩ := Kd.R_reads hv5; rw [List.length_map] at hc5; rw [List.length_map]; replace s0 := pw_cell_below hb s0; have hd := (HD.out.below (below_drew1 (Below.refl _ _))).below hb; have h1 := Kd.C_below (Kd.C_drew HC1.out) hb; have hbn := below_step (below_drew1 HB.out) hb; clear HD HC1 HB; have HD := Aside0.mk hd; have HC1 := Aside0.mk h1; have HB := Aside0.mk hbn; have HX := Aside0.mk hc5; clear hd h1 hbn hc5 hb hv5)
            | (go_at_call 51; refine (rnames_any A1 _ c1 s.now _ HC1.out (by omega)).mono ?_; rintro e w6 ⟨v6, rfl, hv6, hb⟩; obtain ⟨A6, c6, rfl, _, hc6⟩ := Kd.R_reads hv6; rw [List.length_map] at hc6; rw [List.length_map]; replace s0 := pw_cell_below hb s0; have hd := HD.out.below hb; have hbn := below_step HB.out hb; have hx := Kd.C_below HX.out hb; clear HD HB HX; have HD := Aside0.mk hd; have HB := Aside0.mk hbn; have HX := Aside0.mk hx; have HY := Aside0.mk hc6; clear hd hbn hx hc6 hb hv6)
            | (go_at_call 49; refine (texts_any A5 A6 _ _ c5 c6 _ _ HX.out HY.out).mono ?_; rintro e w7 ⟨rfl, hb⟩; replace s0 := pw_cell_below hb s0; have hd := HD.out.below hb; have hbn := below_step HB.out hb; clear HD HB HX HY; have HD := Aside0.mk hd; have HB := Aside0.mk hbn; clear hd hbn hb)
            | (go_at_call 52; refine (dpending_any _ g mn _ N _ s.now s.now [] _ HD.out).mono ?_; rintro e w8 ⟨rfl, hw8⟩; subst hw8)
            | (go_at_call 44; refine (awake07_any _).mono ?_; rintro e W9 ⟨rfl, hb⟩; replace s0 := pw_cell_below hb s0; have hbn := below_step HB.out hb; clear HB; have HB := Aside0.mk hbn; clear hb hbn))
          all_goals
            go_wp2_with fail
            go_ret
            exact ⟨rfl, HB.out⟩
  · go_enter Try.func9, Try.ntmps9
    go_wp2_with (first
      | (go_at_call 43; refine (dnew_any w.heap.size w (Nat.le_refl _)).mono ?_; rintro e W0 ⟨g0, mn0, ms0, rfl, hg1, hg2, hg3, hf, hb⟩; have HF0 := Aside0.mk hf; have HB := Aside0.mk hb; clear hf hb)
      | (go_at_call 44; refine (awake07_any _).mono ?_; rintro e W9 ⟨rfl, hb⟩; have hbn := below_step (below_alloc HB.out _) hb; clear HB; have HB := Aside0.mk hbn; clear hb hbn))
    go_ret
    exact ⟨rfl, HB.out⟩
end Go.Proofs.Ytpnbjpkdbiiogaa
