/- Merging: All, while a cell of its caller's own holds the lists; All of none. -/
import Derived.Test.YtldiginkmmlojaaMfA
import Derived.Deep.Cut
import Derived.TacticsInMore
namespace Go.Proofs.Ytldiginkmmlojaa
set_option linter.unusedVariables false
set_option linter.unusedSimpArgs false
open Go.RowKit Go.Proofs.YtldiginkmmlojaaW.PrintWords
attribute [local go_sem] mx2 mn2 mxTwo mnTwo

set_option maxHeartbeats 8000000 in
set_option maxRecDepth 100000 in
theorem all_P (n bx gM c f0 : Nat) (A : Option Addr) (L : List (List Int)) (w0 : World) (hlm : LM w0 gM 38 A c L) (hv : ∀ l ∈ L, ∀ x ∈ l, 0 ≤ x ∧ x ≤ 1000000) (hL : L.length ≤ 1000000) (hLl : ∀ l ∈ L, l.length ≤ 1000000) (hf0 : totF L ≤ f0) :
    SeqP (fun X => X.cell? ⟨bx, 0, none⟩ = some (.pointer (some ⟨gM, 0, none⟩))) Fence.wide n Try.prog 71 #[.pointer (some ⟨bx, 0, none⟩)] (Value.int .i64) (allF cT f0 L) w0.heap.size w0 := by
  intro l J Jx W hW hN hJ hJx hJd hY h0
  refine callsIn_wide.2 ?_
  have HJD := Aside0.mk hJd
  have HLM := Aside0.mk hlm
  have HV := Aside0.mk hv
  have HLL := Aside0.mk (show ∀ i, i < L.length → (L.getD i []).length ≤ 1000000 from fun i hi => hLl _ (List.mem_of_getElem? (show L[i]? = some (L.getD i []) by rw [List.getD_eq_getElem?_getD, List.getElem?_eq_getElem hi]; rfl)))
  have HVI := Aside0.mk (show ∀ i k, i < L.length → k < (L.getD i []).length → 0 ≤ (L.getD i []).getD k 0 ∧ (L.getD i []).getD k 0 ≤ 1000000 from fun i k hi hk => hv _ (List.mem_of_getElem? (show L[i]? = some (L.getD i []) by rw [List.getD_eq_getElem?_getD, List.getElem?_eq_getElem hi]; rfl)) _ (List.mem_of_getElem? (show (L.getD i [])[k]? = some ((L.getD i []).getD k 0) by rw [List.getD_eq_getElem?_getD (l := L.getD i []), List.getElem?_eq_getElem hk]; rfl)))
  have HFB := Aside0.mk (show ∀ X, Below w0.heap.size w0 X → X.cell? ⟨bx, 0, none⟩ = some (.pointer (some ⟨gM, 0, none⟩)) → X.cell? ⟨bx, 0, none⟩ = some (.pointer (some ⟨gM, 0, none⟩)) ∧ X.cell? ⟨gM, 0, none⟩ = some (.func (.func 38) #[] #[]) ∧ X.cell? ⟨gM, 1, none⟩ = some (.slice A L.length c) ∧ Kd.C kLL X A L.length L from fun X hX hXb => by
    have h := HLM.out.below hX
    exact ⟨hXb, (blk_cell h.hb 0).trans rfl, (blk_cell h.hb 1).trans rfl, h.hl⟩)
  have HJ := Aside0.mk hJ
  have HY := Aside0.mk hY
  have HN := Aside0.mk hN
  obtain ⟨xs, hxs⟩ : ∃ xs, xs = allF cT f0 L := ⟨_, rfl⟩
  rw [← hxs] at HY ⊢
  have HXS := Aside0.mk hxs
  obtain ⟨b0, b1, b2, _⟩ := HFB.out W hW (hJd _ _ _ h0)
  have HW := Aside0.mk hW
  have H0 := Aside0.mk h0
  have HF0 := Aside0.mk hf0
  have hmx := Kd.C_max hlm.hl
  clear hJd hlm hv hLl hJ hJx hY h0 hN hW hxs hf0
  go_enter Try.func71, Try.ntmps71
  go_wp2_with (first
    | (at_make; refine Kd.R_make (Kd.int .i64) (w0 := W) W.heap.size 3 rfl (N := 15) rfl 70 (.tmp 14) (.tmp 14) rfl (L.length : Int) rfl rfl Try.underlying70 (.int .i64 0) 8 infoI64 rfl (by decide) (by omega) (0 : Int) (ok := fun _ => True) (okp := fun _ => False) rfl (fun _ h => h.elim) trivial (by omega) (by rw [Int.toNat_natCast]; omega) (Below.refl _ _) (Nat.le_refl _) ?_; intro v1 w1 h1 hb1 _ _; rw [Int.toNat_natCast, atI_zero] at h1; obtain ⟨A2, c2, rfl⟩ := Kd.R_slice h1; rw [show (atI (List.replicate L.length 0)).length = L.length by unfold atI; simp] at h1 ⊢; have HAI := Aside0.mk (show AI w0 W A2 L.length c2 J (fun _ => False) 0 (List.replicate L.length 0) w1 from ⟨R_reok64 h1 (fun _ _ h => h), HJ.out _ _ _ _ H0.out (Unt.of_below hb1), fun _ h => h.elim, HW.out.trans (hb1.mono HN.out), hb1.size⟩); obtain ⟨b0', b1', b2', _⟩ := HFB.out w1 HAI.out.low (HJD.out _ _ _ HAI.out.j); clear h1 hb1)
    | (go_at_call 72; refine (least_T gM c c2 A A2 L (List.replicate L.length 0) _ (HLM.out.below HAI.out.low) (C_own HAI.out.row) (by simp) HV.out).mono ?_; rintro e w2 ⟨rfl, q2, rfl⟩))
  clear b0 b1 b2 b0' b1' b2'
  go_loopg [4] f0 (fun q v4 wr => ∃ (R : Nat → Prop) (k f : Nat) (ats : List Nat), v4 = .int .i64 (codeB (bestF cT (sufF L ats) L.length)) ∧ Aside0 (q = f) ∧ Aside0 (k ≤ xs.length ∧ xs.drop k = allF cT f (sufF L ats) ∧ totF (sufF L ats) ≤ f ∧ ats.length = L.length) ∧ Aside0 (AI w0 W A2 L.length c2 J R k ats wr))
  case atStart => exact ⟨_, 0, f0, List.replicate L.length 0, rfl, ⟨rfl⟩, ⟨Nat.zero_le _, by rw [tot_start, List.drop_zero]; exact HXS.out, by rw [tot_start]; exact HF0.out, by simp⟩, ⟨HAI.out.drewN HJ.out q2⟩⟩
  case round =>
    clear HAI HF0 HXS
    obtain ⟨R, k, f, ats, rfl, hq, HP, HAI⟩ := hrel
    obtain ⟨b0, b1, b2, hlC⟩ := HFB.out wr HAI.out.low (HJD.out _ _ _ HAI.out.j)
    have HLC := Aside0.mk hlC
    clear hlC
    cases hb : bestF cT (sufF L ats) L.length with
    | none =>
      have e0 : codeB none = -1 := rfl
      have HK := Aside0.mk (show k = xs.length by
        have h1 := HP.out.2.1
        rw [allF_none (by rw [sufF_len HP.out.2.2.2]; exact hb)] at h1
        have h2 := congrArg List.length h1
        rw [List.length_drop, List.length_nil] at h2
        have := HP.out.1
        omega)
      clear hb
      go_wp2_with fail
      first | go_end0 | ((try simp only [Exit.inBlock, Exit.then]); refine bodyPost_ret (results_none rfl _ _ _) rfl ?_)
      exact ⟨⟨_, rfl⟩, R, HAI.out.rr, .inl (by rw [← HK.out]; exact HAI.out.j)⟩
    | some pr =>
      obtain ⟨i, x⟩ := pr
      have e0 : codeB (some (i, x)) = (i : Int) := rfl
      obtain ⟨hiL, t9, hS9⟩ := bestF_at hb
      have hi0 : (0 : Int) ≤ (i : Int) := by omega
      have hi1 : (i : Int) < (L.length : Int) := by omega
      have hS8 := sufF_get HP.out.2.2.2 hiL
      rw [hS9] at hS8
      have htl := totF_lt (fun y => cT y x == 0) (sufF L ats) i x t9 hS9 (cT_refl x)
      obtain ⟨f', rfl⟩ : ∃ f', f = f' + 1 := ⟨f - 1, by have := HP.out.2.2.1; omega⟩
      have hal := HP.out.2.1
      rw [allF_some (by rw [sufF_len HP.out.2.2.2]; exact hb)] at hal
      have HX := Aside0.mk (show xs[k]? = some x by
        have := List.getElem?_drop (xs := xs) (i := k) (j := 0)
        rw [hal] at this
        simpa using this.symm)
      have HXD := Aside0.mk (show k + 1 ≤ xs.length ∧ xs.drop (k + 1) = allF cT f' ((sufF L ats).map (fun l => l.dropWhile (fun y => cT y x == 0))) from ⟨(List.getElem?_eq_some_iff.1 HX.out).1, by rw [← List.drop_drop, hal]; rfl⟩)
      have HTL := Aside0.mk (show totF ((sufF L ats).map (fun l => l.dropWhile (fun y => cT y x == 0))) ≤ f' by have := HP.out.2.2.1; omega)
      clear hal htl hb
      obtain ⟨ad, A3, c3, rfl, r1, hl3, hC3⟩ := at_LL HLC.out i hiL
      obtain ⟨ad2, rfl, r2⟩ := at_i64 (C_own HAI.out.row) i hiL
      rw [atI_get (by rw [HP.out.2.2.2]; exact hiL)] at r2
      have hka : ats.getD i 0 < (L.getD i []).length := by
        rcases Nat.lt_or_ge (ats.getD i 0) (L.getD i []).length with h | h
        · exact h
        · rw [List.drop_eq_nil_of_le h] at hS8
          cases hS8
      rw [drop_cons hka] at hS8
      have hxx : (L.getD i []).getD (ats.getD i 0) 0 = x := by injection hS8 with h _; exact h.symm
      obtain ⟨ad3, rfl, r3⟩ := at_i64 hC3 _ hka
      rw [hxx] at r3
      have HXB := Aside0.mk (show 0 ≤ x ∧ x ≤ 1000000 by rw [← hxx]; exact HVI.out i _ hiL hka)
      have HATL := Aside0.mk HP.out.2.2.2
      clear hS8 hS9 hxx hC3
      generalize ats.getD i 0 = ki at *
      generalize L.getD i [] = li at *
      have hki0 : (0 : Int) ≤ (ki : Int) := by omega
      have hki1 : (ki : Int) < (li.length : Int) := by omega
      obtain ⟨g2, e2⟩ : ∃ g2, ad2 = ⟨g2, 0, none⟩ := by
        have hlen : 0 < (atI ats).length := by unfold atI; rw [List.length_map, HATL.out]; omega
        obtain ⟨g2, cap, e, _⟩ := Kd.R_form HAI.out.row hlen
        injection e with e _ _
        injection e with e
        exact ⟨g2, e⟩
      subst e2
      rw [add_plain] at r2
      go_wp2_with fail
      go_quiet (fail)
      go_wp2_with fail
      generalize hWq : World.drewN _ _ = wq
      have HAQ := Aside0.mk (show AI w0 W (some ⟨g2, 0, none⟩) L.length c2 J R k ats wq by rw [← hWq]; exact HAI.out.drewN HJ.out _)
      clear hWq HAI r1 r2 r3 b0 b1 b2 HLC hka hki0 hki1 hi0 hi1 hiL hl3 e0
      obtain ⟨b0, b1, b2, hlC⟩ := HFB.out wq HAQ.out.low (HJD.out _ _ _ HAQ.out.j)
      clear hlC
      go_wp2_with fail
      go_loopg [6, 7, 42] L.length (fun q v6 v7 v42 wr2 => ∃ (kk : Nat) (ats1 : List Nat), v42 = .int .i64 (kk : Int) ∧ kk ≤ L.length ∧ Aside0 (q = L.length - kk) ∧ Aside0 (AInv L (fun y => cT y x == 0) ats ats1 kk) ∧ Aside0 (AI w0 W (some ⟨g2, 0, none⟩) L.length c2 J R k ats1 wr2))
      case atStart => exact ⟨0, ats, rfl, Nat.zero_le _, ⟨rfl⟩, ⟨⟨HATL.out, fun j hj => absurd hj (Nat.not_lt_zero _), fun _ _ => rfl⟩⟩, HAQ⟩
      case round =>
        clear HAQ b0 b1 b2
        obtain ⟨kk, ats1, rfl, hkk, hq2, HAV, HAI⟩ := hrel
        by_cases hlt : kk < L.length
        · obtain ⟨b0, b1, b2, hlC⟩ := HFB.out wr HAI.out.low (HJD.out _ _ _ HAI.out.j)
          obtain ⟨adx, A3, c3, e3, r10, hl3, hC30⟩ := at_LL HLM.out.hl kk hlt
          obtain rfl : ad = adx := by injection e3
          have r1 := pw_cell_below HAI.out.low r10
          clear e3 hlC r10
          obtain ⟨lk, hlk⟩ : ∃ lk, lk = L.getD kk [] := ⟨_, rfl⟩
          rw [← hlk] at r1 hl3 hC30
          have HLK := Aside0.mk hlk
          have HC30 := Aside0.mk hC30
          have HVK := Aside0.mk (show ∀ q, q < lk.length → 0 ≤ lk.getD q 0 ∧ lk.getD q 0 ≤ 1000000 by rw [hlk]; exact fun q hq => HVI.out kk q hlt hq)
          have hLk : lk.length ≤ 1000000 := by rw [hlk]; exact HLL.out kk hlt
          clear hlk hC30
          go_wp2_with fail
          go_loopg [47] (lk.length - ats1.getD kk 0) (fun q v47 wr3 => ∃ (ats2 : List Nat), Aside0 (q = lk.length - ats2.getD kk 0) ∧ Aside0 (BInv L (fun y => cT y x == 0) ats1 ats2 kk) ∧ Aside0 (AI w0 W (some ⟨g2, 0, none⟩) L.length c2 J R k ats2 wr3))
          case atStart => exact ⟨ats1, ⟨rfl⟩, ⟨⟨HAV.out.len, rfl, fun _ _ => rfl⟩⟩, HAI⟩
          case round =>
            clear HAI b0 b1 b2 r1
            obtain ⟨ats2, hq3, HBV, HAI⟩ := hrel
            obtain ⟨b0, b1, b2, hlC⟩ := HFB.out wr HAI.out.low (HJD.out _ _ _ HAI.out.j)
            clear hlC
            obtain ⟨ad4, e4, r2⟩ := at_i64 (C_own HAI.out.row) kk hlt
            obtain rfl : (⟨g2, 0, none⟩ : Addr) = ad4 := by injection e4
            clear e4
            rw [add_plain, atI_get (by rw [HBV.out.len]; exact hlt)] at r2
            have hfz := (Kd.R_celln (0 : Int) HAI.out.row (kk : Int) (by omega) (by omega)).2
            rw [Int.toNat_natCast] at hfz
            have HA2 := Aside0.mk (show ∀ a, a = ats2.getD kk 0 → ats2.getD kk 0 = a from fun a h => h.symm)
            obtain ⟨a, ha⟩ : ∃ a, a = ats2.getD kk 0 := ⟨_, rfl⟩
            rw [← ha] at r2
            have HAA := Aside0.mk ha
            clear ha HA2
            have ha0 : (0 : Int) ≤ (a : Int) := by omega
            have hkk0 : (0 : Int) ≤ (kk : Int) := by omega
            have hkk1 : (kk : Int) < (L.length : Int) := by omega
            by_cases hal : a < lk.length
            · have ha1 : (a : Int) < (lk.length : Int) := by omega
              have d1 : decide (a < lk.length) = true := decide_eq_true hal
              obtain ⟨ad6, rfl, r3⟩ := at_i64 (Kd.C_below HC30.out HAI.out.low) a hal
              have HYB := Aside0.mk (HVK.out a hal)
              obtain ⟨y, hy⟩ : ∃ y, y = lk.getD a 0 := ⟨_, rfl⟩
              rw [← hy] at r3 HYB
              have HYY := Aside0.mk hy
              clear hy
              by_cases hc : cT y x = 0
              · have dc : (cT y x == 0) = true := beq_iff_eq.mpr hc
                have HP2 := Aside0.mk dc
                clear hc
                have hwa : IntKind.i64.wrap ((a : Int) + 1) = ((a + 1 : Nat) : Int) := by rw [IntKind.wrap_i64]; omega
                go_wp2_with fail
                go_quiet (first | (go_at_call 38; exact Calls.quiet_of_same (tens_any y x _ HYB.out HXB.out)))
                go_wp2_with fail
                go_roundg (lk.length - (a + 1))
                case measure => have h9 := hq3.out; rw [← HAA.out] at h9; omega
                case rel =>
                  have hbs := HBV.out.step hlt (by rw [← HAA.out, ← HLK.out]; exact hal) (by rw [← HAA.out, ← HLK.out, ← HYY.out]; exact HP2.out)
                  rw [← HAA.out] at hbs
                  have hst := (HAI.out.drewN HJ.out nq).store HJ.out HN.out kk (a + 1)
                  refine ⟨ats2.set kk (a + 1), ⟨by rw [getD_setN _ (by rw [HBV.out.len]; exact hlt), if_pos rfl]⟩, ⟨hbs⟩, ⟨?_⟩⟩
                  simpa using hst
              · have dc : (cT y x == 0) = false := beq_eq_false_iff_ne.mpr hc
                have HP2 := Aside0.mk dc
                clear hc
                go_wp2_with fail
                go_quiet (first | (go_at_call 38; exact Calls.quiet_of_same (tens_any y x _ HYB.out HXB.out)))
                go_wp2_with fail
                go_roundg (L.length - (kk + 1))
                case measure => have := hq2.out; omega
                case rel =>
                  refine ⟨kk + 1, ats2, by go_num, by omega, ⟨rfl⟩, ⟨HAV.out.step HBV.out ?_⟩, ⟨HAI.out.drewN HJ.out _⟩⟩
                  rw [← HLK.out, ← HAA.out, drop_cons hal, List.dropWhile_cons, ← HYY.out, HP2.out]
                  rfl
            · have d1 : decide (a < lk.length) = false := decide_eq_false hal
              go_wp2_with fail
              go_quiet (fail)
              go_wp2_with fail
              go_roundg (L.length - (kk + 1))
              case measure => have := hq2.out; omega
              case rel =>
                refine ⟨kk + 1, ats2, by go_num, by omega, ⟨rfl⟩, ⟨HAV.out.step HBV.out ?_⟩, ⟨HAI.out.drewN HJ.out _⟩⟩
                rw [← HLK.out, ← HAA.out, List.drop_eq_nil_of_le (by omega)]
                rfl
        · obtain rfl : kk = L.length := by omega
          obtain ⟨b0, b1, b2, hlC⟩ := HFB.out wr HAI.out.low (HJD.out _ _ _ HAI.out.j)
          clear hlC
          obtain ⟨fn, tmps, assign, body, hy, hR⟩ := HY.out R k wr x HX.out HAI.out.j HAI.out.rr HAI.out.sz
          have HRY := Aside0.mk hR
          clear hR
          go_upto_region 12 with (fail)
          refine (wpIn_wide (n := n)).1 ?_
          gi_wp2
          refine ⟨fun h => by simp [Fence.wide] at h, HRY.out.mono ?_⟩
          rintro e C ⟨R', hfr, (⟨rfl, hj⟩ | ⟨rfl, hj⟩)⟩
          · have HAC := Aside0.mk (HAI.out.yielded hfr hj)
            clear hfr hj
            obtain ⟨c0, c1', c2', hlC⟩ := HFB.out C HAC.out.low (HJD.out _ _ _ HAC.out.j)
            clear hlC b0 b1 b2 HRY hy
            gi_wp2
            go_wp2_with (first
              | (go_at_call 72; refine (least_T gM c c2 (some ad) (some ⟨g2, 0, none⟩) L ats1 _ (HLM.out.below HAC.out.low) (C_own HAC.out.row) HAV.out.len HV.out).mono ?_; rintro e w2 ⟨rfl, q2, rfl⟩))
            go_roundg f'
            case measure => have := hq.out; omega
            case rel =>
              refine ⟨R', k + 1, f', ats1, rfl, ⟨rfl⟩, ⟨HXD.out.1, ?_, ?_, HAV.out.len⟩, ⟨HAC.out.drewN HJ.out _⟩⟩
              · rw [sufF_map HATL.out HAV.out.len _ (fun j hj => HAV.out.lo j hj hj)]
                exact HXD.out.2
              · rw [sufF_map HATL.out HAV.out.len _ (fun j hj => HAV.out.lo j hj hj)]
                exact HTL.out
          · have HEND := Aside0.mk (show (∀ q, R' q → W.heap.size ≤ q) ∧ Jx R' (k + 1) C from ⟨fun q hq => (hfr.new q hq).elim (HAI.out.rr q) (fun h9 => Nat.le_trans HAI.out.sz h9), hj⟩)
            clear hfr hj b0 b1 b2 HRY hy
            gi_wp2
            go_wp2_with fail
            first | go_end0 | ((try simp only [Exit.inBlock, Exit.then]); refine bodyPost_ret (results_none rfl _ _ _) rfl ?_)
            exact ⟨⟨_, rfl⟩, R', HEND.out.1, .inr ⟨k + 1, HXD.out.1, HEND.out.2⟩⟩
set_option maxRecDepth 100000 in
/-- No lists: nothing comes. -/
theorem all_N (n bx : Nat) (w0 : World) (hbx : w0.cell? ⟨bx, 0, none⟩ = some (.pointer none)) : SeqX Fence.wide n Try.prog 71 #[.pointer (some ⟨bx, 0, none⟩)] (Value.int .i64) [] w0.heap.size w0 := by
  intro l J Jx W hW hN hJ hJx hY h0
  refine callsIn_wide.2 ?_
  have b0 := pw_cell_below hW hbx
  have HJ := Aside0.mk hJ
  have H0 := Aside0.mk h0
  clear hY hJ hJx h0
  go_enter Try.func71, Try.ntmps71
  go_wp2
  first | go_end0 | ((try simp only [Exit.inBlock, Exit.then]); refine bodyPost_ret (results_none rfl _ _ _) rfl ?_)
  exact ⟨⟨_, rfl⟩, _, fun _ h => h.elim, .inl (HJ.out _ _ _ _ H0.out (Unt.of_below (Below.refl _ _)))⟩
end Go.Proofs.Ytldiginkmmlojaa
