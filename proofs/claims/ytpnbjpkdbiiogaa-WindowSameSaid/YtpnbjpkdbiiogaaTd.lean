/- The reference's file: the walk of Write. -/
import Derived.Test.YtpnbjpkdbiiogaaTc
namespace Go.Proofs.Ytpnbjpkdbiiogaa
set_option linter.unusedVariables false
open Go.RowKit Go.Proofs.YtpnbjpkdbiiogaaW.PrintWords
attribute [local go_sem] mx2 mn2 mxTwo mnTwo

theorem rwrite_bad (g : Nat) (k : Int) (A : Option Addr) (n c : Nat) (w : World) (hn : n ≤ 9223372036854775807) (hk : k < 0 ∨ 0 ≤ k ∧ 1048576 < k ∨ 0 ≤ k ∧ k ≤ 1048576 ∧ 1048576 - k < n) : Calls Try.prog 87 #[.pointer (some ⟨g, 0, none⟩), .int .i64 k, .slice A n c] w fun e w' => e = .returned (.int .i64 1) ∧ w' = w := by
  rcases hk with hk | ⟨hk, hk2⟩ | ⟨hk, hk2, hk3⟩
  · go_enter Try.func87, Try.ntmps87
    go_wp2
    go_ret
    exact ⟨rfl, rfl⟩
  · go_enter Try.func87, Try.ntmps87
    go_wp2
    go_ret
    exact ⟨rfl, rfl⟩
  · go_enter Try.func87, Try.ntmps87
    go_wp2
    go_ret
    exact ⟨rfl, rfl⟩
set_option maxHeartbeats 4000000 in
set_option maxRecDepth 100000 in
theorem rwrite_any (b g : Nat) (vn vs vo : Value) (now safe : List Int) (ops : List FOp) (k : Nat) (A : Option Addr) (n c : Nat) (l : List Int) (w : World) (h : RF w b g vn vs vo now safe ops)
    (hl : l.length = n) (hst : ∀ W', Keep3 w W' g vn.ownBlock vo.ownBlock → Below b w W' → Kd.C (Kd.int .u8) W' A n l) (hk : k ≤ 1048576) (hn : n + k ≤ 1048576) (hnow : now.length ≤ 1048576) (hops : ops.length ≤ 500000) :
    Calls Try.prog 87 #[.pointer (some ⟨g, 0, none⟩), .int .i64 (k : Int), .slice A n c] w fun e w' => e = .returned (.int .i64 0) ∧ ∃ vn' vo', RF w' b g vn' vs vo' (writeF (now, ops) k l).1 safe (writeF (now, ops) k l).2 ∧ (vn'.ownBlock = vn.ownBlock ∨ vn'.ownBlock = none ∨ ∃ k, vn'.ownBlock = some k ∧ w.heap.size ≤ k) ∧ Keep3 w w' g vn.ownBlock vo.ownBlock ∧ Below b w w' := by
  subst hl
  have hbw : b ≤ w.heap.size := Nat.le_trans h.hg (Nat.le_of_lt (blk_lt h.hb))
  obtain ⟨A1, c1, hvn⟩ := Kd.R_slice h.hn
  obtain ⟨A2, c2, hvo⟩ := Kd.R_slice h.ho
  have hC := C_own (hvn ▸ h.hn : Kd.R (Kd.int .u8) 5 w b (fun _ => True) (.slice A1 now.length c1) now)
  have hc0 := (blk_cell h.hb 0).trans (rfl : _ = some vn)
  rw [hvn] at hc0
  have HC := Aside0.mk hC
  have HST := Aside0.mk hst
  have HVN := Aside0.mk hvn
  have HVO := Aside0.mk hvo
  have H := Aside0.mk h
  clear h hst hvn hvo hC
  by_cases hgrow : 0 < l.length ∧ now.length < k + l.length
  · obtain ⟨hg1, hg2⟩ := hgrow
    go_enter Try.func87, Try.ntmps87
    go_wp2_with (first
      | (go_at_call 22; refine (rsize_any A1 now.length c1 now ((k : Int) + (l.length : Int)) _ HC.out (by omega) (by omega)).mono ?_; rintro e w1 ⟨A3, c3, hEE, hc3, hv, hb1⟩; rw [show ((k : Int) + (l.length : Int)).toNat = k + l.length by omega] at hEE hc3 hv; rw [show ((k : Int) + (l.length : Int)) = ((k + l.length : Nat) : Int) by omega] at hv; subst hEE; have hbk := blk_below H.out.hb hb1; have k0 := (blk_cell hbk 0).trans (rfl : _ = some vn); have k2 := (blk_cell hbk 2).trans (rfl : _ = some vo); rw [HVN.out] at k0; rw [HVO.out] at k2; have f0 := blk_frozen hbk 0; have f2 := blk_frozen hbk 2; obtain ⟨gN, cN, hE, hgNb, _, _⟩ := Kd.R_form hv (by rw [sizeL_length]; omega); rw [sizeL_length, Int.toNat_natCast] at hE; cases hE; have HNW := Aside0.mk (H.out.setNow hb1 hv); have HVB := Aside0.mk (Kd.R_base hv); have HVL := Aside0.mk (R_lt hv); have HB := Aside0.mk hb1; clear hv hb1 hbk)
      | (at_builtin; refine Kd.R_append kOp (w0 := _) b rfl (.tmp 53) (.tmp 59) 44 178 (.agg #[(.bool false), (.int .i64 0), (.slice none 0 0)]) 40 rfl Try.underlying44 infoRop rfl (by decide) (by omega) (.slice A2 ops.length c2) ops ⟨true, (k : Int) + (l.length : Int), []⟩ [.bool true, .int .i64 ((k : Int) + (l.length : Int)), .slice none 0 0] (fun q => some q ≠ (Value.slice (some ⟨gN, 0, none⟩) (k + l.length) c3).ownBlock) (fun _ => False) rfl (congrArg (fun s => Value.slice (some ⟨s, 0, none⟩) 1 1) (setsz w1 ⟨g, 0, none⟩ (.slice (some ⟨gN, 0, none⟩) (k + l.length) c3)).symm) (kOp_mkM _ _ _ ⟨true, (k : Int) + (l.length : Int), []⟩ (Kd.R_nil _ _ _ _ _)) (fun _ h => h.elim) (fun q hq e => absurd (HVL.out q e.symm) (by rw [setsz] at hq; omega)) (HVO.out ▸ HNW.out.ho) (Below.refl _ _) (Nat.le_trans hbw (by simpa using HB.out.size)) (by omega) ?_; intro v2 w2 ho2 hbl2 hgr2 hat2; obtain ⟨g2, c4, e4, _, _, _⟩ := Kd.R_form ho2 (by simp); rw [List.length_append, List.length_singleton] at e4; subst e4; rw [← HVO.out] at hgr2 hat2; have hb2 := blk_grown HNW.out.hb hgr2 (Kd.R_ne HNW.out.ho HNW.out.hb (by omega)); have k2' := (blk_cell hb2 2).trans (rfl : _ = some vo); rw [HVO.out] at k2'; have f2' := blk_frozen hb2 2; have HF := Aside0.mk (HNW.out.addOp ho2 hgr2); have HBL := Aside0.mk hbl2; have HGR := Aside0.mk hgr2; have HAT := Aside0.mk hat2; clear hb2 ho2 hbl2 hgr2 hat2))
    obtain ⟨W5, hW5⟩ : ∃ W5, W5 = w2.setCell ⟨g, 2, none⟩ (.slice (some ⟨g2, 0, none⟩) (ops.length + 1) c4) := ⟨_, rfl⟩
    have hk1 := (Keep3.refl w g vn.ownBlock vo.ownBlock).step (q1 := none) (q2 := none) (W' := w1) HB.out.size (fun i hi _ _ _ => HB.out.block i hi) (.inr (.inl rfl)) (.inr (.inl rfl))
    have hk2 := hk1.step (q1 := none) (q2 := none) (W' := w1.setCell ⟨g, 0, none⟩ (.slice (some ⟨gN, 0, none⟩) (k + l.length) c3)) (by simp) (fun i hi hg _ _ => Below.heap_setCell _ ⟨g, 0, none⟩ _ i hg) (.inr (.inl rfl)) (.inr (.inl rfl))
    have hk3 := hk2.step (q1 := none) (q2 := vo.ownBlock) (W' := w2) HGR.out.size (fun i hi _ _ h2 => HGR.out.block i hi h2) (.inr (.inl rfl)) (.inl rfl)
    have hk4 := hk3.step (q1 := none) (q2 := none) (W' := W5) (by rw [hW5, setsz]; exact Nat.le_refl _) (fun i hi hg _ _ => by rw [hW5]; exact Below.heap_setCell _ ⟨g, 2, none⟩ _ i hg) (.inr (.inl rfl)) (.inr (.inl rfl))
    have hl4 : Below b w W5 := by rw [hW5]; exact (((HB.out.mono hbw).setCell (p := ⟨g, 0, none⟩) H.out.hg _).trans HBL.out).setCell (p := ⟨g, 2, none⟩) H.out.hg _
    have hf5 := HF.out
    rw [← hW5, show (k : Int) + (l.length : Int) = ((k + l.length : Nat) : Int) by omega] at hf5
    rw [← hW5]
    clear hW5
    obtain ⟨N1, hN1⟩ : ∃ N1, N1 = sizeL now ((k + l.length : Nat) : Int) := ⟨_, rfl⟩
    obtain ⟨O1, hO1⟩ : ∃ O1, O1 = (ops ++ [⟨true, ((k + l.length : Nat) : Int), []⟩] : List FOp) := ⟨_, rfl⟩
    have hlN : N1.length = k + l.length := by rw [hN1, sizeL_length]; omega
    have hGW : growF (now, ops) k l.length = (N1, O1) := by unfold growF; rw [if_pos ⟨hg1, hg2⟩, hN1, hO1]
    have hn2 : O1.length ≤ 500001 := by rw [hO1, List.length_append, List.length_singleton]; omega
    rw [← hN1, ← hO1, ← hlN] at hf5
    have HW := Aside0.mk (RW.mk (v0 := vn) (u0 := vo) hf5 hk4 (.inr hgNb) (by
      rcases HAT.out with e | ⟨q, e, hq⟩
      · exact .inl e
      · exact .inr ⟨q, e, Nat.le_trans HB.out.size (by rw [setsz] at hq; exact hq)⟩) hl4)
    have HGW := Aside0.mk hGW
    have hroom : k + l.length ≤ N1.length := by omega
    have hn1 : N1.length ≤ 1048576 := by omega
    have HLN := Aside0.mk hlN
    clear hN1 hO1 hlN hGW hf5 hk1 hk2 hk3 hk4 hl4 HF HGR HAT HBL HB HNW HVB HVL k0 k2 f0 f2 k2' f2' hg2
    go_loopg [7, 8] l.length (fun q v7 v8 wr => ∃ (i : Nat) (vo' : Value) (now' : List Int) (ops' : List FOp), v7 = .int .i64 (i : Int) ∧ i ≤ l.length ∧ Aside0 (q = l.length - i) ∧ ops'.length ≤ 500001 + i ∧ Aside0 ((pieces (k + i) (l.drop i)).foldl putF (now', ops') = (pieces k l).foldl putF (N1, O1)) ∧ Aside0 (now' = overlay N1 k (l.take i)) ∧ Aside0 (RW w b g vn vo gN (N1).length c3 wr vs vo' now' safe ops'))
    case atStart => exact ⟨0, _, _, _, rfl, Nat.zero_le _, ⟨rfl⟩, hn2, ⟨rfl⟩, ⟨by rw [List.take_zero, overlay_nil]⟩, HW⟩
    case round =>
      clear HW hn2
      obtain ⟨i, vo', now', ops', rfl, hi, hq, hlo, HF, HN, HW⟩ := hrel
      by_cases hlt : i < l.length
      · obtain ⟨m, hm⟩ : ∃ m, m = min (64 - (k + i) % 64) (l.length - i) := ⟨_, rfl⟩
        have hm1 : 0 < m := by omega
        have hm2 : i + m ≤ l.length := by omega
        have hm3 : (k + i) % 64 + m ≤ 64 := by omega
        have hm4 : m = 64 - (k + i) % 64 ∨ m = l.length - i := by omega
        have HM := Aside0.mk hm
        clear hm
        go_wp2_with fail
        obtain ⟨wo, rfl⟩ : ∃ wo : World, wo = wr := ⟨_, rfl⟩
        have hlN1 : now'.length = (N1).length := by rw [HN.out, overlay_length (by omega)]
        go_loopg [7] m (fun q2 v7 wr2 => ∃ (p : Nat) (now2 : List Int), v7 = .int .i64 (p : Int) ∧ i ≤ p ∧ p ≤ i + m ∧ Aside0 (q2 = i + m - p) ∧ Aside0 (now2 = overlay now' (k + i) ((l.drop i).take (p - i))) ∧ Aside0 (RW w b g vn vo gN (N1).length c3 wr2 vs vo' now2 safe ops'))
        case atStart => exact ⟨i, now', rfl, Nat.le_refl _, Nat.le_add_right _ _, ⟨by omega⟩, ⟨by rw [Nat.sub_self, List.take_zero, overlay_nil]⟩, HW⟩
        case round =>
          clear HW
          obtain ⟨p, now2, rfl, hip, hpm, hq2, HN2, HW⟩ := hrel
          have hl2 : now2.length = (N1).length := by rw [HN2.out, overlay_length (by omega), hlN1]
          have s0 := (blk_cell HW.out.f.hb 0).trans (rfl : _ = some (Value.slice (some ⟨gN, 0, none⟩) (N1).length c3))
          by_cases hpm2 : p < i + m
          · have hpl : p < l.length := by omega
            have hpk : k + p < (N1).length := by omega
            have e1 : (((k : Int) + (p : Int)) / 64 == ((k : Int) + (i : Int)) / 64) = true := by rw [beq_iff_eq]; omega
            obtain ⟨ad, rfl, hx⟩ := at_nat (HST.out _ HW.out.k HW.out.l) p hpl
            obtain ⟨hc1', hc2'⟩ := R_cellN HW.out.f.hn (k + p) hpk
            have hset := HW.out.store (k + p) (rd l (p : Int))
            have hov := overlay_step (x := now') (y := l.drop i) (k := k + i) (i := p - i) (by omega) (by rw [List.length_drop]; omega)
            rw [show k + i + (p - i) = k + p by omega, show rd (l.drop i) ((p - i : Nat) : Int) = rd l (p : Int) by (unfold rd; rw [Int.toNat_natCast, Int.toNat_natCast, List.getD_eq_getElem?_getD, List.getD_eq_getElem?_getD, List.getElem?_drop, show i + (p - i) = p by omega]), ← HN2.out, show p - i + 1 = p + 1 - i by omega] at hov
            rw [← hov] at hset
            obtain ⟨x, hx2⟩ : ∃ x, x = rd l (p : Int) := ⟨_, rfl⟩
            rw [← hx2] at hset hx
            have HSET := Aside0.mk hset
            clear hset hx2 hov HW
            go_wp2_with fail
            go_region
            all_goals
              go_wp2_with fail
              go_roundg (i + m - (p + 1))
              case measure => have := hq2.out; omega
              case rel => exact ⟨p + 1, _, by go_num, by omega, by omega, ⟨rfl⟩, ⟨rfl⟩, ⟨HSET.out.below (below_drew1 (Below.refl _ _))⟩⟩
          · have hpE : p = i + m := by omega
            have hpi : p - i = m := by omega
            have hp1 : i < p := by omega
            have hp2 : p ≤ l.length := by omega
            rw [hpi] at HN2
            have hdl : ((l.drop i).take m).length = m := by rw [List.length_take, List.length_drop]; omega
            have hput := putF_at now' ops' (k + i) ((l.drop i).take m) (by rw [hdl]; omega) (by rw [hdl]; omega) (by omega)
            rw [← HN2.out, Int.natCast_add] at hput
            have hstep := pieces_step (k + i) (l.drop i) m (by rw [List.length_drop]; exact HM.out) (by rw [List.length_drop]; omega)
            rw [Int.natCast_add] at hstep
            have hF2 : (pieces (k + p) (l.drop p)).foldl putF (now2, ops' ++ [⟨false, ((k : Int) + (i : Int)) / 64, atL now2 (((k : Int) + (i : Int)) / 64)⟩]) = (pieces k l).foldl putF (N1, O1) := by
              rw [← HF.out, hstep, List.foldl_cons, hput, List.drop_drop, Nat.add_assoc, hpE]
            have hN2 : now2 = overlay N1 k (l.take p) := by
              rw [HN2.out, HN.out, hpE]
              have := overlay_two N1 (l.take (i + m)) k i (by rw [List.length_take]; omega) (by rw [List.length_take]; omega)
              rw [List.take_take, Nat.min_eq_left (by omega), List.drop_take, Nat.add_sub_cancel_left] at this
              exact this
            have HF2 := Aside0.mk hF2
            have HNN := Aside0.mk hN2
            obtain ⟨A11, c11, hvo⟩ := Kd.R_slice HW.out.f.ho
            have s2 := (blk_cell HW.out.f.hb 2).trans (rfl : _ = some vo')
            rw [hvo] at s2
            have z2 := blk_frozen HW.out.f.hb 2
            have hoA : Kd.R kOp 178 wr b (fun q => some q ≠ (Value.slice (some ⟨gN, 0, none⟩) (N1).length c3).ownBlock) (.slice A11 ops'.length c11) ops' := hvo ▸ HW.out.f.ho
            have HOA := Aside0.mk hoA
            have HFR := Aside0.mk (show ∀ q, wr.heap.size ≤ q → some q ≠ (Value.slice (some ⟨gN, 0, none⟩) (N1).length c3).ownBlock ∧ some q ≠ (Value.slice A11 ops'.length c11).ownBlock from fun q hq => ⟨fun e => by have := R_lt HW.out.f.hn q e.symm; omega, fun e => by have := R_lt hoA q e.symm; omega⟩)
            have HG0 := Aside0.mk (Kd.R_ne hoA HW.out.f.hb (by omega))
            have HBS := Aside0.mk (show b ≤ wr.heap.size from Nat.le_trans HW.out.f.hg (Nat.le_of_lt (blk_lt HW.out.f.hb)))
            have HVO2 := Aside0.mk hvo
            clear hput hstep hF2 hN2 hvo HF HN2 hoA hpi
            by_cases hend : p < l.length
            · have e2 : (((k : Int) + (p : Int)) / 64 == ((k : Int) + (i : Int)) / 64) = false := by rw [beq_eq_false_iff_ne]; omega
              clear hpE
              go_wp2_with fail
              go_region_law (first
                | (go_simp; go_at_call 24; refine (rat_any (some ⟨gN, 0, none⟩) (N1).length c3 now2 (((k : Int) + (i : Int)) / 64) _ (Kd.C_drew (C_own HW.out.f.hn)) (by omega)).mono ?_; rintro e w5 ⟨g5, c5, rfl, hc5, hg5, hv, hb⟩; replace s0 := pw_cell_below hb s0; replace s2 := pw_cell_below hb s2; have hw5 := (HW.out.below (below_drew1 (Below.refl _ _))).below hb; have z5 := blk_frozen hw5.f.hb 2; have s2a := cell_al (.cells #[.bool false, .int .i64 (((k : Int) + (i : Int)) / 64), .slice (some ⟨g5, 0, none⟩) 64 c5] 178) s2; have hd := freshU hv HBS.out (x := fun q => some q ≠ (Value.slice (some ⟨gN, 0, none⟩) (N1).length c3).ownBlock ∧ some q ≠ (Value.slice A11 ops'.length c11).ownBlock) (fun q hq => HFR.out q hq); have ho5 := Kd.R_below (Kd.R_drew HOA.out) hb; have hz5 := hb.size; have HD := Aside0.mk hd; have HO5 := Aside0.mk ho5; have HZ5 := Aside0.mk hz5; clear HW; have HW := Aside0.mk hw5; clear hv hb hw5 hd ho5 hz5)
                | ((refine Kd.R_append_step kOp (W := w5) (w0 := w5) b (by rfl) (.tmp 101) (.tmp 110) 44 178 (.agg #[(.bool false), (.int .i64 0), (.slice none 0 0)]) 40 rfl Try.underlying44 infoRop rfl (by decide) (by omega) (.slice A11 ops'.length c11) ops' ⟨false, ((k : Int) + (i : Int)) / 64, atL now2 (((k : Int) + (i : Int)) / 64)⟩ [.bool false, .int .i64 (((k : Int) + (i : Int)) / 64), .slice (some ⟨g5, 0, none⟩) 64 c5] (fun q => some q ≠ (Value.slice (some ⟨gN, 0, none⟩) (N1).length c3).ownBlock) (fun q => some q ≠ (Value.slice (some ⟨gN, 0, none⟩) (N1).length c3).ownBlock ∧ some q ≠ (Value.slice A11 ops'.length c11).ownBlock) (by rfl) (by rfl) (kOp_mkM _ _ _ ⟨false, ((k : Int) + (i : Int)) / 64, atL now2 (((k : Int) + (i : Int)) / 64)⟩ HD.out) (fun q hq => hq) (fun q hq => (HFR.out q (Nat.le_trans HZ5.out hq)).1) HO5.out (Below.refl _ _) (Nat.le_trans HBS.out HZ5.out) (by omega) ?_); intro v7 w7 ho7 hl7 hg7 hat7; obtain ⟨g7, c7', e7, _, _, _⟩ := Kd.R_form ho7 (by simp); rw [List.length_append, List.length_singleton] at e7; subst e7; have hb7 := blk_grown HW.out.f.hb hg7 HG0.out; have s7 := (blk_cell hb7 2).trans (rfl : _ = some vo'); rw [HVO2.out] at s7; have z7 := blk_frozen hb7 2; have HO7 := Aside0.mk ho7; have HL7 := Aside0.mk hl7; have HG7 := Aside0.mk hg7; have HAT7 := Aside0.mk hat7; clear ho7 hl7 hg7 hat7 hb7))
              all_goals
                go_wp2_with fail
                go_roundg (l.length - p)
                case measure => have := hq.out; omega
                case rel =>
                  have hg7 := HG7.out
                  have hat7 := HAT7.out
                  rw [← HVO2.out] at hg7 hat7
                  have hfin := HW.out.addOp HO7.out hg7 HL7.out hat7
                  exact ⟨p, _, _, _, rfl, hp2, ⟨rfl⟩, by rw [List.length_append, List.length_singleton]; omega, HF2, HNN, ⟨hfin⟩⟩
            · clear hpE
              go_wp2_with fail
              go_region_law (first
                | (go_simp; go_at_call 24; refine (rat_any (some ⟨gN, 0, none⟩) (N1).length c3 now2 (((k : Int) + (i : Int)) / 64) _ (Kd.C_drew (C_own HW.out.f.hn)) (by omega)).mono ?_; rintro e w5 ⟨g5, c5, rfl, hc5, hg5, hv, hb⟩; replace s0 := pw_cell_below hb s0; replace s2 := pw_cell_below hb s2; have hw5 := (HW.out.below (below_drew1 (Below.refl _ _))).below hb; have z5 := blk_frozen hw5.f.hb 2; have s2a := cell_al (.cells #[.bool false, .int .i64 (((k : Int) + (i : Int)) / 64), .slice (some ⟨g5, 0, none⟩) 64 c5] 178) s2; have hd := freshU hv HBS.out (x := fun q => some q ≠ (Value.slice (some ⟨gN, 0, none⟩) (N1).length c3).ownBlock ∧ some q ≠ (Value.slice A11 ops'.length c11).ownBlock) (fun q hq => HFR.out q hq); have ho5 := Kd.R_below (Kd.R_drew HOA.out) hb; have hz5 := hb.size; have HD := Aside0.mk hd; have HO5 := Aside0.mk ho5; have HZ5 := Aside0.mk hz5; clear HW; have HW := Aside0.mk hw5; clear hv hb hw5 hd ho5 hz5)
                | ((refine Kd.R_append_step kOp (W := w5) (w0 := w5) b (by rfl) (.tmp 101) (.tmp 110) 44 178 (.agg #[(.bool false), (.int .i64 0), (.slice none 0 0)]) 40 rfl Try.underlying44 infoRop rfl (by decide) (by omega) (.slice A11 ops'.length c11) ops' ⟨false, ((k : Int) + (i : Int)) / 64, atL now2 (((k : Int) + (i : Int)) / 64)⟩ [.bool false, .int .i64 (((k : Int) + (i : Int)) / 64), .slice (some ⟨g5, 0, none⟩) 64 c5] (fun q => some q ≠ (Value.slice (some ⟨gN, 0, none⟩) (N1).length c3).ownBlock) (fun q => some q ≠ (Value.slice (some ⟨gN, 0, none⟩) (N1).length c3).ownBlock ∧ some q ≠ (Value.slice A11 ops'.length c11).ownBlock) (by rfl) (by rfl) (kOp_mkM _ _ _ ⟨false, ((k : Int) + (i : Int)) / 64, atL now2 (((k : Int) + (i : Int)) / 64)⟩ HD.out) (fun q hq => hq) (fun q hq => (HFR.out q (Nat.le_trans HZ5.out hq)).1) HO5.out (Below.refl _ _) (Nat.le_trans HBS.out HZ5.out) (by omega) ?_); intro v7 w7 ho7 hl7 hg7 hat7; obtain ⟨g7, c7', e7, _, _, _⟩ := Kd.R_form ho7 (by simp); rw [List.length_append, List.length_singleton] at e7; subst e7; have hb7 := blk_grown HW.out.f.hb hg7 HG0.out; have s7 := (blk_cell hb7 2).trans (rfl : _ = some vo'); rw [HVO2.out] at s7; have z7 := blk_frozen hb7 2; have HO7 := Aside0.mk ho7; have HL7 := Aside0.mk hl7; have HG7 := Aside0.mk hg7; have HAT7 := Aside0.mk hat7; clear ho7 hl7 hg7 hat7 hb7))
              all_goals
                go_wp2_with fail
                go_roundg (l.length - p)
                case measure => have := hq.out; omega
                case rel =>
                  have hg7 := HG7.out
                  have hat7 := HAT7.out
                  rw [← HVO2.out] at hg7 hat7
                  have hfin := HW.out.addOp HO7.out hg7 HL7.out hat7
                  exact ⟨p, _, _, _, rfl, hp2, ⟨rfl⟩, by rw [List.length_append, List.length_singleton]; omega, HF2, HNN, ⟨hfin⟩⟩
      · obtain rfl : i = l.length := by omega
        go_wp2_with fail
        go_ret
        have e : writeF (now, ops) k l = (now', ops') := by
          unfold writeF
          rw [HGW.out, ← HF.out, List.drop_length, pieces_nil]
          rfl
        rw [e]
        refine ⟨rfl, _, _, HW.out.f, ?_, HW.out.k, HW.out.l⟩
        rcases HW.out.v with h | h
        · exact .inl h
        · exact .inr (.inr ⟨_, rfl, h⟩)
  · have hgw : growF (now, ops) k l.length = (now, ops) := by unfold growF; rw [if_neg hgrow]
    have HGW := Aside0.mk hgw
    clear hgw
    by_cases h0 : 0 < l.length
    · have hroom : k + l.length ≤ now.length := by
        have hng : now.length < k + l.length → False := fun h => hgrow ⟨h0, h⟩
        omega
      have hn1 := hnow
      have hn2 : ops.length ≤ 500001 := by omega
      have h2 := H.out
      obtain ⟨gN, cN, hE, hgNb, _, _⟩ := Kd.R_form h2.hn (by omega)
      have hvE : vn = .slice (some ⟨gN, 0, none⟩) now.length cN := hE
      rw [hvE] at h2 ⊢
      rw [hvE] at HST
      have HW := Aside0.mk (RW.mk (v0 := .slice (some ⟨gN, 0, none⟩) now.length cN) (u0 := vo) h2 (Keep3.refl _ _ _ _) (.inl rfl) (.inl rfl) (Below.refl _ _))
      have hc2 := (blk_cell h2.hb 0).trans (rfl : _ = some (Value.slice (some ⟨gN, 0, none⟩) now.length cN))
      clear hgrow h2 HC hc0 hE hvE H HVN
      go_enter Try.func87, Try.ntmps87
      go_wp2_with fail
      go_loopg [7, 8] l.length (fun q v7 v8 wr => ∃ (i : Nat) (vo' : Value) (now' : List Int) (ops' : List FOp), v7 = .int .i64 (i : Int) ∧ i ≤ l.length ∧ Aside0 (q = l.length - i) ∧ ops'.length ≤ 500001 + i ∧ Aside0 ((pieces (k + i) (l.drop i)).foldl putF (now', ops') = (pieces k l).foldl putF (now, ops)) ∧ Aside0 (now' = overlay now k (l.take i)) ∧ Aside0 (RW w b g (.slice (some ⟨gN, 0, none⟩) now.length cN) vo gN (now).length cN wr vs vo' now' safe ops'))
      case atStart => exact ⟨0, _, _, _, rfl, Nat.zero_le _, ⟨rfl⟩, hn2, ⟨rfl⟩, ⟨by rw [List.take_zero, overlay_nil]⟩, HW⟩
      case round =>
        clear HW hn2
        obtain ⟨i, vo', now', ops', rfl, hi, hq, hlo, HF, HN, HW⟩ := hrel
        by_cases hlt : i < l.length
        · obtain ⟨m, hm⟩ : ∃ m, m = min (64 - (k + i) % 64) (l.length - i) := ⟨_, rfl⟩
          have hm1 : 0 < m := by omega
          have hm2 : i + m ≤ l.length := by omega
          have hm3 : (k + i) % 64 + m ≤ 64 := by omega
          have hm4 : m = 64 - (k + i) % 64 ∨ m = l.length - i := by omega
          have HM := Aside0.mk hm
          clear hm
          go_wp2_with fail
          obtain ⟨wo, rfl⟩ : ∃ wo : World, wo = wr := ⟨_, rfl⟩
          have hlN1 : now'.length = (now).length := by rw [HN.out, overlay_length (by omega)]
          go_loopg [7] m (fun q2 v7 wr2 => ∃ (p : Nat) (now2 : List Int), v7 = .int .i64 (p : Int) ∧ i ≤ p ∧ p ≤ i + m ∧ Aside0 (q2 = i + m - p) ∧ Aside0 (now2 = overlay now' (k + i) ((l.drop i).take (p - i))) ∧ Aside0 (RW w b g (.slice (some ⟨gN, 0, none⟩) now.length cN) vo gN (now).length cN wr2 vs vo' now2 safe ops'))
          case atStart => exact ⟨i, now', rfl, Nat.le_refl _, Nat.le_add_right _ _, ⟨by omega⟩, ⟨by rw [Nat.sub_self, List.take_zero, overlay_nil]⟩, HW⟩
          case round =>
            clear HW
            obtain ⟨p, now2, rfl, hip, hpm, hq2, HN2, HW⟩ := hrel
            have hl2 : now2.length = (now).length := by rw [HN2.out, overlay_length (by omega), hlN1]
            have s0 := (blk_cell HW.out.f.hb 0).trans (rfl : _ = some (Value.slice (some ⟨gN, 0, none⟩) (now).length cN))
            by_cases hpm2 : p < i + m
            · have hpl : p < l.length := by omega
              have hpk : k + p < (now).length := by omega
              have e1 : (((k : Int) + (p : Int)) / 64 == ((k : Int) + (i : Int)) / 64) = true := by rw [beq_iff_eq]; omega
              obtain ⟨ad, rfl, hx⟩ := at_nat (HST.out _ HW.out.k HW.out.l) p hpl
              obtain ⟨hc1', hc2'⟩ := R_cellN HW.out.f.hn (k + p) hpk
              have hset := HW.out.store (k + p) (rd l (p : Int))
              have hov := overlay_step (x := now') (y := l.drop i) (k := k + i) (i := p - i) (by omega) (by rw [List.length_drop]; omega)
              rw [show k + i + (p - i) = k + p by omega, show rd (l.drop i) ((p - i : Nat) : Int) = rd l (p : Int) by (unfold rd; rw [Int.toNat_natCast, Int.toNat_natCast, List.getD_eq_getElem?_getD, List.getD_eq_getElem?_getD, List.getElem?_drop, show i + (p - i) = p by omega]), ← HN2.out, show p - i + 1 = p + 1 - i by omega] at hov
              rw [← hov] at hset
              obtain ⟨x, hx2⟩ : ∃ x, x = rd l (p : Int) := ⟨_, rfl⟩
              rw [← hx2] at hset hx
              have HSET := Aside0.mk hset
              clear hset hx2 hov HW
              go_wp2_with fail
              go_region
              all_goals
                go_wp2_with fail
                go_roundg (i + m - (p + 1))
                case measure => have := hq2.out; omega
                case rel => exact ⟨p + 1, _, by go_num, by omega, by omega, ⟨rfl⟩, ⟨rfl⟩, ⟨HSET.out.below (below_drew1 (Below.refl _ _))⟩⟩
            · have hpE : p = i + m := by omega
              have hpi : p - i = m := by omega
              have hp1 : i < p := by omega
              have hp2 : p ≤ l.length := by omega
              rw [hpi] at HN2
              have hdl : ((l.drop i).take m).length = m := by rw [List.length_take, List.length_drop]; omega
              have hput := putF_at now' ops' (k + i) ((l.drop i).take m) (by rw [hdl]; omega) (by rw [hdl]; omega) (by omega)
              rw [← HN2.out, Int.natCast_add] at hput
              have hstep := pieces_step (k + i) (l.drop i) m (by rw [List.length_drop]; exact HM.out) (by rw [List.length_drop]; omega)
              rw [Int.natCast_add] at hstep
              have hF2 : (pieces (k + p) (l.drop p)).foldl putF (now2, ops' ++ [⟨false, ((k : Int) + (i : Int)) / 64, atL now2 (((k : Int) + (i : Int)) / 64)⟩]) = (pieces k l).foldl putF (now, ops) := by
                rw [← HF.out, hstep, List.foldl_cons, hput, List.drop_drop, Nat.add_assoc, hpE]
              have hN2 : now2 = overlay now k (l.take p) := by
                rw [HN2.out, HN.out, hpE]
                have := overlay_two now (l.take (i + m)) k i (by rw [List.length_take]; omega) (by rw [List.length_take]; omega)
                rw [List.take_take, Nat.min_eq_left (by omega), List.drop_take, Nat.add_sub_cancel_left] at this
                exact this
              have HF2 := Aside0.mk hF2
              have HNN := Aside0.mk hN2
              obtain ⟨A11, c11, hvo⟩ := Kd.R_slice HW.out.f.ho
              have s2 := (blk_cell HW.out.f.hb 2).trans (rfl : _ = some vo')
              rw [hvo] at s2
              have z2 := blk_frozen HW.out.f.hb 2
              have hoA : Kd.R kOp 178 wr b (fun q => some q ≠ (Value.slice (some ⟨gN, 0, none⟩) (now).length cN).ownBlock) (.slice A11 ops'.length c11) ops' := hvo ▸ HW.out.f.ho
              have HOA := Aside0.mk hoA
              have HFR := Aside0.mk (show ∀ q, wr.heap.size ≤ q → some q ≠ (Value.slice (some ⟨gN, 0, none⟩) (now).length cN).ownBlock ∧ some q ≠ (Value.slice A11 ops'.length c11).ownBlock from fun q hq => ⟨fun e => by have := R_lt HW.out.f.hn q e.symm; omega, fun e => by have := R_lt hoA q e.symm; omega⟩)
              have HG0 := Aside0.mk (Kd.R_ne hoA HW.out.f.hb (by omega))
              have HBS := Aside0.mk (show b ≤ wr.heap.size from Nat.le_trans HW.out.f.hg (Nat.le_of_lt (blk_lt HW.out.f.hb)))
              have HVO2 := Aside0.mk hvo
              clear hput hstep hF2 hN2 hvo HF HN2 hoA hpi
              by_cases hend : p < l.length
              · have e2 : (((k : Int) + (p : Int)) / 64 == ((k : Int) + (i : Int)) / 64) = false := by rw [beq_eq_false_iff_ne]; omega
                clear hpE
                go_wp2_with fail
                go_region_law (first
                  | (go_simp; go_at_call 24; refine (rat_any (some ⟨gN, 0, none⟩) (now).length cN now2 (((k : Int) + (i : Int)) / 64) _ (Kd.C_drew (C_own HW.out.f.hn)) (by omega)).mono ?_; rintro e w5 ⟨g5, c5, rfl, hc5, hg5, hv, hb⟩; replace s0 := pw_cell_below hb s0; replace s2 := pw_cell_below hb s2; have hw5 := (HW.out.below (below_drew1 (Below.refl _ _))).below hb; have z5 := blk_frozen hw5.f.hb 2; have s2a := cell_al (.cells #[.bool false, .int .i64 (((k : Int) + (i : Int)) / 64), .slice (some ⟨g5, 0, none⟩) 64 c5] 178) s2; have hd := freshU hv HBS.out (x := fun q => some q ≠ (Value.slice (some ⟨gN, 0, none⟩) (now).length cN).ownBlock ∧ some q ≠ (Value.slice A11 ops'.length c11).ownBlock) (fun q hq => HFR.out q hq); have ho5 := Kd.R_below (Kd.R_drew HOA.out) hb; have hz5 := hb.size; have HD := Aside0.mk hd; have HO5 := Aside0.mk ho5; have HZ5 := Aside0.mk hz5; clear HW; have HW := Aside0.mk hw5; clear hv hb hw5 hd ho5 hz5)
                  | ((refine Kd.R_append_step kOp (W := w5) (w0 := w5) b (by rfl) (.tmp 101) (.tmp 110) 44 178 (.agg #[(.bool false), (.int .i64 0), (.slice none 0 0)]) 40 rfl Try.underlying44 infoRop rfl (by decide) (by omega) (.slice A11 ops'.length c11) ops' ⟨false, ((k : Int) + (i : Int)) / 64, atL now2 (((k : Int) + (i : Int)) / 64)⟩ [.bool false, .int .i64 (((k : Int) + (i : Int)) / 64), .slice (some ⟨g5, 0, none⟩) 64 c5] (fun q => some q ≠ (Value.slice (some ⟨gN, 0, none⟩) (now).length cN).ownBlock) (fun q => some q ≠ (Value.slice (some ⟨gN, 0, none⟩) (now).length cN).ownBlock ∧ some q ≠ (Value.slice A11 ops'.length c11).ownBlock) (by rfl) (by rfl) (kOp_mkM _ _ _ ⟨false, ((k : Int) + (i : Int)) / 64, atL now2 (((k : Int) + (i : Int)) / 64)⟩ HD.out) (fun q hq => hq) (fun q hq => (HFR.out q (Nat.le_trans HZ5.out hq)).1) HO5.out (Below.refl _ _) (Nat.le_trans HBS.out HZ5.out) (by omega) ?_); intro v7 w7 ho7 hl7 hg7 hat7; obtain ⟨g7, c7', e7, _, _, _⟩ := Kd.R_form ho7 (by simp); rw [List.length_append, List.length_singleton] at e7; subst e7; have hb7 := blk_grown HW.out.f.hb hg7 HG0.out; have s7 := (blk_cell hb7 2).trans (rfl : _ = some vo'); rw [HVO2.out] at s7; have z7 := blk_frozen hb7 2; have HO7 := Aside0.mk ho7; have HL7 := Aside0.mk hl7; have HG7 := Aside0.mk hg7; have HAT7 := Aside0.mk hat7; clear ho7 hl7 hg7 hat7 hb7))
                all_goals
                  go_wp2_with fail
                  go_roundg (l.length - p)
                  case measure => have := hq.out; omega
                  case rel =>
                    have hg7 := HG7.out
                    have hat7 := HAT7.out
                    rw [← HVO2.out] at hg7 hat7
                    have hfin := HW.out.addOp HO7.out hg7 HL7.out hat7
                    exact ⟨p, _, _, _, rfl, hp2, ⟨rfl⟩, by rw [List.length_append, List.length_singleton]; omega, HF2, HNN, ⟨hfin⟩⟩
              · clear hpE
                go_wp2_with fail
                go_region_law (first
                  | (go_simp; go_at_call 24; refine (rat_any (some ⟨gN, 0, none⟩) (now).length cN now2 (((k : Int) + (i : Int)) / 64) _ (Kd.C_drew (C_own HW.out.f.hn)) (by omega)).mono ?_; rintro e w5 ⟨g5, c5, rfl, hc5, hg5, hv, hb⟩; replace s0 := pw_cell_below hb s0; replace s2 := pw_cell_below hb s2; have hw5 := (HW.out.below (below_drew1 (Below.refl _ _))).below hb; have z5 := blk_frozen hw5.f.hb 2; have s2a := cell_al (.cells #[.bool false, .int .i64 (((k : Int) + (i : Int)) / 64), .slice (some ⟨g5, 0, none⟩) 64 c5] 178) s2; have hd := freshU hv HBS.out (x := fun q => some q ≠ (Value.slice (some ⟨gN, 0, none⟩) (now).length cN).ownBlock ∧ some q ≠ (Value.slice A11 ops'.length c11).ownBlock) (fun q hq => HFR.out q hq); have ho5 := Kd.R_below (Kd.R_drew HOA.out) hb; have hz5 := hb.size; have HD := Aside0.mk hd; have HO5 := Aside0.mk ho5; have HZ5 := Aside0.mk hz5; clear HW; have HW := Aside0.mk hw5; clear hv hb hw5 hd ho5 hz5)
                  | ((refine Kd.R_append_step kOp (W := w5) (w0 := w5) b (by rfl) (.tmp 101) (.tmp 110) 44 178 (.agg #[(.bool false), (.int .i64 0), (.slice none 0 0)]) 40 rfl Try.underlying44 infoRop rfl (by decide) (by omega) (.slice A11 ops'.length c11) ops' ⟨false, ((k : Int) + (i : Int)) / 64, atL now2 (((k : Int) + (i : Int)) / 64)⟩ [.bool false, .int .i64 (((k : Int) + (i : Int)) / 64), .slice (some ⟨g5, 0, none⟩) 64 c5] (fun q => some q ≠ (Value.slice (some ⟨gN, 0, none⟩) (now).length cN).ownBlock) (fun q => some q ≠ (Value.slice (some ⟨gN, 0, none⟩) (now).length cN).ownBlock ∧ some q ≠ (Value.slice A11 ops'.length c11).ownBlock) (by rfl) (by rfl) (kOp_mkM _ _ _ ⟨false, ((k : Int) + (i : Int)) / 64, atL now2 (((k : Int) + (i : Int)) / 64)⟩ HD.out) (fun q hq => hq) (fun q hq => (HFR.out q (Nat.le_trans HZ5.out hq)).1) HO5.out (Below.refl _ _) (Nat.le_trans HBS.out HZ5.out) (by omega) ?_); intro v7 w7 ho7 hl7 hg7 hat7; obtain ⟨g7, c7', e7, _, _, _⟩ := Kd.R_form ho7 (by simp); rw [List.length_append, List.length_singleton] at e7; subst e7; have hb7 := blk_grown HW.out.f.hb hg7 HG0.out; have s7 := (blk_cell hb7 2).trans (rfl : _ = some vo'); rw [HVO2.out] at s7; have z7 := blk_frozen hb7 2; have HO7 := Aside0.mk ho7; have HL7 := Aside0.mk hl7; have HG7 := Aside0.mk hg7; have HAT7 := Aside0.mk hat7; clear ho7 hl7 hg7 hat7 hb7))
                all_goals
                  go_wp2_with fail
                  go_roundg (l.length - p)
                  case measure => have := hq.out; omega
                  case rel =>
                    have hg7 := HG7.out
                    have hat7 := HAT7.out
                    rw [← HVO2.out] at hg7 hat7
                    have hfin := HW.out.addOp HO7.out hg7 HL7.out hat7
                    exact ⟨p, _, _, _, rfl, hp2, ⟨rfl⟩, by rw [List.length_append, List.length_singleton]; omega, HF2, HNN, ⟨hfin⟩⟩
        · obtain rfl : i = l.length := by omega
          go_wp2_with fail
          go_ret
          have e : writeF (now, ops) k l = (now', ops') := by
            unfold writeF
            rw [HGW.out, ← HF.out, List.drop_length, pieces_nil]
            rfl
          rw [e]
          refine ⟨rfl, _, _, HW.out.f, ?_, HW.out.k, HW.out.l⟩
          rcases HW.out.v with h | h
          · exact .inl h
          · exact .inr (.inr ⟨_, rfl, h⟩)
    · obtain rfl := List.eq_nil_of_length_eq_zero (show l.length = 0 by omega)
      have HWN := Aside0.mk (show writeF (now, ops) k [] = (now, ops) by unfold writeF; rw [pieces_nil]; exact HGW.out)
      clear hgrow h0
      go_enter Try.func87, Try.ntmps87
      go_wp2_with fail
      refine wp_loop_rounds 1 ?_
      rw [rounds_succ]
      go_wp2_with fail
      go_ret
      rw [HWN.out]
      exact ⟨rfl, _, _, H.out, .inl rfl, Keep3.refl _ _ _ _, Below.refl _ _⟩
end Go.Proofs.Ytpnbjpkdbiiogaa
/- Files: Copy. -/
namespace Go.Proofs.Ytpnbjpkdbiiogaa
set_option linter.unusedVariables false
open Go.RowKit Go.Proofs.YtpnbjpkdbiiogaaW.PrintWords
attribute [local go_sem] mx2 mn2 mxTwo mnTwo

theorem copy_ops (b : Nat) (x : Nat → Prop) (A : Option Addr) (n c : Nat) (l : List FOp) (w : World) (hr : Kd.R kOp 141 w b x (.slice A n c) l) (hx : ∀ k, w.heap.size ≤ k → x k) (hbw : b ≤ w.heap.size) (hb : n ≤ 2000000) :
    Calls Try.prog 92 #[.slice A n c] w fun e w' => ∃ A' c', e = .returned (.slice A' n c') ∧ Kd.R kOp 141 w' b (fun k => x k ∧ some k ≠ (Value.slice A n c).ownBlock) (.slice A' n c') l ∧ Below w.heap.size w w' := by
  have q22 : ∀ (w : World) (a : Option Addr) (n c n' c' : Nat), (binOp .eql 135 (.slice a n c) (.slice none n' c')).run Try.prog w = .ok (.bool a.isNone) w := fun w a n c n' c' => Lib.run_eql_slice_nil w _ _ a n c n' c' Try.underlying135
  obtain ⟨hl, _, hC⟩ := Kd.R_reads' hr
  subst hl
  rcases A with _ | ad
  · have hn : l = [] := by
      by_cases h0 : 0 < l.length
      · obtain ⟨ad, e, _⟩ := hC.2.2 h0
        cases e
      · exact List.eq_nil_of_length_eq_zero (by omega)
    subst hn
    clear hr hC
    go_enter Try.func92, Try.ntmps92
    go_wp2
    go_ret
    first | exact ⟨_, _, rfl, Kd.R_nil _ _ _ _ _, Below.refl _ _⟩ | exact ⟨none, ⟨0, rfl⟩, Kd.R_nil _ _ _ _ _, Below.refl _ _⟩
  · obtain ⟨A9, c9, e9, hc9, hM⟩ := hr.2.reads
    cases e9
    have hlt := (Kd.R_bound hr).1
    have HM := Aside0.mk hM
    have HX := Aside0.mk hx
    have HO := Aside0.mk (show ∀ k, w.heap.size ≤ k → some k ≠ (Value.slice (some ad) l.length c).ownBlock from fun k hk e => by have := (hlt k e.symm).2.2.1; omega)
    clear hr hM hC hx hlt
    go_enter Try.func92, Try.ntmps92
    go_wp2_with (at_builtin; refine Kd.R_append_rows kOp (Rr := kOp.M (w.alloc (.cells #[] 141)) b (fun k => (x k ∧ some k ≠ (Value.slice (some ad) l.length c).ownBlock) ∧ k < w.heap.size)) (w0 := w) b rfl (.tmp 5) (.tmp 6) 135 141 (.agg #[(.bool false), (.int .i64 0), (.slice none 0 0)]) 40 rfl Try.underlying135 infoOp rfl (by decide) (by omega) (.slice (some ⟨w.heap.size, 0, none⟩) 0 0) [] l (some ad) l.length c (fun k => x k ∧ some k ≠ (Value.slice (some ad) l.length c).ownBlock) (fun k => (x k ∧ some k ≠ (Value.slice (some ad) l.length c).ownBlock) ∧ k < w.heap.size) rfl rfl (R_empty _ _ _ _ _ ⟨HX.out _ (Nat.le_refl _), HO.out _ (Nat.le_refl _)⟩) (ReadsRow.imp_ HM.out (below_alloc (Below.refl _ _) _) (fun y cs hy => kOp.M_mono (fun k hk => ⟨hk.1, hk.2.2.1⟩) (kOp.M_bound hy |> fun h => Kd.M_below h (below_alloc (Below.refl _ _) _)))) (fun _ _ h => h) (fun k hk => ⟨hk.1, fun e => by simp [Value.ownBlock] at e; omega⟩) (fun k hk => ⟨HX.out k (by simp at hk; omega), HO.out k (by simp at hk; omega)⟩) ?c6 ?c7 ?c8 ?_)
    case c6 => exact (below_alloc (Below.refl _ _) _).mono hbw
    case c7 => simp; omega
    case c8 => simp; omega
    intro v1 w1 ho hb1 hg1 _
    obtain ⟨A2, c2, rfl, hc2, _⟩ := Kd.R_reads ho
    have hb2 : Below w.heap.size w w1 := ⟨hb1.os, hb1.tape, hb1.output, hb1.size, fun i hi => (hg1.block i (Nat.lt_of_lt_of_le hi (below_alloc (Below.refl w.heap.size w) _).size) (fun e => by simp [Value.ownBlock] at e; omega)).trans ((below_alloc (Below.refl w.heap.size w) _).block i hi)⟩
    have HF := Aside0.mk ho
    have HB := Aside0.mk hb2
    clear ho hb1 hg1 hb2 HM HX HO
    go_wp2
    go_ret
    first | exact ⟨_, _, rfl, HF.out, HB.out⟩ | exact ⟨_, ⟨_, rfl⟩, HF.out, HB.out⟩
set_option maxHeartbeats 1000000 in
set_option maxRecDepth 100000 in
theorem fcopy_any (b g : Nat) (x : Nat → Prop) (vn vs vo : Value) (now safe : List Int) (ops : List FOp) (w : World) (h : FI w b g x vn vs vo now safe ops) (hx : ∀ k, w.heap.size ≤ k → x k) (hl1 : now.length ≤ 1048576) (hl2 : safe.length ≤ 1048576) (hl3 : ops.length ≤ 2000000) :
    Calls Try.prog 39 #[.pointer (some ⟨g, 0, none⟩)] w fun e w' => ∃ g2 va vb vc, e = .returned (.pointer (some ⟨g2, 0, none⟩)) ∧ w.heap.size ≤ g2 ∧ FI w' b g2 (fun k => x k ∧ some k ≠ vo.ownBlock) va vb vc now safe ops ∧ Below w.heap.size w w' := by
  obtain ⟨A1, c1, hv1, _, hC1⟩ := Kd.R_reads h.hn
  obtain ⟨A2, c2, hv2, _, hC2⟩ := Kd.R_reads h.hs
  obtain ⟨A3, c3, hv3⟩ := Kd.R_slice h.ho
  subst hv1
  subst hv2
  subst hv3
  have s0 := (blk_cell h.hb 0).trans (rfl : _ = some (Value.slice A1 now.length c1))
  have s1 := (blk_cell h.hb 1).trans (rfl : _ = some (Value.slice A2 safe.length c2))
  have s2 := (blk_cell h.hb 2).trans (rfl : _ = some (Value.slice A3 ops.length c3))
  have hbw : b ≤ w.heap.size := Nat.le_trans h.hg (Nat.le_of_lt (blk_lt h.hb))
  have HX := Aside0.mk (show ∀ k, w.heap.size ≤ k → x k ∧ some k ≠ (Value.slice A3 ops.length c3).ownBlock from fun k hk => ⟨hx k hk, fun e => by have := ((Kd.R_bound h.ho).1 k e.symm).2.2.1; omega⟩)
  have HO := Aside0.mk h.ho
  have HC1 := Aside0.mk hC1
  have HC2 := Aside0.mk hC2
  have HB := Aside0.mk (Below.refl w.heap.size w)
  have T1 := Aside0.mk trivial
  clear h hx hC1 hC2
  go_enter Try.func39, Try.ntmps39
  go_wp2_with fail
  go_region_held3 (fun w' => w'.cell? ⟨g, 0, none⟩ = some (.slice A1 now.length c1) ∧ w'.cell? ⟨g, 1, none⟩ = some (.slice A2 safe.length c2) ∧ w'.cell? ⟨g, 2, none⟩ = some (.slice A3 ops.length c3)) (first | with_reducible exact ⟨s0, s1, s2⟩ | with_reducible exact ⟨cell_al _ s0, cell_al _ s1, cell_al _ s2⟩ | exact ⟨s0, s1, s2⟩) (first
    | (go_at_call 86; have gate := T1.out; refine (clone_bytes A1 now.length c1 now _ (Kd.C_drew HC1.out) (by omega)).mono ?_; rintro e w1 ⟨A4, c4, rfl, hc4, hv, hb⟩; replace s0 := pw_cell_below hb s0; replace s1 := pw_cell_below hb s1; replace s2 := pw_cell_below hb s2; have hc2n := Kd.C_below (Kd.C_drew HC2.out) hb; have hon := Kd.R_below (Kd.R_drew HO.out) hb; have hbn := below_step (below_drew1 HB.out) hb; have HV1 := Aside0.mk (freshU hv hbw (x := fun k => x k ∧ some k ≠ (Value.slice A3 ops.length c3).ownBlock) (fun k hk => HX.out k hk)); clear HC1 HC2 HO HB T1; have HC2 := Aside0.mk hc2n; have HO := Aside0.mk hon; have HB := Aside0.mk hbn; clear hv hb hc2n hon hbn gate)
    | (go_at_call 86; refine (clone_bytes A2 safe.length c2 safe _ HC2.out (by omega)).mono ?_; rintro e w2 ⟨A5, c5, rfl, hc5, hv, hb⟩; replace s0 := pw_cell_below hb s0; replace s1 := pw_cell_below hb s1; replace s2 := pw_cell_below hb s2; have hon := Kd.R_below HO.out hb; have h1n := Kd.R_below HV1.out hb; have HV2 := Aside0.mk (freshU hv (Nat.le_trans hbw (below_size HB.out)) (x := fun k => x k ∧ some k ≠ (Value.slice A3 ops.length c3).ownBlock) (fun k hk => HX.out k (Nat.le_trans (below_size HB.out) hk))); have hbn := below_step HB.out hb; clear HC2 HO HB HV1; have HO := Aside0.mk hon; have HB := Aside0.mk hbn; have HV1 := Aside0.mk h1n; clear hv hb hon hbn h1n)
    | (go_at_call 92; refine (copy_ops b x A3 ops.length c3 ops _ HO.out (fun k hk => (HX.out k (Nat.le_trans (below_size HB.out) hk)).1) (Nat.le_trans hbw (below_size HB.out)) (by omega)).mono ?_; rintro e w3 ⟨A6, c6, rfl, hv, hb⟩; replace s0 := pw_cell_below hb s0; replace s1 := pw_cell_below hb s1; replace s2 := pw_cell_below hb s2; have h1n := Kd.R_below HV1.out hb; have h2n := Kd.R_below HV2.out hb; have HV3 := Aside0.mk hv; have hbn := below_step HB.out hb; clear HB HV1 HV2; have HB := Aside0.mk hbn; have HV1 := Aside0.mk h1n; have HV2 := Aside0.mk h2n; clear hv hb hbn h1n h2n))
  all_goals
    go_wp2_with fail
    go_ret
    exact ⟨_, _, _, _, rfl, below_size HB.out, ⟨blk_new _ _, Kd.R_alloc HV1.out _, Kd.R_alloc HV2.out _, Kd.R_alloc HV3.out _, Nat.le_trans hbw (below_size HB.out)⟩, below_alloc HB.out _⟩
end Go.Proofs.Ytpnbjpkdbiiogaa
/- Files, the law's state: both files in memory; light. -/
namespace Go.Proofs.Ytpnbjpkdbiiogaa
set_option linter.unusedVariables false
open Go.RowKit Go.Proofs.YtpnbjpkdbiiogaaW.PrintWords
attribute [local go_sem] mx2 mn2 mxTwo mnTwo

/-- A call of a statement on files. -/
structure FAct where
  kd : Int
  at_ : Int
  b : List Int
  keep : List Bool
def zAct : FAct := ⟨0, 0, [], []⟩
def kAct : Kd FAct := Kd.iso (Kd.pair (Kd.int .i64) (Kd.pair (Kd.int .i64) (Kd.pair (Kd.slice 5 (Kd.int .u8)) (Kd.slice 4 Kd.bool)))) (fun x : FAct => (x.kd, x.at_, x.b, x.keep))
theorem at_Act {w : World} {A : Option Addr} {n : Nat} {xs : List FAct} (h : Kd.C kAct w A n xs) (i : Nat) (h1 : i < n) : ∃ ad A2 c2 A3 c3, A = some ad ∧ w.cell? (ad.add (i * 4)) = some (.int .i64 (xs.getD i zAct).kd) ∧ w.cell? ⟨(ad.add (i * 4)).block, (ad.add (i * 4)).off + 1, none⟩ = some (.int .i64 (xs.getD i zAct).at_) ∧ w.cell? ⟨(ad.add (i * 4)).block, (ad.add (i * 4)).off + 2, none⟩ = some (.slice A2 (xs.getD i zAct).b.length c2) ∧ w.cell? ⟨(ad.add (i * 4)).block, (ad.add (i * 4)).off + 3, none⟩ = some (.slice A3 (xs.getD i zAct).keep.length c3) ∧ (xs.getD i zAct).b.length ≤ c2 ∧ (Kd.int .u8).C w A2 (xs.getD i zAct).b.length (xs.getD i zAct).b ∧ (xs.getD i zAct).keep.length ≤ c3 ∧ Kd.bool.C w A3 (xs.getD i zAct).keep.length (xs.getD i zAct).keep := by
  obtain ⟨ad, c, e, _, hK, hc0⟩ := Kd.C_get h zAct (i : Int) (by omega) (by omega)
  simp only [Int.toNat_natCast] at hK hc0
  have hc : ∀ j u, c[j]? = some u → w.cell? (ad.add (i * 4 + j)) = some u := hc0
  obtain ⟨_, _, rfl, rfl, ⟨_, _, rfl, rfl, ⟨_, _, rfl, ⟨A2, c2, rfl, l2, g2⟩, ⟨A3, c3, rfl, l3, g3⟩⟩⟩⟩ := hK
  exact ⟨ad, A2, c2, A3, c3, e, hc 0 _ rfl, by rw [← add_field _ _ 1 (by omega)]; exact hc 1 _ rfl, by rw [← add_field _ _ 2 (by omega)]; exact hc 2 _ rfl, by rw [← add_field _ _ 3 (by omega)]; exact hc 3 _ rfl, l2, g2, l3, g3⟩
theorem light_yes (kd k : Int) (A2 A3 : Option Addr) (n2 c2 n3 c3 : Nat) (w : World) (h2 : n2 ≤ 400) (h3 : n3 ≤ 200) (hk : k ≤ 2000 ∨ ¬ k ≤ 2000 ∧ 1048576 < k) : Calls Try.prog 32 #[(.agg #[.int .i64 kd, .int .i64 k, .slice A2 n2 c2, .slice A3 n3 c3])] w fun e w' => e = .returned (.bool true) ∧ Below w.heap.size w w' := by
  have d2 : decide (n2 ≤ 400) = true := decide_eq_true h2
  have d3 : decide (n3 ≤ 200) = true := decide_eq_true h3
  rcases hk with hk | ⟨hk, hk2⟩
  · have d4 := decide_eq_true hk
    go_enter Try.func32, Try.ntmps32
    go_wp2
    go_ret
    exact ⟨rfl, below_alloc (Below.refl _ _) _⟩
  · have d4 := decide_eq_false hk
    have d5 := decide_eq_true hk2
    go_enter Try.func32, Try.ntmps32
    go_wp2
    go_ret
    exact ⟨rfl, below_alloc (Below.refl _ _) _⟩
theorem light_no (kd k : Int) (A2 A3 : Option Addr) (n2 c2 n3 c3 : Nat) (w : World) (h : ¬ (n2 ≤ 400 ∧ n3 ≤ 200 ∧ (k ≤ 2000 ∨ 1048576 < k))) : Calls Try.prog 32 #[(.agg #[.int .i64 kd, .int .i64 k, .slice A2 n2 c2, .slice A3 n3 c3])] w fun e w' => e = .returned (.bool false) ∧ Below w.heap.size w w' := by
  by_cases h2 : n2 ≤ 400
  · have d2 : decide (n2 ≤ 400) = true := decide_eq_true h2
    by_cases h3 : n3 ≤ 200
    · have d3 : decide (n3 ≤ 200) = true := decide_eq_true h3
      have hk : ¬ k ≤ 2000 := fun hk => h ⟨h2, h3, .inl hk⟩
      have hk2 : ¬ 1048576 < k := fun hk => h ⟨h2, h3, .inr hk⟩
      have d4 := decide_eq_false hk
      have d5 := decide_eq_false hk2
      clear h
      go_enter Try.func32, Try.ntmps32
      go_wp2
      go_ret
      exact ⟨rfl, below_alloc (Below.refl _ _) _⟩
    · have d3 : decide (n3 ≤ 200) = false := decide_eq_false h3
      clear h
      go_enter Try.func32, Try.ntmps32
      go_wp2
      go_ret
      exact ⟨rfl, below_alloc (Below.refl _ _) _⟩
  · have d2 : decide (n2 ≤ 400) = false := decide_eq_false h2
    clear h
    go_enter Try.func32, Try.ntmps32
    go_wp2
    go_ret
    exact ⟨rfl, below_alloc (Below.refl _ _) _⟩

/-- Both files. -/
structure FS (W : World) (b g r : Nat) (vn vs vo rn rs ro : Value) (now safe : List Int) (ops : List FOp) : Prop where
  f : FI W b g (fun k => some k ≠ rn.ownBlock) vn vs vo now safe ops
  r : RF W b r rn rs ro now safe ops
/-- The blocks that they write, but for those whose types are the reference's own. -/
def Own3 (g : Nat) (vo rn : Value) (i : Nat) : Prop := i = g ∨ some i = vo.ownBlock ∨ some i = rn.ownBlock
/-- A block whose type is not the reference's own. -/
def NotRef (w : World) (i : Nat) : Prop := ∀ c q, w.heap[i]? = some (.cells c q (0, 0)) → q ≠ 178 ∧ q ≠ 46
/-- From w to W no other block is turned; S: the blocks at the start, T: now. -/
structure Fr (w W : World) (S T : Nat → Prop) : Prop where
  sz : w.heap.size ≤ W.heap.size
  keep : ∀ i, i < w.heap.size → ¬ S i → NotRef w i → W.heap[i]? = w.heap[i]?
  own : ∀ i, T i → i < w.heap.size → S i
theorem Fr.refl (w : World) (S : Nat → Prop) : Fr w w S S := ⟨Nat.le_refl _, fun _ _ _ _ => rfl, fun _ h _ => h⟩
theorem Fr.trans {w W W1 : World} {S T U : Nat → Prop} (h : Fr w W S T) (k : Fr W W1 T U) : Fr w W1 S U :=
  ⟨Nat.le_trans h.sz k.sz, fun i hi hs hn => by
    have e := h.keep i hi hs hn
    exact (k.keep i (Nat.lt_of_lt_of_le hi h.sz) (fun ht => hs (h.own i ht hi)) (fun c q hc => hn c q (e ▸ hc))).trans e, fun i hu hi => h.own i (k.own i hu (Nat.lt_of_lt_of_le hi h.sz)) hi⟩
theorem Fr.below {w W : World} {S T : Nat → Prop} (h : Below w.heap.size w W) (ho : ∀ i, T i → i < w.heap.size → S i) : Fr w W S T := ⟨h.size, fun i hi _ _ => h.block i hi, ho⟩
theorem Fr.then_below {w W W1 : World} {S T : Nat → Prop} (h : Fr w W S T) (k : Below W.heap.size W W1) : Fr w W1 S T := h.trans (Fr.below k (fun _ ht _ => ht))
theorem FS.below {W W1 : World} {b g r : Nat} {vn vs vo rn rs ro : Value} {now safe : List Int} {ops : List FOp} (h : FS W b g r vn vs vo rn rs ro now safe ops) (hb : Below W.heap.size W W1) : FS W1 b g r vn vs vo rn rs ro now safe ops := ⟨h.f.below hb, h.r.below hb⟩
section
variable {W W1 : World} {b g r : Nat} {vn vs vo rn rs ro vn1 vs1 vo1 rn1 rs1 ro1 : Value} {now safe now1 safe1 : List Int} {ops ops1 : List FOp} {x : Nat → Prop}
/-- The code's file is turned: the reference's stays. -/
theorem RF.other (h : RF W b r rn rs ro now1 safe1 ops1) (hf : FI W b g x vn vs vo now safe ops) (hk : KeepBut W W1 g vo.ownBlock) : RF W1 b r rn rs ro now1 safe1 ops1 := by
  have hne := blk_ne h.hb hf.hb (by decide)
  have hvo : ∀ k, vo.ownBlock = some k → ∃ cells, W.heap[k]? = some (.cells cells 141 (0, 0)) := fun k hk => own_typed hf.ho.2.choose_spec.1 k hk
  have step : ∀ q (k : Nat), (∃ cells, W.heap[k]? = some (.cells cells q (0, 0))) → q ≠ 137 → q ≠ 141 → k < W.heap.size → W1.heap[k]? = W.heap[k]? := by
    intro q k ⟨cells, hc⟩ h1 h2 hlt
    refine hk.2 k hlt (blk_ne hc hf.hb h1) (fun e => ?_)
    obtain ⟨c2, hc2⟩ := hvo k e.symm
    exact (blk_ne hc hc2 h2) rfl
  refine ⟨(step 46 r ⟨_, h.hb⟩ (by decide) (by decide) (blk_lt h.hb)).trans h.hb, ?_, ?_, ?_, h.hg⟩
  · exact Kd.R_mono (Kd.R_step (Kd.R_bound h.hn) (fun k ho hlt => by
      obtain ⟨_, _, _, q, hq, hc⟩ := ho
      exact step q k hc (u8E _ (by omega) q hq) (u8E _ (by omega) q hq) hlt)) (fun k hk => hk.1)
  · exact Kd.R_mono (Kd.R_step (Kd.R_bound h.hs) (fun k ho hlt => by
      obtain ⟨_, _, _, q, hq, hc⟩ := ho
      exact step q k hc (u8E _ (by omega) q hq) (u8E _ (by omega) q hq) hlt)) (fun k hk => hk.1)
  · exact Kd.R_mono (Kd.R_step (Kd.R_bound h.ho) (fun k ho hlt => by
      obtain ⟨_, _, _, q, hq, hc⟩ := ho
      exact step q k hc (ropE _ (by omega) (by omega) q hq) (ropE _ (by omega) (by omega) q hq) hlt)) (fun k hk => hk.1)
/-- The reference's file is turned: the code's stays. -/
theorem FI.other (h : FI W b g (fun k => some k ≠ rn.ownBlock) vn vs vo now safe ops) (hr : RF W b r rn rs ro now1 safe1 ops1) (hk : Keep3 W W1 r rn.ownBlock ro.ownBlock) (hn : rn1.ownBlock = rn.ownBlock ∨ rn1.ownBlock = none ∨ ∃ k, rn1.ownBlock = some k ∧ W.heap.size ≤ k) : FI W1 b g (fun k => some k ≠ rn1.ownBlock) vn vs vo now safe ops := by
  have hro : ∀ k, ro.ownBlock = some k → ∃ cells, W.heap[k]? = some (.cells cells 178 (0, 0)) := fun k hk => own_typed hr.ho.2.choose_spec.1 k hk
  have hrn : ∀ k, rn.ownBlock = some k → ∃ cells, W.heap[k]? = some (.cells cells 5 (0, 0)) := fun k hk => own_typed hr.hn.2.choose_spec.1 k hk
  have step : ∀ q (k : Nat), (∃ cells, W.heap[k]? = some (.cells cells q (0, 0))) → q ≠ 46 → q ≠ 178 → some k ≠ rn.ownBlock → k < W.heap.size → W1.heap[k]? = W.heap[k]? := by
    intro q k ⟨cells, hc⟩ h1 h2 h3 hlt
    refine hk.2 k hlt (blk_ne hc hr.hb h1) h3 (fun e => ?_)
    obtain ⟨c2, hc2⟩ := hro k e.symm
    exact (blk_ne hc hc2 h2) rfl
  have hok : ∀ k, k < W.heap.size → some k ≠ rn.ownBlock → some k ≠ rn1.ownBlock := by
    intro k hlt hne e
    rcases hn with e1 | e1 | ⟨q, e1, hq⟩
    · exact hne (e.trans e1)
    · rw [e1] at e; cases e
    · rw [e1] at e; cases e; omega
  refine ⟨(step 137 g ⟨_, h.hb⟩ (by decide) (by decide) (fun e => ?_) (blk_lt h.hb)).trans h.hb, ?_, ?_, ?_, h.hg⟩
  · obtain ⟨c2, hc2⟩ := hrn g e.symm
    exact (blk_ne h.hb hc2 (by decide)) rfl
  · exact Kd.R_mono (Kd.R_step (Kd.R_bound h.hn) (fun k ho hlt => by
      obtain ⟨hx, _, _, q, hq, hc⟩ := ho
      exact step q k hc (u8E _ (by omega) q hq) (u8E _ (by omega) q hq) hx hlt)) (fun k hk => hok k hk.2.2.1 hk.1)
  · exact Kd.R_mono (Kd.R_step (Kd.R_bound h.hs) (fun k ho hlt => by
      obtain ⟨hx, _, _, q, hq, hc⟩ := ho
      exact step q k hc (u8E _ (by omega) q hq) (u8E _ (by omega) q hq) hx hlt)) (fun k hk => hok k hk.2.2.1 hk.1)
  · exact Kd.R_mono (Kd.R_step (Kd.R_bound h.ho) (fun k ho hlt => by
      obtain ⟨hx, _, _, q, hq, hc⟩ := ho
      exact step q k hc (opE _ (by omega) (by omega) q hq) (opE _ (by omega) (by omega) q hq) hx hlt)) (fun k hk => hok k hk.2.2.1 hk.1)
/-- Both are turned, one behind the other. -/
theorem FS.turned {W2 : World} (h : FS W b g r vn vs vo rn rs ro now safe ops) (hf : FI W1 b g (fun k => some k ≠ rn.ownBlock) vn1 vs1 vo1 now1 safe1 ops1) (hk : KeepBut W W1 g vo.ownBlock) (hv : vo1.ownBlock = vo.ownBlock ∨ vo1.ownBlock = none ∨ ∃ k, vo1.ownBlock = some k ∧ W.heap.size ≤ k)
    (hr : RF W2 b r rn1 rs1 ro1 now1 safe1 ops1) (hk2 : Keep3 W1 W2 r rn.ownBlock ro.ownBlock) (hn : rn1.ownBlock = rn.ownBlock ∨ rn1.ownBlock = none ∨ ∃ k, rn1.ownBlock = some k ∧ W1.heap.size ≤ k) :
    FS W2 b g r vn1 vs1 vo1 rn1 rs1 ro1 now1 safe1 ops1 ∧ Fr W W2 (Own3 g vo rn) (Own3 g vo1 rn1) := by
  have hr1 := h.r.other h.f hk
  have hro : ∀ k, ro.ownBlock = some k → ∃ cells, W.heap[k]? = some (.cells cells 178 (0, 0)) := fun k hk => own_typed h.r.ho.2.choose_spec.1 k hk
  refine ⟨⟨hf.other hr1 hk2 hn, hr⟩, Nat.le_trans hk.1 hk2.1, fun i hi hs hnr => ?_, fun i ht hi => ?_⟩
  · have h1 : W1.heap[i]? = W.heap[i]? := hk.2 i hi (fun e => hs (.inl e)) (fun e => hs (.inr (.inl e)))
    refine (hk2.2 i (Nat.lt_of_lt_of_le hi hk.1) (fun e => ?_) (fun e => hs (.inr (.inr e))) (fun e => ?_)).trans h1
    · subst e
      exact (hnr _ _ h.r.hb).2 rfl
    · obtain ⟨c, hc⟩ := hro i e.symm
      exact (hnr _ _ hc).1 rfl
  · rcases ht with e | e | e
    · exact .inl e
    · rcases hv with e1 | e1 | ⟨k, e1, hk1⟩
      · exact .inr (.inl (e.trans e1))
      · rw [e1] at e; cases e
      · rw [e1] at e; cases e; omega
    · rcases hn with e1 | e1 | ⟨k, e1, hk1⟩
      · exact .inr (.inr (e.trans e1))
      · rw [e1] at e; cases e
      · rw [e1] at e; cases e; have := hk.1; omega
end
/-- What a file is. -/
structure FSt where
  now : List Int
  safe : List Int
  ops : List FOp
/-- What a call makes of it. -/
def stepF (s : FSt) (a : FAct) : FSt :=
  if a.kd = 0 then (if 0 ≤ a.at_ ∧ a.at_ ≤ 1048576 ∧ (a.b.length : Int) ≤ 1048576 - a.at_ then ⟨(writeF (s.now, s.ops) a.at_.toNat a.b).1, s.safe, (writeF (s.now, s.ops) a.at_.toNat a.b).2⟩ else s)
  else if a.kd = 1 then (if 0 ≤ a.at_ ∧ a.at_ ≤ 1048576 then ⟨(sizeF (s.now, s.ops) a.at_).1, s.safe, (sizeF (s.now, s.ops) a.at_).2⟩ else s)
  else if a.kd = 2 then ⟨s.now, s.now, []⟩
  else ⟨crashF s.safe s.ops a.keep s.ops.length, crashF s.safe s.ops a.keep s.ops.length, []⟩
/-- Its bounds. -/
structure Bd (s : FSt) (k : Nat) : Prop where
  now : s.now.length ≤ 1048576
  safe : s.safe.length ≤ 1048576
  op : ∀ o ∈ s.ops, o.n ≤ 1048576 ∧ o.d.length ≤ 1048576
  ops : s.ops.length ≤ 500 * k
end Go.Proofs.Ytpnbjpkdbiiogaa
/- Files: a call, done to both. -/
namespace Go.Proofs.Ytpnbjpkdbiiogaa
set_option linter.unusedVariables false
open Go.RowKit Go.Proofs.YtpnbjpkdbiiogaaW.PrintWords
attribute [local go_sem] mx2 mn2 mxTwo mnTwo

set_option maxHeartbeats 1000000 in
set_option maxRecDepth 100000 in
theorem does_write_bad (b g r : Nat) (vn vs vo rn rs ro : Value) (now safe : List Int) (ops : List FOp) (A2 A3 : Option Addr) (n2 c2 n3 c3 : Nat) (w : World) (h : FS w b g r vn vs vo rn rs ro now safe ops) (k : Int) (hn : n2 ≤ 400) (hk : k < 0 ∨ 0 ≤ k ∧ 1048576 < k ∨ 0 ≤ k ∧ k ≤ 1048576 ∧ 1048576 - k < n2) :
    Calls Try.prog 33 #[.pointer (some ⟨g, 0, none⟩), .pointer (some ⟨r, 0, none⟩), (.agg #[.int .i64 0, .int .i64 k, .slice A2 n2 c2, .slice A3 n3 c3])] w (fun e w' => ∃ g' r' vn1 vs1 vo1 rn1 rs1 ro1, e = .returned (.tuple #[.pointer (some ⟨g', 0, none⟩), .pointer (some ⟨r', 0, none⟩), .bool true]) ∧ FS w' b g' r' vn1 vs1 vo1 rn1 rs1 ro1 (now) (safe) (ops) ∧ Fr w w' (Own3 g vo rn) (Own3 g' vo1 rn1) ∧ Below b w w') := by
  have H := Aside0.mk h
  have HK := Aside0.mk hk
  clear h hk
  go_enter Try.func33, Try.ntmps33
  go_wp2_with fail
  obtain ⟨W1, hW1⟩ : ∃ W1, W1 = w.alloc (.cells #[.int .i64 0, .int .i64 k, .slice A2 n2 c2, .slice A3 n3 c3] 50) := ⟨_, rfl⟩
  have hnb : W1.heap[w.heap.size]? = some (.cells #[.int .i64 0, .int .i64 k, .slice A2 n2 c2, .slice A3 n3 c3] 50 (0, 0)) := by rw [hW1]; exact blk_new _ _
  have hb1 : Below w.heap.size w W1 := by rw [hW1]; exact below_alloc (Below.refl _ _) _
  rw [← hW1]
  obtain ⟨p5, hp5⟩ : ∃ p5, p5 = w.heap.size := ⟨_, rfl⟩
  have hp5w : w.heap.size ≤ p5 := by omega
  rw [← hp5] at hnb ⊢
  have t1 := (blk_cell hnb 1).trans (rfl : _ = some (Value.int .i64 k))
  have t2 := (blk_cell hnb 2).trans (rfl : _ = some (Value.slice A2 n2 c2))
  have t3 := (blk_cell hnb 3).trans (rfl : _ = some (Value.slice A3 n3 c3))
  have HNB := Aside0.mk hnb
  have HS := Aside0.mk (FS.below (W1 := W1) H.out hb1)
  have HB1 := Aside0.mk hb1
  have hbw : b ≤ w.heap.size := Nat.le_trans H.out.f.hg (Nat.le_of_lt (blk_lt H.out.f.hb))
  have hgp : p5 ≠ g := by have := blk_lt H.out.f.hb; omega
  have hrp : p5 ≠ r := by have := blk_lt H.out.r.hb; omega
  have HVP := Aside0.mk (show some p5 ≠ vo.ownBlock from fun e => by have := R_lt H.out.f.ho p5 e.symm; omega)
  have HNP := Aside0.mk (show some p5 ≠ rn.ownBlock from fun e => by have := R_lt H.out.r.hn p5 e.symm; omega)
  have HOP := Aside0.mk (show some p5 ≠ ro.ownBlock from fun e => by have := R_lt H.out.r.ho p5 e.symm; omega)
  have HXX := Aside0.mk (show ∀ k, w.heap.size ≤ k → some k ≠ rn.ownBlock from fun k hk e => by have := R_lt H.out.r.hn k e.symm; omega)
  clear hnb hb1 hp5
  clear hW1
  go_region_held3 (fun w' => w'.cell? ⟨p5, 1, none⟩ = some (.int .i64 k) ∧ w'.cell? ⟨p5, 2, none⟩ = some (.slice A2 n2 c2)) (first | with_reducible exact ⟨t1, t2⟩ | exact ⟨t1, t2⟩) (first
    | (go_at_call 41; refine (fwrite_bad g k A2 n2 c2 _ (by omega) HK.out).mono ?_; rintro e w3 ⟨rfl, rfl⟩)
    | (go_at_call 87; refine (rwrite_bad r k A2 n2 c2 _ (by omega) HK.out).mono ?_; rintro e w3 ⟨rfl, rfl⟩))
  all_goals
    go_wp2_with fail
    go_ret3
    exact ⟨_, _, _, _, _, _, _, _, rfl, HS.out.below (below_drew1 (Below.refl _ _)), (Fr.below HB1.out (fun _ h _ => h)).then_below (below_drew1 (Below.refl _ _)), (HB1.out.mono hbw).trans (below_drew1 (Below.refl _ _))⟩
set_option maxHeartbeats 1000000 in
set_option maxRecDepth 100000 in
theorem does_write (b g r : Nat) (vn vs vo rn rs ro : Value) (now safe : List Int) (ops : List FOp) (A2 A3 : Option Addr) (n2 c2 n3 c3 : Nat) (w : World) (h : FS w b g r vn vs vo rn rs ro now safe ops) (k : Nat) (l : List Int) (hl : l.length = n2) (hc : n2 ≤ c2) (hst : ∀ W', Below b w W' → Kd.C (Kd.int .u8) W' A2 n2 l) (hn : n2 ≤ 400) (hk : k ≤ 1048576) (hn2 : n2 + k ≤ 1048576) (hnow : now.length ≤ 1048576) (hops : ops.length ≤ 500000) :
    Calls Try.prog 33 #[.pointer (some ⟨g, 0, none⟩), .pointer (some ⟨r, 0, none⟩), (.agg #[.int .i64 0, .int .i64 (k : Int), .slice A2 n2 c2, .slice A3 n3 c3])] w (fun e w' => ∃ g' r' vn1 vs1 vo1 rn1 rs1 ro1, e = .returned (.tuple #[.pointer (some ⟨g', 0, none⟩), .pointer (some ⟨r', 0, none⟩), .bool true]) ∧ FS w' b g' r' vn1 vs1 vo1 rn1 rs1 ro1 ((writeF (now, ops) k l).1) (safe) ((writeF (now, ops) k l).2) ∧ Fr w w' (Own3 g vo rn) (Own3 g' vo1 rn1) ∧ Below b w w') := by
  have H := Aside0.mk h
  have HST := Aside0.mk hst
  have HLL := Aside0.mk hl
  clear h hst hl
  go_enter Try.func33, Try.ntmps33
  go_wp2_with fail
  obtain ⟨W1, hW1⟩ : ∃ W1, W1 = w.alloc (.cells #[.int .i64 0, .int .i64 (k : Int), .slice A2 n2 c2, .slice A3 n3 c3] 50) := ⟨_, rfl⟩
  have hnb : W1.heap[w.heap.size]? = some (.cells #[.int .i64 0, .int .i64 (k : Int), .slice A2 n2 c2, .slice A3 n3 c3] 50 (0, 0)) := by rw [hW1]; exact blk_new _ _
  have hb1 : Below w.heap.size w W1 := by rw [hW1]; exact below_alloc (Below.refl _ _) _
  rw [← hW1]
  obtain ⟨p5, hp5⟩ : ∃ p5, p5 = w.heap.size := ⟨_, rfl⟩
  have hp5w : w.heap.size ≤ p5 := by omega
  rw [← hp5] at hnb ⊢
  have t1 := (blk_cell hnb 1).trans (rfl : _ = some (Value.int .i64 (k : Int)))
  have t2 := (blk_cell hnb 2).trans (rfl : _ = some (Value.slice A2 n2 c2))
  have t3 := (blk_cell hnb 3).trans (rfl : _ = some (Value.slice A3 n3 c3))
  have HNB := Aside0.mk hnb
  have HS := Aside0.mk (FS.below (W1 := W1) H.out hb1)
  have HB1 := Aside0.mk hb1
  have hbw : b ≤ w.heap.size := Nat.le_trans H.out.f.hg (Nat.le_of_lt (blk_lt H.out.f.hb))
  have hgp : p5 ≠ g := by have := blk_lt H.out.f.hb; omega
  have hrp : p5 ≠ r := by have := blk_lt H.out.r.hb; omega
  have HVP := Aside0.mk (show some p5 ≠ vo.ownBlock from fun e => by have := R_lt H.out.f.ho p5 e.symm; omega)
  have HNP := Aside0.mk (show some p5 ≠ rn.ownBlock from fun e => by have := R_lt H.out.r.hn p5 e.symm; omega)
  have HOP := Aside0.mk (show some p5 ≠ ro.ownBlock from fun e => by have := R_lt H.out.r.ho p5 e.symm; omega)
  have HXX := Aside0.mk (show ∀ k, w.heap.size ≤ k → some k ≠ rn.ownBlock from fun k hk e => by have := R_lt H.out.r.hn k e.symm; omega)
  clear hnb hb1 hp5
  clear hW1
  go_region_held3 (fun w' => w'.cell? ⟨p5, 1, none⟩ = some (.int .i64 (k : Int)) ∧ w'.cell? ⟨p5, 2, none⟩ = some (.slice A2 n2 c2)) (first | with_reducible exact ⟨t1, t2⟩ | exact ⟨t1, t2⟩) (first
    | (go_at_call 41; refine (fwrite_any b g (fun q => some q ≠ rn.ownBlock) vn vs vo now safe ops k A2 n2 c2 l _ HS.out.f.drew (fun q hq => HXX.out q (Nat.le_trans HB1.out.size hq)) HLL.out hc (fun W' _ hb' => HST.out W' ((HB1.out.mono hbw).trans ((below_drew1 (Below.refl _ _)).trans hb'))) hk hn2 hnow hops).mono ?_; rintro e w3 ⟨rfl, vn1, vo1, hf1, hv1, hk1, hl1⟩; have hnb := (hk1.2 p5 (blk_lt (blk_drew HNB.out)) hgp HVP.out).trans (blk_drew HNB.out); replace t1 := (blk_cell hnb 1).trans (rfl : _ = some (Value.int .i64 (k : Int))); replace t2 := (blk_cell hnb 2).trans (rfl : _ = some (Value.slice A2 n2 c2)); have HF1 := Aside0.mk hf1; have HV1 := Aside0.mk hv1; have HK1 := Aside0.mk hk1; have HL1 := Aside0.mk hl1; have HR1 := Aside0.mk ((HS.out.below (below_drew1 (Below.refl _ _))).r.other (HS.out.below (below_drew1 (Below.refl _ _))).f hk1); have HNB1 := Aside0.mk hnb; clear hf1 hv1 hk1 hl1 hnb)
    | (go_at_call 87; refine (rwrite_any b r rn rs ro now safe ops k A2 n2 c2 l _ HR1.out HLL.out (fun W' _ hb' => HST.out W' ((HB1.out.mono hbw).trans ((below_drew1 (Below.refl _ _)).trans (HL1.out.trans hb')))) hk hn2 hnow hops).mono ?_; rintro e w4 ⟨rfl, rn1, ro1, hr2, hn2', hk2, hl2⟩; have hnb := (hk2.2 p5 (blk_lt HNB1.out) hrp HNP.out HOP.out).trans HNB1.out; replace t1 := (blk_cell hnb 1).trans (rfl : _ = some (Value.int .i64 (k : Int))); replace t2 := (blk_cell hnb 2).trans (rfl : _ = some (Value.slice A2 n2 c2)); have HR2 := Aside0.mk hr2; have HN2 := Aside0.mk hn2'; have HK2 := Aside0.mk hk2; have HL2 := Aside0.mk hl2; clear hr2 hn2' hk2 hl2 hnb))
  all_goals
    go_wp2_with fail
    go_ret3
    obtain ⟨hfs, hfr⟩ := (HS.out.below (below_drew1 (Below.refl _ _))).turned HF1.out HK1.out (HV1.out.imp id .inr) HR2.out HK2.out HN2.out
    exact ⟨_, _, _, _, _, _, _, _, rfl, hfs, (Fr.below (HB1.out.trans (below_drew1 (Below.refl _ _))) (fun _ h _ => h)).trans hfr, (HB1.out.mono hbw).trans ((below_drew1 (Below.refl _ _)).trans (HL1.out.trans HL2.out))⟩
set_option maxHeartbeats 1000000 in
set_option maxRecDepth 100000 in
theorem does_trunc_bad (b g r : Nat) (vn vs vo rn rs ro : Value) (now safe : List Int) (ops : List FOp) (A2 A3 : Option Addr) (n2 c2 n3 c3 : Nat) (w : World) (h : FS w b g r vn vs vo rn rs ro now safe ops) (k : Int) (hk : k < 0 ∨ 0 ≤ k ∧ 1048576 < k) :
    Calls Try.prog 33 #[.pointer (some ⟨g, 0, none⟩), .pointer (some ⟨r, 0, none⟩), (.agg #[.int .i64 1, .int .i64 k, .slice A2 n2 c2, .slice A3 n3 c3])] w (fun e w' => ∃ g' r' vn1 vs1 vo1 rn1 rs1 ro1, e = .returned (.tuple #[.pointer (some ⟨g', 0, none⟩), .pointer (some ⟨r', 0, none⟩), .bool true]) ∧ FS w' b g' r' vn1 vs1 vo1 rn1 rs1 ro1 (now) (safe) (ops) ∧ Fr w w' (Own3 g vo rn) (Own3 g' vo1 rn1) ∧ Below b w w') := by
  have H := Aside0.mk h
  have HK := Aside0.mk hk
  clear h hk
  go_enter Try.func33, Try.ntmps33
  go_wp2_with fail
  obtain ⟨W1, hW1⟩ : ∃ W1, W1 = w.alloc (.cells #[.int .i64 1, .int .i64 k, .slice A2 n2 c2, .slice A3 n3 c3] 50) := ⟨_, rfl⟩
  have hnb : W1.heap[w.heap.size]? = some (.cells #[.int .i64 1, .int .i64 k, .slice A2 n2 c2, .slice A3 n3 c3] 50 (0, 0)) := by rw [hW1]; exact blk_new _ _
  have hb1 : Below w.heap.size w W1 := by rw [hW1]; exact below_alloc (Below.refl _ _) _
  rw [← hW1]
  obtain ⟨p5, hp5⟩ : ∃ p5, p5 = w.heap.size := ⟨_, rfl⟩
  have hp5w : w.heap.size ≤ p5 := by omega
  rw [← hp5] at hnb ⊢
  have t1 := (blk_cell hnb 1).trans (rfl : _ = some (Value.int .i64 k))
  have t2 := (blk_cell hnb 2).trans (rfl : _ = some (Value.slice A2 n2 c2))
  have t3 := (blk_cell hnb 3).trans (rfl : _ = some (Value.slice A3 n3 c3))
  have HNB := Aside0.mk hnb
  have HS := Aside0.mk (FS.below (W1 := W1) H.out hb1)
  have HB1 := Aside0.mk hb1
  have hbw : b ≤ w.heap.size := Nat.le_trans H.out.f.hg (Nat.le_of_lt (blk_lt H.out.f.hb))
  have hgp : p5 ≠ g := by have := blk_lt H.out.f.hb; omega
  have hrp : p5 ≠ r := by have := blk_lt H.out.r.hb; omega
  have HVP := Aside0.mk (show some p5 ≠ vo.ownBlock from fun e => by have := R_lt H.out.f.ho p5 e.symm; omega)
  have HNP := Aside0.mk (show some p5 ≠ rn.ownBlock from fun e => by have := R_lt H.out.r.hn p5 e.symm; omega)
  have HOP := Aside0.mk (show some p5 ≠ ro.ownBlock from fun e => by have := R_lt H.out.r.ho p5 e.symm; omega)
  have HXX := Aside0.mk (show ∀ k, w.heap.size ≤ k → some k ≠ rn.ownBlock from fun k hk e => by have := R_lt H.out.r.hn k e.symm; omega)
  clear hnb hb1 hp5
  clear hW1
  go_region_held3 (fun w' => w'.cell? ⟨p5, 1, none⟩ = some (.int .i64 k)) (first | with_reducible exact t1 | exact t1) (first
    | (go_at_call 42; refine (ftrunc_bad g k _ HK.out).mono ?_; rintro e w3 ⟨rfl, rfl⟩)
    | (go_at_call 88; refine (rtrunc_bad r k _ HK.out).mono ?_; rintro e w3 ⟨rfl, rfl⟩))
  all_goals
    go_wp2_with fail
    go_ret3
    exact ⟨_, _, _, _, _, _, _, _, rfl, HS.out.below (below_drew1 (Below.refl _ _)), (Fr.below HB1.out (fun _ h _ => h)).then_below (below_drew1 (Below.refl _ _)), (HB1.out.mono hbw).trans (below_drew1 (Below.refl _ _))⟩
set_option maxHeartbeats 1000000 in
set_option maxRecDepth 100000 in
theorem does_trunc (b g r : Nat) (vn vs vo rn rs ro : Value) (now safe : List Int) (ops : List FOp) (A2 A3 : Option Addr) (n2 c2 n3 c3 : Nat) (w : World) (h : FS w b g r vn vs vo rn rs ro now safe ops) (k : Nat) (hk : k ≤ 1048576) (hnow : now.length ≤ 1048576) (hops : ops.length ≤ 500000) :
    Calls Try.prog 33 #[.pointer (some ⟨g, 0, none⟩), .pointer (some ⟨r, 0, none⟩), (.agg #[.int .i64 1, .int .i64 (k : Int), .slice A2 n2 c2, .slice A3 n3 c3])] w (fun e w' => ∃ g' r' vn1 vs1 vo1 rn1 rs1 ro1, e = .returned (.tuple #[.pointer (some ⟨g', 0, none⟩), .pointer (some ⟨r', 0, none⟩), .bool true]) ∧ FS w' b g' r' vn1 vs1 vo1 rn1 rs1 ro1 ((sizeF (now, ops) k).1) (safe) ((sizeF (now, ops) k).2) ∧ Fr w w' (Own3 g vo rn) (Own3 g' vo1 rn1) ∧ Below b w w') := by
  have H := Aside0.mk h
  clear h
  go_enter Try.func33, Try.ntmps33
  go_wp2_with fail
  obtain ⟨W1, hW1⟩ : ∃ W1, W1 = w.alloc (.cells #[.int .i64 1, .int .i64 (k : Int), .slice A2 n2 c2, .slice A3 n3 c3] 50) := ⟨_, rfl⟩
  have hnb : W1.heap[w.heap.size]? = some (.cells #[.int .i64 1, .int .i64 (k : Int), .slice A2 n2 c2, .slice A3 n3 c3] 50 (0, 0)) := by rw [hW1]; exact blk_new _ _
  have hb1 : Below w.heap.size w W1 := by rw [hW1]; exact below_alloc (Below.refl _ _) _
  rw [← hW1]
  obtain ⟨p5, hp5⟩ : ∃ p5, p5 = w.heap.size := ⟨_, rfl⟩
  have hp5w : w.heap.size ≤ p5 := by omega
  rw [← hp5] at hnb ⊢
  have t1 := (blk_cell hnb 1).trans (rfl : _ = some (Value.int .i64 (k : Int)))
  have t2 := (blk_cell hnb 2).trans (rfl : _ = some (Value.slice A2 n2 c2))
  have t3 := (blk_cell hnb 3).trans (rfl : _ = some (Value.slice A3 n3 c3))
  have HNB := Aside0.mk hnb
  have HS := Aside0.mk (FS.below (W1 := W1) H.out hb1)
  have HB1 := Aside0.mk hb1
  have hbw : b ≤ w.heap.size := Nat.le_trans H.out.f.hg (Nat.le_of_lt (blk_lt H.out.f.hb))
  have hgp : p5 ≠ g := by have := blk_lt H.out.f.hb; omega
  have hrp : p5 ≠ r := by have := blk_lt H.out.r.hb; omega
  have HVP := Aside0.mk (show some p5 ≠ vo.ownBlock from fun e => by have := R_lt H.out.f.ho p5 e.symm; omega)
  have HNP := Aside0.mk (show some p5 ≠ rn.ownBlock from fun e => by have := R_lt H.out.r.hn p5 e.symm; omega)
  have HOP := Aside0.mk (show some p5 ≠ ro.ownBlock from fun e => by have := R_lt H.out.r.ho p5 e.symm; omega)
  have HXX := Aside0.mk (show ∀ k, w.heap.size ≤ k → some k ≠ rn.ownBlock from fun k hk e => by have := R_lt H.out.r.hn k e.symm; omega)
  clear hnb hb1 hp5
  clear hW1
  go_region_held3 (fun w' => w'.cell? ⟨p5, 1, none⟩ = some (.int .i64 (k : Int))) (first | with_reducible exact t1 | exact t1) (first
    | (go_at_call 42; refine (ftrunc_any b g (fun q => some q ≠ rn.ownBlock) vn vs vo now safe ops k _ HS.out.f.drew (fun q hq => HXX.out q (Nat.le_trans HB1.out.size hq)) (by omega) hk (by omega)).mono ?_; rintro e w3 ⟨rfl, ⟨vn1, vo1, hf1, hv1⟩, hk1, hl1⟩; have hnb := (hk1.2 p5 (blk_lt (blk_drew HNB.out)) hgp HVP.out).trans (blk_drew HNB.out); replace t1 := (blk_cell hnb 1).trans (rfl : _ = some (Value.int .i64 (k : Int))); have HF1 := Aside0.mk hf1; have HV1 := Aside0.mk hv1; have HK1 := Aside0.mk hk1; have HL1 := Aside0.mk hl1; have HR1 := Aside0.mk ((HS.out.below (below_drew1 (Below.refl _ _))).r.other (HS.out.below (below_drew1 (Below.refl _ _))).f hk1); have HNB1 := Aside0.mk hnb; clear hf1 hv1 hk1 hl1 hnb)
    | (go_at_call 88; refine (rtrunc_any b r rn rs ro now safe ops k _ HR1.out (by omega) hk (by omega)).mono ?_; rintro e w4 ⟨rfl, ⟨rn1, ro1, hr2, hn2'⟩, hk2, hl2⟩; have hnb := (hk2.2 p5 (blk_lt HNB1.out) hrp HOP.out).trans HNB1.out; replace t1 := (blk_cell hnb 1).trans (rfl : _ = some (Value.int .i64 (k : Int))); have HR2 := Aside0.mk hr2; have HN2 := Aside0.mk hn2'; have HK2 := Aside0.mk hk2; have HL2 := Aside0.mk hl2; clear hr2 hn2' hk2 hl2 hnb))
  all_goals
    go_wp2_with fail
    go_ret3
    obtain ⟨hfs, hfr⟩ := (HS.out.below (below_drew1 (Below.refl _ _))).turned HF1.out HK1.out (HV1.out.imp id .inr) HR2.out ⟨HK2.out.1, fun i hi hg _ h2 => HK2.out.2 i hi hg h2⟩ HN2.out
    exact ⟨_, _, _, _, _, _, _, _, rfl, hfs, (Fr.below (HB1.out.trans (below_drew1 (Below.refl _ _))) (fun _ h _ => h)).trans hfr, (HB1.out.mono hbw).trans ((below_drew1 (Below.refl _ _)).trans (HL1.out.trans HL2.out))⟩
set_option maxHeartbeats 1000000 in
set_option maxRecDepth 100000 in
theorem does_sync (b g r : Nat) (vn vs vo rn rs ro : Value) (now safe : List Int) (ops : List FOp) (A2 A3 : Option Addr) (n2 c2 n3 c3 : Nat) (w : World) (h : FS w b g r vn vs vo rn rs ro now safe ops) (k : Int) (hnow : now.length ≤ 1048576) :
    Calls Try.prog 33 #[.pointer (some ⟨g, 0, none⟩), .pointer (some ⟨r, 0, none⟩), (.agg #[.int .i64 2, .int .i64 k, .slice A2 n2 c2, .slice A3 n3 c3])] w (fun e w' => ∃ g' r' vn1 vs1 vo1 rn1 rs1 ro1, e = .returned (.tuple #[.pointer (some ⟨g', 0, none⟩), .pointer (some ⟨r', 0, none⟩), .bool true]) ∧ FS w' b g' r' vn1 vs1 vo1 rn1 rs1 ro1 (now) (now) (([] : List FOp)) ∧ Fr w w' (Own3 g vo rn) (Own3 g' vo1 rn1) ∧ Below b w w') := by
  have hlt := blk_lt h.f.hb
  have HB1 := Aside0.mk (below_alloc (Below.refl w.heap.size w) (.cells #[.int .i64 2, .int .i64 k, .slice A2 n2 c2, .slice A3 n3 c3] 50))
  have HS := Aside0.mk (FS.below h HB1.out)
  have hbw : b ≤ w.heap.size := Nat.le_trans h.f.hg (Nat.le_of_lt (blk_lt h.f.hb))
  have HXX := Aside0.mk (show ∀ q, w.heap.size ≤ q → some q ≠ rn.ownBlock from fun q hq e => by have := R_lt h.r.hn q e.symm; omega)
  have H := Aside0.mk h
  clear h
  go_enter Try.func33, Try.ntmps33
  go_wp2_with (first
    | (go_at_call 38; refine (fsync_any b g (fun q => some q ≠ rn.ownBlock) vn vs vo now safe ops _ HS.out.f (fun q hq => HXX.out q (Nat.le_trans HB1.out.size hq)) (by omega)).mono ?_; rintro e w3 ⟨rfl, ⟨vs1, hf1⟩, hk1, hl1⟩; have HF1 := Aside0.mk hf1; have HK1 := Aside0.mk hk1; have HL1 := Aside0.mk hl1; have HR1 := Aside0.mk (HS.out.r.other HS.out.f (show KeepBut _ _ g vo.ownBlock from ⟨hk1.1, fun i hi hg _ => hk1.2 i hi hg (by simp)⟩)); clear hf1 hk1 hl1)
    | (go_at_call 89; refine (rsync_any b r rn rs ro now safe ops _ HR1.out (by omega)).mono ?_; rintro e w4 ⟨rfl, ⟨rs1, hr2⟩, hk2, hl2⟩; have HR2 := Aside0.mk hr2; have HK2 := Aside0.mk hk2; have HL2 := Aside0.mk hl2; clear hr2 hk2 hl2))
  go_ret3
  obtain ⟨hfs, hfr⟩ := HS.out.turned HF1.out (show KeepBut _ _ g vo.ownBlock from ⟨HK1.out.1, fun i hi hg _ => HK1.out.2 i hi hg (by simp)⟩) (.inr (.inl rfl)) HR2.out ⟨HK2.out.1, fun i hi hg _ _ => HK2.out.2 i hi hg (by simp)⟩ (.inl rfl)
  exact ⟨_, _, _, _, _, _, _, _, rfl, hfs, (Fr.below HB1.out (fun _ h _ => h)).trans hfr, (HB1.out.mono hbw).trans (HL1.out.trans HL2.out)⟩
theorem FI.to {W : World} {b b' g : Nat} {x x' : Nat → Prop} {vn vs vo : Value} {now safe : List Int} {ops : List FOp} (h : FI W b g x vn vs vo now safe ops) (hb : b' ≤ b) (hx : ∀ k, b ≤ k → k < W.heap.size → x k → x' k) : FI W b' g x' vn vs vo now safe ops :=
  ⟨h.hb, Kd.R_lower (Kd.R_mono (Kd.R_bound h.hn) (fun k hk => hx k hk.2.1 hk.2.2.1 hk.1)) hb, Kd.R_lower (Kd.R_mono (Kd.R_bound h.hs) (fun k hk => hx k hk.2.1 hk.2.2.1 hk.1)) hb, Kd.R_lower (Kd.R_mono (Kd.R_bound h.ho) (fun k hk => hx k hk.2.1 hk.2.2.1 hk.1)) hb, Nat.le_trans hb h.hg⟩
theorem RF.to {W : World} {b b' g : Nat} {vn vs vo : Value} {now safe : List Int} {ops : List FOp} (h : RF W b g vn vs vo now safe ops) (hb : b' ≤ b) : RF W b' g vn vs vo now safe ops :=
  ⟨h.hb, Kd.R_lower h.hn hb, Kd.R_lower h.hs hb, Kd.R_lower h.ho hb, Nat.le_trans hb h.hg⟩
set_option maxHeartbeats 1000000 in
set_option maxRecDepth 100000 in
theorem does_crash (b g r : Nat) (vn vs vo rn rs ro : Value) (now safe : List Int) (ops : List FOp) (A2 A3 : Option Addr) (n2 c2 n3 c3 : Nat) (w : World) (h : FS w b g r vn vs vo rn rs ro now safe ops) (kd k : Int) (kl : List Bool) (hkd : kd ≠ 0 ∧ kd ≠ 1 ∧ kd ≠ 2) (hc : Kd.bool.C w A3 n3 kl) (hsafe : safe.length ≤ 1048576) (hop : ∀ o ∈ ops, o.n ≤ 1048576 ∧ o.d.length ≤ 1048576) (hol : ops.length ≤ 2000000) :
    Calls Try.prog 33 #[.pointer (some ⟨g, 0, none⟩), .pointer (some ⟨r, 0, none⟩), (.agg #[.int .i64 kd, .int .i64 k, .slice A2 n2 c2, .slice A3 n3 c3])] w (fun e w' => ∃ g' r' vn1 vs1 vo1 rn1 rs1 ro1, e = .returned (.tuple #[.pointer (some ⟨g', 0, none⟩), .pointer (some ⟨r', 0, none⟩), .bool true]) ∧ FS w' b g' r' vn1 vs1 vo1 rn1 rs1 ro1 (crashF safe ops kl ops.length) (crashF safe ops kl ops.length) (([] : List FOp)) ∧ Fr w w' (Own3 g vo rn) (Own3 g' vo1 rn1) ∧ Below b w w') := by
  have H := Aside0.mk h
  have HC := Aside0.mk hc
  have HOPS := Aside0.mk hop
  have q0 : (kd == 0) = false := beq_eq_false_iff_ne.mpr hkd.1
  have q1 : (kd == 1) = false := beq_eq_false_iff_ne.mpr hkd.2.1
  have q2 : (kd == 2) = false := beq_eq_false_iff_ne.mpr hkd.2.2
  clear h hc hop hkd
  go_enter Try.func33, Try.ntmps33
  go_wp2_with fail
  obtain ⟨W1, hW1⟩ : ∃ W1, W1 = w.alloc (.cells #[.int .i64 kd, .int .i64 k, .slice A2 n2 c2, .slice A3 n3 c3] 50) := ⟨_, rfl⟩
  have hnb : W1.heap[w.heap.size]? = some (.cells #[.int .i64 kd, .int .i64 k, .slice A2 n2 c2, .slice A3 n3 c3] 50 (0, 0)) := by rw [hW1]; exact blk_new _ _
  have hb1 : Below w.heap.size w W1 := by rw [hW1]; exact below_alloc (Below.refl _ _) _
  rw [← hW1]
  obtain ⟨p5, hp5⟩ : ∃ p5, p5 = w.heap.size := ⟨_, rfl⟩
  have hp5w : w.heap.size ≤ p5 := by omega
  rw [← hp5] at hnb ⊢
  have t1 := (blk_cell hnb 1).trans (rfl : _ = some (Value.int .i64 k))
  have t2 := (blk_cell hnb 2).trans (rfl : _ = some (Value.slice A2 n2 c2))
  have t3 := (blk_cell hnb 3).trans (rfl : _ = some (Value.slice A3 n3 c3))
  have HNB := Aside0.mk hnb
  have HS := Aside0.mk (FS.below (W1 := W1) H.out hb1)
  have HB1 := Aside0.mk hb1
  have hbw : b ≤ w.heap.size := Nat.le_trans H.out.f.hg (Nat.le_of_lt (blk_lt H.out.f.hb))
  have hgp : p5 ≠ g := by have := blk_lt H.out.f.hb; omega
  have hrp : p5 ≠ r := by have := blk_lt H.out.r.hb; omega
  have HVP := Aside0.mk (show some p5 ≠ vo.ownBlock from fun e => by have := R_lt H.out.f.ho p5 e.symm; omega)
  have HNP := Aside0.mk (show some p5 ≠ rn.ownBlock from fun e => by have := R_lt H.out.r.hn p5 e.symm; omega)
  have HOP := Aside0.mk (show some p5 ≠ ro.ownBlock from fun e => by have := R_lt H.out.r.ho p5 e.symm; omega)
  have HXX := Aside0.mk (show ∀ k, w.heap.size ≤ k → some k ≠ rn.ownBlock from fun k hk e => by have := R_lt H.out.r.hn k e.symm; omega)
  clear hnb hb1 hp5
  clear hW1
  go_region_held3 (fun w' => w'.cell? ⟨p5, 3, none⟩ = some (.slice A3 n3 c3)) (first | with_reducible exact t3 | exact t3) (first
    | (go_at_call 36; refine (fcrash_any b g (fun q => some q ≠ rn.ownBlock) vn vs vo now safe ops A3 n3 c3 kl _ HS.out.f.drew (Kd.C_drew (Kd.C_below HC.out HB1.out)) hsafe HOPS.out hol).mono ?_; rintro e w3 ⟨g2, va, vb, rfl, hf1, hl1⟩; replace t3 := pw_cell_below hl1 t3; have HF1 := Aside0.mk hf1; have HL1 := Aside0.mk hl1; have HR1 := Aside0.mk ((HS.out.below (below_drew1 (Below.refl _ _))).r.below hl1); clear hf1 hl1)
    | (go_at_call 90; refine (rcrash_any b r rn rs ro now safe ops A3 n3 c3 kl 0 _ HR1.out (Kd.C_below (Kd.C_drew (Kd.C_below HC.out HB1.out)) HL1.out) (by omega) hsafe HOPS.out hol).mono ?_; rintro e w4 ⟨g3, vc, vd, rfl, hr2, hl2⟩; replace t3 := pw_cell_below hl2 t3; rw [List.drop_zero] at hr2; have HR2 := Aside0.mk hr2; have HL2 := Aside0.mk hl2; clear hr2 hl2))
  all_goals
    go_wp2_with fail
    go_ret3
    have hs1 : w.heap.size ≤ W1.heap.size := HB1.out.size
    have hs2 : W1.heap.size ≤ w3.heap.size := HL1.out.size
    have hbb : Below w.heap.size w w4 := HB1.out.trans ((below_drew1 (Below.refl _ _)).trans ((HL1.out.mono hs1).trans (HL2.out.mono (Nat.le_trans hs1 hs2))))
    have hvc : ∀ q, vc.ownBlock = some q → w3.heap.size ≤ q := fun q hq => Kd.R_base HR2.out.hn q hq
    have hf : FI w4 b g2 (fun q => some q ≠ vc.ownBlock) va vb (.slice none 0 0) (crashF safe ops kl ops.length) (crashF safe ops kl ops.length) [] := (FI.to HF1.out (Nat.le_trans hbw hs1) (x' := fun q => some q ≠ vc.ownBlock) (fun q _ hq _ e => by have := hvc q e.symm; omega)).below HL2.out
    refine ⟨_, _, _, _, _, _, _, _, rfl, ⟨hf, HR2.out.to (Nat.le_trans hbw (Nat.le_trans hs1 hs2))⟩, Fr.below hbb (fun i hi hlt => ?_), hbb.mono hbw⟩
    rcases hi with e | e | e
    · have := HF1.out.hg; exfalso; simp at this; omega
    · cases e
    · have := hvc i e.symm; omega
theorem putF_n (s : List Int × List FOp) (p : Pc) (hp : p.s ≤ 1048576) (h : ∀ o ∈ s.2, o.n ≤ 1048576 ∧ o.d.length ≤ 1048576) : ∀ o ∈ (putF s p).2, o.n ≤ 1048576 ∧ o.d.length ≤ 1048576 := by
  intro o ho
  rcases List.mem_append.1 ho with ho | ho
  · exact h o ho
  · rw [List.mem_singleton.1 ho]
    refine ⟨hp, ?_⟩
    show (layL (atL s.1 p.s) p.f p.d).length ≤ 1048576
    unfold layL
    split
    · rw [overlay_length (by rw [sizeL_length]; omega), sizeL_length]; decide
    · rw [sizeL_length]; decide
theorem pieces_s : ∀ (g : Nat) (b : List Int) (a : Nat), b.length ≤ g → a + b.length ≤ 1048576 → ∀ p ∈ pieces a b, p.s ≤ 1048576
  | 0, b, a, hg, _ => by
    obtain rfl := List.eq_nil_of_length_eq_zero (Nat.le_zero.1 hg)
    intro p hp
    rw [pieces_nil] at hp
    simp at hp
  | g + 1, b, a, hg, ha => by
    by_cases h0 : 0 < b.length
    · obtain ⟨n, hne⟩ : ∃ n, n = min (64 - a % 64) b.length := ⟨_, rfl⟩
      rw [pieces_step a b n hne h0]
      intro p hp
      rcases List.mem_cons.1 hp with rfl | hp
      · show (a : Int) / 64 ≤ 1048576
        omega
      · exact pieces_s g (b.drop n) (a + n) (by rw [List.length_drop]; omega) (by rw [List.length_drop]; omega) p hp
    · obtain rfl := List.eq_nil_of_length_eq_zero (Nat.eq_zero_of_not_pos h0)
      intro p hp
      rw [pieces_nil] at hp
      simp at hp
theorem puts_bd (P : List Pc) (hP : ∀ p ∈ P, p.s ≤ 1048576) : ∀ (s : List Int × List FOp), (∀ o ∈ s.2, o.n ≤ 1048576 ∧ o.d.length ≤ 1048576) → (P.foldl putF s).1.length = s.1.length ∧ (P.foldl putF s).2.length = s.2.length + P.length ∧ ∀ o ∈ (P.foldl putF s).2, o.n ≤ 1048576 ∧ o.d.length ≤ 1048576 := by
  induction P with
  | nil => intro s h; exact ⟨rfl, rfl, h⟩
  | cons p P ih =>
    intro s h
    obtain ⟨h1, h2, h3⟩ := ih (fun q hq => hP q (List.mem_cons_of_mem _ hq)) (putF s p) (putF_n s p (hP p (List.mem_cons_self ..)) h)
    have h4 := putF_len s p
    rw [List.foldl_cons, List.length_cons]
    exact ⟨h1.trans h4.1, by omega, h3⟩
theorem stepF_bd (s : FSt) (a : FAct) (k : Nat) (h : Bd s k) (hb : a.b.length ≤ 400) : Bd (stepF s a) (k + 1) := by
  obtain ⟨h1, h2, h3, h4⟩ := h
  unfold stepF
  by_cases q0 : a.kd = 0
  · rw [if_pos q0]
    by_cases qa : 0 ≤ a.at_ ∧ a.at_ ≤ 1048576 ∧ (a.b.length : Int) ≤ 1048576 - a.at_
    · rw [if_pos qa]
      have hg : (growF (s.now, s.ops) a.at_.toNat a.b.length).1.length ≤ 1048576 ∧ (growF (s.now, s.ops) a.at_.toNat a.b.length).2.length ≤ s.ops.length + 1 ∧ ∀ o ∈ (growF (s.now, s.ops) a.at_.toNat a.b.length).2, o.n ≤ 1048576 ∧ o.d.length ≤ 1048576 := by
        unfold growF
        by_cases qg : 0 < a.b.length ∧ s.now.length < a.at_.toNat + a.b.length
        · rw [if_pos qg]
          refine ⟨by rw [sizeL_length]; omega, by simp, fun o ho => ?_⟩
          rcases List.mem_append.1 ho with ho | ho
          · exact h3 o ho
          · rw [List.mem_singleton.1 ho]
            exact ⟨by show ((a.at_.toNat + a.b.length : Nat) : Int) ≤ 1048576; omega, Nat.zero_le _⟩
        · rw [if_neg qg]
          exact ⟨h1, Nat.le_succ _, h3⟩
      obtain ⟨p1, p2, p3⟩ := puts_bd (pieces a.at_.toNat a.b) (pieces_s _ a.b a.at_.toNat (Nat.le_refl _) (by omega)) _ hg.2.2
      have hp := pieces_len a.b.length a.b a.at_.toNat (Nat.le_refl _)
      exact ⟨Nat.le_trans (Nat.le_of_eq p1) hg.1, h2, p3, by show (writeF (s.now, s.ops) a.at_.toNat a.b).2.length ≤ _; unfold writeF; rw [p2]; have := hg.2.1; omega⟩
    · rw [if_neg qa]
      exact ⟨h1, h2, h3, by omega⟩
  · rw [if_neg q0]
    by_cases q1 : a.kd = 1
    · rw [if_pos q1]
      by_cases qa : 0 ≤ a.at_ ∧ a.at_ ≤ 1048576
      · rw [if_pos qa]
        by_cases qs : a.at_ = (s.now.length : Int)
        · have e : sizeF (s.now, s.ops) a.at_ = (s.now, s.ops) := by unfold sizeF; rw [if_pos qs]
          rw [e]
          exact ⟨h1, h2, h3, by show s.ops.length ≤ _; omega⟩
        · have e : sizeF (s.now, s.ops) a.at_ = (sizeL s.now a.at_, s.ops ++ [⟨true, a.at_, []⟩]) := by unfold sizeF; rw [if_neg qs]
          rw [e]
          refine ⟨by show (sizeL s.now a.at_).length ≤ _; rw [sizeL_length]; omega, h2, fun o ho => ?_, by show (s.ops ++ [(⟨true, a.at_, []⟩ : FOp)]).length ≤ _; rw [List.length_append, List.length_singleton]; omega⟩
          rcases List.mem_append.1 ho with ho | ho
          · exact h3 o ho
          · rw [List.mem_singleton.1 ho]
            exact ⟨qa.2, Nat.zero_le _⟩
      · rw [if_neg qa]
        exact ⟨h1, h2, h3, by omega⟩
    · rw [if_neg q1]
      by_cases q2 : a.kd = 2
      · rw [if_pos q2]
        exact ⟨h1, h1, fun o ho => by simp at ho, Nat.zero_le _⟩
      · rw [if_neg q2]
        have hc := crashF_len s.safe s.ops a.keep h2 (fun o ho => (h3 o ho).1) s.ops.length
        exact ⟨hc, hc, fun o ho => by simp at ho, Nat.zero_le _⟩
theorem does_any (b g r : Nat) (vn vs vo rn rs ro : Value) (s : FSt) (a : FAct) (k : Nat) (A2 A3 : Option Addr) (c2 c3 : Nat) (w : World) (h : FS w b g r vn vs vo rn rs ro s.now s.safe s.ops) (hb : Bd s k) (hk : k ≤ 1000) (hl : a.b.length ≤ 400) (hc2 : a.b.length ≤ c2) (hst : ∀ W', Below b w W' → Kd.C (Kd.int .u8) W' A2 a.b.length a.b) (hkp : Kd.bool.C w A3 a.keep.length a.keep) :
    Calls Try.prog 33 #[.pointer (some ⟨g, 0, none⟩), .pointer (some ⟨r, 0, none⟩), (.agg #[.int .i64 a.kd, .int .i64 a.at_, .slice A2 a.b.length c2, .slice A3 a.keep.length c3])] w (fun e w' => ∃ g' r' vn1 vs1 vo1 rn1 rs1 ro1, e = .returned (.tuple #[.pointer (some ⟨g', 0, none⟩), .pointer (some ⟨r', 0, none⟩), .bool true]) ∧ FS w' b g' r' vn1 vs1 vo1 rn1 rs1 ro1 ((stepF s a).now) ((stepF s a).safe) ((stepF s a).ops) ∧ Fr w w' (Own3 g vo rn) (Own3 g' vo1 rn1) ∧ Below b w w') := by
  obtain ⟨h1, h2, h3, h4⟩ := hb
  have h5 : s.ops.length ≤ 500000 := by omega
  obtain ⟨kd, at_, bl, kp⟩ := a
  dsimp only at hl hc2 hst hkp ⊢
  unfold stepF
  dsimp only
  by_cases q0 : kd = 0
  · subst q0
    rw [if_pos rfl]
    by_cases qa : 0 ≤ at_ ∧ at_ ≤ 1048576 ∧ (bl.length : Int) ≤ 1048576 - at_
    · rw [if_pos qa]
      obtain ⟨q, rfl⟩ := Int.eq_ofNat_of_zero_le qa.1
      exact does_write b g r vn vs vo rn rs ro s.now s.safe s.ops A2 A3 bl.length c2 kp.length c3 w h q bl rfl hc2 hst hl (by omega) (by omega) h1 h5
    · rw [if_neg qa]
      exact does_write_bad b g r vn vs vo rn rs ro s.now s.safe s.ops A2 A3 bl.length c2 kp.length c3 w h at_ hl (by omega)
  · rw [if_neg q0]
    by_cases q1 : kd = 1
    · subst q1
      rw [if_pos rfl]
      by_cases qa : 0 ≤ at_ ∧ at_ ≤ 1048576
      · rw [if_pos qa]
        obtain ⟨q, rfl⟩ := Int.eq_ofNat_of_zero_le qa.1
        exact does_trunc b g r vn vs vo rn rs ro s.now s.safe s.ops A2 A3 bl.length c2 kp.length c3 w h q (by omega) h1 h5
      · rw [if_neg qa]
        exact does_trunc_bad b g r vn vs vo rn rs ro s.now s.safe s.ops A2 A3 bl.length c2 kp.length c3 w h at_ (by omega)
    · rw [if_neg q1]
      by_cases q2 : kd = 2
      · subst q2
        rw [if_pos rfl]
        exact does_sync b g r vn vs vo rn rs ro s.now s.safe s.ops A2 A3 bl.length c2 kp.length c3 w h at_ h1
      · rw [if_neg q2]
        exact does_crash b g r vn vs vo rn rs ro s.now s.safe s.ops A2 A3 bl.length c2 kp.length c3 w h kd at_ kp ⟨q0, q1, q2⟩ hkp h2 h3 (by omega)
end Go.Proofs.Ytpnbjpkdbiiogaa
