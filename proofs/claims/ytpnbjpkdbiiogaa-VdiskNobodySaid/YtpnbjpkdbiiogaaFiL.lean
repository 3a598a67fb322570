/- The reference's file: the walk of Write. -/
import Derived.Test.YtpnbjpkdbiiogaaFiK
namespace Go.Proofs.Ytpnbjpkdbiiogaa
set_option linter.unusedVariables false
open Go.RowKit Go.Proofs.YtpnbjpkdbiiogaaW.PrintWords
attribute [local go_sem] mx2 mn2 mxTwo mnTwo

theorem rwrite_bad (g : Nat) (k : Int) (A : Option Addr) (n c : Nat) (w : World) (hn : n ≤ 9223372036854775807) (hk : k < 0 ∨ 0 ≤ k ∧ 1048576 < k ∨ 0 ≤ k ∧ k ≤ 1048576 ∧ 1048576 - k < n) : Calls Try.prog 87 #[.pointer (some ⟨g, 0, none⟩), .int .i64 k, .slice A n c] w fun e w' => e = .returned (.int .i64 1) ∧ w' = w := by
  rcases hk with hk | ⟨hk, hk2⟩ | ⟨hk, hk2, hk3⟩
  · go_enter Try.func87, Try.ntmps87
    go_wp2
    go_ret
    exact ⟨rfl, rfl⟩
  · go_enter Try.func87, Try.ntmps87
    go_wp2
    go_ret
    exact ⟨rfl, rfl⟩
  · go_enter Try.func87, Try.ntmps87
    go_wp2
    go_ret
    exact ⟨rfl, rfl⟩
set_option maxHeartbeats 4000000 in
set_option maxRecDepth 100000 in
theorem rwrite_any (b g : Nat) (vn vs vo : Value) (now safe : List Int) (ops : List FOp) (k : Nat) (A : Option Addr) (n c : Nat) (l : List Int) (w : World) (h : RF w b g vn vs vo now safe ops)
    (hl : l.length = n) (hst : ∀ W', Keep3 w W' g vn.ownBlock vo.ownBlock → Below b w W' → Kd.C (Kd.int .u8) W' A n l) (hk : k ≤ 1048576) (hn : n + k ≤ 1048576) (hnow : now.length ≤ 1048576) (hops : ops.length ≤ 500000) :
    Calls Try.prog 87 #[.pointer (some ⟨g, 0, none⟩), .int .i64 (k : Int), .slice A n c] w fun e w' => e = .returned (.int .i64 0) ∧ ∃ vn' vo', RF w' b g vn' vs vo' (writeF (now, ops) k l).1 safe (writeF (now, ops) k l).2 ∧ (vn'.ownBlock = vn.ownBlock ∨ vn'.ownBlock = none ∨ ∃ k, vn'.ownBlock = some k ∧ w.heap.size ≤ k) ∧ Keep3 w w' g vn.ownBlock vo.ownBlock ∧ Below b w w' := by
  subst hl
  have hbw : b ≤ w.heap.size := Nat.le_trans h.hg (Nat.le_of_lt (blk_lt h.hb))
  obtain ⟨A1, c1, hvn⟩ := Kd.R_slice h.hn
  obtain ⟨A2, c2, hvo⟩ := Kd.R_slice h.ho
  have hC := C_own (hvn ▸ h.hn : Kd.R (Kd.int .u8) 5 w b (fun _ => True) (.slice A1 now.length c1) now)
  have hc0 := (blk_cell h.hb 0).trans (rfl : _ = some vn)
  rw [hvn] at hc0
  have HC := Aside0.mk hC
  have HST := Aside0.mk hst
  have HVN := Aside0.mk hvn
  have HVO := Aside0.mk hvo
  have H := Aside0.mk h
  clear h hst hvn hvo hC
  by_cases hgrow : 0 < l.length ∧ now.length < k + l.length
  · obtain ⟨hg1, hg2⟩ := hgrow
    go_enter Try.func87, Try.ntmps87
    go_wp2_with (first
      | (go_at_call 22; refine (rsize_any A1 now.length c1 now ((k : Int) + (l.length : Int)) _ HC.out (by omega) (by omega)).mono ?_; rintro e w1 ⟨A3, c3, hEE, hc3, hv, hb1⟩; rw [show ((k : Int) + (l.length : Int)).toNat = k + l.length by omega] at hEE hc3 hv; rw [show ((k : Int) + (l.length : Int)) = ((k + l.length : Nat) : Int) by omega] at hv; subst hEE; have hbk := blk_below H.out.hb hb1; have k0 := (blk_cell hbk 0).trans (rfl : _ = some vn); have k2 := (blk_cell hbk 2).trans (rfl : _ = some vo); rw [HVN.out] at k0; rw [HVO.out] at k2; have f0 := blk_frozen hbk 0; have f2 := blk_frozen hbk 2; obtain ⟨gN, cN, hE, hgNb, _, _⟩ := Kd.R_form hv (by rw [sizeL_length]; omega); rw [sizeL_length, Int.toNat_natCast] at hE; cases hE; have HNW := Aside0.mk (H.out.setNow hb1 hv); have HVB := Aside0.mk (Kd.R_base hv); have HVL := Aside0.mk (R_lt hv); have HB := Aside0.mk hb1; clear hv hb1 hbk)
      | (at_builtin; refine Kd.R_append kOp (w0 := _) b rfl (.tmp 53) (.tmp 59) 44 178 (.agg #[(.bool false), (.int .i64 0), (.slice none 0 0)]) 40 rfl Try.underlying44 infoRop rfl (by decide) (by omega) (.slice A2 ops.length c2) ops ⟨true, (k : Int) + (l.length : Int), []⟩ [.bool true, .int .i64 ((k : Int) + (l.length : Int)), .slice none 0 0] (fun q => some q ≠ (Value.slice (some ⟨gN, 0, none⟩) (k + l.length) c3).ownBlock) (fun _ => False) rfl (congrArg (fun s => Value.slice (some ⟨s, 0, none⟩) 1 1) (setsz w1 ⟨g, 0, none⟩ (.slice (some ⟨gN, 0, none⟩) (k + l.length) c3)).symm) (kOp_mkM _ _ _ ⟨true, (k : Int) + (l.length : Int), []⟩ (Kd.R_nil _ _ _ _ _)) (fun _ h => h.elim) (fun q hq e => absurd (HVL.out q e.symm) (by rw [setsz] at hq; omega)) (HVO.out ▸ HNW.out.ho) (Below.refl _ _) (Nat.le_trans hbw (by simpa using HB.out.size)) (by omega) ?_; intro v2 w2 ho2 hbl2 hgr2 hat2; obtain ⟨g2, c4, e4, _, _, _⟩ := Kd.R_form ho2 (by simp); rw [List.length_append, List.length_singleton] at e4; subst e4; rw [← HVO.out] at hgr2 hat2; have hb2 := blk_grown HNW.out.hb hgr2 (Kd.R_ne HNW.out.ho HNW.out.hb (by omega)); have k2' := (blk_cell hb2 2).trans (rfl : _ = some vo); rw [HVO.out] at k2'; have f2' := blk_frozen hb2 2; have HF := Aside0.mk (HNW.out.addOp ho2 hgr2); have HBL := Aside0.mk hbl2; have HGR := Aside0.mk hgr2; have HAT := Aside0.mk hat2; clear hb2 ho2 hbl2 hgr2 hat2))
    obtain ⟨W5, hW5⟩ : ∃ W5, W5 = w2.setCell ⟨g, 2, none⟩ (.slice (some ⟨g2, 0, none⟩) (ops.length + 1) c4) := ⟨_, rfl⟩
    have hk1 := (Keep3.refl w g vn.ownBlock vo.ownBlock).step (q1 := none) (q2 := none) (W' := w1) HB.out.size (fun i hi _ _ _ => HB.out.block i hi) (.inr (.inl rfl)) (.inr (.inl rfl))
    have hk2 := hk1.step (q1 := none) (q2 := none) (W' := w1.setCell ⟨g, 0, none⟩ (.slice (some ⟨gN, 0, none⟩) (k + l.length) c3)) (by simp) (fun i hi hg _ _ => Below.heap_setCell _ ⟨g, 0, none⟩ _ i hg) (.inr (.inl rfl)) (.inr (.inl rfl))
    have hk3 := hk2.step (q1 := none) (q2 := vo.ownBlock) (W' := w2) HGR.out.size (fun i hi _ _ h2 => HGR.out.block i hi h2) (.inr (.inl rfl)) (.inl rfl)
    have hk4 := hk3.step (q1 := none) (q2 := none) (W' := W5) (by rw [hW5, setsz]; exact Nat.le_refl _) (fun i hi hg _ _ => by rw [hW5]; exact Below.heap_setCell _ ⟨g, 2, none⟩ _ i hg) (.inr (.inl rfl)) (.inr (.inl rfl))
    have hl4 : Below b w W5 := by rw [hW5]; exact (((HB.out.mono hbw).setCell (p := ⟨g, 0, none⟩) H.out.hg _).trans HBL.out).setCell (p := ⟨g, 2, none⟩) H.out.hg _
    have hf5 := HF.out
    rw [← hW5, show (k : Int) + (l.length : Int) = ((k + l.length : Nat) : Int) by omega] at hf5
    rw [← hW5]
    clear hW5
    obtain ⟨N1, hN1⟩ : ∃ N1, N1 = sizeL now ((k + l.length : Nat) : Int) := ⟨_, rfl⟩
    obtain ⟨O1, hO1⟩ : ∃ O1, O1 = (ops ++ [⟨true, ((k + l.length : Nat) : Int), []⟩] : List FOp) := ⟨_, rfl⟩
    have hlN : N1.length = k + l.length := by rw [hN1, sizeL_length]; omega
    have hGW : growF (now, ops) k l.length = (N1, O1) := by unfold growF; rw [if_pos ⟨hg1, hg2⟩, hN1, hO1]
    have hn2 : O1.length ≤ 500001 := by rw [hO1, List.length_append, List.length_singleton]; omega
    rw [← hN1, ← hO1, ← hlN] at hf5
    have HW := Aside0.mk (RW.mk (v0 := vn) (u0 := vo) hf5 hk4 (.inr hgNb) (by
      rcases HAT.out with e | ⟨q, e, hq⟩
      · exact .inl e
      · exact .inr ⟨q, e, Nat.le_trans HB.out.size (by rw [setsz] at hq; exact hq)⟩) hl4)
    have HGW := Aside0.mk hGW
    have hroom : k + l.length ≤ N1.length := by omega
    have hn1 : N1.length ≤ 1048576 := by omega
    have HLN := Aside0.mk hlN
    clear hN1 hO1 hlN hGW hf5 hk1 hk2 hk3 hk4 hl4 HF HGR HAT HBL HB HNW HVB HVL k0 k2 f0 f2 k2' f2' hg2
    go_loopg [7, 8] l.length (fun q v7 v8 wr => ∃ (i : Nat) (vo' : Value) (now' : List Int) (ops' : List FOp), v7 = .int .i64 (i : Int) ∧ i ≤ l.length ∧ Aside0 (q = l.length - i) ∧ ops'.length ≤ 500001 + i ∧ Aside0 ((pieces (k + i) (l.drop i)).foldl putF (now', ops') = (pieces k l).foldl putF (N1, O1)) ∧ Aside0 (now' = overlay N1 k (l.take i)) ∧ Aside0 (RW w b g vn vo gN (N1).length c3 wr vs vo' now' safe ops'))
    case atStart => exact ⟨0, _, _, _, rfl, Nat.zero_le _, ⟨rfl⟩, hn2, ⟨rfl⟩, ⟨by rw [List.take_zero, overlay_nil]⟩, HW⟩
    case round =>
      clear HW hn2
      obtain ⟨i, vo', now', ops', rfl, hi, hq, hlo, HF, HN, HW⟩ := hrel
      by_cases hlt : i < l.length
      · obtain ⟨m, hm⟩ : ∃ m, m = min (64 - (k + i) % 64) (l.length - i) := ⟨_, rfl⟩
        have hm1 : 0 < m := by omega
        have hm2 : i + m ≤ l.length := by omega
        have hm3 : (k + i) % 64 + m ≤ 64 := by omega
        have hm4 : m = 64 - (k + i) % 64 ∨ m = l.length - i := by omega
        have HM := Aside0.mk hm
        clear hm
        go_wp2_with fail
        obtain ⟨wo, rfl⟩ : ∃ wo : World, wo = wr := ⟨_, rfl⟩
        have hlN1 : now'.length = (N1).length := by rw [HN.out, overlay_length (by omega)]
        go_loopg [7] m (fun q2 v7 wr2 => ∃ (p : Nat) (now2 : List Int), v7 = .int .i64 (p : Int) ∧ i ≤ p ∧ p ≤ i + m ∧ Aside0 (q2 = i + m - p) ∧ Aside0 (now2 = overlay now' (k + i) ((l.drop i).take (p - i))) ∧ Aside0 (RW w b g vn vo gN (N1).length c3 wr2 vs vo' now2 safe ops'))
        case atStart => exact ⟨i, now', rfl, Nat.le_refl _, Nat.le_add_right _ _, ⟨by omega⟩, ⟨by rw [Nat.sub_self, List.take_zero, overlay_nil]⟩, HW⟩
        case round =>
          clear HW
          obtain ⟨p, now2, rfl, hip, hpm, hq2, HN2, HW⟩ := hrel
          have hl2 : now2.length = (N1).length := by rw [HN2.out, overlay_length (by omega), hlN1]
          have s0 := (blk_cell HW.out.f.hb 0).trans (rfl : _ = some (Value.slice (some ⟨gN, 0, none⟩) (N1).length c3))
          by_cases hpm2 : p < i + m
          · have hpl : p < l.length := by omega
            have hpk : k + p < (N1).length := by omega
            have e1 : (((k : Int) + (p : Int)) / 64 == ((k : Int) + (i : Int)) / 64) = true := by rw [beq_iff_eq]; omega
            obtain ⟨ad, rfl, hx⟩ := at_nat (HST.out _ HW.out.k HW.out.l) p hpl
            obtain ⟨hc1', hc2'⟩ := R_cellN HW.out.f.hn (k + p) hpk
            have hset := HW.out.store (k + p) (rd l (p : Int))
            have hov := overlay_step (x := now') (y := l.drop i) (k := k + i) (i := p - i) (by omega) (by rw [List.length_drop]; omega)
            rw [show k + i + (p - i) = k + p by omega, show rd (l.drop i) ((p - i : Nat) : Int) = rd l (p : Int) by (unfold rd; rw [Int.toNat_natCast, Int.toNat_natCast, List.getD_eq_getElem?_getD, List.getD_eq_getElem?_getD, List.getElem?_drop, show i + (p - i) = p by omega]), ← HN2.out, show p - i + 1 = p + 1 - i by omega] at hov
            rw [← hov] at hset
            obtain ⟨x, hx2⟩ : ∃ x, x = rd l (p : Int) := ⟨_, rfl⟩
            rw [← hx2] at hset hx
            have HSET := Aside0.mk hset
            clear hset hx2 hov HW
            go_wp2_with fail
            go_region
            all_goals
              go_wp2_with fail
              go_roundg (i + m - (p + 1))
              case measure => have := hq2.out; omega
              case rel => exact ⟨p + 1, _, by go_num, by omega, by omega, ⟨rfl⟩, ⟨rfl⟩, ⟨HSET.out.below (below_drew1 (Below.refl _ _))⟩⟩
          · have hpE : p = i + m := by omega
            have hpi : p - i = m := by omega
            have hp1 : i < p := by omega
            have hp2 : p ≤ l.length := by omega
            rw [hpi] at HN2
            have hdl : ((l.drop i).take m).length = m := by rw [List.length_take, List.length_drop]; omega
            have hput := putF_at now' ops' (k + i) ((l.drop i).take m) (by rw [hdl]; omega) (by rw [hdl]; omega) (by omega)
            rw [← HN2.out, Int.natCast_add] at hput
            have hstep := pieces_step (k + i) (l.drop i) m (by rw [List.length_drop]; exact HM.out) (by rw [List.length_drop]; omega)
            rw [Int.natCast_add] at hstep
            have hF2 : (pieces (k + p) (l.drop p)).foldl putF (now2, ops' ++ [⟨false, ((k : Int) + (i : Int)) / 64, atL now2 (((k : Int) + (i : Int)) / 64)⟩]) = (pieces k l).foldl putF (N1, O1) := by
              rw [← HF.out, hstep, List.foldl_cons, hput, List.drop_drop, Nat.add_assoc, hpE]
            have hN2 : now2 = overlay N1 k (l.take p) := by
              rw [HN2.out, HN.out, hpE]
              have := overlay_two N1 (l.take (i + m)) k i (by rw [List.length_take]; omega) (by rw [List.length_take]; omega)
              rw [List.take_take, Nat.min_eq_left (by omega), List.drop_take, Nat.add_sub_cancel_left] at this
              exact this
            have HF2 := Aside0.mk hF2
            have HNN := Aside0.mk hN2
            obtain ⟨A11, c11, hvo⟩ := Kd.R_slice HW.out.f.ho
            have s2 := (blk_cell HW.out.f.hb 2).trans (rfl : _ = some vo')
            rw [hvo] at s2
            have z2 := blk_frozen HW.out.f.hb 2
            have hoA : Kd.R kOp 178 wr b (fun q => some q ≠ (Value.slice (some ⟨gN, 0, none⟩) (N1).length c3).ownBlock) (.slice A11 ops'.length c11) ops' := hvo ▸ HW.out.f.ho
            have HOA := Aside0.mk hoA
            have HFR := Aside0.mk (show ∀ q, wr.heap.size ≤ q → some q ≠ (Value.slice (some ⟨gN, 0, none⟩) (N1).length c3).ownBlock ∧ some q ≠ (Value.slice A11 ops'.length c11).ownBlock from fun q hq => ⟨fun e => by have := R_lt HW.out.f.hn q e.symm; omega, fun e => by have := R_lt hoA q e.symm; omega⟩)
            have HG0 := Aside0.mk (Kd.R_ne hoA HW.out.f.hb (by omega))
            have HBS := Aside0.mk (show b ≤ wr.heap.size from Nat.le_trans HW.out.f.hg (Nat.le_of_lt (blk_lt HW.out.f.hb)))
            have HVO2 := Aside0.mk hvo
            clear hput hstep hF2 hN2 hvo HF HN2 hoA hpi
            by_cases hend : p < l.length
            · have e2 : (((k : Int) + (p : Int)) / 64 == ((k : Int) + (i : Int)) / 64) = false := by rw [beq_eq_false_iff_ne]; omega
              clear hpE
              go_wp2_with fail
              go_region_law (first
                | (go_simp; go_at_call 24; refine (rat_any (some ⟨gN, 0, none⟩) (N1).length c3 now2 (((k : Int) + (i : Int)) / 64) _ (Kd.C_drew (C_own HW.out.f.hn)) (by omega)).mono ?_; rintro e w5 ⟨g5, c5, rfl, hc5, hg5, hv, hb⟩; replace s0 := pw_cell_below hb s0; replace s2 := pw_cell_below hb s2; have hw5 := (HW.out.below (below_drew1 (Below.refl _ _))).below hb; have z5 := blk_frozen hw5.f.hb 2; have s2a := cell_al (.cells #[.bool false, .int .i64 (((k : Int) + (i : Int)) / 64), .slice (some ⟨g5, 0, none⟩) 64 c5] 178) s2; have hd := freshU hv HBS.out (x := fun q => some q ≠ (Value.slice (some ⟨gN, 0, none⟩) (N1).length c3).ownBlock ∧ some q ≠ (Value.slice A11 ops'.length c11).ownBlock) (fun q hq => HFR.out q hq); have ho5 := Kd.R_below (Kd.R_drew HOA.out) hb; have hz5 := hb.size; have HD := Aside0.mk hd; have HO5 := Aside0.mk ho5; have HZ5 := Aside0.mk hz5; clear HW; have HW := Aside0.mk hw5; clear hv hb hw5 hd ho5 hz5)
                | ((refine Kd.R_append_step kOp (W := w5) (w0 := w5) b (by rfl) (.tmp 101) (.tmp 110) 44 178 (.agg #[(.bool false), (.int .i64 0), (.slice none 0 0)]) 40 rfl Try.underlying44 infoRop rfl (by decide) (by omega) (.slice A11 ops'.length c11) ops' ⟨false, ((k : Int) + (i : Int)) / 64, atL now2 (((k : Int) + (i : Int)) / 64)⟩ [.bool false, .int .i64 (((k : Int) + (i : Int)) / 64), .slice (some ⟨g5, 0, none⟩) 64 c5] (fun q => some q ≠ (Value.slice (some ⟨gN, 0, none⟩) (N1).length c3).ownBlock) (fun q => some q ≠ (Value.slice (some ⟨gN, 0, none⟩) (N1).length c3).ownBlock ∧ some q ≠ (Value.slice A11 ops'.length c11).ownBlock) (by rfl) (by rfl) (kOp_mkM _ _ _ ⟨false, ((k : Int) + (i : Int)) / 64, atL now2 (((k : Int) + (i : Int)) / 64)⟩ HD.out) (fun q hq => hq) (fun q hq => (HFR.out q (Nat.le_trans HZ5.out hq)).1) HO5.out (Below.refl _ _) (Nat.le_trans HBS.out HZ5.out) (by omega) ?_); intro v7 w7 ho7 hl7 hg7 hat7; obtain ⟨g7, c7', e7, _, _, _⟩ := Kd.R_form ho7 (by simp); rw [List.length_append, List.length_singleton] at e7; subst e7; have hb7 := blk_grown HW.out.f.hb hg7 HG0.out; have s7 := (blk_cell hb7 2).trans (rfl : _ = some vo'); rw [HVO2.out] at s7; have z7 := blk_frozen hb7 2; have HO7 := Aside0.mk ho7; have HL7 := Aside0.mk hl7; have HG7 := Aside0.mk hg7; have HAT7 := Aside0.mk hat7; clear ho7 hl7 hg7 hat7 hb7))
              all_goals
                go_wp2_with fail
                go_roundg (l.length - p)
                case measure => have := hq.out; omega
                case rel =>
                  have hg7 := HG7.out
                  have hat7 := HAT7.out
                  rw [← HVO2.out] at hg7 hat7
                  have hfin := HW.out.addOp HO7.out hg7 HL7.out hat7
                  exact ⟨p, _, _, _, rfl, hp2, ⟨rfl⟩, by rw [List.length_append, List.length_singleton]; omega, HF2, HNN, ⟨hfin⟩⟩
            · clear hpE
              go_wp2_with fail
              go_region_law (first
                | (go_simp; go_at_call 24; refine (rat_any (some ⟨gN, 0, none⟩) (N1).length c3 now2 (((k : Int) + (i : Int)) / 64) _ (Kd.C_drew (C_own HW.out.f.hn)) (by omega)).mono ?_; rintro e w5 ⟨g5, c5, rfl, hc5, hg5, hv, hb⟩; replace s0 := pw_cell_below hb s0; replace s2 := pw_cell_below hb s2; have hw5 := (HW.out.below (below_drew1 (Below.refl _ _))).below hb; have z5 := blk_frozen hw5.f.hb 2; have s2a := cell_al (.cells #[.bool false, .int .i64 (((k : Int) + (i : Int)) / 64), .slice (some ⟨g5, 0, none⟩) 64 c5] 178) s2; have hd := freshU hv HBS.out (x := fun q => some q ≠ (Value.slice (some ⟨gN, 0, none⟩) (N1).length c3).ownBlock ∧ some q ≠ (Value.slice A11 ops'.length c11).ownBlock) (fun q hq => HFR.out q hq); have ho5 := Kd.R_below (Kd.R_drew HOA.out) hb; have hz5 := hb.size; have HD := Aside0.mk hd; have HO5 := Aside0.mk ho5; have HZ5 := Aside0.mk hz5; clear HW; have HW := Aside0.mk hw5; clear hv hb hw5 hd ho5 hz5)
                | ((refine Kd.R_append_step kOp (W := w5) (w0 := w5) b (by rfl) (.tmp 101) (.tmp 110) 44 178 (.agg #[(.bool false), (.int .i64 0), (.slice none 0 0)]) 40 rfl Try.underlying44 infoRop rfl (by decide) (by omega) (.slice A11 ops'.length c11) ops' ⟨false, ((k : Int) + (i : Int)) / 64, atL now2 (((k : Int) + (i : Int)) / 64)⟩ [.bool false, .int .i64 (((k : Int) + (i : Int)) / 64), .slice (some ⟨g5, 0, none⟩) 64 c5] (fun q => some q ≠ (Value.slice (some ⟨gN, 0, none⟩) (N1).length c3).ownBlock) (fun q => some q ≠ (Value.slice (some ⟨gN, 0, none⟩) (N1).length c3).ownBlock ∧ some q ≠ (Value.slice A11 ops'.length c11).ownBlock) (by rfl) (by rfl) (kOp_mkM _ _ _ ⟨false, ((k : Int) + (i : Int)) / 64, atL now2 (((k : Int) + (i : Int)) / 64)⟩ HD.out) (fun q hq => hq) (fun q hq => (HFR.out q (Nat.le_trans HZ5.out hq)).1) HO5.out (Below.refl _ _) (Nat.le_trans HBS.out HZ5.out) (by omega) ?_); intro v7 w7 ho7 hl7 hg7 hat7; obtain ⟨g7, c7', e7, _, _, _⟩ := Kd.R_form ho7 (by simp); rw [List.length_append, List.length_singleton] at e7; subst e7; have hb7 := blk_grown HW.out.f.hb hg7 HG0.out; have s7 := (blk_cell hb7 2).trans (rfl : _ = some vo'); rw [HVO2.out] at s7; have z7 := blk_frozen hb7 2; have HO7 := Aside0.mk ho7; have HL7 := Aside0.mk hl7; have HG7 := Aside0.mk hg7; have HAT7 := Aside0.mk hat7; clear ho7 hl7 hg7 hat7 hb7))
              all_goals
                go_wp2_with fail
                go_roundg (l.length - p)
                case measure => have := hq.out; omega
                case rel =>
                  have hg7 := HG7.out
                  have hat7 := HAT7.out
                  rw [← HVO2.out] at hg7 hat7
                  have hfin := HW.out.addOp HO7.out hg7 HL7.out hat7
                  exact ⟨p, _, _, _, rfl, hp2, ⟨rfl⟩, by rw [List.length_append, List.length_singleton]; omega, HF2, HNN, ⟨hfin⟩⟩
      · obtain rfl : i = l.length := by omega
        go_wp2_with fail
        go_ret
        have e : writeF (now, ops) k l = (now', ops') := by
          unfold writeF
          rw [HGW.out, ← HF.out, List.drop_length, pieces_nil]
          rfl
        rw [e]
        refine ⟨rfl, _, _, HW.out.f, ?_, HW.out.k, HW.out.l⟩
        rcases HW.out.v with h | h
        · exact .inl h
        · exact .inr (.inr ⟨_, rfl, h⟩)
  · have hgw : growF (now, ops) k l.length = (now, ops) := by unfold growF; rw [if_neg hgrow]
    have HGW := Aside0.mk hgw
    clear hgw
    by_cases h0 : 0 < l.length
    · have hroom : k + l.length ≤ now.length := by
        have hng : now.length < k + l.length → False := fun h => hgrow ⟨h0, h⟩
        omega
      have hn1 := hnow
      have hn2 : ops.length ≤ 500001 := by omega
      have h2 := H.out
      obtain ⟨gN, cN, hE, hgNb, _, _⟩ := Kd.R_form h2.hn (by omega)
      have hvE : vn = .slice (some ⟨gN, 0, none⟩) now.length cN := hE
      rw [hvE] at h2 ⊢
      rw [hvE] at HST
      have HW := Aside0.mk (RW.mk (v0 := .slice (some ⟨gN, 0, none⟩) now.length cN) (u0 := vo) h2 (Keep3.refl _ _ _ _) (.inl rfl) (.inl rfl) (Below.refl _ _))
      have hc2 := (blk_cell h2.hb 0).trans (rfl : _ = some (Value.slice (some ⟨gN, 0, none⟩) now.length cN))
      clear hgrow h2 HC hc0 hE hvE H HVN
      go_enter Try.func87, Try.ntmps87
      go_wp2_with fail
      go_loopg [7, 8] l.length (fun q v7 v8 wr => ∃ (i : Nat) (vo' : Value) (now' : List Int) (ops' : List FOp), v7 = .int .i64 (i : Int) ∧ i ≤ l.length ∧ Aside0 (q = l.length - i) ∧ ops'.length ≤ 500001 + i ∧ Aside0 ((pieces (k + i) (l.drop i)).foldl putF (now', ops') = (pieces k l).foldl putF (now, ops)) ∧ Aside0 (now' = overlay now k (l.take i)) ∧ Aside0 (RW w b g (.slice (some ⟨gN, 0, none⟩) now.length cN) vo gN (now).length cN wr vs vo' now' safe ops'))
      case atStart => exact ⟨0, _, _, _, rfl, Nat.zero_le _, ⟨rfl⟩, hn2, ⟨rfl⟩, ⟨by rw [List.take_zero, overlay_nil]⟩, HW⟩
      case round =>
        clear HW hn2
        obtain ⟨i, vo', now', ops', rfl, hi, hq, hlo, HF, HN, HW⟩ := hrel
        by_cases hlt : i < l.length
        · obtain ⟨m, hm⟩ : ∃ m, m = min (64 - (k + i) % 64) (l.length - i) := ⟨_, rfl⟩
          have hm1 : 0 < m := by omega
          have hm2 : i + m ≤ l.length := by omega
          have hm3 : (k + i) % 64 + m ≤ 64 := by omega
          have hm4 : m = 64 - (k + i) % 64 ∨ m = l.length - i := by omega
          have HM := Aside0.mk hm
          clear hm
          go_wp2_with fail
          obtain ⟨wo, rfl⟩ : ∃ wo : World, wo = wr := ⟨_, rfl⟩
          have hlN1 : now'.length = (now).length := by rw [HN.out, overlay_length (by omega)]
          go_loopg [7] m (fun q2 v7 wr2 => ∃ (p : Nat) (now2 : List Int), v7 = .int .i64 (p : Int) ∧ i ≤ p ∧ p ≤ i + m ∧ Aside0 (q2 = i + m - p) ∧ Aside0 (now2 = overlay now' (k + i) ((l.drop i).take (p - i))) ∧ Aside0 (RW w b g (.slice (some ⟨gN, 0, none⟩) now.length cN) vo gN (now).length cN wr2 vs vo' now2 safe ops'))
          case atStart => exact ⟨i, now', rfl, Nat.le_refl _, Nat.le_add_right _ _, ⟨by omega⟩, ⟨by rw [Nat.sub_self, List.take_zero, overlay_nil]⟩, HW⟩
          case round =>
            clear HW
            obtain ⟨p, now2, rfl, hip, hpm, hq2, HN2, HW⟩ := hrel
            have hl2 : now2.length = (now).length := by rw [HN2.out, overlay_length (by omega), hlN1]
            have s0 := (blk_cell HW.out.f.hb 0).trans (rfl : _ = some (Value.slice (some ⟨gN, 0, none⟩) (now).length cN))
            by_cases hpm2 : p < i + m
            · have hpl : p < l.length := by omega
              have hpk : k + p < (now).length := by omega
              have e1 : (((k : Int) + (p : Int)) / 64 == ((k : Int) + (i : Int)) / 64) = true := by rw [beq_iff_eq]; omega
              obtain ⟨ad, rfl, hx⟩ := at_nat (HST.out _ HW.out.k HW.out.l) p hpl
              obtain ⟨hc1', hc2'⟩ := R_cellN HW.out.f.hn (k + p) hpk
              have hset := HW.out.store (k + p) (rd l (p : Int))
              have hov := overlay_step (x := now') (y := l.drop i) (k := k + i) (i := p - i) (by omega) (by rw [List.length_drop]; omega)
              rw [show k + i + (p - i) = k + p by omega, show rd (l.drop i) ((p - i : Nat) : Int) = rd l (p : Int) by (unfold rd; rw [Int.toNat_natCast, Int.toNat_natCast, List.getD_eq_getElem?_getD, List.getD_eq_getElem?_getD, List.getElem?_drop, show i + (p - i) = p by omega]), ← HN2.out, show p - i + 1 = p + 1 - i by omega] at hov
              rw [← hov] at hset
              obtain ⟨x, hx2⟩ : ∃ x, x = rd l (p : Int) := ⟨_, rfl⟩
              rw [← hx2] at hset hx
              have HSET := Aside0.mk hset
              clear hset hx2 hov HW
              go_wp2_with fail
              go_region
              all_goals
                go_wp2_with fail
                go_roundg (i + m - (p + 1))
                case measure => have := hq2.out; omega
                case rel => exact ⟨p + 1, _, by go_num, by omega, by omega, ⟨rfl⟩, ⟨rfl⟩, ⟨HSET.out.below (below_drew1 (Below.refl _ _))⟩⟩
            · have hpE : p = i + m := by omega
              have hpi : p - i = m := by omega
              have hp1 : i < p := by omega
              have hp2 : p ≤ l.length := by omega
              rw [hpi] at HN2
              have hdl : ((l.drop i).take m).length = m := by rw [List.length_take, List.length_drop]; omega
              have hput := putF_at now' ops' (k + i) ((l.drop i).take m) (by rw [hdl]; omega) (by rw [hdl]; omega) (by omega)
              rw [← HN2.out, Int.natCast_add] at hput
              have hstep := pieces_step (k + i) (l.drop i) m (by rw [List.length_drop]; exact HM.out) (by rw [List.length_drop]; omega)
              rw [Int.natCast_add] at hstep
              have hF2 : (pieces (k + p) (l.drop p)).foldl putF (now2, ops' ++ [⟨false, ((k : Int) + (i : Int)) / 64, atL now2 (((k : Int) + (i : Int)) / 64)⟩]) = (pieces k l).foldl putF (now, ops) := by
                rw [← HF.out, hstep, List.foldl_cons, hput, List.drop_drop, Nat.add_assoc, hpE]
              have hN2 : now2 = overlay now k (l.take p) := by
                rw [HN2.out, HN.out, hpE]
                have := overlay_two now (l.take (i + m)) k i (by rw [List.length_take]; omega) (by rw [List.length_take]; omega)
                rw [List.take_take, Nat.min_eq_left (by omega), List.drop_take, Nat.add_sub_cancel_left] at this
                exact this
              have HF2 := Aside0.mk hF2
              have HNN := Aside0.mk hN2
              obtain ⟨A11, c11, hvo⟩ := Kd.R_slice HW.out.f.ho
              have s2 := (blk_cell HW.out.f.hb 2).trans (rfl : _ = some vo')
              rw [hvo] at s2
              have z2 := blk_frozen HW.out.f.hb 2
              have hoA : Kd.R kOp 178 wr b (fun q => some q ≠ (Value.slice (some ⟨gN, 0, none⟩) (now).length cN).ownBlock) (.slice A11 ops'.length c11) ops' := hvo ▸ HW.out.f.ho
              have HOA := Aside0.mk hoA
              have HFR := Aside0.mk (show ∀ q, wr.heap.size ≤ q → some q ≠ (Value.slice (some ⟨gN, 0, none⟩) (now).length cN).ownBlock ∧ some q ≠ (Value.slice A11 ops'.length c11).ownBlock from fun q hq => ⟨fun e => by have := R_lt HW.out.f.hn q e.symm; omega, fun e => by have := R_lt hoA q e.symm; omega⟩)
              have HG0 := Aside0.mk (Kd.R_ne hoA HW.out.f.hb (by omega))
              have HBS := Aside0.mk (show b ≤ wr.heap.size from Nat.le_trans HW.out.f.hg (Nat.le_of_lt (blk_lt HW.out.f.hb)))
              have HVO2 := Aside0.mk hvo
              clear hput hstep hF2 hN2 hvo HF HN2 hoA hpi
              by_cases hend : p < l.length
              · have e2 : (((k : Int) + (p : Int)) / 64 == ((k : Int) + (i : Int)) / 64) = false := by rw [beq_eq_false_iff_ne]; omega
                clear hpE
                go_wp2_with fail
                go_region_law (first
                  | (go_simp; go_at_call 24; refine (rat_any (some ⟨gN, 0, none⟩) (now).length cN now2 (((k : Int) + (i : Int)) / 64) _ (Kd.C_drew (C_own HW.out.f.hn)) (by omega)).mono ?_; rintro e w5 ⟨g5, c5, rfl, hc5, hg5, hv, hb⟩; replace s0 := pw_cell_below hb s0; replace s2 := pw_cell_below hb s2; have hw5 := (HW.out.below (below_drew1 (Below.refl _ _))).below hb; have z5 := blk_frozen hw5.f.hb 2; have s2a := cell_al (.cells #[.bool false, .int .i64 (((k : Int) + (i : Int)) / 64), .slice (some ⟨g5, 0, none⟩) 64 c5] 178) s2; have hd := freshU hv HBS.out (x := fun q => some q ≠ (Value.slice (some ⟨gN, 0, none⟩) (now).length cN).ownBlock ∧ some q ≠ (Value.slice A11 ops'.length c11).ownBlock) (fun q hq => HFR.out q hq); have ho5 := Kd.R_below (Kd.R_drew HOA.out) hb; have hz5 := hb.size; have HD := Aside0.mk hd; have HO5 := Aside0.mk ho5; have HZ5 := Aside0.mk hz5; clear HW; have HW := Aside0.mk hw5; clear hv hb hw5 hd ho5 hz5)
                  | ((refine Kd.R_append_step kOp (W := w5) (w0 := w5) b (by rfl) (.tmp 101) (.tmp 110) 44 178 (.agg #[(.bool false), (.int .i64 0), (.slice none 0 0)]) 40 rfl Try.underlying44 infoRop rfl (by decide) (by omega) (.slice A11 ops'.length c11) ops' ⟨false, ((k : Int) + (i : Int)) / 64, atL now2 (((k : Int) + (i : Int)) / 64)⟩ [.bool false, .int .i64 (((k : Int) + (i : Int)) / 64), .slice (some ⟨g5, 0, none⟩) 64 c5] (fun q => some q ≠ (Value.slice (some ⟨gN, 0, none⟩) (now).length cN).ownBlock) (fun q => some q ≠ (Value.slice (some ⟨gN, 0, none⟩) (now).length cN).ownBlock ∧ some q ≠ (Value.slice A11 ops'.length c11).ownBlock) (by rfl) (by rfl) (kOp_mkM _ _ _ ⟨false, ((k : Int) + (i : Int)) / 64, atL now2 (((k : Int) + (i : Int)) / 64)⟩ HD.out) (fun q hq => hq) (fun q hq => (HFR.out q (Nat.le_trans HZ5.out hq)).1) HO5.out (Below.refl _ _) (Nat.le_trans HBS.out HZ5.out) (by omega) ?_); intro v7 w7 ho7 hl7 hg7 hat7; obtain ⟨g7, c7', e7, _, _, _⟩ := Kd.R_form ho7 (by simp); rw [List.length_append, List.length_singleton] at e7; subst e7; have hb7 := blk_grown HW.out.f.hb hg7 HG0.out; have s7 := (blk_cell hb7 2).trans (rfl : _ = some vo'); rw [HVO2.out] at s7; have z7 := blk_frozen hb7 2; have HO7 := Aside0.mk ho7; have HL7 := Aside0.mk hl7; have HG7 := Aside0.mk hg7; have HAT7 := Aside0.mk hat7; clear ho7 hl7 hg7 hat7 hb7))
                all_goals
                  go_wp2_with fail
                  go_roundg (l.length - p)
                  case measure => have := hq.out; omega
                  case rel =>
                    have hg7 := HG7.out
                    have hat7 := HAT7.out
                    rw [← HVO2.out] at hg7 hat7
                    have hfin := HW.out.addOp HO7.out hg7 HL7.out hat7
                    exact ⟨p, _, _, _, rfl, hp2, ⟨rfl⟩, by rw [List.length_append, List.length_singleton]; omega, HF2, HNN, ⟨hfin⟩⟩
              · clear hpE
                go_wp2_with fail
                go_region_law (first
                  | (go_simp; go_at_call 24; refine (rat_any (some ⟨gN, 0, none⟩) (now).length cN now2 (((k : Int) + (i : Int)) / 64) _ (Kd.C_drew (C_own HW.out.f.hn)) (by omega)).mono ?_; rintro e w5 ⟨g5, c5, rfl, hc5, hg5, hv, hb⟩; replace s0 := pw_cell_below hb s0; replace s2 := pw_cell_below hb s2; have hw5 := (HW.out.below (below_drew1 (Below.refl _ _))).below hb; have z5 := blk_frozen hw5.f.hb 2; have s2a := cell_al (.cells #[.bool false, .int .i64 (((k : Int) + (i : Int)) / 64), .slice (some ⟨g5, 0, none⟩) 64 c5] 178) s2; have hd := freshU hv HBS.out (x := fun q => some q ≠ (Value.slice (some ⟨gN, 0, none⟩) (now).length cN).ownBlock ∧ some q ≠ (Value.slice A11 ops'.length c11).ownBlock) (fun q hq => HFR.out q hq); have ho5 := Kd.R_below (Kd.R_drew HOA.out) hb; have hz5 := hb.size; have HD := Aside0.mk hd; have HO5 := Aside0.mk ho5; have HZ5 := Aside0.mk hz5; clear HW; have HW := Aside0.mk hw5; clear hv hb hw5 hd ho5 hz5)
                  | ((refine Kd.R_append_step kOp (W := w5) (w0 := w5) b (by rfl) (.tmp 101) (.tmp 110) 44 178 (.agg #[(.bool false), (.int .i64 0), (.slice none 0 0)]) 40 rfl Try.underlying44 infoRop rfl (by decide) (by omega) (.slice A11 ops'.length c11) ops' ⟨false, ((k : Int) + (i : Int)) / 64, atL now2 (((k : Int) + (i : Int)) / 64)⟩ [.bool false, .int .i64 (((k : Int) + (i : Int)) / 64), .slice (some ⟨g5, 0, none⟩) 64 c5] (fun q => some q ≠ (Value.slice (some ⟨gN, 0, none⟩) (now).length cN).ownBlock) (fun q => some q ≠ (Value.slice (some ⟨gN, 0, none⟩) (now).length cN).ownBlock ∧ some q ≠ (Value.slice A11 ops'.length c11).ownBlock) (by rfl) (by rfl) (kOp_mkM _ _ _ ⟨false, ((k : Int) + (i : Int)) / 64, atL now2 (((k : Int) + (i : Int)) / 64)⟩ HD.out) (fun q hq => hq) (fun q hq => (HFR.out q (Nat.le_trans HZ5.out hq)).1) HO5.out (Below.refl _ _) (Nat.le_trans HBS.out HZ5.out) (by omega) ?_); intro v7 w7 ho7 hl7 hg7 hat7; obtain ⟨g7, c7', e7, _, _, _⟩ := Kd.R_form ho7 (by simp); rw [List.length_append, List.length_singleton] at e7; subst e7; have hb7 := blk_grown HW.out.f.hb hg7 HG0.out; have s7 := (blk_cell hb7 2).trans (rfl : _ = some vo'); rw [HVO2.out] at s7; have z7 := blk_frozen hb7 2; have HO7 := Aside0.mk ho7; have HL7 := Aside0.mk hl7; have HG7 := Aside0.mk hg7; have HAT7 := Aside0.mk hat7; clear ho7 hl7 hg7 hat7 hb7))
                all_goals
                  go_wp2_with fail
                  go_roundg (l.length - p)
                  case measure => have := hq.out; omega
                  case rel =>
                    have hg7 := HG7.out
                    have hat7 := HAT7.out
                    rw [← HVO2.out] at hg7 hat7
                    have hfin := HW.out.addOp HO7.out hg7 HL7.out hat7
                    exact ⟨p, _, _, _, rfl, hp2, ⟨rfl⟩, by rw [List.length_append, List.length_singleton]; omega, HF2, HNN, ⟨hfin⟩⟩
        · obtain rfl : i = l.length := by omega
          go_wp2_with fail
          go_ret
          have e : writeF (now, ops) k l = (now', ops') := by
            unfold writeF
            rw [HGW.out, ← HF.out, List.drop_length, pieces_nil]
            rfl
          rw [e]
          refine ⟨rfl, _, _, HW.out.f, ?_, HW.out.k, HW.out.l⟩
          rcases HW.out.v with h | h
          · exact .inl h
          · exact .inr (.inr ⟨_, rfl, h⟩)
    · obtain rfl := List.eq_nil_of_length_eq_zero (show l.length = 0 by omega)
      have HWN := Aside0.mk (show writeF (now, ops) k [] = (now, ops) by unfold writeF; rw [pieces_nil]; exact HGW.out)
      clear hgrow h0
      go_enter Try.func87, Try.ntmps87
      go_wp2_with fail
      refine wp_loop_rounds 1 ?_
      rw [rounds_succ]
      go_wp2_with fail
      go_ret
      rw [HWN.out]
      exact ⟨rfl, _, _, H.out, .inl rfl, Keep3.refl _ _ _ _, Below.refl _ _⟩
end Go.Proofs.Ytpnbjpkdbiiogaa
