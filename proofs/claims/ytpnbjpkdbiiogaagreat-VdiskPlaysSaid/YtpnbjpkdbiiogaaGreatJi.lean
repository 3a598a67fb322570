/- The reference's file once more: Write. -/
import Derived.Test.YtpnbjpkdbiiogaaGreatJh
namespace Go.Proofs.YtpnbjpkdbiiogaaGreat
set_option linter.unusedVariables false
open Go.RowKit Go.Proofs.YtpnbjpkdbiiogaaGreatW.PrintWords
attribute [local go_sem] mx2 mn2 mxTwo mnTwo

theorem RX.store {W : World} {b g gN n c : Nat} {px : Nat → Prop} {vs vo : Value} {now safe : List Int} {ops : List FOp} (h : RX W b g px (.slice (some ⟨gN, 0, none⟩) n c) vs vo now safe ops) (j : Nat) (x : Int) : RX (W.setCell ⟨gN, j, none⟩ (.int .u8 x)) b g px (.slice (some ⟨gN, 0, none⟩) n c) vs vo (now.set j x) safe ops := by
  have hne : g ≠ gN := fun e => by
    have := Kd.R_ne h.hn h.hb (by omega)
    exact this (by rw [e]; rfl)
  have hk : ∀ k, some k ≠ (Value.slice (some ⟨gN, 0, none⟩) n c).ownBlock → k ≠ gN := fun k hk e => hk (by rw [e]; rfl)
  exact ⟨blk_far h.hb (p := ⟨gN, j, none⟩) hne _, R_putN h.hn j x, Kd.R_far h.hs (p := ⟨gN, j, none⟩) (fun k hq => hk k hq.2) _, Kd.R_far h.ho (p := ⟨gN, j, none⟩) (fun k hq => hk k hq.2) _, h.hg, fun k hq => h.hx k (by rw [setsz] at hq; exact hq)⟩
structure RXW (w : World) (b g : Nat) (px : Nat → Prop) (v0 u0 : Value) (gN n c : Nat) (W : World) (vs vo : Value) (now safe : List Int) (ops : List FOp) : Prop where
  f : RX W b g px (.slice (some ⟨gN, 0, none⟩) n c) vs vo now safe ops
  k : Keep3 w W g v0.ownBlock u0.ownBlock
  v : some gN = v0.ownBlock ∨ w.heap.size ≤ gN
  u : vo.ownBlock = u0.ownBlock ∨ ∃ k, vo.ownBlock = some k ∧ w.heap.size ≤ k
  l : Below b w W
section
variable {w W W1 : World} {b g gN n c : Nat} {px : Nat → Prop} {v0 u0 vs vo v1 : Value} {now safe : List Int} {ops : List FOp} {o : FOp}
theorem RXW.below (h : RXW w b g px v0 u0 gN n c W vs vo now safe ops) (hb : Below W.heap.size W W1) : RXW w b g px v0 u0 gN n c W1 vs vo now safe ops :=
  ⟨h.f.below hb, h.k.step (q1 := none) (q2 := none) hb.size (fun i hi _ _ _ => hb.block i hi) (.inr (.inl rfl)) (.inr (.inl rfl)), h.v, h.u, h.l.trans (hb.mono (Nat.le_trans h.f.hg (Nat.le_of_lt (blk_lt h.f.hb))))⟩
theorem RXW.store (h : RXW w b g px v0 u0 gN n c W vs vo now safe ops) (j : Nat) (x : Int) : RXW w b g px v0 u0 gN n c (W.setCell ⟨gN, j, none⟩ (.int .u8 x)) vs vo (now.set j x) safe ops := by
  refine ⟨h.f.store j x, h.k.step (q1 := some gN) (q2 := none) (by simp) (fun i hi _ h1 _ => Below.heap_setCell W ⟨gN, j, none⟩ _ i (fun e => h1 (by rw [e]))) ?_ (.inr (.inl rfl)), h.v, h.u, h.l.setCell (p := ⟨gN, j, none⟩) (Kd.R_base h.f.hn gN rfl) _⟩
  rcases h.v with e | e
  · exact .inl e
  · exact .inr (.inr ⟨gN, rfl, e⟩)
theorem RXW.addOp (h : RXW w b g px v0 u0 gN n c W vs vo now safe ops) (ho : Kd.R kOp 142 W1 b (fun k => px k ∧ some k ≠ (Value.slice (some ⟨gN, 0, none⟩) n c).ownBlock) v1 (ops ++ [o])) (hg : W.grownBy W1 vo.ownBlock) (hl : Below b W W1) (hat : v1.ownBlock = vo.ownBlock ∨ ∃ k, v1.ownBlock = some k ∧ W.heap.size ≤ k) : RXW w b g px v0 u0 gN n c (W1.setCell ⟨g, 2, none⟩ v1) vs v1 now safe (ops ++ [o]) := by
  refine ⟨h.f.addOp ho hg, h.k.step (q1 := none) (q2 := vo.ownBlock) (by simp; exact hg.size) (fun i hi hne _ h2 => (Below.heap_setCell W1 ⟨g, 2, none⟩ v1 i hne).trans (hg.block i hi h2)) (.inr (.inl rfl)) ?_, h.v, ?_, (h.l.trans hl).setCell (p := ⟨g, 2, none⟩) h.f.hg _⟩
  · rcases h.u with e | e
    · exact .inl e
    · exact .inr (.inr e)
  · rcases hat with e | ⟨k, e, hk⟩
    · rw [e]; exact h.u
    · exact .inr ⟨k, e, Nat.le_trans h.k.1 hk⟩
end
set_option maxHeartbeats 4000000 in
set_option maxRecDepth 100000 in
theorem xwrite_any (b g : Nat) (px : Nat → Prop) (vn vs vo : Value) (now safe : List Int) (ops : List FOp) (k : Nat) (A : Option Addr) (n c : Nat) (l : List Int) (w : World) (h : RX w b g px vn vs vo now safe ops)
    (hl : l.length = n) (hst : ∀ W', Keep3 w W' g vn.ownBlock vo.ownBlock → Below b w W' → Kd.C (Kd.int .u8) W' A n l) (hk : k ≤ 1048576) (hn : n + k ≤ 1048576) (hnow : now.length ≤ 1048576) (hops : ops.length ≤ 500000) :
    Calls Tryz.prog 65 #[.pointer (some ⟨g, 0, none⟩), .int .i64 (k : Int), .slice A n c] w fun e w' => e = .returned (.int .i64 0) ∧ ∃ vn' vo', RX w' b g px vn' vs vo' (writeF (now, ops) k l).1 safe (writeF (now, ops) k l).2 ∧ (vn'.ownBlock = vn.ownBlock ∨ vn'.ownBlock = none ∨ ∃ k, vn'.ownBlock = some k ∧ w.heap.size ≤ k) ∧ (vo'.ownBlock = vo.ownBlock ∨ ∃ k, vo'.ownBlock = some k ∧ w.heap.size ≤ k) ∧ Keep3 w w' g vn.ownBlock vo.ownBlock ∧ Below b w w' := by
  subst hl
  have hbw : b ≤ w.heap.size := Nat.le_trans h.hg (Nat.le_of_lt (blk_lt h.hb))
  obtain ⟨A1, c1, hvn⟩ := Kd.R_slice h.hn
  obtain ⟨A2, c2, hvo⟩ := Kd.R_slice h.ho
  have hC := C_own (hvn ▸ h.hn : Kd.R (Kd.int .u8) 5 w b px (.slice A1 now.length c1) now)
  have hc0 := (blk_cell h.hb 0).trans (rfl : _ = some vn)
  rw [hvn] at hc0
  have HC := Aside0.mk hC
  have HST := Aside0.mk hst
  have HVN := Aside0.mk hvn
  have HVO := Aside0.mk hvo
  have H := Aside0.mk h
  clear h hst hvn hvo hC
  by_cases hgrow : 0 < l.length ∧ now.length < k + l.length
  · obtain ⟨hg1, hg2⟩ := hgrow
    go_enter Tryz.func65, Tryz.ntmps65
    go_wp2_with (first
      | (go_at_call 95; refine (rsize_any A1 now.length c1 now ((k : Int) + (l.length : Int)) _ HC.out (by omega) (by omega)).mono ?_; rintro e w1 ⟨A3, c3, hEE, hc3, hv, hb1⟩; rw [show ((k : Int) + (l.length : Int)).toNat = k + l.length by omega] at hEE hc3 hv; rw [show ((k : Int) + (l.length : Int)) = ((k + l.length : Nat) : Int) by omega] at hv; subst hEE; have hbk := blk_below H.out.hb hb1; have k0 := (blk_cell hbk 0).trans (rfl : _ = some vn); have k2 := (blk_cell hbk 2).trans (rfl : _ = some vo); rw [HVN.out] at k0; rw [HVO.out] at k2; have f0 := blk_frozen hbk 0; have f2 := blk_frozen hbk 2; obtain ⟨gN, cN, hE, hgNb, _, _⟩ := Kd.R_form hv (by rw [sizeL_length]; omega); rw [sizeL_length, Int.toNat_natCast] at hE; cases hE; have HNW := Aside0.mk (H.out.setNow hb1 hv); have HVB := Aside0.mk (Kd.R_base hv); have HVL := Aside0.mk (R_lt hv); have HB := Aside0.mk hb1; clear hv hb1 hbk)
      | (at_builtin; refine Kd.R_append kOp (w0 := _) b rfl (.tmp 53) (.tmp 59) 58 142 (.agg #[(.bool false), (.int .i64 0), (.slice none 0 0)]) 40 rfl Tryz.underlying58 infoRop rfl (by decide) (by omega) (.slice A2 ops.length c2) ops ⟨true, (k : Int) + (l.length : Int), []⟩ [.bool true, .int .i64 ((k : Int) + (l.length : Int)), .slice none 0 0] (fun q => px q ∧ some q ≠ (Value.slice (some ⟨gN, 0, none⟩) (k + l.length) c3).ownBlock) (fun _ => False) rfl (congrArg (fun s => Value.slice (some ⟨s, 0, none⟩) 1 1) (setsz w1 ⟨g, 0, none⟩ (.slice (some ⟨gN, 0, none⟩) (k + l.length) c3)).symm) (kOp_mkM _ _ _ ⟨true, (k : Int) + (l.length : Int), []⟩ (Kd.R_nil _ _ _ _ _)) (fun _ h => h.elim) (fun q hq => ⟨H.out.hx q (by rw [setsz] at hq; exact Nat.le_trans HB.out.size hq), fun e => absurd (HVL.out q e.symm) (by rw [setsz] at hq; omega)⟩) (HVO.out ▸ HNW.out.ho) (Below.refl _ _) (Nat.le_trans hbw (by simpa using HB.out.size)) (by omega) ?_; intro v2 w2 ho2 hbl2 hgr2 hat2; obtain ⟨g2, c4, e4, _, _, _⟩ := Kd.R_form ho2 (by simp); rw [List.length_append, List.length_singleton] at e4; subst e4; rw [← HVO.out] at hgr2 hat2; have hb2 := blk_grown HNW.out.hb hgr2 (Kd.R_ne HNW.out.ho HNW.out.hb (by omega)); have k2' := (blk_cell hb2 2).trans (rfl : _ = some vo); rw [HVO.out] at k2'; have f2' := blk_frozen hb2 2; have HF := Aside0.mk (HNW.out.addOp ho2 hgr2); have HBL := Aside0.mk hbl2; have HGR := Aside0.mk hgr2; have HAT := Aside0.mk hat2; clear hb2 ho2 hbl2 hgr2 hat2))
    obtain ⟨W5, hW5⟩ : ∃ W5, W5 = w2.setCell ⟨g, 2, none⟩ (.slice (some ⟨g2, 0, none⟩) (ops.length + 1) c4) := ⟨_, rfl⟩
    have hk1 := (Keep3.refl w g vn.ownBlock vo.ownBlock).step (q1 := none) (q2 := none) (W' := w1) HB.out.size (fun i hi _ _ _ => HB.out.block i hi) (.inr (.inl rfl)) (.inr (.inl rfl))
    have hk2 := hk1.step (q1 := none) (q2 := none) (W' := w1.setCell ⟨g, 0, none⟩ (.slice (some ⟨gN, 0, none⟩) (k + l.length) c3)) (by simp) (fun i hi hg _ _ => Below.heap_setCell _ ⟨g, 0, none⟩ _ i hg) (.inr (.inl rfl)) (.inr (.inl rfl))
    have hk3 := hk2.step (q1 := none) (q2 := vo.ownBlock) (W' := w2) HGR.out.size (fun i hi _ _ h2 => HGR.out.block i hi h2) (.inr (.inl rfl)) (.inl rfl)
    have hk4 := hk3.step (q1 := none) (q2 := none) (W' := W5) (by rw [hW5, setsz]; exact Nat.le_refl _) (fun i hi hg _ _ => by rw [hW5]; exact Below.heap_setCell _ ⟨g, 2, none⟩ _ i hg) (.inr (.inl rfl)) (.inr (.inl rfl))
    have hl4 : Below b w W5 := by rw [hW5]; exact (((HB.out.mono hbw).setCell (p := ⟨g, 0, none⟩) H.out.hg _).trans HBL.out).setCell (p := ⟨g, 2, none⟩) H.out.hg _
    have hf5 := HF.out
    rw [← hW5, show (k : Int) + (l.length : Int) = ((k + l.length : Nat) : Int) by omega] at hf5
    rw [← hW5]
    clear hW5
    obtain ⟨N1, hN1⟩ : ∃ N1, N1 = sizeL now ((k + l.length : Nat) : Int) := ⟨_, rfl⟩
    obtain ⟨O1, hO1⟩ : ∃ O1, O1 = (ops ++ [⟨true, ((k + l.length : Nat) : Int), []⟩] : List FOp) := ⟨_, rfl⟩
    have hlN : N1.length = k + l.length := by rw [hN1, sizeL_length]; omega
    have hGW : growF (now, ops) k l.length = (N1, O1) := by unfold growF; rw [if_pos ⟨hg1, hg2⟩, hN1, hO1]
    have hn2 : O1.length ≤ 500001 := by rw [hO1, List.length_append, List.length_singleton]; omega
    rw [← hN1, ← hO1, ← hlN] at hf5
    have HW := Aside0.mk (RXW.mk (v0 := vn) (u0 := vo) hf5 hk4 (.inr hgNb) (by
      rcases HAT.out with e | ⟨q, e, hq⟩
      · exact .inl e
      · exact .inr ⟨q, e, Nat.le_trans HB.out.size (by rw [setsz] at hq; exact hq)⟩) hl4)
    have HGW := Aside0.mk hGW
    have hroom : k + l.length ≤ N1.length := by omega
    have hn1 : N1.length ≤ 1048576 := by omega
    have HLN := Aside0.mk hlN
    clear hN1 hO1 hlN hGW hf5 hk1 hk2 hk3 hk4 hl4 HF HGR HAT HBL HB HNW HVB HVL k0 k2 f0 f2 k2' f2' hg2
    go_loopg [7, 8] l.length (fun q v7 v8 wr => ∃ (i : Nat) (vo' : Value) (now' : List Int) (ops' : List FOp), v7 = .int .i64 (i : Int) ∧ i ≤ l.length ∧ Aside0 (q = l.length - i) ∧ ops'.length ≤ 500001 + i ∧ Aside0 ((pieces (k + i) (l.drop i)).foldl putF (now', ops') = (pieces k l).foldl putF (N1, O1)) ∧ Aside0 (now' = overlay N1 k (l.take i)) ∧ Aside0 (RXW w b g px vn vo gN (N1).length c3 wr vs vo' now' safe ops'))
    case atStart => exact ⟨0, _, _, _, rfl, Nat.zero_le _, ⟨rfl⟩, hn2, ⟨rfl⟩, ⟨by rw [List.take_zero, overlay_nil]⟩, HW⟩
    case round =>
      clear HW hn2
      obtain ⟨i, vo', now', ops', rfl, hi, hq, hlo, HF, HN, HW⟩ := hrel
      by_cases hlt : i < l.length
      · obtain ⟨m, hm⟩ : ∃ m, m = min (64 - (k + i) % 64) (l.length - i) := ⟨_, rfl⟩
        have hm1 : 0 < m := by omega
        have hm2 : i + m ≤ l.length := by omega
        have hm3 : (k + i) % 64 + m ≤ 64 := by omega
        have hm4 : m = 64 - (k + i) % 64 ∨ m = l.length - i := by omega
        have HM := Aside0.mk hm
        clear hm
        go_wp2_with fail
        obtain ⟨wo, rfl⟩ : ∃ wo : World, wo = wr := ⟨_, rfl⟩
        have hlN1 : now'.length = (N1).length := by rw [HN.out, overlay_length (by omega)]
        go_loopg [7] m (fun q2 v7 wr2 => ∃ (p : Nat) (now2 : List Int), v7 = .int .i64 (p : Int) ∧ i ≤ p ∧ p ≤ i + m ∧ Aside0 (q2 = i + m - p) ∧ Aside0 (now2 = overlay now' (k + i) ((l.drop i).take (p - i))) ∧ Aside0 (RXW w b g px vn vo gN (N1).length c3 wr2 vs vo' now2 safe ops'))
        case atStart => exact ⟨i, now', rfl, Nat.le_refl _, Nat.le_add_right _ _, ⟨by omega⟩, ⟨by rw [Nat.sub_self, List.take_zero, overlay_nil]⟩, HW⟩
        case round =>
          clear HW
          obtain ⟨p, now2, rfl, hip, hpm, hq2, HN2, HW⟩ := hrel
          have hl2 : now2.length = (N1).length := by rw [HN2.out, overlay_length (by omega), hlN1]
          have s0 := (blk_cell HW.out.f.hb 0).trans (rfl : _ = some (Value.slice (some ⟨gN, 0, none⟩) (N1).length c3))
          by_cases hpm2 : p < i + m
          · have hpl : p < l.length := by omega
            have hpk : k + p < (N1).length := by omega
            have e1 : (((k : Int) + (p : Int)) / 64 == ((k : Int) + (i : Int)) / 64) = true := by rw [beq_iff_eq]; omega
            obtain ⟨ad, rfl, hx⟩ := at_nat (HST.out _ HW.out.k HW.out.l) p hpl
            obtain ⟨hc1', hc2'⟩ := R_cellN HW.out.f.hn (k + p) hpk
            have hset := HW.out.store (k + p) (rd l (p : Int))
            have hov := overlay_step (x := now') (y := l.drop i) (k := k + i) (i := p - i) (by omega) (by rw [List.length_drop]; omega)
            rw [show k + i + (p - i) = k + p by omega, show rd (l.drop i) ((p - i : Nat) : Int) = rd l (p : Int) by (unfold rd; rw [Int.toNat_natCast, Int.toNat_natCast, List.getD_eq_getElem?_getD, List.getD_eq_getElem?_getD, List.getElem?_drop, show i + (p - i) = p by omega]), ← HN2.out, show p - i + 1 = p + 1 - i by omega] at hov
            rw [← hov] at hset
            obtain ⟨x, hx2⟩ : ∃ x, x = rd l (p : Int) := ⟨_, rfl⟩
            rw [← hx2] at hset hx
            have HSET := Aside0.mk hset
            clear hset hx2 hov HW
            go_wp2_with fail
            go_region
            all_goals
              go_wp2_with fail
              go_roundg (i + m - (p + 1))
              case measure => have := hq2.out; omega
              case rel => exact ⟨p + 1, _, by go_num, by omega, by omega, ⟨rfl⟩, ⟨rfl⟩, ⟨HSET.out.below (below_drew1 (Below.refl _ _))⟩⟩
          · have hpE : p = i + m := by omega
            have hpi : p - i = m := by omega
            have hp1 : i < p := by omega
            have hp2 : p ≤ l.length := by omega
            rw [hpi] at HN2
            have hdl : ((l.drop i).take m).length = m := by rw [List.length_take, List.length_drop]; omega
            have hput := putF_at now' ops' (k + i) ((l.drop i).take m) (by rw [hdl]; omega) (by rw [hdl]; omega) (by omega)
            rw [← HN2.out, Int.natCast_add] at hput
            have hstep := pieces_step (k + i) (l.drop i) m (by rw [List.length_drop]; exact HM.out) (by rw [List.length_drop]; omega)
            rw [Int.natCast_add] at hstep
            have hF2 : (pieces (k + p) (l.drop p)).foldl putF (now2, ops' ++ [⟨false, ((k : Int) + (i : Int)) / 64, atL now2 (((k : Int) + (i : Int)) / 64)⟩]) = (pieces k l).foldl putF (N1, O1) := by
              rw [← HF.out, hstep, List.foldl_cons, hput, List.drop_drop, Nat.add_assoc, hpE]
            have hN2 : now2 = overlay N1 k (l.take p) := by
              rw [HN2.out, HN.out, hpE]
              have := overlay_two N1 (l.take (i + m)) k i (by rw [List.length_take]; omega) (by rw [List.length_take]; omega)
              rw [List.take_take, Nat.min_eq_left (by omega), List.drop_take, Nat.add_sub_cancel_left] at this
              exact this
            have HF2 := Aside0.mk hF2
            have HNN := Aside0.mk hN2
            obtain ⟨A11, c11, hvo⟩ := Kd.R_slice HW.out.f.ho
            have s2 := (blk_cell HW.out.f.hb 2).trans (rfl : _ = some vo')
            rw [hvo] at s2
            have z2 := blk_frozen HW.out.f.hb 2
            have hoA : Kd.R kOp 142 wr b (fun q => px q ∧ some q ≠ (Value.slice (some ⟨gN, 0, none⟩) (N1).length c3).ownBlock) (.slice A11 ops'.length c11) ops' := hvo ▸ HW.out.f.ho
            have HOA := Aside0.mk hoA
            have HFR := Aside0.mk (show ∀ q, wr.heap.size ≤ q → (px q ∧ some q ≠ (Value.slice (some ⟨gN, 0, none⟩) (N1).length c3).ownBlock) ∧ some q ≠ (Value.slice A11 ops'.length c11).ownBlock from fun q hq => ⟨⟨HW.out.f.hx q hq, fun e => by have := R_lt HW.out.f.hn q e.symm; omega⟩, fun e => by have := R_lt hoA q e.symm; omega⟩)
            have HG0 := Aside0.mk (Kd.R_ne hoA HW.out.f.hb (by omega))
            have HBS := Aside0.mk (show b ≤ wr.heap.size from Nat.le_trans HW.out.f.hg (Nat.le_of_lt (blk_lt HW.out.f.hb)))
            have HVO2 := Aside0.mk hvo
            clear hput hstep hF2 hN2 hvo HF HN2 hoA hpi
            by_cases hend : p < l.length
            · have e2 : (((k : Int) + (p : Int)) / 64 == ((k : Int) + (i : Int)) / 64) = false := by rw [beq_eq_false_iff_ne]; omega
              clear hpE
              go_wp2_with fail
              go_region_law (first
                | (go_simp; go_at_call 96; refine (rat_any (some ⟨gN, 0, none⟩) (N1).length c3 now2 (((k : Int) + (i : Int)) / 64) _ (Kd.C_drew (C_own HW.out.f.hn)) (by omega)).mono ?_; rintro e w5 ⟨g5, c5, rfl, hc5, hg5, hv, hb⟩; replace s0 := pw_cell_below hb s0; replace s2 := pw_cell_below hb s2; have hw5 := (HW.out.below (below_drew1 (Below.refl _ _))).below hb; have z5 := blk_frozen hw5.f.hb 2; have s2a := cell_al (.cells #[.bool false, .int .i64 (((k : Int) + (i : Int)) / 64), .slice (some ⟨g5, 0, none⟩) 64 c5] 142) s2; have hd := freshU hv HBS.out (x := fun q => (px q ∧ some q ≠ (Value.slice (some ⟨gN, 0, none⟩) (N1).length c3).ownBlock) ∧ some q ≠ (Value.slice A11 ops'.length c11).ownBlock) (fun q hq => HFR.out q hq); have ho5 := Kd.R_below (Kd.R_drew HOA.out) hb; have hz5 := hb.size; have HD := Aside0.mk hd; have HO5 := Aside0.mk ho5; have HZ5 := Aside0.mk hz5; clear HW; have HW := Aside0.mk hw5; clear hv hb hw5 hd ho5 hz5)
                | ((refine Kd.R_append_step kOp (W := w5) (w0 := w5) b (by rfl) (.tmp 101) (.tmp 110) 58 142 (.agg #[(.bool false), (.int .i64 0), (.slice none 0 0)]) 40 rfl Tryz.underlying58 infoRop rfl (by decide) (by omega) (.slice A11 ops'.length c11) ops' ⟨false, ((k : Int) + (i : Int)) / 64, atL now2 (((k : Int) + (i : Int)) / 64)⟩ [.bool false, .int .i64 (((k : Int) + (i : Int)) / 64), .slice (some ⟨g5, 0, none⟩) 64 c5] (fun q => px q ∧ some q ≠ (Value.slice (some ⟨gN, 0, none⟩) (N1).length c3).ownBlock) (fun q => (px q ∧ some q ≠ (Value.slice (some ⟨gN, 0, none⟩) (N1).length c3).ownBlock) ∧ some q ≠ (Value.slice A11 ops'.length c11).ownBlock) (by rfl) (by rfl) (kOp_mkM _ _ _ ⟨false, ((k : Int) + (i : Int)) / 64, atL now2 (((k : Int) + (i : Int)) / 64)⟩ HD.out) (fun q hq => hq) (fun q hq => (HFR.out q (Nat.le_trans HZ5.out hq)).1) HO5.out (Below.refl _ _) (Nat.le_trans HBS.out HZ5.out) (by omega) ?_); intro v7 w7 ho7 hl7 hg7 hat7; obtain ⟨g7, c7', e7, _, _, _⟩ := Kd.R_form ho7 (by simp); rw [List.length_append, List.length_singleton] at e7; subst e7; have hb7 := blk_grown HW.out.f.hb hg7 HG0.out; have s7 := (blk_cell hb7 2).trans (rfl : _ = some vo'); rw [HVO2.out] at s7; have z7 := blk_frozen hb7 2; have HO7 := Aside0.mk ho7; have HL7 := Aside0.mk hl7; have HG7 := Aside0.mk hg7; have HAT7 := Aside0.mk hat7; clear ho7 hl7 hg7 hat7 hb7))
              all_goals
                go_wp2_with fail
                go_roundg (l.length - p)
                case measure => have := hq.out; omega
                case rel =>
                  have hg7 := HG7.out
                  have hat7 := HAT7.out
                  rw [← HVO2.out] at hg7 hat7
                  have hfin := HW.out.addOp HO7.out hg7 HL7.out hat7
                  exact ⟨p, _, _, _, rfl, hp2, ⟨rfl⟩, by rw [List.length_append, List.length_singleton]; omega, HF2, HNN, ⟨hfin⟩⟩
            · clear hpE
              go_wp2_with fail
              go_region_law (first
                | (go_simp; go_at_call 96; refine (rat_any (some ⟨gN, 0, none⟩) (N1).length c3 now2 (((k : Int) + (i : Int)) / 64) _ (Kd.C_drew (C_own HW.out.f.hn)) (by omega)).mono ?_; rintro e w5 ⟨g5, c5, rfl, hc5, hg5, hv, hb⟩; replace s0 := pw_cell_below hb s0; replace s2 := pw_cell_below hb s2; have hw5 := (HW.out.below (below_drew1 (Below.refl _ _))).below hb; have z5 := blk_frozen hw5.f.hb 2; have s2a := cell_al (.cells #[.bool false, .int .i64 (((k : Int) + (i : Int)) / 64), .slice (some ⟨g5, 0, none⟩) 64 c5] 142) s2; have hd := freshU hv HBS.out (x := fun q => (px q ∧ some q ≠ (Value.slice (some ⟨gN, 0, none⟩) (N1).length c3).ownBlock) ∧ some q ≠ (Value.slice A11 ops'.length c11).ownBlock) (fun q hq => HFR.out q hq); have ho5 := Kd.R_below (Kd.R_drew HOA.out) hb; have hz5 := hb.size; have HD := Aside0.mk hd; have HO5 := Aside0.mk ho5; have HZ5 := Aside0.mk hz5; clear HW; have HW := Aside0.mk hw5; clear hv hb hw5 hd ho5 hz5)
                | ((refine Kd.R_append_step kOp (W := w5) (w0 := w5) b (by rfl) (.tmp 101) (.tmp 110) 58 142 (.agg #[(.bool false), (.int .i64 0), (.slice none 0 0)]) 40 rfl Tryz.underlying58 infoRop rfl (by decide) (by omega) (.slice A11 ops'.length c11) ops' ⟨false, ((k : Int) + (i : Int)) / 64, atL now2 (((k : Int) + (i : Int)) / 64)⟩ [.bool false, .int .i64 (((k : Int) + (i : Int)) / 64), .slice (some ⟨g5, 0, none⟩) 64 c5] (fun q => px q ∧ some q ≠ (Value.slice (some ⟨gN, 0, none⟩) (N1).length c3).ownBlock) (fun q => (px q ∧ some q ≠ (Value.slice (some ⟨gN, 0, none⟩) (N1).length c3).ownBlock) ∧ some q ≠ (Value.slice A11 ops'.length c11).ownBlock) (by rfl) (by rfl) (kOp_mkM _ _ _ ⟨false, ((k : Int) + (i : Int)) / 64, atL now2 (((k : Int) + (i : Int)) / 64)⟩ HD.out) (fun q hq => hq) (fun q hq => (HFR.out q (Nat.le_trans HZ5.out hq)).1) HO5.out (Below.refl _ _) (Nat.le_trans HBS.out HZ5.out) (by omega) ?_); intro v7 w7 ho7 hl7 hg7 hat7; obtain ⟨g7, c7', e7, _, _, _⟩ := Kd.R_form ho7 (by simp); rw [List.length_append, List.length_singleton] at e7; subst e7; have hb7 := blk_grown HW.out.f.hb hg7 HG0.out; have s7 := (blk_cell hb7 2).trans (rfl : _ = some vo'); rw [HVO2.out] at s7; have z7 := blk_frozen hb7 2; have HO7 := Aside0.mk ho7; have HL7 := Aside0.mk hl7; have HG7 := Aside0.mk hg7; have HAT7 := Aside0.mk hat7; clear ho7 hl7 hg7 hat7 hb7))
              all_goals
                go_wp2_with fail
                go_roundg (l.length - p)
                case measure => have := hq.out; omega
                case rel =>
                  have hg7 := HG7.out
                  have hat7 := HAT7.out
                  rw [← HVO2.out] at hg7 hat7
                  have hfin := HW.out.addOp HO7.out hg7 HL7.out hat7
                  exact ⟨p, _, _, _, rfl, hp2, ⟨rfl⟩, by rw [List.length_append, List.length_singleton]; omega, HF2, HNN, ⟨hfin⟩⟩
      · obtain rfl : i = l.length := by omega
        go_wp2_with fail
        go_ret
        have e : writeF (now, ops) k l = (now', ops') := by
          unfold writeF
          rw [HGW.out, ← HF.out, List.drop_length, pieces_nil]
          rfl
        rw [e]
        refine ⟨rfl, _, _, HW.out.f, ?_, HW.out.u, HW.out.k, HW.out.l⟩
        rcases HW.out.v with h | h
        · exact .inl h
        · exact .inr (.inr ⟨_, rfl, h⟩)
  · have hgw : growF (now, ops) k l.length = (now, ops) := by unfold growF; rw [if_neg hgrow]
    have HGW := Aside0.mk hgw
    clear hgw
    by_cases h0 : 0 < l.length
    · have hroom : k + l.length ≤ now.length := by
        have hng : now.length < k + l.length → False := fun h => hgrow ⟨h0, h⟩
        omega
      have hn1 := hnow
      have hn2 : ops.length ≤ 500001 := by omega
      have h2 := H.out
      obtain ⟨gN, cN, hE, hgNb, _, _⟩ := Kd.R_form h2.hn (by omega)
      have hvE : vn = .slice (some ⟨gN, 0, none⟩) now.length cN := hE
      rw [hvE] at h2 ⊢
      rw [hvE] at HST
      have HW := Aside0.mk (RXW.mk (v0 := .slice (some ⟨gN, 0, none⟩) now.length cN) (u0 := vo) h2 (Keep3.refl _ _ _ _) (.inl rfl) (.inl rfl) (Below.refl _ _))
      have hc2 := (blk_cell h2.hb 0).trans (rfl : _ = some (Value.slice (some ⟨gN, 0, none⟩) now.length cN))
      clear hgrow h2 HC hc0 hE hvE H HVN
      go_enter Tryz.func65, Tryz.ntmps65
      go_wp2_with fail
      go_loopg [7, 8] l.length (fun q v7 v8 wr => ∃ (i : Nat) (vo' : Value) (now' : List Int) (ops' : List FOp), v7 = .int .i64 (i : Int) ∧ i ≤ l.length ∧ Aside0 (q = l.length - i) ∧ ops'.length ≤ 500001 + i ∧ Aside0 ((pieces (k + i) (l.drop i)).foldl putF (now', ops') = (pieces k l).foldl putF (now, ops)) ∧ Aside0 (now' = overlay now k (l.take i)) ∧ Aside0 (RXW w b g px (.slice (some ⟨gN, 0, none⟩) now.length cN) vo gN (now).length cN wr vs vo' now' safe ops'))
      case atStart => exact ⟨0, _, _, _, rfl, Nat.zero_le _, ⟨rfl⟩, hn2, ⟨rfl⟩, ⟨by rw [List.take_zero, overlay_nil]⟩, HW⟩
      case round =>
        clear HW hn2
        obtain ⟨i, vo', now', ops', rfl, hi, hq, hlo, HF, HN, HW⟩ := hrel
        by_cases hlt : i < l.length
        · obtain ⟨m, hm⟩ : ∃ m, m = min (64 - (k + i) % 64) (l.length - i) := ⟨_, rfl⟩
          have hm1 : 0 < m := by omega
          have hm2 : i + m ≤ l.length := by omega
          have hm3 : (k + i) % 64 + m ≤ 64 := by omega
          have hm4 : m = 64 - (k + i) % 64 ∨ m = l.length - i := by omega
          have HM := Aside0.mk hm
          clear hm
          go_wp2_with fail
          obtain ⟨wo, rfl⟩ : ∃ wo : World, wo = wr := ⟨_, rfl⟩
          have hlN1 : now'.length = (now).length := by rw [HN.out, overlay_length (by omega)]
          go_loopg [7] m (fun q2 v7 wr2 => ∃ (p : Nat) (now2 : List Int), v7 = .int .i64 (p : Int) ∧ i ≤ p ∧ p ≤ i + m ∧ Aside0 (q2 = i + m - p) ∧ Aside0 (now2 = overlay now' (k + i) ((l.drop i).take (p - i))) ∧ Aside0 (RXW w b g px (.slice (some ⟨gN, 0, none⟩) now.length cN) vo gN (now).length cN wr2 vs vo' now2 safe ops'))
          case atStart => exact ⟨i, now', rfl, Nat.le_refl _, Nat.le_add_right _ _, ⟨by omega⟩, ⟨by rw [Nat.sub_self, List.take_zero, overlay_nil]⟩, HW⟩
          case round =>
            clear HW
            obtain ⟨p, now2, rfl, hip, hpm, hq2, HN2, HW⟩ := hrel
            have hl2 : now2.length = (now).length := by rw [HN2.out, overlay_length (by omega), hlN1]
            have s0 := (blk_cell HW.out.f.hb 0).trans (rfl : _ = some (Value.slice (some ⟨gN, 0, none⟩) (now).length cN))
            by_cases hpm2 : p < i + m
            · have hpl : p < l.length := by omega
              have hpk : k + p < (now).length := by omega
              have e1 : (((k : Int) + (p : Int)) / 64 == ((k : Int) + (i : Int)) / 64) = true := by rw [beq_iff_eq]; omega
              obtain ⟨ad, rfl, hx⟩ := at_nat (HST.out _ HW.out.k HW.out.l) p hpl
              obtain ⟨hc1', hc2'⟩ := R_cellN HW.out.f.hn (k + p) hpk
              have hset := HW.out.store (k + p) (rd l (p : Int))
              have hov := overlay_step (x := now') (y := l.drop i) (k := k + i) (i := p - i) (by omega) (by rw [List.length_drop]; omega)
              rw [show k + i + (p - i) = k + p by omega, show rd (l.drop i) ((p - i : Nat) : Int) = rd l (p : Int) by (unfold rd; rw [Int.toNat_natCast, Int.toNat_natCast, List.getD_eq_getElem?_getD, List.getD_eq_getElem?_getD, List.getElem?_drop, show i + (p - i) = p by omega]), ← HN2.out, show p - i + 1 = p + 1 - i by omega] at hov
              rw [← hov] at hset
              obtain ⟨x, hx2⟩ : ∃ x, x = rd l (p : Int) := ⟨_, rfl⟩
              rw [← hx2] at hset hx
              have HSET := Aside0.mk hset
              clear hset hx2 hov HW
              go_wp2_with fail
              go_region
              all_goals
                go_wp2_with fail
                go_roundg (i + m - (p + 1))
                case measure => have := hq2.out; omega
                case rel => exact ⟨p + 1, _, by go_num, by omega, by omega, ⟨rfl⟩, ⟨rfl⟩, ⟨HSET.out.below (below_drew1 (Below.refl _ _))⟩⟩
            · have hpE : p = i + m := by omega
              have hpi : p - i = m := by omega
              have hp1 : i < p := by omega
              have hp2 : p ≤ l.length := by omega
              rw [hpi] at HN2
              have hdl : ((l.drop i).take m).length = m := by rw [List.length_take, List.length_drop]; omega
              have hput := putF_at now' ops' (k + i) ((l.drop i).take m) (by rw [hdl]; omega) (by rw [hdl]; omega) (by omega)
              rw [← HN2.out, Int.natCast_add] at hput
              have hstep := pieces_step (k + i) (l.drop i) m (by rw [List.length_drop]; exact HM.out) (by rw [List.length_drop]; omega)
              rw [Int.natCast_add] at hstep
              have hF2 : (pieces (k + p) (l.drop p)).foldl putF (now2, ops' ++ [⟨false, ((k : Int) + (i : Int)) / 64, atL now2 (((k : Int) + (i : Int)) / 64)⟩]) = (pieces k l).foldl putF (now, ops) := by
                rw [← HF.out, hstep, List.foldl_cons, hput, List.drop_drop, Nat.add_assoc, hpE]
              have hN2 : now2 = overlay now k (l.take p) := by
                rw [HN2.out, HN.out, hpE]
                have := overlay_two now (l.take (i + m)) k i (by rw [List.length_take]; omega) (by rw [List.length_take]; omega)
                rw [List.take_take, Nat.min_eq_left (by omega), List.drop_take, Nat.add_sub_cancel_left] at this
                exact this
              have HF2 := Aside0.mk hF2
              have HNN := Aside0.mk hN2
              obtain ⟨A11, c11, hvo⟩ := Kd.R_slice HW.out.f.ho
              have s2 := (blk_cell HW.out.f.hb 2).trans (rfl : _ = some vo')
              rw [hvo] at s2
              have z2 := blk_frozen HW.out.f.hb 2
              have hoA : Kd.R kOp 142 wr b (fun q => px q ∧ some q ≠ (Value.slice (some ⟨gN, 0, none⟩) (now).length cN).ownBlock) (.slice A11 ops'.length c11) ops' := hvo ▸ HW.out.f.ho
              have HOA := Aside0.mk hoA
              have HFR := Aside0.mk (show ∀ q, wr.heap.size ≤ q → (px q ∧ some q ≠ (Value.slice (some ⟨gN, 0, none⟩) (now).length cN).ownBlock) ∧ some q ≠ (Value.slice A11 ops'.length c11).ownBlock from fun q hq => ⟨⟨HW.out.f.hx q hq, fun e => by have := R_lt HW.out.f.hn q e.symm; omega⟩, fun e => by have := R_lt hoA q e.symm; omega⟩)
              have HG0 := Aside0.mk (Kd.R_ne hoA HW.out.f.hb (by omega))
              have HBS := Aside0.mk (show b ≤ wr.heap.size from Nat.le_trans HW.out.f.hg (Nat.le_of_lt (blk_lt HW.out.f.hb)))
              have HVO2 := Aside0.mk hvo
              clear hput hstep hF2 hN2 hvo HF HN2 hoA hpi
              by_cases hend : p < l.length
              · have e2 : (((k : Int) + (p : Int)) / 64 == ((k : Int) + (i : Int)) / 64) = false := by rw [beq_eq_false_iff_ne]; omega
                clear hpE
                go_wp2_with fail
                go_region_law (first
                  | (go_simp; go_at_call 96; refine (rat_any (some ⟨gN, 0, none⟩) (now).length cN now2 (((k : Int) + (i : Int)) / 64) _ (Kd.C_drew (C_own HW.out.f.hn)) (by omega)).mono ?_; rintro e w5 ⟨g5, c5, rfl, hc5, hg5, hv, hb⟩; replace s0 := pw_cell_below hb s0; replace s2 := pw_cell_below hb s2; have hw5 := (HW.out.below (below_drew1 (Below.refl _ _))).below hb; have z5 := blk_frozen hw5.f.hb 2; have s2a := cell_al (.cells #[.bool false, .int .i64 (((k : Int) + (i : Int)) / 64), .slice (some ⟨g5, 0, none⟩) 64 c5] 142) s2; have hd := freshU hv HBS.out (x := fun q => (px q ∧ some q ≠ (Value.slice (some ⟨gN, 0, none⟩) (now).length cN).ownBlock) ∧ some q ≠ (Value.slice A11 ops'.length c11).ownBlock) (fun q hq => HFR.out q hq); have ho5 := Kd.R_below (Kd.R_drew HOA.out) hb; have hz5 := hb.size; have HD := Aside0.mk hd; have HO5 := Aside0.mk ho5; have HZ5 := Aside0.mk hz5; clear HW; have HW := Aside0.mk hw5; clear hv hb hw5 hd ho5 hz5)
                  | ((refine Kd.R_append_step kOp (W := w5) (w0 := w5) b (by rfl) (.tmp 101) (.tmp 110) 58 142 (.agg #[(.bool false), (.int .i64 0), (.slice none 0 0)]) 40 rfl Tryz.underlying58 infoRop rfl (by decide) (by omega) (.slice A11 ops'.length c11) ops' ⟨false, ((k : Int) + (i : Int)) / 64, atL now2 (((k : Int) + (i : Int)) / 64)⟩ [.bool false, .int .i64 (((k : Int) + (i : Int)) / 64), .slice (some ⟨g5, 0, none⟩) 64 c5] (fun q => px q ∧ some q ≠ (Value.slice (some ⟨gN, 0, none⟩) (now).length cN).ownBlock) (fun q => (px q ∧ some q ≠ (Value.slice (some ⟨gN, 0, none⟩) (now).length cN).ownBlock) ∧ some q ≠ (Value.slice A11 ops'.length c11).ownBlock) (by rfl) (by rfl) (kOp_mkM _ _ _ ⟨false, ((k : Int) + (i : Int)) / 64, atL now2 (((k : Int) + (i : Int)) / 64)⟩ HD.out) (fun q hq => hq) (fun q hq => (HFR.out q (Nat.le_trans HZ5.out hq)).1) HO5.out (Below.refl _ _) (Nat.le_trans HBS.out HZ5.out) (by omega) ?_); intro v7 w7 ho7 hl7 hg7 hat7; obtain ⟨g7, c7', e7, _, _, _⟩ := Kd.R_form ho7 (by simp); rw [List.length_append, List.length_singleton] at e7; subst e7; have hb7 := blk_grown HW.out.f.hb hg7 HG0.out; have s7 := (blk_cell hb7 2).trans (rfl : _ = some vo'); rw [HVO2.out] at s7; have z7 := blk_frozen hb7 2; have HO7 := Aside0.mk ho7; have HL7 := Aside0.mk hl7; have HG7 := Aside0.mk hg7; have HAT7 := Aside0.mk hat7; clear ho7 hl7 hg7 hat7 hb7))
                all_goals
                  go_wp2_with fail
                  go_roundg (l.length - p)
                  case measure => have := hq.out; omega
                  case rel =>
                    have hg7 := HG7.out
                    have hat7 := HAT7.out
                    rw [← HVO2.out] at hg7 hat7
                    have hfin := HW.out.addOp HO7.out hg7 HL7.out hat7
                    exact ⟨p, _, _, _, rfl, hp2, ⟨rfl⟩, by rw [List.length_append, List.length_singleton]; omega, HF2, HNN, ⟨hfin⟩⟩
              · clear hpE
                go_wp2_with fail
                go_region_law (first
                  | (go_simp; go_at_call 96; refine (rat_any (some ⟨gN, 0, none⟩) (now).length cN now2 (((k : Int) + (i : Int)) / 64) _ (Kd.C_drew (C_own HW.out.f.hn)) (by omega)).mono ?_; rintro e w5 ⟨g5, c5, rfl, hc5, hg5, hv, hb⟩; replace s0 := pw_cell_below hb s0; replace s2 := pw_cell_below hb s2; have hw5 := (HW.out.below (below_drew1 (Below.refl _ _))).below hb; have z5 := blk_frozen hw5.f.hb 2; have s2a := cell_al (.cells #[.bool false, .int .i64 (((k : Int) + (i : Int)) / 64), .slice (some ⟨g5, 0, none⟩) 64 c5] 142) s2; have hd := freshU hv HBS.out (x := fun q => (px q ∧ some q ≠ (Value.slice (some ⟨gN, 0, none⟩) (now).length cN).ownBlock) ∧ some q ≠ (Value.slice A11 ops'.length c11).ownBlock) (fun q hq => HFR.out q hq); have ho5 := Kd.R_below (Kd.R_drew HOA.out) hb; have hz5 := hb.size; have HD := Aside0.mk hd; have HO5 := Aside0.mk ho5; have HZ5 := Aside0.mk hz5; clear HW; have HW := Aside0.mk hw5; clear hv hb hw5 hd ho5 hz5)
                  | ((refine Kd.R_append_step kOp (W := w5) (w0 := w5) b (by rfl) (.tmp 101) (.tmp 110) 58 142 (.agg #[(.bool false), (.int .i64 0), (.slice none 0 0)]) 40 rfl Tryz.underlying58 infoRop rfl (by decide) (by omega) (.slice A11 ops'.length c11) ops' ⟨false, ((k : Int) + (i : Int)) / 64, atL now2 (((k : Int) + (i : Int)) / 64)⟩ [.bool false, .int .i64 (((k : Int) + (i : Int)) / 64), .slice (some ⟨g5, 0, none⟩) 64 c5] (fun q => px q ∧ some q ≠ (Value.slice (some ⟨gN, 0, none⟩) (now).length cN).ownBlock) (fun q => (px q ∧ some q ≠ (Value.slice (some ⟨gN, 0, none⟩) (now).length cN).ownBlock) ∧ some q ≠ (Value.slice A11 ops'.length c11).ownBlock) (by rfl) (by rfl) (kOp_mkM _ _ _ ⟨false, ((k : Int) + (i : Int)) / 64, atL now2 (((k : Int) + (i : Int)) / 64)⟩ HD.out) (fun q hq => hq) (fun q hq => (HFR.out q (Nat.le_trans HZ5.out hq)).1) HO5.out (Below.refl _ _) (Nat.le_trans HBS.out HZ5.out) (by omega) ?_); intro v7 w7 ho7 hl7 hg7 hat7; obtain ⟨g7, c7', e7, _, _, _⟩ := Kd.R_form ho7 (by simp); rw [List.length_append, List.length_singleton] at e7; subst e7; have hb7 := blk_grown HW.out.f.hb hg7 HG0.out; have s7 := (blk_cell hb7 2).trans (rfl : _ = some vo'); rw [HVO2.out] at s7; have z7 := blk_frozen hb7 2; have HO7 := Aside0.mk ho7; have HL7 := Aside0.mk hl7; have HG7 := Aside0.mk hg7; have HAT7 := Aside0.mk hat7; clear ho7 hl7 hg7 hat7 hb7))
                all_goals
                  go_wp2_with fail
                  go_roundg (l.length - p)
                  case measure => have := hq.out; omega
                  case rel =>
                    have hg7 := HG7.out
                    have hat7 := HAT7.out
                    rw [← HVO2.out] at hg7 hat7
                    have hfin := HW.out.addOp HO7.out hg7 HL7.out hat7
                    exact ⟨p, _, _, _, rfl, hp2, ⟨rfl⟩, by rw [List.length_append, List.length_singleton]; omega, HF2, HNN, ⟨hfin⟩⟩
        · obtain rfl : i = l.length := by omega
          go_wp2_with fail
          go_ret
          have e : writeF (now, ops) k l = (now', ops') := by
            unfold writeF
            rw [HGW.out, ← HF.out, List.drop_length, pieces_nil]
            rfl
          rw [e]
          refine ⟨rfl, _, _, HW.out.f, ?_, HW.out.u, HW.out.k, HW.out.l⟩
          rcases HW.out.v with h | h
          · exact .inl h
          · exact .inr (.inr ⟨_, rfl, h⟩)
    · obtain rfl := List.eq_nil_of_length_eq_zero (show l.length = 0 by omega)
      have HWN := Aside0.mk (show writeF (now, ops) k [] = (now, ops) by unfold writeF; rw [pieces_nil]; exact HGW.out)
      clear hgrow h0
      go_enter Tryz.func65, Tryz.ntmps65
      go_wp2_with fail
      refine wp_loop_rounds 1 ?_
      rw [rounds_succ]
      go_wp2_with fail
      go_ret
      rw [HWN.out]
      exact ⟨rfl, _, _, H.out, .inl rfl, .inl rfl, Keep3.refl _ _ _ _, Below.refl _ _⟩
end Go.Proofs.YtpnbjpkdbiiogaaGreat
/- The reference's disk: Sync of a file, Truncate, Write. -/
namespace Go.Proofs.YtpnbjpkdbiiogaaGreat
set_option linter.unusedVariables false
open Go.RowKit Go.Maps Go.Proofs.YtpnbjpkdbiiogaaGreatW.PrintWords
attribute [local go_sem] mx2 mn2 mxTwo mnTwo

theorem rksync_none (b g gd : Nat) (dn ds dv : Value) (now safe : List DN) (ops : List DOp) (vF : Value) (rl : List RR) (room fuse : Int) (armed dead : Bool) (w : World) (h : RK w b g gd dn ds dv now safe ops vF rl room fuse armed dead) (h0 : 0 ≤ fuse) (h1 : fuse ≤ 9223372036854775807) (hc : (chg fuse armed dead).1 = 0) (s : ByteArray) (hn : getN now s = none) : Calls Tryz.prog 31 #[.pointer (some ⟨g, 0, none⟩), .string s, .bool false] w fun e w' => e = .returned (.int .i64 6) ∧ RK w' b g gd dn ds dv now safe ops vF rl room (chg fuse armed dead).2.1 armed (chg fuse armed dead).2.2 ∧ RT w w' (rS rl) (rS rl) ∧ Below b w w' := by
  have HGET := Aside0.mk (fun W (fuse : Int) (armed dead : Bool) (hW : RK W b g gd dn ds dv now safe ops vF rl room fuse armed dead) => rkget_none b g gd dn ds dv now safe ops vF rl room fuse armed dead W hW s hn)
  have hbw : b ≤ w.heap.size := Nat.le_trans h.hg (Nat.le_of_lt (blk_lt h.hb))
  have hbo : okB fuse armed dead = true := by unfold okB; exact decide_eq_true hc
  obtain ⟨fu, hfu⟩ : ∃ x, x = (chg fuse armed dead).2.1 := ⟨_, rfl⟩
  obtain ⟨de, hde⟩ : ∃ x, x = (chg fuse armed dead).2.2 := ⟨_, rfl⟩
  obtain ⟨ok, hok⟩ : ∃ x, x = okB fuse armed dead := ⟨_, rfl⟩
  have HCH := Aside0.mk (rkchange_any b g gd dn ds dv now safe ops vF rl room fuse armed dead w h h0 h1)
  rw [← hfu, ← hde, ← hok] at HCH
  rw [← hfu, ← hde]
  rw [hbo] at hok
  subst hok
  clear h hfu hde hc hbo
  clear hn
  go_enter Tryz.func31, Tryz.ntmps31
  go_wp2_with (first | (go_at_call 62; refine HCH.out.mono ?_; rintro e w1 ⟨rfl, hk1, ht1, hl1⟩; have H := Aside0.mk hk1; have HT := Aside0.mk ht1; have HL := Aside0.mk hl1; clear hk1 ht1 hl1 HCH) | (go_at_call 19; refine (HGET.out _ _ _ _ H.out).mono ?_; rintro e w2 ⟨rfl, rfl⟩; clear HGET))
  go_ret
  exact ⟨rfl, H.out, HT.out, HL.out⟩
theorem rktrunc_none (b g gd : Nat) (dn ds dv : Value) (now safe : List DN) (ops : List DOp) (vF : Value) (rl : List RR) (room fuse : Int) (armed dead : Bool) (w : World) (h : RK w b g gd dn ds dv now safe ops vF rl room fuse armed dead) (h0 : 0 ≤ fuse) (h1 : fuse ≤ 9223372036854775807) (hc : (chg fuse armed dead).1 = 0) (s : ByteArray) (k : Int) (hn : getN now s = none) : Calls Tryz.prog 30 #[.pointer (some ⟨g, 0, none⟩), .string s, .int .i64 k] w fun e w' => e = .returned (.int .i64 6) ∧ RK w' b g gd dn ds dv now safe ops vF rl room (chg fuse armed dead).2.1 armed (chg fuse armed dead).2.2 ∧ RT w w' (rS rl) (rS rl) ∧ Below b w w' := by
  have HGET := Aside0.mk (fun W (fuse : Int) (armed dead : Bool) (hW : RK W b g gd dn ds dv now safe ops vF rl room fuse armed dead) => rkget_none b g gd dn ds dv now safe ops vF rl room fuse armed dead W hW s hn)
  have hbw : b ≤ w.heap.size := Nat.le_trans h.hg (Nat.le_of_lt (blk_lt h.hb))
  have hbo : okB fuse armed dead = true := by unfold okB; exact decide_eq_true hc
  obtain ⟨fu, hfu⟩ : ∃ x, x = (chg fuse armed dead).2.1 := ⟨_, rfl⟩
  obtain ⟨de, hde⟩ : ∃ x, x = (chg fuse armed dead).2.2 := ⟨_, rfl⟩
  obtain ⟨ok, hok⟩ : ∃ x, x = okB fuse armed dead := ⟨_, rfl⟩
  have HCH := Aside0.mk (rkchange_any b g gd dn ds dv now safe ops vF rl room fuse armed dead w h h0 h1)
  rw [← hfu, ← hde, ← hok] at HCH
  rw [← hfu, ← hde]
  rw [hbo] at hok
  subst hok
  clear h hfu hde hc hbo
  clear hn
  go_enter Tryz.func30, Tryz.ntmps30
  go_wp2_with (first | (go_at_call 62; refine HCH.out.mono ?_; rintro e w1 ⟨rfl, hk1, ht1, hl1⟩; have H := Aside0.mk hk1; have HT := Aside0.mk ht1; have HL := Aside0.mk hl1; clear hk1 ht1 hl1 HCH) | (go_at_call 19; refine (HGET.out _ _ _ _ H.out).mono ?_; rintro e w2 ⟨rfl, rfl⟩; clear HGET))
  go_ret
  exact ⟨rfl, H.out, HT.out, HL.out⟩
theorem rkwrite_none (b g gd : Nat) (dn ds dv : Value) (now safe : List DN) (ops : List DOp) (vF : Value) (rl : List RR) (room fuse : Int) (armed dead : Bool) (w : World) (h : RK w b g gd dn ds dv now safe ops vF rl room fuse armed dead) (h0 : 0 ≤ fuse) (h1 : fuse ≤ 9223372036854775807) (hc : (chg fuse armed dead).1 = 0) (s : ByteArray) (k : Int) (A : Option Addr) (n c : Nat) (hn : getN now s = none) : Calls Tryz.prog 28 #[.pointer (some ⟨g, 0, none⟩), .string s, .int .i64 k, .slice A n c] w fun e w' => e = .returned (.int .i64 6) ∧ RK w' b g gd dn ds dv now safe ops vF rl room (chg fuse armed dead).2.1 armed (chg fuse armed dead).2.2 ∧ RT w w' (rS rl) (rS rl) ∧ Below b w w' := by
  have HGET := Aside0.mk (fun W (fuse : Int) (armed dead : Bool) (hW : RK W b g gd dn ds dv now safe ops vF rl room fuse armed dead) => rkget_none b g gd dn ds dv now safe ops vF rl room fuse armed dead W hW s hn)
  have hbw : b ≤ w.heap.size := Nat.le_trans h.hg (Nat.le_of_lt (blk_lt h.hb))
  have hbo : okB fuse armed dead = true := by unfold okB; exact decide_eq_true hc
  obtain ⟨fu, hfu⟩ : ∃ x, x = (chg fuse armed dead).2.1 := ⟨_, rfl⟩
  obtain ⟨de, hde⟩ : ∃ x, x = (chg fuse armed dead).2.2 := ⟨_, rfl⟩
  obtain ⟨ok, hok⟩ : ∃ x, x = okB fuse armed dead := ⟨_, rfl⟩
  have HCH := Aside0.mk (rkchange_any b g gd dn ds dv now safe ops vF rl room fuse armed dead w h h0 h1)
  rw [← hfu, ← hde, ← hok] at HCH
  rw [← hfu, ← hde]
  rw [hbo] at hok
  subst hok
  clear h hfu hde hc hbo
  clear hn
  go_enter Tryz.func28, Tryz.ntmps28
  go_wp2_with (first | (go_at_call 62; refine HCH.out.mono ?_; rintro e w1 ⟨rfl, hk1, ht1, hl1⟩; have H := Aside0.mk hk1; have HT := Aside0.mk ht1; have HL := Aside0.mk hl1; clear hk1 ht1 hl1 HCH) | (go_at_call 19; refine (HGET.out _ _ _ _ H.out).mono ?_; rintro e w2 ⟨rfl, rfl⟩; clear HGET))
  go_ret
  exact ⟨rfl, H.out, HT.out, HL.out⟩
theorem rktrunc_bad (b g gd : Nat) (dn ds dv : Value) (now safe : List DN) (ops : List DOp) (vF : Value) (rl : List RR) (room fuse : Int) (armed dead : Bool) (w : World) (h : RK w b g gd dn ds dv now safe ops vF rl room fuse armed dead) (h0 : 0 ≤ fuse) (h1 : fuse ≤ 9223372036854775807) (hc : (chg fuse armed dead).1 = 0) (s : ByteArray) (i : Nat) (r : RR) (hn : getN now s = some (i : Int)) (hr : rl[i]? = some r) (hl : rl.length ≤ 1000000) (k : Int) (hk : k < 0 ∨ 0 ≤ k ∧ 1048576 < k) : Calls Tryz.prog 30 #[.pointer (some ⟨g, 0, none⟩), .string s, .int .i64 k] w fun e w' => e = .returned (.int .i64 1) ∧ RK w' b g gd dn ds dv now safe ops vF rl room (chg fuse armed dead).2.1 armed (chg fuse armed dead).2.2 ∧ RT w w' (rS rl) (rS rl) ∧ Below b w w' := by
  rcases hk with hk | ⟨hk, hk2⟩
  · skip
    have hrm := List.mem_of_getElem? hr
    have HRM := Aside0.mk hrm
    have HGET := Aside0.mk (fun W (fuse : Int) (armed dead : Bool) (hW : RK W b g gd dn ds dv now safe ops vF rl room fuse armed dead) => rkget_some b g gd dn ds dv now safe ops vF rl room fuse armed dead W hW s i r hn hr hl)
    obtain ⟨A4, c4, hvn⟩ := Kd.R_slice (h.hf r hrm).hn
    have HVN := Aside0.mk hvn
    have hbw : b ≤ w.heap.size := Nat.le_trans h.hg (Nat.le_of_lt (blk_lt h.hb))
    have hbo : okB fuse armed dead = true := by unfold okB; exact decide_eq_true hc
    obtain ⟨fu, hfu⟩ : ∃ x, x = (chg fuse armed dead).2.1 := ⟨_, rfl⟩
    obtain ⟨de, hde⟩ : ∃ x, x = (chg fuse armed dead).2.2 := ⟨_, rfl⟩
    obtain ⟨ok, hok⟩ : ∃ x, x = okB fuse armed dead := ⟨_, rfl⟩
    have HCH := Aside0.mk (rkchange_any b g gd dn ds dv now safe ops vF rl room fuse armed dead w h h0 h1)
    rw [← hfu, ← hde, ← hok] at HCH
    rw [← hfu, ← hde]
    rw [hbo] at hok
    subst hok
    clear h hfu hde hc hbo
    clear hn hr hrm hvn
    go_enter Tryz.func30, Tryz.ntmps30
    go_wp2_with (first | (go_at_call 62; refine HCH.out.mono ?_; rintro e w1 ⟨rfl, hk1, ht1, hl1⟩; have y0 := (blk_cell (hk1.hf r HRM.out).hb 0).trans (rfl : _ = some r.vn); rw [HVN.out] at y0; have H := Aside0.mk hk1; have HT := Aside0.mk ht1; have HL := Aside0.mk hl1; clear hk1 ht1 hl1 HCH) | (go_at_call 19; refine (HGET.out _ _ _ _ H.out).mono ?_; rintro e w2 ⟨rfl, rfl⟩; clear HGET))
    go_ret
    exact ⟨rfl, H.out, HT.out, HL.out⟩
  · skip
    have hrm := List.mem_of_getElem? hr
    have HRM := Aside0.mk hrm
    have HGET := Aside0.mk (fun W (fuse : Int) (armed dead : Bool) (hW : RK W b g gd dn ds dv now safe ops vF rl room fuse armed dead) => rkget_some b g gd dn ds dv now safe ops vF rl room fuse armed dead W hW s i r hn hr hl)
    obtain ⟨A4, c4, hvn⟩ := Kd.R_slice (h.hf r hrm).hn
    have HVN := Aside0.mk hvn
    have hbw : b ≤ w.heap.size := Nat.le_trans h.hg (Nat.le_of_lt (blk_lt h.hb))
    have hbo : okB fuse armed dead = true := by unfold okB; exact decide_eq_true hc
    obtain ⟨fu, hfu⟩ : ∃ x, x = (chg fuse armed dead).2.1 := ⟨_, rfl⟩
    obtain ⟨de, hde⟩ : ∃ x, x = (chg fuse armed dead).2.2 := ⟨_, rfl⟩
    obtain ⟨ok, hok⟩ : ∃ x, x = okB fuse armed dead := ⟨_, rfl⟩
    have HCH := Aside0.mk (rkchange_any b g gd dn ds dv now safe ops vF rl room fuse armed dead w h h0 h1)
    rw [← hfu, ← hde, ← hok] at HCH
    rw [← hfu, ← hde]
    rw [hbo] at hok
    subst hok
    clear h hfu hde hc hbo
    clear hn hr hrm hvn
    go_enter Tryz.func30, Tryz.ntmps30
    go_wp2_with (first | (go_at_call 62; refine HCH.out.mono ?_; rintro e w1 ⟨rfl, hk1, ht1, hl1⟩; have y0 := (blk_cell (hk1.hf r HRM.out).hb 0).trans (rfl : _ = some r.vn); rw [HVN.out] at y0; have H := Aside0.mk hk1; have HT := Aside0.mk ht1; have HL := Aside0.mk hl1; clear hk1 ht1 hl1 HCH) | (go_at_call 19; refine (HGET.out _ _ _ _ H.out).mono ?_; rintro e w2 ⟨rfl, rfl⟩; clear HGET))
    go_ret
    exact ⟨rfl, H.out, HT.out, HL.out⟩
theorem rkwrite_bad (b g gd : Nat) (dn ds dv : Value) (now safe : List DN) (ops : List DOp) (vF : Value) (rl : List RR) (room fuse : Int) (armed dead : Bool) (w : World) (h : RK w b g gd dn ds dv now safe ops vF rl room fuse armed dead) (h0 : 0 ≤ fuse) (h1 : fuse ≤ 9223372036854775807) (hc : (chg fuse armed dead).1 = 0) (s : ByteArray) (i : Nat) (r : RR) (hn : getN now s = some (i : Int)) (hr : rl[i]? = some r) (hl : rl.length ≤ 1000000) (k : Int) (A : Option Addr) (n c : Nat) (hnn : n ≤ 9223372036854775807) (hk : k < 0 ∨ 0 ≤ k ∧ 1048576 < k ∨ 0 ≤ k ∧ k ≤ 1048576 ∧ 1048576 - k < n) : Calls Tryz.prog 28 #[.pointer (some ⟨g, 0, none⟩), .string s, .int .i64 k, .slice A n c] w fun e w' => e = .returned (.int .i64 1) ∧ RK w' b g gd dn ds dv now safe ops vF rl room (chg fuse armed dead).2.1 armed (chg fuse armed dead).2.2 ∧ RT w w' (rS rl) (rS rl) ∧ Below b w w' := by
  rcases hk with hk | ⟨hk, hk2⟩ | ⟨hk, hk2, hk3⟩
  · skip
    have hrm := List.mem_of_getElem? hr
    have HRM := Aside0.mk hrm
    have HGET := Aside0.mk (fun W (fuse : Int) (armed dead : Bool) (hW : RK W b g gd dn ds dv now safe ops vF rl room fuse armed dead) => rkget_some b g gd dn ds dv now safe ops vF rl room fuse armed dead W hW s i r hn hr hl)
    obtain ⟨A4, c4, hvn⟩ := Kd.R_slice (h.hf r hrm).hn
    have HVN := Aside0.mk hvn
    have hbw : b ≤ w.heap.size := Nat.le_trans h.hg (Nat.le_of_lt (blk_lt h.hb))
    have hbo : okB fuse armed dead = true := by unfold okB; exact decide_eq_true hc
    obtain ⟨fu, hfu⟩ : ∃ x, x = (chg fuse armed dead).2.1 := ⟨_, rfl⟩
    obtain ⟨de, hde⟩ : ∃ x, x = (chg fuse armed dead).2.2 := ⟨_, rfl⟩
    obtain ⟨ok, hok⟩ : ∃ x, x = okB fuse armed dead := ⟨_, rfl⟩
    have HCH := Aside0.mk (rkchange_any b g gd dn ds dv now safe ops vF rl room fuse armed dead w h h0 h1)
    rw [← hfu, ← hde, ← hok] at HCH
    rw [← hfu, ← hde]
    rw [hbo] at hok
    subst hok
    clear h hfu hde hc hbo
    clear hn hr hrm hvn
    go_enter Tryz.func28, Tryz.ntmps28
    go_wp2_with (first | (go_at_call 62; refine HCH.out.mono ?_; rintro e w1 ⟨rfl, hk1, ht1, hl1⟩; have y0 := (blk_cell (hk1.hf r HRM.out).hb 0).trans (rfl : _ = some r.vn); rw [HVN.out] at y0; have H := Aside0.mk hk1; have HT := Aside0.mk ht1; have HL := Aside0.mk hl1; clear hk1 ht1 hl1 HCH) | (go_at_call 19; refine (HGET.out _ _ _ _ H.out).mono ?_; rintro e w2 ⟨rfl, rfl⟩; clear HGET))
    go_ret
    exact ⟨rfl, H.out, HT.out, HL.out⟩
  · skip
    have hrm := List.mem_of_getElem? hr
    have HRM := Aside0.mk hrm
    have HGET := Aside0.mk (fun W (fuse : Int) (armed dead : Bool) (hW : RK W b g gd dn ds dv now safe ops vF rl room fuse armed dead) => rkget_some b g gd dn ds dv now safe ops vF rl room fuse armed dead W hW s i r hn hr hl)
    obtain ⟨A4, c4, hvn⟩ := Kd.R_slice (h.hf r hrm).hn
    have HVN := Aside0.mk hvn
    have hbw : b ≤ w.heap.size := Nat.le_trans h.hg (Nat.le_of_lt (blk_lt h.hb))
    have hbo : okB fuse armed dead = true := by unfold okB; exact decide_eq_true hc
    obtain ⟨fu, hfu⟩ : ∃ x, x = (chg fuse armed dead).2.1 := ⟨_, rfl⟩
    obtain ⟨de, hde⟩ : ∃ x, x = (chg fuse armed dead).2.2 := ⟨_, rfl⟩
    obtain ⟨ok, hok⟩ : ∃ x, x = okB fuse armed dead := ⟨_, rfl⟩
    have HCH := Aside0.mk (rkchange_any b g gd dn ds dv now safe ops vF rl room fuse armed dead w h h0 h1)
    rw [← hfu, ← hde, ← hok] at HCH
    rw [← hfu, ← hde]
    rw [hbo] at hok
    subst hok
    clear h hfu hde hc hbo
    clear hn hr hrm hvn
    go_enter Tryz.func28, Tryz.ntmps28
    go_wp2_with (first | (go_at_call 62; refine HCH.out.mono ?_; rintro e w1 ⟨rfl, hk1, ht1, hl1⟩; have y0 := (blk_cell (hk1.hf r HRM.out).hb 0).trans (rfl : _ = some r.vn); rw [HVN.out] at y0; have H := Aside0.mk hk1; have HT := Aside0.mk ht1; have HL := Aside0.mk hl1; clear hk1 ht1 hl1 HCH) | (go_at_call 19; refine (HGET.out _ _ _ _ H.out).mono ?_; rintro e w2 ⟨rfl, rfl⟩; clear HGET))
    go_ret
    exact ⟨rfl, H.out, HT.out, HL.out⟩
  · skip
    have hrm := List.mem_of_getElem? hr
    have HRM := Aside0.mk hrm
    have HGET := Aside0.mk (fun W (fuse : Int) (armed dead : Bool) (hW : RK W b g gd dn ds dv now safe ops vF rl room fuse armed dead) => rkget_some b g gd dn ds dv now safe ops vF rl room fuse armed dead W hW s i r hn hr hl)
    obtain ⟨A4, c4, hvn⟩ := Kd.R_slice (h.hf r hrm).hn
    have HVN := Aside0.mk hvn
    have hbw : b ≤ w.heap.size := Nat.le_trans h.hg (Nat.le_of_lt (blk_lt h.hb))
    have hbo : okB fuse armed dead = true := by unfold okB; exact decide_eq_true hc
    obtain ⟨fu, hfu⟩ : ∃ x, x = (chg fuse armed dead).2.1 := ⟨_, rfl⟩
    obtain ⟨de, hde⟩ : ∃ x, x = (chg fuse armed dead).2.2 := ⟨_, rfl⟩
    obtain ⟨ok, hok⟩ : ∃ x, x = okB fuse armed dead := ⟨_, rfl⟩
    have HCH := Aside0.mk (rkchange_any b g gd dn ds dv now safe ops vF rl room fuse armed dead w h h0 h1)
    rw [← hfu, ← hde, ← hok] at HCH
    rw [← hfu, ← hde]
    rw [hbo] at hok
    subst hok
    clear h hfu hde hc hbo
    clear hn hr hrm hvn
    go_enter Tryz.func28, Tryz.ntmps28
    go_wp2_with (first | (go_at_call 62; refine HCH.out.mono ?_; rintro e w1 ⟨rfl, hk1, ht1, hl1⟩; have y0 := (blk_cell (hk1.hf r HRM.out).hb 0).trans (rfl : _ = some r.vn); rw [HVN.out] at y0; have H := Aside0.mk hk1; have HT := Aside0.mk ht1; have HL := Aside0.mk hl1; clear hk1 ht1 hl1 HCH) | (go_at_call 19; refine (HGET.out _ _ _ _ H.out).mono ?_; rintro e w2 ⟨rfl, rfl⟩; clear HGET))
    go_ret
    exact ⟨rfl, H.out, HT.out, HL.out⟩
theorem keep3o {w w' : World} {a : Nat} {c d : Option Nat} (h : KeepBut w w' a none) : Keep3 w w' a c d := ⟨h.1, fun i hi hg _ _ => h.2 i hi hg (by simp)⟩
theorem keep3b {w w' : World} {a : Nat} {c d : Option Nat} (h : KeepBut w w' a d) : Keep3 w w' a c d := ⟨h.1, fun i hi hg _ h2 => h.2 i hi hg h2⟩
set_option maxHeartbeats 1000000 in
theorem rksync_ok (b g gd : Nat) (dn ds dv : Value) (now safe : List DN) (ops : List DOp) (vF : Value) (rl : List RR) (room fuse : Int) (armed dead : Bool) (w : World) (h : RK w b g gd dn ds dv now safe ops vF rl room fuse armed dead) (h0 : 0 ≤ fuse) (h1 : fuse ≤ 9223372036854775807) (hc : (chg fuse armed dead).1 = 0) (s : ByteArray) (i : Nat) (r : RR) (hn : getN now s = some (i : Int)) (hr : rl[i]? = some r) (hl : rl.length ≤ 1000000) (hll : r.now.length ≤ 1048576) : Calls Tryz.prog 31 #[.pointer (some ⟨g, 0, none⟩), .string s, .bool false] w fun e w' => e = .returned (.int .i64 0) ∧ (∃ vs', RK w' b g gd dn ds dv now safe ops vF (setR rl ⟨r.g, r.vn, vs', (.slice none 0 0), r.now, r.now, []⟩) room (chg fuse armed dead).2.1 armed (chg fuse armed dead).2.2 ∧ RT w w' (rS rl) (rS (setR rl ⟨r.g, r.vn, vs', (.slice none 0 0), r.now, r.now, []⟩))) ∧ Below b w w' := by
  have hrm := List.mem_of_getElem? hr
  have HRM := Aside0.mk hrm
  have HGET := Aside0.mk (fun W (fuse : Int) (armed dead : Bool) (hW : RK W b g gd dn ds dv now safe ops vF rl room fuse armed dead) => rkget_some b g gd dn ds dv now safe ops vF rl room fuse armed dead W hW s i r hn hr hl)
  obtain ⟨A4, c4, hvn⟩ := Kd.R_slice (h.hf r hrm).hn
  have HVN := Aside0.mk hvn
  have hbw : b ≤ w.heap.size := Nat.le_trans h.hg (Nat.le_of_lt (blk_lt h.hb))
  have hbo : okB fuse armed dead = true := by unfold okB; exact decide_eq_true hc
  obtain ⟨fu, hfu⟩ : ∃ x, x = (chg fuse armed dead).2.1 := ⟨_, rfl⟩
  obtain ⟨de, hde⟩ : ∃ x, x = (chg fuse armed dead).2.2 := ⟨_, rfl⟩
  obtain ⟨ok, hok⟩ : ∃ x, x = okB fuse armed dead := ⟨_, rfl⟩
  have HCH := Aside0.mk (rkchange_any b g gd dn ds dv now safe ops vF rl room fuse armed dead w h h0 h1)
  rw [← hfu, ← hde, ← hok] at HCH
  rw [← hfu, ← hde]
  rw [hbo] at hok
  subst hok
  clear h hfu hde hc hbo
  clear hn hr hrm hvn
  go_enter Tryz.func31, Tryz.ntmps31
  go_wp2_with (first | (go_at_call 62; refine HCH.out.mono ?_; rintro e w1 ⟨rfl, hk1, ht1, hl1⟩; have y0 := (blk_cell (hk1.hf r HRM.out).hb 0).trans (rfl : _ = some r.vn); rw [HVN.out] at y0; have H := Aside0.mk hk1; have HT := Aside0.mk ht1; have HL := Aside0.mk hl1; clear hk1 ht1 hl1 HCH) | (go_at_call 19; refine (HGET.out _ _ _ _ H.out).mono ?_; rintro e w2 ⟨rfl, rfl⟩; clear HGET) | (go_at_call 69; refine (xsync_any b r.g (rpx rl r) r.vn r.vs r.vo r.now r.safe r.ops _ (H.out.hf r HRM.out) (by omega)).mono ?_; rintro e w5 ⟨rfl, ⟨vs', hf5⟩, hk5, hl5⟩; have hfin := H.out.file HRM.out (keep3o hk5) hf5 (.inl rfl) (.inr (.inl rfl)); have HF := Aside0.mk hfin.1; have HTF := Aside0.mk (HT.out.trans hfin.2); have HLF := Aside0.mk (HL.out.trans hl5); clear hf5 hk5 hl5 hfin))
  go_ret
  exact ⟨rfl, ⟨_, HF.out, HTF.out⟩, HLF.out⟩
set_option maxHeartbeats 1000000 in
theorem rktrunc_space (b g gd : Nat) (dn ds dv : Value) (now safe : List DN) (ops : List DOp) (vF : Value) (rl : List RR) (room fuse : Int) (armed dead : Bool) (w : World) (h : RK w b g gd dn ds dv now safe ops vF rl room fuse armed dead) (h0 : 0 ≤ fuse) (h1 : fuse ≤ 9223372036854775807) (hc : (chg fuse armed dead).1 = 0) (s : ByteArray) (i : Nat) (r : RR) (hn : getN now s = some (i : Int)) (hr : rl[i]? = some r) (hl : rl.length ≤ 1000000) (hk : RG now rl) (hln : now.length ≤ 100000) (k : Nat) (hk1 : k ≤ 1048576) (hh : hasR rl now room r.now.length (k : Int) = false) : Calls Tryz.prog 30 #[.pointer (some ⟨g, 0, none⟩), .string s, .int .i64 (k : Int)] w fun e w' => e = .returned (.int .i64 20) ∧ RK w' b g gd dn ds dv now safe ops vF rl room (chg fuse armed dead).2.1 armed (chg fuse armed dead).2.2 ∧ RT w w' (rS rl) (rS rl) ∧ Below b w w' := by
  have HH := Aside0.mk hh
  clear hh
  obtain ⟨hll, hol⟩ := hk.len r (List.mem_of_getElem? hr)
  have HROOM := Aside0.mk (fun W (fuse : Int) (armed dead : Bool) (hW : RK W b g gd dn ds dv now safe ops vF rl room fuse armed dead) => rkroom_any b g gd dn ds dv now safe ops vF rl room fuse armed dead W hW hk hln hl r (List.mem_of_getElem? hr))
  clear hk
  have hrm := List.mem_of_getElem? hr
  have HRM := Aside0.mk hrm
  have HGET := Aside0.mk (fun W (fuse : Int) (armed dead : Bool) (hW : RK W b g gd dn ds dv now safe ops vF rl room fuse armed dead) => rkget_some b g gd dn ds dv now safe ops vF rl room fuse armed dead W hW s i r hn hr hl)
  obtain ⟨A4, c4, hvn⟩ := Kd.R_slice (h.hf r hrm).hn
  have HVN := Aside0.mk hvn
  have hbw : b ≤ w.heap.size := Nat.le_trans h.hg (Nat.le_of_lt (blk_lt h.hb))
  have hbo : okB fuse armed dead = true := by unfold okB; exact decide_eq_true hc
  obtain ⟨fu, hfu⟩ : ∃ x, x = (chg fuse armed dead).2.1 := ⟨_, rfl⟩
  obtain ⟨de, hde⟩ : ∃ x, x = (chg fuse armed dead).2.2 := ⟨_, rfl⟩
  obtain ⟨ok, hok⟩ : ∃ x, x = okB fuse armed dead := ⟨_, rfl⟩
  have HCH := Aside0.mk (rkchange_any b g gd dn ds dv now safe ops vF rl room fuse armed dead w h h0 h1)
  rw [← hfu, ← hde, ← hok] at HCH
  rw [← hfu, ← hde]
  rw [hbo] at hok
  subst hok
  clear h hfu hde hc hbo
  clear hn hr hrm hvn
  go_enter Tryz.func30, Tryz.ntmps30
  go_wp2_with (first | (go_at_call 62; refine HCH.out.mono ?_; rintro e w1 ⟨rfl, hk1, ht1, hl1⟩; have y0 := (blk_cell (hk1.hf r HRM.out).hb 0).trans (rfl : _ = some r.vn); rw [HVN.out] at y0; have H := Aside0.mk hk1; have HT := Aside0.mk ht1; have HL := Aside0.mk hl1; clear hk1 ht1 hl1 HCH) | (go_at_call 19; refine (HGET.out _ _ _ _ H.out).mono ?_; rintro e w2 ⟨rfl, rfl⟩; clear HGET) | (go_at_call 64; refine (HROOM.out _ _ _ _ H.out ((k : Int)) (by omega)).mono ?_; rw [HH.out]; rintro e w3 ⟨rfl, hb⟩; have h3 := H.out.below hb; have ht3 := HT.out.trans (RT.of_below hb (fun _ _ h => h)); have hl3 := HL.out.trans (hb.mono (Nat.le_trans hbw HL.out.size)); clear H HL HT; have H := Aside0.mk h3; have HL := Aside0.mk hl3; have HT := Aside0.mk ht3; clear h3 hl3 ht3 hb))
  go_ret
  exact ⟨rfl, H.out, HT.out, HL.out⟩
set_option maxHeartbeats 1000000 in
theorem rktrunc_ok (b g gd : Nat) (dn ds dv : Value) (now safe : List DN) (ops : List DOp) (vF : Value) (rl : List RR) (room fuse : Int) (armed dead : Bool) (w : World) (h : RK w b g gd dn ds dv now safe ops vF rl room fuse armed dead) (h0 : 0 ≤ fuse) (h1 : fuse ≤ 9223372036854775807) (hc : (chg fuse armed dead).1 = 0) (s : ByteArray) (i : Nat) (r : RR) (hn : getN now s = some (i : Int)) (hr : rl[i]? = some r) (hl : rl.length ≤ 1000000) (hk : RG now rl) (hln : now.length ≤ 100000) (k : Nat) (hk1 : k ≤ 1048576) (hh : hasR rl now room r.now.length (k : Int) = true) : Calls Tryz.prog 30 #[.pointer (some ⟨g, 0, none⟩), .string s, .int .i64 (k : Int)] w fun e w' => e = .returned (.int .i64 0) ∧ (∃ vn' vo', RK w' b g gd dn ds dv now safe ops vF (setR rl ⟨r.g, vn', r.vs, vo', (sizeF (r.now, r.ops) (k : Int)).1, r.safe, (sizeF (r.now, r.ops) (k : Int)).2⟩) room (chg fuse armed dead).2.1 armed (chg fuse armed dead).2.2 ∧ RT w w' (rS rl) (rS (setR rl ⟨r.g, vn', r.vs, vo', (sizeF (r.now, r.ops) (k : Int)).1, r.safe, (sizeF (r.now, r.ops) (k : Int)).2⟩))) ∧ Below b w w' := by
  have HH := Aside0.mk hh
  clear hh
  obtain ⟨hll, hol⟩ := hk.len r (List.mem_of_getElem? hr)
  have HROOM := Aside0.mk (fun W (fuse : Int) (armed dead : Bool) (hW : RK W b g gd dn ds dv now safe ops vF rl room fuse armed dead) => rkroom_any b g gd dn ds dv now safe ops vF rl room fuse armed dead W hW hk hln hl r (List.mem_of_getElem? hr))
  clear hk
  have hrm := List.mem_of_getElem? hr
  have HRM := Aside0.mk hrm
  have HGET := Aside0.mk (fun W (fuse : Int) (armed dead : Bool) (hW : RK W b g gd dn ds dv now safe ops vF rl room fuse armed dead) => rkget_some b g gd dn ds dv now safe ops vF rl room fuse armed dead W hW s i r hn hr hl)
  obtain ⟨A4, c4, hvn⟩ := Kd.R_slice (h.hf r hrm).hn
  have HVN := Aside0.mk hvn
  have hbw : b ≤ w.heap.size := Nat.le_trans h.hg (Nat.le_of_lt (blk_lt h.hb))
  have hbo : okB fuse armed dead = true := by unfold okB; exact decide_eq_true hc
  obtain ⟨fu, hfu⟩ : ∃ x, x = (chg fuse armed dead).2.1 := ⟨_, rfl⟩
  obtain ⟨de, hde⟩ : ∃ x, x = (chg fuse armed dead).2.2 := ⟨_, rfl⟩
  obtain ⟨ok, hok⟩ : ∃ x, x = okB fuse armed dead := ⟨_, rfl⟩
  have HCH := Aside0.mk (rkchange_any b g gd dn ds dv now safe ops vF rl room fuse armed dead w h h0 h1)
  rw [← hfu, ← hde, ← hok] at HCH
  rw [← hfu, ← hde]
  rw [hbo] at hok
  subst hok
  clear h hfu hde hc hbo
  clear hn hr hrm hvn
  go_enter Tryz.func30, Tryz.ntmps30
  go_wp2_with (first | (go_at_call 62; refine HCH.out.mono ?_; rintro e w1 ⟨rfl, hk1, ht1, hl1⟩; have y0 := (blk_cell (hk1.hf r HRM.out).hb 0).trans (rfl : _ = some r.vn); rw [HVN.out] at y0; have H := Aside0.mk hk1; have HT := Aside0.mk ht1; have HL := Aside0.mk hl1; clear hk1 ht1 hl1 HCH) | (go_at_call 19; refine (HGET.out _ _ _ _ H.out).mono ?_; rintro e w2 ⟨rfl, rfl⟩; clear HGET) | (go_at_call 64; refine (HROOM.out _ _ _ _ H.out ((k : Int)) (by omega)).mono ?_; rw [HH.out]; rintro e w3 ⟨rfl, hb⟩; have h3 := H.out.below hb; have ht3 := HT.out.trans (RT.of_below hb (fun _ _ h => h)); have hl3 := HL.out.trans (hb.mono (Nat.le_trans hbw HL.out.size)); clear H HL HT; have H := Aside0.mk h3; have HL := Aside0.mk hl3; have HT := Aside0.mk ht3; clear h3 hl3 ht3 hb) | (go_at_call 67; refine (xtrunc_any b r.g (rpx rl r) r.vn r.vs r.vo r.now r.safe r.ops k _ (H.out.hf r HRM.out) (by omega) hk1 (by omega)).mono ?_; rintro e w5 ⟨rfl, ⟨vn', vo', hf5, hv5, ho5⟩, hk5, hl5⟩; have hfin := H.out.file HRM.out (keep3b hk5) hf5 hv5 (ho5.imp (fun h => h) (fun h => .inr h)); have HF := Aside0.mk hfin.1; have HTF := Aside0.mk (HT.out.trans hfin.2); have HLF := Aside0.mk (HL.out.trans hl5); clear hf5 hv5 ho5 hk5 hl5 hfin))
  go_ret
  exact ⟨rfl, ⟨_, _, HF.out, HTF.out⟩, HLF.out⟩
end Go.Proofs.YtpnbjpkdbiiogaaGreat
/- The reference's disk: Write. -/
namespace Go.Proofs.YtpnbjpkdbiiogaaGreat
set_option linter.unusedVariables false
open Go.RowKit Go.Maps Go.Proofs.YtpnbjpkdbiiogaaGreatW.PrintWords
attribute [local go_sem] mx2 mn2 mxTwo mnTwo


/-- What size a write asks room for. -/
def szW (len k n : Nat) : Int := if len < k + n then ((k + n : Nat) : Int) else (len : Int)
set_option maxHeartbeats 1000000 in
theorem rkwrite_space (b g gd : Nat) (dn ds dv : Value) (now safe : List DN) (ops : List DOp) (vF : Value) (rl : List RR) (room fuse : Int) (armed dead : Bool) (w : World) (h : RK w b g gd dn ds dv now safe ops vF rl room fuse armed dead) (h0 : 0 ≤ fuse) (h1 : fuse ≤ 9223372036854775807) (hc : (chg fuse armed dead).1 = 0) (s : ByteArray) (i : Nat) (r : RR) (hn : getN now s = some (i : Int)) (hr : rl[i]? = some r) (hl : rl.length ≤ 1000000) (hk : RG now rl) (hln : now.length ≤ 100000) (k : Nat) (A : Option Addr) (n c : Nat) (hk1 : k ≤ 1048576) (hk2 : n + k ≤ 1048576) (hn0 : 0 < n) (hh : hasR rl now room r.now.length (szW r.now.length k n) = false) : Calls Tryz.prog 28 #[.pointer (some ⟨g, 0, none⟩), .string s, .int .i64 (k : Int), .slice A n c] w fun e w' => e = .returned (.int .i64 20) ∧ RK w' b g gd dn ds dv now safe ops vF rl room (chg fuse armed dead).2.1 armed (chg fuse armed dead).2.2 ∧ RT w w' (rS rl) (rS rl) ∧ Below b w w' := by
  by_cases hg : r.now.length < k + n
  · rw [show szW r.now.length k n = ((k + n : Nat) : Int) by unfold szW; rw [if_pos hg]] at hh
    have HH := Aside0.mk hh
    clear hh
    obtain ⟨hll, hol⟩ := hk.len r (List.mem_of_getElem? hr)
    have HROOM := Aside0.mk (fun W (fuse : Int) (armed dead : Bool) (hW : RK W b g gd dn ds dv now safe ops vF rl room fuse armed dead) => rkroom_any b g gd dn ds dv now safe ops vF rl room fuse armed dead W hW hk hln hl r (List.mem_of_getElem? hr))
    clear hk
    have hrm := List.mem_of_getElem? hr
    have HRM := Aside0.mk hrm
    have HGET := Aside0.mk (fun W (fuse : Int) (armed dead : Bool) (hW : RK W b g gd dn ds dv now safe ops vF rl room fuse armed dead) => rkget_some b g gd dn ds dv now safe ops vF rl room fuse armed dead W hW s i r hn hr hl)
    obtain ⟨A4, c4, hvn⟩ := Kd.R_slice (h.hf r hrm).hn
    have HVN := Aside0.mk hvn
    have hbw : b ≤ w.heap.size := Nat.le_trans h.hg (Nat.le_of_lt (blk_lt h.hb))
    have hbo : okB fuse armed dead = true := by unfold okB; exact decide_eq_true hc
    obtain ⟨fu, hfu⟩ : ∃ x, x = (chg fuse armed dead).2.1 := ⟨_, rfl⟩
    obtain ⟨de, hde⟩ : ∃ x, x = (chg fuse armed dead).2.2 := ⟨_, rfl⟩
    obtain ⟨ok, hok⟩ : ∃ x, x = okB fuse armed dead := ⟨_, rfl⟩
    have HCH := Aside0.mk (rkchange_any b g gd dn ds dv now safe ops vF rl room fuse armed dead w h h0 h1)
    rw [← hfu, ← hde, ← hok] at HCH
    rw [← hfu, ← hde]
    rw [hbo] at hok
    subst hok
    clear h hfu hde hc hbo
    clear hn hr hrm hvn
    go_enter Tryz.func28, Tryz.ntmps28
    go_wp2_with (first | (go_at_call 62; refine HCH.out.mono ?_; rintro e w1 ⟨rfl, hk1, ht1, hl1⟩; have y0 := (blk_cell (hk1.hf r HRM.out).hb 0).trans (rfl : _ = some r.vn); rw [HVN.out] at y0; have H := Aside0.mk hk1; have HT := Aside0.mk ht1; have HL := Aside0.mk hl1; clear hk1 ht1 hl1 HCH) | (go_at_call 19; refine (HGET.out _ _ _ _ H.out).mono ?_; rintro e w2 ⟨rfl, rfl⟩; clear HGET) | (go_at_call 64; refine (HROOM.out _ _ _ _ H.out (((k + n : Nat) : Int)) (by omega)).mono ?_; rw [HH.out]; rintro e w3 ⟨rfl, hb⟩; have h3 := H.out.below hb; have ht3 := HT.out.trans (RT.of_below hb (fun _ _ h => h)); have hl3 := HL.out.trans (hb.mono (Nat.le_trans hbw HL.out.size)); clear H HL HT; have H := Aside0.mk h3; have HL := Aside0.mk hl3; have HT := Aside0.mk ht3; clear h3 hl3 ht3 hb))
    go_ret
    exact ⟨rfl, H.out, HT.out, HL.out⟩
  · rw [show szW r.now.length k n = (r.now.length : Int) by unfold szW; rw [if_neg hg]] at hh
    have HH := Aside0.mk hh
    clear hh
    obtain ⟨hll, hol⟩ := hk.len r (List.mem_of_getElem? hr)
    have HROOM := Aside0.mk (fun W (fuse : Int) (armed dead : Bool) (hW : RK W b g gd dn ds dv now safe ops vF rl room fuse armed dead) => rkroom_any b g gd dn ds dv now safe ops vF rl room fuse armed dead W hW hk hln hl r (List.mem_of_getElem? hr))
    clear hk
    have hrm := List.mem_of_getElem? hr
    have HRM := Aside0.mk hrm
    have HGET := Aside0.mk (fun W (fuse : Int) (armed dead : Bool) (hW : RK W b g gd dn ds dv now safe ops vF rl room fuse armed dead) => rkget_some b g gd dn ds dv now safe ops vF rl room fuse armed dead W hW s i r hn hr hl)
    obtain ⟨A4, c4, hvn⟩ := Kd.R_slice (h.hf r hrm).hn
    have HVN := Aside0.mk hvn
    have hbw : b ≤ w.heap.size := Nat.le_trans h.hg (Nat.le_of_lt (blk_lt h.hb))
    have hbo : okB fuse armed dead = true := by unfold okB; exact decide_eq_true hc
    obtain ⟨fu, hfu⟩ : ∃ x, x = (chg fuse armed dead).2.1 := ⟨_, rfl⟩
    obtain ⟨de, hde⟩ : ∃ x, x = (chg fuse armed dead).2.2 := ⟨_, rfl⟩
    obtain ⟨ok, hok⟩ : ∃ x, x = okB fuse armed dead := ⟨_, rfl⟩
    have HCH := Aside0.mk (rkchange_any b g gd dn ds dv now safe ops vF rl room fuse armed dead w h h0 h1)
    rw [← hfu, ← hde, ← hok] at HCH
    rw [← hfu, ← hde]
    rw [hbo] at hok
    subst hok
    clear h hfu hde hc hbo
    clear hn hr hrm hvn
    go_enter Tryz.func28, Tryz.ntmps28
    go_wp2_with (first | (go_at_call 62; refine HCH.out.mono ?_; rintro e w1 ⟨rfl, hk1, ht1, hl1⟩; have y0 := (blk_cell (hk1.hf r HRM.out).hb 0).trans (rfl : _ = some r.vn); rw [HVN.out] at y0; have H := Aside0.mk hk1; have HT := Aside0.mk ht1; have HL := Aside0.mk hl1; clear hk1 ht1 hl1 HCH) | (go_at_call 19; refine (HGET.out _ _ _ _ H.out).mono ?_; rintro e w2 ⟨rfl, rfl⟩; clear HGET) | (go_at_call 64; refine (HROOM.out _ _ _ _ H.out ((r.now.length : Int)) (by omega)).mono ?_; rw [HH.out]; rintro e w3 ⟨rfl, hb⟩; have h3 := H.out.below hb; have ht3 := HT.out.trans (RT.of_below hb (fun _ _ h => h)); have hl3 := HL.out.trans (hb.mono (Nat.le_trans hbw HL.out.size)); clear H HL HT; have H := Aside0.mk h3; have HL := Aside0.mk hl3; have HT := Aside0.mk ht3; clear h3 hl3 ht3 hb))
    go_ret
    exact ⟨rfl, H.out, HT.out, HL.out⟩
set_option maxHeartbeats 1000000 in
theorem rkwrite_done (b g gd : Nat) (dn ds dv : Value) (now safe : List DN) (ops : List DOp) (vF : Value) (rl : List RR) (room fuse : Int) (armed dead : Bool) (w : World) (h : RK w b g gd dn ds dv now safe ops vF rl room fuse armed dead) (h0 : 0 ≤ fuse) (h1 : fuse ≤ 9223372036854775807) (hc : (chg fuse armed dead).1 = 0) (s : ByteArray) (i : Nat) (r : RR) (hn : getN now s = some (i : Int)) (hr : rl[i]? = some r) (hl : rl.length ≤ 1000000) (hk : RG now rl) (hln : now.length ≤ 100000) (k : Nat) (A : Option Addr) (n c : Nat) (hk1 : k ≤ 1048576) (hk2 : n + k ≤ 1048576) (l : List Int) (hll2 : l.length = n) (hst : ∀ W', Below b w W' → Kd.C (Kd.int .u8) W' A n l) (hh : n = 0 ∨ hasR rl now room r.now.length (szW r.now.length k n) = true) : Calls Tryz.prog 28 #[.pointer (some ⟨g, 0, none⟩), .string s, .int .i64 (k : Int), .slice A n c] w fun e w' => e = .returned (.int .i64 0) ∧ (∃ vn' vo', RK w' b g gd dn ds dv now safe ops vF (setR rl ⟨r.g, vn', r.vs, vo', (writeF (r.now, r.ops) k l).1, r.safe, (writeF (r.now, r.ops) k l).2⟩) room (chg fuse armed dead).2.1 armed (chg fuse armed dead).2.2 ∧ RT w w' (rS rl) (rS (setR rl ⟨r.g, vn', r.vs, vo', (writeF (r.now, r.ops) k l).1, r.safe, (writeF (r.now, r.ops) k l).2⟩))) ∧ Below b w w' := by
  have HST := Aside0.mk hst
  clear hst
  by_cases hn0 : n = 0
  · clear hh
    subst hn0
    by_cases hg : r.now.length < k
    · skip
      obtain ⟨hll, hol⟩ := hk.len r (List.mem_of_getElem? hr)
      have HROOM := Aside0.mk (fun W (fuse : Int) (armed dead : Bool) (hW : RK W b g gd dn ds dv now safe ops vF rl room fuse armed dead) => rkroom_any b g gd dn ds dv now safe ops vF rl room fuse armed dead W hW hk hln hl r (List.mem_of_getElem? hr))
      clear hk
      have hrm := List.mem_of_getElem? hr
      have HRM := Aside0.mk hrm
      have HGET := Aside0.mk (fun W (fuse : Int) (armed dead : Bool) (hW : RK W b g gd dn ds dv now safe ops vF rl room fuse armed dead) => rkget_some b g gd dn ds dv now safe ops vF rl room fuse armed dead W hW s i r hn hr hl)
      obtain ⟨A4, c4, hvn⟩ := Kd.R_slice (h.hf r hrm).hn
      have HVN := Aside0.mk hvn
      have hbw : b ≤ w.heap.size := Nat.le_trans h.hg (Nat.le_of_lt (blk_lt h.hb))
      have hbo : okB fuse armed dead = true := by unfold okB; exact decide_eq_true hc
      obtain ⟨fu, hfu⟩ : ∃ x, x = (chg fuse armed dead).2.1 := ⟨_, rfl⟩
      obtain ⟨de, hde⟩ : ∃ x, x = (chg fuse armed dead).2.2 := ⟨_, rfl⟩
      obtain ⟨ok, hok⟩ : ∃ x, x = okB fuse armed dead := ⟨_, rfl⟩
      have HCH := Aside0.mk (rkchange_any b g gd dn ds dv now safe ops vF rl room fuse armed dead w h h0 h1)
      rw [← hfu, ← hde, ← hok] at HCH
      rw [← hfu, ← hde]
      rw [hbo] at hok
      subst hok
      clear h hfu hde hc hbo
      clear hn hr hrm hvn
      go_enter Tryz.func28, Tryz.ntmps28
      go_wp2_with (first | (go_at_call 62; refine HCH.out.mono ?_; rintro e w1 ⟨rfl, hk1, ht1, hl1⟩; have y0 := (blk_cell (hk1.hf r HRM.out).hb 0).trans (rfl : _ = some r.vn); rw [HVN.out] at y0; have H := Aside0.mk hk1; have HT := Aside0.mk ht1; have HL := Aside0.mk hl1; clear hk1 ht1 hl1 HCH) | (go_at_call 19; refine (HGET.out _ _ _ _ H.out).mono ?_; rintro e w2 ⟨rfl, rfl⟩; clear HGET) | (go_at_call 65; refine (xwrite_any b r.g (rpx rl r) r.vn r.vs r.vo r.now r.safe r.ops k A _ c l _ (H.out.hf r HRM.out) hll2 (fun W' _ hb' => HST.out W' (HL.out.trans hb')) hk1 hk2 (by omega) (by omega)).mono ?_; rintro e w5 ⟨rfl, vn', vo', hf5, hv5, ho5, hk5, hl5⟩; have hfin := H.out.file HRM.out hk5 hf5 hv5 (ho5.imp (fun h => h) (fun h => .inr h)); have HF := Aside0.mk hfin.1; have HTF := Aside0.mk (HT.out.trans hfin.2); have HLF := Aside0.mk (HL.out.trans hl5); clear hf5 hv5 ho5 hk5 hl5 hfin))
      go_ret
      exact ⟨rfl, ⟨_, _, HF.out, HTF.out⟩, HLF.out⟩
    · skip
      obtain ⟨hll, hol⟩ := hk.len r (List.mem_of_getElem? hr)
      have HROOM := Aside0.mk (fun W (fuse : Int) (armed dead : Bool) (hW : RK W b g gd dn ds dv now safe ops vF rl room fuse armed dead) => rkroom_any b g gd dn ds dv now safe ops vF rl room fuse armed dead W hW hk hln hl r (List.mem_of_getElem? hr))
      clear hk
      have hrm := List.mem_of_getElem? hr
      have HRM := Aside0.mk hrm
      have HGET := Aside0.mk (fun W (fuse : Int) (armed dead : Bool) (hW : RK W b g gd dn ds dv now safe ops vF rl room fuse armed dead) => rkget_some b g gd dn ds dv now safe ops vF rl room fuse armed dead W hW s i r hn hr hl)
      obtain ⟨A4, c4, hvn⟩ := Kd.R_slice (h.hf r hrm).hn
      have HVN := Aside0.mk hvn
      have hbw : b ≤ w.heap.size := Nat.le_trans h.hg (Nat.le_of_lt (blk_lt h.hb))
      have hbo : okB fuse armed dead = true := by unfold okB; exact decide_eq_true hc
      obtain ⟨fu, hfu⟩ : ∃ x, x = (chg fuse armed dead).2.1 := ⟨_, rfl⟩
      obtain ⟨de, hde⟩ : ∃ x, x = (chg fuse armed dead).2.2 := ⟨_, rfl⟩
      obtain ⟨ok, hok⟩ : ∃ x, x = okB fuse armed dead := ⟨_, rfl⟩
      have HCH := Aside0.mk (rkchange_any b g gd dn ds dv now safe ops vF rl room fuse armed dead w h h0 h1)
      rw [← hfu, ← hde, ← hok] at HCH
      rw [← hfu, ← hde]
      rw [hbo] at hok
      subst hok
      clear h hfu hde hc hbo
      clear hn hr hrm hvn
      go_enter Tryz.func28, Tryz.ntmps28
      go_wp2_with (first | (go_at_call 62; refine HCH.out.mono ?_; rintro e w1 ⟨rfl, hk1, ht1, hl1⟩; have y0 := (blk_cell (hk1.hf r HRM.out).hb 0).trans (rfl : _ = some r.vn); rw [HVN.out] at y0; have H := Aside0.mk hk1; have HT := Aside0.mk ht1; have HL := Aside0.mk hl1; clear hk1 ht1 hl1 HCH) | (go_at_call 19; refine (HGET.out _ _ _ _ H.out).mono ?_; rintro e w2 ⟨rfl, rfl⟩; clear HGET) | (go_at_call 65; refine (xwrite_any b r.g (rpx rl r) r.vn r.vs r.vo r.now r.safe r.ops k A _ c l _ (H.out.hf r HRM.out) hll2 (fun W' _ hb' => HST.out W' (HL.out.trans hb')) hk1 hk2 (by omega) (by omega)).mono ?_; rintro e w5 ⟨rfl, vn', vo', hf5, hv5, ho5, hk5, hl5⟩; have hfin := H.out.file HRM.out hk5 hf5 hv5 (ho5.imp (fun h => h) (fun h => .inr h)); have HF := Aside0.mk hfin.1; have HTF := Aside0.mk (HT.out.trans hfin.2); have HLF := Aside0.mk (HL.out.trans hl5); clear hf5 hv5 ho5 hk5 hl5 hfin))
      go_ret
      exact ⟨rfl, ⟨_, _, HF.out, HTF.out⟩, HLF.out⟩
  · have hh := hh.resolve_left hn0
    have hnp : 0 < n := by omega
    clear hn0
    by_cases hg : r.now.length < k + n
    · rw [show szW r.now.length k n = ((k + n : Nat) : Int) by unfold szW; rw [if_pos hg]] at hh
      have HH := Aside0.mk hh
      clear hh
      obtain ⟨hll, hol⟩ := hk.len r (List.mem_of_getElem? hr)
      have HROOM := Aside0.mk (fun W (fuse : Int) (armed dead : Bool) (hW : RK W b g gd dn ds dv now safe ops vF rl room fuse armed dead) => rkroom_any b g gd dn ds dv now safe ops vF rl room fuse armed dead W hW hk hln hl r (List.mem_of_getElem? hr))
      clear hk
      have hrm := List.mem_of_getElem? hr
      have HRM := Aside0.mk hrm
      have HGET := Aside0.mk (fun W (fuse : Int) (armed dead : Bool) (hW : RK W b g gd dn ds dv now safe ops vF rl room fuse armed dead) => rkget_some b g gd dn ds dv now safe ops vF rl room fuse armed dead W hW s i r hn hr hl)
      obtain ⟨A4, c4, hvn⟩ := Kd.R_slice (h.hf r hrm).hn
      have HVN := Aside0.mk hvn
      have hbw : b ≤ w.heap.size := Nat.le_trans h.hg (Nat.le_of_lt (blk_lt h.hb))
      have hbo : okB fuse armed dead = true := by unfold okB; exact decide_eq_true hc
      obtain ⟨fu, hfu⟩ : ∃ x, x = (chg fuse armed dead).2.1 := ⟨_, rfl⟩
      obtain ⟨de, hde⟩ : ∃ x, x = (chg fuse armed dead).2.2 := ⟨_, rfl⟩
      obtain ⟨ok, hok⟩ : ∃ x, x = okB fuse armed dead := ⟨_, rfl⟩
      have HCH := Aside0.mk (rkchange_any b g gd dn ds dv now safe ops vF rl room fuse armed dead w h h0 h1)
      rw [← hfu, ← hde, ← hok] at HCH
      rw [← hfu, ← hde]
      rw [hbo] at hok
      subst hok
      clear h hfu hde hc hbo
      clear hn hr hrm hvn
      go_enter Tryz.func28, Tryz.ntmps28
      go_wp2_with (first | (go_at_call 62; refine HCH.out.mono ?_; rintro e w1 ⟨rfl, hk1, ht1, hl1⟩; have y0 := (blk_cell (hk1.hf r HRM.out).hb 0).trans (rfl : _ = some r.vn); rw [HVN.out] at y0; have H := Aside0.mk hk1; have HT := Aside0.mk ht1; have HL := Aside0.mk hl1; clear hk1 ht1 hl1 HCH) | (go_at_call 19; refine (HGET.out _ _ _ _ H.out).mono ?_; rintro e w2 ⟨rfl, rfl⟩; clear HGET) | (go_at_call 64; refine (HROOM.out _ _ _ _ H.out (((k + n : Nat) : Int)) (by omega)).mono ?_; rw [HH.out]; rintro e w3 ⟨rfl, hb⟩; have h3 := H.out.below hb; have ht3 := HT.out.trans (RT.of_below hb (fun _ _ h => h)); have hl3 := HL.out.trans (hb.mono (Nat.le_trans hbw HL.out.size)); clear H HL HT; have H := Aside0.mk h3; have HL := Aside0.mk hl3; have HT := Aside0.mk ht3; clear h3 hl3 ht3 hb) | (go_at_call 65; refine (xwrite_any b r.g (rpx rl r) r.vn r.vs r.vo r.now r.safe r.ops k A _ c l _ (H.out.hf r HRM.out) hll2 (fun W' _ hb' => HST.out W' (HL.out.trans hb')) hk1 hk2 (by omega) (by omega)).mono ?_; rintro e w5 ⟨rfl, vn', vo', hf5, hv5, ho5, hk5, hl5⟩; have hfin := H.out.file HRM.out hk5 hf5 hv5 (ho5.imp (fun h => h) (fun h => .inr h)); have HF := Aside0.mk hfin.1; have HTF := Aside0.mk (HT.out.trans hfin.2); have HLF := Aside0.mk (HL.out.trans hl5); clear hf5 hv5 ho5 hk5 hl5 hfin))
      go_ret
      exact ⟨rfl, ⟨_, _, HF.out, HTF.out⟩, HLF.out⟩
    · rw [show szW r.now.length k n = (r.now.length : Int) by unfold szW; rw [if_neg hg]] at hh
      have HH := Aside0.mk hh
      clear hh
      obtain ⟨hll, hol⟩ := hk.len r (List.mem_of_getElem? hr)
      have HROOM := Aside0.mk (fun W (fuse : Int) (armed dead : Bool) (hW : RK W b g gd dn ds dv now safe ops vF rl room fuse armed dead) => rkroom_any b g gd dn ds dv now safe ops vF rl room fuse armed dead W hW hk hln hl r (List.mem_of_getElem? hr))
      clear hk
      have hrm := List.mem_of_getElem? hr
      have HRM := Aside0.mk hrm
      have HGET := Aside0.mk (fun W (fuse : Int) (armed dead : Bool) (hW : RK W b g gd dn ds dv now safe ops vF rl room fuse armed dead) => rkget_some b g gd dn ds dv now safe ops vF rl room fuse armed dead W hW s i r hn hr hl)
      obtain ⟨A4, c4, hvn⟩ := Kd.R_slice (h.hf r hrm).hn
      have HVN := Aside0.mk hvn
      have hbw : b ≤ w.heap.size := Nat.le_trans h.hg (Nat.le_of_lt (blk_lt h.hb))
      have hbo : okB fuse armed dead = true := by unfold okB; exact decide_eq_true hc
      obtain ⟨fu, hfu⟩ : ∃ x, x = (chg fuse armed dead).2.1 := ⟨_, rfl⟩
      obtain ⟨de, hde⟩ : ∃ x, x = (chg fuse armed dead).2.2 := ⟨_, rfl⟩
      obtain ⟨ok, hok⟩ : ∃ x, x = okB fuse armed dead := ⟨_, rfl⟩
      have HCH := Aside0.mk (rkchange_any b g gd dn ds dv now safe ops vF rl room fuse armed dead w h h0 h1)
      rw [← hfu, ← hde, ← hok] at HCH
      rw [← hfu, ← hde]
      rw [hbo] at hok
      subst hok
      clear h hfu hde hc hbo
      clear hn hr hrm hvn
      go_enter Tryz.func28, Tryz.ntmps28
      go_wp2_with (first | (go_at_call 62; refine HCH.out.mono ?_; rintro e w1 ⟨rfl, hk1, ht1, hl1⟩; have y0 := (blk_cell (hk1.hf r HRM.out).hb 0).trans (rfl : _ = some r.vn); rw [HVN.out] at y0; have H := Aside0.mk hk1; have HT := Aside0.mk ht1; have HL := Aside0.mk hl1; clear hk1 ht1 hl1 HCH) | (go_at_call 19; refine (HGET.out _ _ _ _ H.out).mono ?_; rintro e w2 ⟨rfl, rfl⟩; clear HGET) | (go_at_call 64; refine (HROOM.out _ _ _ _ H.out ((r.now.length : Int)) (by omega)).mono ?_; rw [HH.out]; rintro e w3 ⟨rfl, hb⟩; have h3 := H.out.below hb; have ht3 := HT.out.trans (RT.of_below hb (fun _ _ h => h)); have hl3 := HL.out.trans (hb.mono (Nat.le_trans hbw HL.out.size)); clear H HL HT; have H := Aside0.mk h3; have HL := Aside0.mk hl3; have HT := Aside0.mk ht3; clear h3 hl3 ht3 hb) | (go_at_call 65; refine (xwrite_any b r.g (rpx rl r) r.vn r.vs r.vo r.now r.safe r.ops k A _ c l _ (H.out.hf r HRM.out) hll2 (fun W' _ hb' => HST.out W' (HL.out.trans hb')) hk1 hk2 (by omega) (by omega)).mono ?_; rintro e w5 ⟨rfl, vn', vo', hf5, hv5, ho5, hk5, hl5⟩; have hfin := H.out.file HRM.out hk5 hf5 hv5 (ho5.imp (fun h => h) (fun h => .inr h)); have HF := Aside0.mk hfin.1; have HTF := Aside0.mk (HT.out.trans hfin.2); have HLF := Aside0.mk (HL.out.trans hl5); clear hf5 hv5 ho5 hk5 hl5 hfin))
      go_ret
      exact ⟨rfl, ⟨_, _, HF.out, HTF.out⟩, HLF.out⟩
end Go.Proofs.YtpnbjpkdbiiogaaGreat
/- The reference's disk: Loose, Crash. -/
namespace Go.Proofs.YtpnbjpkdbiiogaaGreat
set_option linter.unusedVariables false
open Go.RowKit Go.Maps Go.Proofs.YtpnbjpkdbiiogaaGreatW.PrintWords
attribute [local go_sem] mx2 mn2 mxTwo mnTwo

def sumR (l : List RR) : Nat := (l.map (fun r => r.ops.length)).sum
def looseR (ops : List DOp) (rl : List RR) : Int := ((ops.length + sumR rl : Nat) : Int)
theorem sumR_snoc (l : List RR) (r : RR) : sumR (l ++ [r]) = sumR l + r.ops.length := by unfold sumR; rw [List.map_append, List.sum_append]; rfl
theorem sumR_take (rl : List RR) (i : Nat) (r : RR) (hr : rl[i]? = some r) : sumR (rl.take (i + 1)) = sumR (rl.take i) + r.ops.length := by
  rw [List.take_add_one, hr]
  exact sumR_snoc _ _
theorem sumR_le (m : Nat) : ∀ (l : List RR), (∀ r ∈ l, r.ops.length ≤ m) → sumR l ≤ m * l.length
  | [], _ => by simp [sumR]
  | a :: t, h => by
    have ih := sumR_le m t (fun r hr => h r (List.mem_cons_of_mem _ hr))
    have ha := h a (List.mem_cons_self ..)
    have e : sumR (a :: t) = a.ops.length + sumR t := rfl
    rw [e, List.length_cons, Nat.mul_succ]
    omega
set_option maxHeartbeats 1000000 in
set_option maxRecDepth 100000 in
theorem rkloose_any (b g gd : Nat) (dn ds dv : Value) (now safe : List DN) (ops : List DOp) (vF : Value) (rl : List RR) (room fuse : Int) (armed dead : Bool) (w : World) (h : RK w b g gd dn ds dv now safe ops vF rl room fuse armed dead) (hk : ∀ r ∈ rl, r.ops.length ≤ 500000) (hlo : ops.length ≤ 100000) (hl : rl.length ≤ 100000) : Calls Tryz.prog 21 #[.pointer (some ⟨g, 0, none⟩)] w fun e w' => e = .returned (.int .i64 (looseR ops rl)) ∧ w = w' := by
  obtain ⟨A, c, hdv⟩ := Kd.R_slice h.hd.ho
  obtain ⟨A2, c2, hvF⟩ := Kd.R_slice h.hF
  rw [List.length_map] at hvF
  have c0 := (blk_cell h.hb 0).trans (rfl : _ = some (Value.pointer (some ⟨gd, 0, none⟩)))
  have c1 := (blk_cell h.hb 1).trans (rfl : _ = some vF)
  rw [hvF] at c1
  have d2 := (blk_cell h.hd.hb 2).trans (rfl : _ = some dv)
  rw [hdv] at d2
  have HCF := Aside0.mk (show Kd.C kPtr w A2 rl.length (rl.map RR.g) from C_own9 (hvF ▸ h.hF : Kd.R kPtr 61 w b (fun _ => True) (.slice A2 rl.length c2) (rl.map RR.g)))
  have H := Aside0.mk h
  have HK := Aside0.mk hk
  clear h hk hdv hvF
  go_enter Tryz.func21, Tryz.ntmps21
  go_wp2_with fail
  go_loopg [3, 4] rl.length (fun gk v3 v4 wr => ∃ i S : Nat, v3 = .int .i64 ((ops.length : Int) + (S : Int)) ∧ v4 = .int .i64 (i : Nat) ∧ i ≤ rl.length ∧ S ≤ 500000 * 100000 ∧ Aside0 (gk = rl.length - i) ∧ Aside0 (S = sumR (rl.take i)) ∧ wr = w)
  case atStart => exact ⟨0, 0, by simp, rfl, Nat.zero_le _, by omega, ⟨rfl⟩, ⟨rfl⟩, rfl⟩
  case round =>
    obtain ⟨i, S, rfl, rfl, hi, hSb, hg, HS, rfl⟩ := hrel
    by_cases hlt : i < rl.length
    · obtain ⟨r, hr⟩ : ∃ r, rl[i]? = some r := ⟨rl[i], List.getElem?_eq_getElem hlt⟩
      have hrm := List.mem_of_getElem? hr
      obtain ⟨ad2, e2, sx⟩ := at_ptr HCF.out i hlt
      subst e2
      rw [show (rl.map RR.g).getD i 0 = r.g by rw [List.getD_eq_getElem?_getD, List.getElem?_map, hr]; rfl] at sx
      have hqf := H.out.hf r hrm
      obtain ⟨A4, c4, hqn⟩ := Kd.R_slice hqf.ho
      have y0 := (blk_cell hqf.hb 2).trans (rfl : _ = some r.vo)
      rw [hqn] at y0
      have hrl := HK.out r hrm
      have HT := Aside0.mk (sumR_take rl i r hr)
      have hle := sumR_le 500000 (rl.take (i + 1)) (fun q hq => HK.out q (List.mem_of_mem_take hq))
      rw [HT.out, ← HS.out, List.length_take] at hle
      have hS2 : S + r.ops.length ≤ 500000 * 100000 := by omega
      clear hr hrm hqf hqn hle
      go_wp2_with fail
      go_roundg (rl.length - (i + 1))
      case measure => have := hg.out; omega
      case rel => exact ⟨i + 1, S + r.ops.length, by go_num, by go_num, hlt, hS2, ⟨rfl⟩, ⟨by rw [HT.out, ← HS.out]⟩, rfl⟩
    · obtain rfl : i = rl.length := by omega
      have HE := Aside0.mk (show (ops.length : Int) + (S : Int) = looseR ops rl by unfold looseR; rw [HS.out, List.take_length]; push_cast; rfl)
      go_wp2_with fail
      go_ret
      rw [← HE.out]
      exact ⟨rfl, rfl⟩
/-- A file without its place. -/
structure RV where
  now : List Int
  safe : List Int
  ops : List FOp
def RR.rv (r : RR) : RV := ⟨r.now, r.safe, r.ops⟩
def RV.crash (p : RV) (kl : List Bool) : RV := ⟨crashF p.safe p.ops kl p.ops.length, crashF p.safe p.ops kl p.ops.length, []⟩
def zRV : RV := ⟨[], [], []⟩
/-- The files that are left. -/
def crashR (nm : Int → Bool) (kl : List Bool) : Nat → Nat → List RV → List RV
  | _, _, [] => []
  | j, at_, p :: t => (if nm (j : Int) then p.crash (kl.drop at_) else zRV) :: crashR nm kl (j + 1) (at_ + p.ops.length) t
def sumV (l : List RV) : Nat := (l.map (fun r => r.ops.length)).sum
theorem crashR_snoc (nm : Int → Bool) (kl : List Bool) : ∀ (l : List RV) (j at_ : Nat) (p : RV), crashR nm kl j at_ (l ++ [p]) = crashR nm kl j at_ l ++ [if nm ((j + l.length : Nat) : Int) then p.crash (kl.drop (at_ + sumV l)) else zRV]
  | [], j, at_, p => by simp [crashR, sumV]
  | q :: t, j, at_, p => by
    have e : sumV (q :: t) = q.ops.length + sumV t := rfl
    show (if nm (j : Int) then q.crash (kl.drop at_) else zRV) :: crashR nm kl (j + 1) (at_ + q.ops.length) (t ++ [p]) = _
    rw [crashR_snoc nm kl t (j + 1) (at_ + q.ops.length) p, e, List.length_cons, Nat.add_assoc at_ q.ops.length (sumV t), show j + 1 + t.length = j + (t.length + 1) by omega]
    rfl
theorem sumV_map (l : List RR) : sumV (l.map RR.rv) = sumR l := by unfold sumV sumR; rw [List.map_map]; rfl
theorem crashR_step (nm : Int → Bool) (kl : List Bool) (n : Nat) (rl : List RR) (i : Nat) (r : RR) (hr : rl[i]? = some r) : crashR nm kl 0 n ((rl.take (i + 1)).map RR.rv) = crashR nm kl 0 n ((rl.take i).map RR.rv) ++ [if nm (i : Int) then r.rv.crash (kl.drop (n + sumR (rl.take i))) else zRV] := by
  have hil : i < rl.length := (List.getElem?_eq_some_iff.1 hr).1
  rw [List.take_add_one, hr]
  show crashR nm kl 0 n ((rl.take i ++ [r]).map RR.rv) = _
  rw [List.map_append]
  show crashR nm kl 0 n ((rl.take i).map RR.rv ++ [r.rv]) = _
  rw [crashR_snoc, sumV_map, List.length_map, List.length_take, Nat.min_eq_left (by omega), Nat.zero_add]
theorem namedI_step (nw : List DN) (k : Nat) (hk : k < nw.length) (id : Int) : namedI (nw.take (k + 1)) id = (namedI (nw.take k) id || decide ((nw.getD k zDN).2 = id)) := by
  unfold namedI
  rw [List.take_add_one, List.getElem?_eq_getElem hk, List.any_append, List.getD_eq_getElem?_getD, List.getElem?_eq_getElem hk]
  simp
theorem RF.rx {W0 W : World} {b c g : Nat} {va vb : Value} {now1 safe1 : List Int} (h : RF W c g va vb (.slice none 0 0) now1 safe1 []) (hb : b ≤ c) (hc : W0.heap.size ≤ c) (hs : W0.heap.size ≤ W.heap.size) : RX W b g (fun k => W0.heap.size ≤ k) va vb (.slice none 0 0) now1 safe1 [] :=
  ⟨h.hb, Kd.R_lower (Kd.R_mono (Kd.R_bound h.hn) (fun k hk => Nat.le_trans hc hk.2.1)) hb, Kd.R_lower (Kd.R_mono (Kd.R_bound h.hs) (fun k hk => ⟨Nat.le_trans hc hk.2.1, hk.1⟩)) hb, Kd.R_nil _ _ _ _ _, Nat.le_trans hb h.hg, fun k hk => Nat.le_trans hs hk⟩
end Go.Proofs.YtpnbjpkdbiiogaaGreat
