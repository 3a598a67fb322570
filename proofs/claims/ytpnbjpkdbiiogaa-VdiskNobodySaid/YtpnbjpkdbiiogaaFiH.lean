/- The reference's file: Truncate. -/
import Derived.Test.YtpnbjpkdbiiogaaFiG
namespace Go.Proofs.Ytpnbjpkdbiiogaa
set_option linter.unusedVariables false
open Go.RowKit Go.Proofs.YtpnbjpkdbiiogaaW.PrintWords
attribute [local go_sem] mx2 mn2 mxTwo mnTwo

theorem rtrunc_bad (g : Nat) (n : Int) (w : World) (hn : n < 0 ∨ 0 ≤ n ∧ 1048576 < n) : Calls Try.prog 88 #[.pointer (some ⟨g, 0, none⟩), .int .i64 n] w fun e w' => e = .returned (.int .i64 1) ∧ w' = w := by
  rcases hn with hn | ⟨hn, hn2⟩
  · go_enter Try.func88, Try.ntmps88
    go_wp2
    go_ret
    exact ⟨rfl, rfl⟩
  · go_enter Try.func88, Try.ntmps88
    go_wp2
    go_ret
    exact ⟨rfl, rfl⟩
theorem rtrunc_any (b g : Nat) (vn vs vo : Value) (now safe : List Int) (ops : List FOp) (n : Nat) (w : World) (h : RF w b g vn vs vo now safe ops) (hl : now.length ≤ 1099511627776) (hn : n ≤ 1048576) (ho : ops.length ≤ 1000000) : Calls Try.prog 88 #[.pointer (some ⟨g, 0, none⟩), .int .i64 (n : Int)] w fun e w' => e = .returned (.int .i64 0) ∧ (∃ vn' vo', RF w' b g vn' vs vo' (sizeF (now, ops) n).1 safe (sizeF (now, ops) n).2 ∧ (vn'.ownBlock = vn.ownBlock ∨ vn'.ownBlock = none ∨ ∃ k, vn'.ownBlock = some k ∧ w.heap.size ≤ k)) ∧ KeepBut w w' g vo.ownBlock ∧ Below b w w' := by
  obtain ⟨A, c, rfl, hc, hC⟩ := Kd.R_reads h.hn
  obtain ⟨A2, c2, rfl⟩ := Kd.R_slice h.ho
  have hbw : b ≤ w.heap.size := Nat.le_trans h.hg (Nat.le_of_lt (blk_lt h.hb))
  have hc0 := (blk_cell h.hb 0).trans (rfl : _ = some (Value.slice A now.length c))
  have H := Aside0.mk h
  have HC := Aside0.mk hC
  clear h hC
  by_cases he : (n : Int) = (now.length : Int)
  · have e : sizeF (now, ops) (n : Int) = (now, ops) := by unfold sizeF; rw [if_pos he]
    have hn2 : n = now.length := by omega
    subst hn2
    rw [e]
    clear he e
    go_enter Try.func88, Try.ntmps88
    go_wp2
    go_ret
    exact ⟨rfl, ⟨_, _, H.out, .inl rfl⟩, KeepBut.refl _ _ _, Below.refl _ _⟩
  · have e : sizeF (now, ops) (n : Int) = (sizeL now (n : Int), ops ++ [⟨true, (n : Int), []⟩]) := by unfold sizeF; rw [if_neg he]
    have q : (n == now.length) = false := beq_eq_false_iff_ne.mpr (by omega)
    have q2 : ((n : Int) == (now.length : Int)) = false := beq_eq_false_iff_ne.mpr he
    rw [e]
    clear e
    go_enter Try.func88, Try.ntmps88
    go_wp2_with (first
      | (go_at_call 22; refine (rsize_any A now.length c now (n : Int) _ HC.out (by omega) (by omega)).mono ?_; rintro e w1 ⟨A1, c1, rfl, hc1, hv, hb1⟩; rw [Int.toNat_natCast] at hc1 hv; have hbk := blk_below H.out.hb hb1; have k0 := (blk_cell hbk 0).trans (rfl : _ = some (Value.slice A now.length c)); have k2 := (blk_cell hbk 2).trans (rfl : _ = some (Value.slice A2 ops.length c2)); have f0 := blk_frozen hbk 0; have f2 := blk_frozen hbk 2; have HN := Aside0.mk (H.out.setNow hb1 hv); have HVB := Aside0.mk (Kd.R_base hv); have HVL := Aside0.mk (R_lt hv); have HB := Aside0.mk hb1; clear hv hb1 hbk)
      | (at_builtin; refine Kd.R_append kOp (w0 := _) b rfl (.tmp 31) (.tmp 34) 44 178 (.agg #[(.bool false), (.int .i64 0), (.slice none 0 0)]) 40 rfl Try.underlying44 infoRop rfl (by decide) (by omega) (.slice A2 ops.length c2) ops ⟨true, (n : Int), []⟩ [.bool true, .int .i64 (n : Int), .slice none 0 0] (fun k => some k ≠ (Value.slice A1 n c1).ownBlock) (fun _ => False) rfl (congrArg (fun s => Value.slice (some ⟨s, 0, none⟩) 1 1) (setsz w1 ⟨g, 0, none⟩ (.slice A1 n c1)).symm) (kOp_mkM _ _ _ ⟨true, (n : Int), []⟩ (Kd.R_nil _ _ _ _ _)) (fun _ h => h.elim) (fun k hk e => absurd (HVL.out k e.symm) (by rw [setsz] at hk; omega)) HN.out.ho (Below.refl _ _) (Nat.le_trans hbw (by simpa using HB.out.size)) (by omega) ?_; intro v2 w2 ho2 hbl2 hgr2 hat2; obtain ⟨g2, c3, e3, _, _, _⟩ := Kd.R_form ho2 (by simp); rw [List.length_append, List.length_singleton] at e3; subst e3; have hb2 := blk_grown HN.out.hb hgr2 (Kd.R_ne HN.out.ho HN.out.hb (by omega)); have k2' := (blk_cell hb2 2).trans (rfl : _ = some (Value.slice A2 ops.length c2)); have f2' := blk_frozen hb2 2; have HF := Aside0.mk (HN.out.addOp ho2 hgr2); have HBL := Aside0.mk hbl2; have HGR := Aside0.mk hgr2; clear hb2 ho2 hbl2 hgr2 hat2))
    go_ret
    refine ⟨rfl, ⟨_, _, HF.out, ?_⟩, (((KeepBut.of_below HB.out g _).set_ 0 _).trans (KeepBut.of_grown HGR.out g) (.inl rfl)).set_ 2 _, ((((HB.out.mono hbw).setCell (p := ⟨g, 0, none⟩) H.out.hg _).trans HBL.out).setCell (p := ⟨g, 2, none⟩) H.out.hg _)⟩
    cases A1 with
    | none => exact .inr (.inl rfl)
    | some ad => exact .inr (.inr ⟨ad.block, rfl, HVB.out ad.block rfl⟩)
end Go.Proofs.Ytpnbjpkdbiiogaa
