/- The reference's file in memory; Sync. -/
import Derived.Test.YtpnbjpkdbiiogaaFiF
namespace Go.Proofs.Ytpnbjpkdbiiogaa
set_option linter.unusedVariables false
open Go.RowKit Go.Proofs.YtpnbjpkdbiiogaaW.PrintWords
attribute [local go_sem] mx2 mn2 mxTwo mnTwo

theorem infoRop : (Try.prog.info? 178).map (fun i => (i.zero, i.size, i.bytes)) = some (some (.agg #[(.bool false), (.int .i64 0), (.slice none 0 0)]), 3, 40) := by kernel_rfl
/-- The reference's file: its Now alone is written in place. -/
structure RF (W : World) (b g : Nat) (vn vs vo : Value) (now safe : List Int) (ops : List FOp) : Prop where
  hb : W.heap[g]? = some (.cells #[vn, vs, vo] 46 (0, 0))
  hn : Kd.R (Kd.int .u8) 5 W b (fun _ => True) vn now
  hs : Kd.R (Kd.int .u8) 5 W b (fun k => some k ≠ vn.ownBlock) vs safe
  ho : Kd.R kOp 178 W b (fun k => some k ≠ vn.ownBlock) vo ops
  hg : b ≤ g
theorem ropE (t : Nat) (h1 : 178 ≠ t) (ht : 5 ≠ t) : ∀ q, q ∈ 178 :: kOp.E → q ≠ t := by
  intro q hq
  have : kOp.E = [5] := rfl
  rw [this] at hq
  simp at hq
  omega
section
variable {W W1 : World} {b g i : Nat} {x : Nat → Prop} {v : Value} {cs : Array Value}
theorem rfarU {xs : List Int} (h : Kd.R (Kd.int .u8) 5 W b x v xs) (hb : W.heap[g]? = some (.cells cs 46 (0, 0))) (u : Value) : Kd.R (Kd.int .u8) 5 (W.setCell ⟨g, i, none⟩ u) b x v xs :=
  Kd.R_mono (Kd.R_far (Kd.R_types h hb (u8E _ (by omega))) (p := ⟨g, i, none⟩) (fun k hk => hk.2) u) (fun k hk => hk.1)
theorem rfarO {xs : List FOp} (h : Kd.R kOp 178 W b x v xs) (hb : W.heap[g]? = some (.cells cs 46 (0, 0))) (u : Value) : Kd.R kOp 178 (W.setCell ⟨g, i, none⟩ u) b x v xs :=
  Kd.R_mono (Kd.R_far (Kd.R_types h hb (ropE _ (by omega) (by omega))) (p := ⟨g, i, none⟩) (fun k hk => hk.2) u) (fun k hk => hk.1)
theorem rgrowU {x' : Nat → Prop} {vo : Value} {xs : List Int} {ops : List FOp} (h : Kd.R (Kd.int .u8) 5 W b x v xs) (ho : Kd.R kOp 178 W b x' vo ops) (hg : W.grownBy W1 vo.ownBlock) : Kd.R (Kd.int .u8) 5 W1 b x v xs :=
  Kd.R_mono (Kd.R_grown (Kd.R_apartR h ho (u8E _ (by omega))) hg (fun k hk => hk.2)) (fun k hk => hk.1)
end
theorem RF.below {W W1 : World} {b g : Nat} {vn vs vo : Value} {now safe : List Int} {ops : List FOp} (h : RF W b g vn vs vo now safe ops) (hb : Below W.heap.size W W1) : RF W1 b g vn vs vo now safe ops :=
  ⟨blk_below h.hb hb, Kd.R_below h.hn hb, Kd.R_below h.hs hb, Kd.R_below h.ho hb, h.hg⟩
theorem R_lt {α : Type} {d : Kd α} {e : Nat} {w : World} {base : Nat} {ok : Nat → Prop} {v : Value} {xs : List α} (h : d.R e w base ok v xs) : ∀ k, v.ownBlock = some k → k < w.heap.size := fun k hk => ((Kd.R_bound h).1 k hk).2.2.1
theorem rsync_any (b g : Nat) (vn vs vo : Value) (now safe : List Int) (ops : List FOp) (w : World) (h : RF w b g vn vs vo now safe ops) (hl : now.length ≤ 1099511627776) : Calls Try.prog 89 #[.pointer (some ⟨g, 0, none⟩)] w fun e w' => e = .returned (.tuple #[]) ∧ (∃ vs', RF w' b g vn vs' (.slice none 0 0) now now []) ∧ KeepBut w w' g none ∧ Below b w w' := by
  obtain ⟨A, c, rfl, hc, hC⟩ := Kd.R_reads h.hn
  have H := Aside0.mk h
  have HC := Aside0.mk hC
  have hbA := blk_alloc h.hb (.cells #[] 5)
  have hc0 := (blk_cell h.hb 0).trans (rfl : _ = some (Value.slice A now.length c))
  have hc0a := (blk_cell hbA 0).trans (rfl : _ = some (Value.slice A now.length c))
  clear h hC hbA
  go_enter Try.func89, Try.ntmps89
  go_wp2_with (at_builtin; refine Kd.R_append_rows (Kd.int .u8) (Rr := (Kd.int .u8).K w) (w0 := w) w.heap.size rfl (.tmp 3) (.tmp 7) 22 5 (.int .u8 0) 1 rfl Try.underlying22 infoU8 rfl (by decide) (by omega) _ [] now A now.length c (fun _ => True) (fun _ => False) rfl rfl (R_empty _ _ _ _ _ trivial) (Kd.C_alloc HC.out _) (fun _ _ h => h) (fun _ h => h.elim) (fun _ _ => trivial) (below_alloc (Below.refl _ _) _) (by simp) (by simp; omega) ?_; intro v1 w1 h1 hb1 _ _; rw [List.nil_append] at h1; obtain ⟨A1, c1, rfl, hc1, _⟩ := Kd.R_reads h1; have hbk := blk_below H.out.hb hb1; have k1 := (blk_cell hbk 1).trans (rfl : _ = some vs); have k2 := (blk_cell hbk 2).trans (rfl : _ = some vo); have f1 := blk_frozen hbk 1; have f2 := blk_frozen hbk 2; have HV := Aside0.mk h1; have HB := Aside0.mk hb1; have HK := Aside0.mk hbk; clear h1 hb1 hbk)
  first | go_end0 | ((try simp only [Exit.inBlock, Exit.then]); refine bodyPost_ret (results_none rfl _ _ _) rfl ?_)
  have hb1 := blk_put HK.out 1 (.slice A1 now.length c1) rfl
  have hbw : b ≤ w.heap.size := Nat.le_trans H.out.hg (Nat.le_of_lt (blk_lt H.out.hb))
  have hx : ∀ k, w.heap.size ≤ k → some k ≠ (Value.slice A now.length c).ownBlock := fun k hk e => by have := R_lt H.out.hn k e.symm; omega
  exact ⟨rfl, ⟨_, blk_put hb1 2 _ rfl, rfarU (rfarU (Kd.R_below H.out.hn HB.out) HK.out _) hb1 _, rfarU (rfarU (freshU HV.out hbw hx) HK.out _) hb1 _, Kd.R_nil _ _ _ _ _, H.out.hg⟩, ((KeepBut.of_below HB.out g none).set_ 1 _).set_ 2 _, ((HB.out.mono hbw).setCell (p := ⟨g, 1, none⟩) H.out.hg _).setCell (p := ⟨g, 2, none⟩) H.out.hg _⟩
section
variable {W W1 : World} {b g : Nat} {vn vs vo v1 : Value} {now safe now1 : List Int} {ops : List FOp} {o : FOp}
/-- A fresh Now. -/
theorem RF.setNow (h : RF W b g vn vs vo now safe ops) (hb : Below W.heap.size W W1) (hv : Kd.R (Kd.int .u8) 5 W1 W.heap.size (fun _ => True) v1 now1) : RF (W1.setCell ⟨g, 0, none⟩ v1) b g v1 vs vo now1 safe ops := by
  have hbw : b ≤ W.heap.size := Nat.le_trans h.hg (Nat.le_of_lt (blk_lt h.hb))
  have h0 := blk_below h.hb hb
  have hne : ∀ k, k < W.heap.size → some k ≠ v1.ownBlock := fun k hk e => by have := Kd.R_base hv k e.symm; omega
  exact ⟨blk_put h0 0 _ rfl, rfarU (Kd.R_lower hv hbw) h0 _, rfarU (Kd.R_below (Kd.R_mono (Kd.R_bound h.hs) (fun k hk => hne k hk.2.2.1)) hb) h0 _, rfarO (Kd.R_below (Kd.R_mono (Kd.R_bound h.ho) (fun k hk => hne k hk.2.2.1)) hb) h0 _, h.hg⟩
theorem RF.addOp (h : RF W b g vn vs vo now safe ops) (ho : Kd.R kOp 178 W1 b (fun k => some k ≠ vn.ownBlock) v1 (ops ++ [o])) (hg : W.grownBy W1 vo.ownBlock) : RF (W1.setCell ⟨g, 2, none⟩ v1) b g vn vs v1 now safe (ops ++ [o]) := by
  have hb := blk_grown h.hb hg (Kd.R_ne h.ho h.hb (by omega))
  exact ⟨blk_put hb 2 _ rfl, rfarU (rgrowU h.hn h.ho hg) hb _, rfarU (rgrowU h.hs h.ho hg) hb _, rfarO ho hb _, h.hg⟩
end
end Go.Proofs.Ytpnbjpkdbiiogaa
