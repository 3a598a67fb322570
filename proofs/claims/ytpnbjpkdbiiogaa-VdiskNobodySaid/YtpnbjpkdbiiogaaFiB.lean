/- Files: New, Len, Pending, Read; another size; Sync. -/
import Derived.Test.YtpnbjpkdbiiogaaFiA
namespace Go.Proofs.Ytpnbjpkdbiiogaa
set_option linter.unusedVariables false
open Go.RowKit Go.Proofs.YtpnbjpkdbiiogaaW.PrintWords
attribute [local go_sem] mx2 mn2 mxTwo mnTwo

theorem infoOp : (Try.prog.info? 141).map (fun i => (i.zero, i.size, i.bytes)) = some (some (.agg #[(.bool false), (.int .i64 0), (.slice none 0 0)]), 3, 40) := by kernel_rfl
/-- A file in memory: x: which blocks its rows may be. -/
structure FI (W : World) (b g : Nat) (x : Nat → Prop) (vn vs vo : Value) (now safe : List Int) (ops : List FOp) : Prop where
  hb : W.heap[g]? = some (.cells #[vn, vs, vo] 137 (0, 0))
  hn : Kd.R (Kd.int .u8) 5 W b x vn now
  hs : Kd.R (Kd.int .u8) 5 W b x vs safe
  ho : Kd.R kOp 141 W b x vo ops
  hg : b ≤ g
theorem FI.below {W W1 : World} {b g : Nat} {x : Nat → Prop} {vn vs vo : Value} {now safe : List Int} {ops : List FOp} (h : FI W b g x vn vs vo now safe ops) (hb : Below W.heap.size W W1) : FI W1 b g x vn vs vo now safe ops :=
  ⟨blk_below h.hb hb, Kd.R_below h.hn hb, Kd.R_below h.hs hb, Kd.R_below h.ho hb, h.hg⟩
theorem u8E (t : Nat) (ht : 5 ≠ t) : ∀ q, q ∈ 5 :: (Kd.int .u8).E → q ≠ t := by
  intro q hq
  have : (Kd.int .u8).E = [] := rfl
  rw [this] at hq
  simp at hq
  omega
theorem opE (t : Nat) (h1 : 141 ≠ t) (ht : 5 ≠ t) : ∀ q, q ∈ 141 :: kOp.E → q ≠ t := by
  intro q hq
  have : kOp.E = [5] := rfl
  rw [this] at hq
  simp at hq
  omega
theorem fnew_any (b : Nat) (x : Nat → Prop) (w : World) (hb : b ≤ w.heap.size) : Calls Try.prog 30 #[] w fun e w' => e = .returned (.pointer (some ⟨w.heap.size, 0, none⟩)) ∧ FI w' b w.heap.size x (.slice none 0 0) (.slice none 0 0) (.slice none 0 0) [] [] [] ∧ Below w.heap.size w w' := by
  go_enter Try.func30, Try.ntmps30
  go_wp2
  go_ret
  exact ⟨rfl, ⟨blk_new _ _, Kd.R_nil _ _ _ _ _, Kd.R_nil _ _ _ _ _, Kd.R_nil _ _ _ _ _, hb⟩, below_alloc (Below.refl _ _) _⟩
theorem flen_any (b g : Nat) (x : Nat → Prop) (vn vs vo : Value) (now safe : List Int) (ops : List FOp) (w : World) (h : FI w b g x vn vs vo now safe ops) : Calls Try.prog 40 #[.pointer (some ⟨g, 0, none⟩)] w fun e w' => e = .returned (.int .i64 (now.length : Int)) ∧ w' = w := by
  obtain ⟨A, c, rfl⟩ := Kd.R_slice h.hn
  have hc0 := (blk_cell h.hb 0).trans (rfl : _ = some (Value.slice A now.length c))
  clear h
  go_enter Try.func40, Try.ntmps40
  go_wp2
  go_ret
  exact ⟨rfl, rfl⟩
theorem fpending_any (b g : Nat) (x : Nat → Prop) (vn vs vo : Value) (now safe : List Int) (ops : List FOp) (w : World) (h : FI w b g x vn vs vo now safe ops) : Calls Try.prog 35 #[.pointer (some ⟨g, 0, none⟩)] w fun e w' => e = .returned (.int .i64 (ops.length : Int)) ∧ w' = w := by
  obtain ⟨A, c, rfl⟩ := Kd.R_slice h.ho
  have hc0 := (blk_cell h.hb 2).trans (rfl : _ = some (Value.slice A ops.length c))
  clear h
  go_enter Try.func35, Try.ntmps35
  go_wp2
  go_ret
  exact ⟨rfl, rfl⟩
theorem flen_nil (w : World) : Calls Try.prog 40 #[.pointer none] w fun e w' => e = .returned (.int .i64 0) ∧ w' = w := by
  go_enter Try.func40, Try.ntmps40
  go_wp2
  go_ret
  exact ⟨rfl, rfl⟩
theorem fpending_nil (w : World) : Calls Try.prog 35 #[.pointer none] w fun e w' => e = .returned (.int .i64 0) ∧ w' = w := by
  go_enter Try.func35, Try.ntmps35
  go_wp2
  go_ret
  exact ⟨rfl, rfl⟩
theorem farU {W : World} {b g i : Nat} {x : Nat → Prop} {v : Value} {xs : List Int} {cs : Array Value} (h : Kd.R (Kd.int .u8) 5 W b x v xs) (hb : W.heap[g]? = some (.cells cs 137 (0, 0))) (u : Value) : Kd.R (Kd.int .u8) 5 (W.setCell ⟨g, i, none⟩ u) b x v xs :=
  Kd.R_mono (Kd.R_far (Kd.R_types h hb (u8E _ (by omega))) (p := ⟨g, i, none⟩) (fun k hk => hk.2) u) (fun k hk => hk.1)
theorem farO {W : World} {b g i : Nat} {x : Nat → Prop} {v : Value} {xs : List FOp} {cs : Array Value} (h : Kd.R kOp 141 W b x v xs) (hb : W.heap[g]? = some (.cells cs 137 (0, 0))) (u : Value) : Kd.R kOp 141 (W.setCell ⟨g, i, none⟩ u) b x v xs :=
  Kd.R_mono (Kd.R_far (Kd.R_types h hb (opE _ (by omega) (by omega))) (p := ⟨g, i, none⟩) (fun k hk => hk.2) u) (fun k hk => hk.1)
/-- A fresh row of numbers, at an elder base, its blocks as wanted. -/
theorem freshU {W : World} {b c : Nat} {x : Nat → Prop} {v : Value} {xs : List Int} (h : Kd.R (Kd.int .u8) 5 W c (fun _ => True) v xs) (hb : b ≤ c) (hx : ∀ k, c ≤ k → x k) : Kd.R (Kd.int .u8) 5 W b x v xs :=
  Kd.R_lower (Kd.R_mono (Kd.R_bound h) (fun k hk => hx k hk.2.1)) hb
/-- Sync. -/
theorem fsync_any (b g : Nat) (x : Nat → Prop) (vn vs vo : Value) (now safe : List Int) (ops : List FOp) (w : World) (h : FI w b g x vn vs vo now safe ops) (hx : ∀ k, w.heap.size ≤ k → x k) (hl : now.length ≤ 1099511627776) : Calls Try.prog 38 #[.pointer (some ⟨g, 0, none⟩)] w fun e w' => e = .returned (.tuple #[]) ∧ (∃ vs', FI w' b g x vn vs' (.slice none 0 0) now now []) ∧ KeepBut w w' g none ∧ Below b w w' := by
  obtain ⟨A, c, rfl, hc, hC⟩ := Kd.R_reads h.hn
  have H := Aside0.mk h
  have HC := Aside0.mk hC
  have hc0 := (blk_cell h.hb 0).trans (rfl : _ = some (Value.slice A now.length c))
  clear h hC
  go_enter Try.func38, Try.ntmps38
  go_wp2_with (go_at_call 86; refine (clone_bytes A now.length c now _ HC.out (by omega)).mono ?_; rintro e w1 ⟨A1, c1, rfl, hc1, hv, hb1⟩; have hbk := blk_below H.out.hb hb1; have k1 := (blk_cell hbk 1).trans (rfl : _ = some vs); have k2 := (blk_cell hbk 2).trans (rfl : _ = some vo); have f1 := blk_frozen hbk 1; have f2 := blk_frozen hbk 2; have HV := Aside0.mk hv; have HB := Aside0.mk hb1; have HK := Aside0.mk hbk; clear hv hb1 hbk)
  first | go_end0 | ((try simp only [Exit.inBlock, Exit.then]); refine bodyPost_ret (results_none rfl _ _ _) rfl ?_)
  have hb1 := blk_put HK.out 1 (.slice A1 now.length c1) rfl
  have hbw : b ≤ w.heap.size := Nat.le_trans H.out.hg (Nat.le_of_lt (blk_lt H.out.hb))
  exact ⟨rfl, ⟨_, blk_put hb1 2 _ rfl, farU (farU (Kd.R_below H.out.hn HB.out) HK.out _) hb1 _, farU (farU (freshU HV.out hbw hx) HK.out _) hb1 _, Kd.R_nil _ _ _ _ _, H.out.hg⟩, ((KeepBut.of_below HB.out g none).set_ 1 _).set_ 2 _, ((HB.out.mono hbw).setCell (p := ⟨g, 1, none⟩) H.out.hg _).setCell (p := ⟨g, 2, none⟩) H.out.hg _⟩
theorem growU {W W1 : World} {b : Nat} {x x' : Nat → Prop} {v vo : Value} {xs : List Int} {ops : List FOp} (h : Kd.R (Kd.int .u8) 5 W b x v xs) (ho : Kd.R kOp 141 W b x' vo ops) (hg : W.grownBy W1 vo.ownBlock) : Kd.R (Kd.int .u8) 5 W1 b x v xs :=
  Kd.R_mono (Kd.R_grown (Kd.R_apartR h ho (u8E _ (by omega))) hg (fun k hk => hk.2)) (fun k hk => hk.1)
theorem setsz (w : World) (p : Addr) (v : Value) : (w.setCell p v).heap.size = w.heap.size := by simp
/-- Another size, whatever it is. -/
theorem fresize_any (b g : Nat) (x : Nat → Prop) (vn vs vo : Value) (now safe : List Int) (ops : List FOp) (n : Nat) (w : World) (h : FI w b g x vn vs vo now safe ops) (hx : ∀ k, w.heap.size ≤ k → x k) (hl : now.length ≤ 1099511627776) (hn : n ≤ 1099511627776) (ho : ops.length ≤ 1000000) : Calls Try.prog 93 #[.pointer (some ⟨g, 0, none⟩), .int .i64 (n : Int)] w fun e w' => e = .returned (.tuple #[]) ∧ (∃ vn' vo', FI w' b g x vn' vs vo' (sizeL now n) safe (ops ++ [⟨true, n, []⟩]) ∧ (vo'.ownBlock = vo.ownBlock ∨ ∃ k, vo'.ownBlock = some k ∧ w.heap.size ≤ k)) ∧ KeepBut w w' g vo.ownBlock ∧ Below b w w' := by
  obtain ⟨A, c, rfl, hc, hC⟩ := Kd.R_reads h.hn
  obtain ⟨A2, c2, rfl⟩ := Kd.R_slice h.ho
  have hbw : b ≤ w.heap.size := Nat.le_trans h.hg (Nat.le_of_lt (blk_lt h.hb))
  have H := Aside0.mk h
  have HC := Aside0.mk hC
  have hc0 := (blk_cell h.hb 0).trans (rfl : _ = some (Value.slice A now.length c))
  clear h hC
  go_enter Try.func93, Try.ntmps93
  go_wp2_with (first
    | (go_at_call 21; refine (size_any A now.length c now (n : Int) _ HC.out (by omega) (by omega)).mono ?_; rintro e w1 ⟨A1, c1, rfl, hc1, hv, hb1⟩; rw [Int.toNat_natCast] at hc1 hv; have hbk := blk_below H.out.hb hb1; have k0 := (blk_cell hbk 0).trans (rfl : _ = some (Value.slice A now.length c)); have k2 := (blk_cell hbk 2).trans (rfl : _ = some (Value.slice A2 ops.length c2)); have f0 := blk_frozen hbk 0; have f2 := blk_frozen hbk 2; have HV := Aside0.mk hv; have HB := Aside0.mk hb1; have HK := Aside0.mk hbk; clear hv hb1 hbk)
    | (at_builtin; refine Kd.R_append kOp (w0 := _) b rfl (.tmp 17) (.tmp 20) 135 141 (.agg #[(.bool false), (.int .i64 0), (.slice none 0 0)]) 40 rfl Try.underlying135 infoOp rfl (by decide) (by omega) (.slice A2 ops.length c2) ops ⟨true, (n : Int), []⟩ [.bool true, .int .i64 (n : Int), .slice none 0 0] x (fun _ => False) rfl (congrArg (fun s => Value.slice (some ⟨s, 0, none⟩) 1 1) (setsz w1 ⟨g, 0, none⟩ (.slice A1 n c1)).symm) (kOp_mkM _ _ _ ⟨true, (n : Int), []⟩ (Kd.R_nil _ _ _ _ _)) (fun _ h => h.elim) (fun k hk => hx k (Nat.le_trans HB.out.size (by simpa using hk))) (farO (Kd.R_below H.out.ho HB.out) HK.out _) (Below.refl _ _) (Nat.le_trans hbw (by simpa using HB.out.size)) (by omega) ?_; intro v2 w2 ho2 hbl2 hgr2 hat2; obtain ⟨g2, c3, e3, _, _, _⟩ := Kd.R_form ho2 (by simp); rw [List.length_append, List.length_singleton] at e3; subst e3; have hb0 := blk_put HK.out 0 (.slice A1 n c1) rfl; have hb2 := blk_grown hb0 hgr2 (Kd.R_ne (farO (i := 0) (Kd.R_below H.out.ho HB.out) HK.out (.slice A1 n c1)) hb0 (by omega)); have k2' := (blk_cell hb2 2).trans (rfl : _ = some (Value.slice A2 ops.length c2)); have f2' := blk_frozen hb2 2; have HB0 := Aside0.mk hb0; have HB2 := Aside0.mk hb2; have HO2 := Aside0.mk ho2; have HBL := Aside0.mk hbl2; have HGR := Aside0.mk hgr2; have HAT := Aside0.mk hat2; clear hb0 hb2 ho2 hbl2 hgr2 hat2))
  first | go_end0 | ((try simp only [Exit.inBlock, Exit.then]); refine bodyPost_ret (results_none rfl _ _ _) rfl ?_)
  have ho1 := farO (i := 0) (Kd.R_below H.out.ho HB.out) HK.out (.slice A1 n c1)
  exact ⟨rfl, ⟨_, _, ⟨blk_put HB2.out 2 _ rfl, farU (growU (farU (freshU HV.out hbw hx) HK.out _) ho1 HGR.out) HB2.out _, farU (growU (farU (Kd.R_below H.out.hs HB.out) HK.out _) ho1 HGR.out) HB2.out _, farO HO2.out HB2.out _, H.out.hg⟩, by
      rcases HAT.out with e | ⟨k, e, hk⟩
      · exact .inl e
      · exact .inr ⟨k, e, Nat.le_trans HB.out.size (by simpa using hk)⟩⟩,
    (((KeepBut.of_below HB.out g _).set_ 0 _).trans (KeepBut.of_grown HGR.out g) (.inl rfl)).set_ 2 _, ((((HB.out.mono hbw).setCell (p := ⟨g, 0, none⟩) H.out.hg _).trans HBL.out).setCell (p := ⟨g, 2, none⟩) H.out.hg _)⟩
end Go.Proofs.Ytpnbjpkdbiiogaa
