/- Files: New, Len, Pending, Read; another size; Sync. -/
import Derived.Test.YtpnbjpkdbiiogaaGreatJa
import Derived.Deep.RegionHeld3
import Derived.Deep.RegionLaw
import Derived.Test.YtpnbjpkdbiiogaaGreatProg
import Derived.Maps.OwnSet
import Derived.Maps.RangeWalk
import Derived.WalkKit
import Derived.Sort.Walk0
namespace Go.Proofs.YtpnbjpkdbiiogaaGreat
set_option linter.unusedVariables false
open Go.RowKit Go.Proofs.YtpnbjpkdbiiogaaGreatW.PrintWords
attribute [local go_sem] mx2 mn2 mxTwo mnTwo

theorem infoOp : (Tryz.prog.info? 129).map (fun i => (i.zero, i.size, i.bytes)) = some (some (.agg #[(.bool false), (.int .i64 0), (.slice none 0 0)]), 3, 40) := by kernel_rfl
/-- A file in memory: x: which blocks its rows may be. -/
structure FI (W : World) (b g : Nat) (x : Nat → Prop) (vn vs vo : Value) (now safe : List Int) (ops : List FOp) : Prop where
  hb : W.heap[g]? = some (.cells #[vn, vs, vo] 119 (0, 0))
  hn : Kd.R (Kd.int .u8) 5 W b x vn now
  hs : Kd.R (Kd.int .u8) 5 W b x vs safe
  ho : Kd.R kOp 129 W b x vo ops
  hg : b ≤ g
theorem FI.below {W W1 : World} {b g : Nat} {x : Nat → Prop} {vn vs vo : Value} {now safe : List Int} {ops : List FOp} (h : FI W b g x vn vs vo now safe ops) (hb : Below W.heap.size W W1) : FI W1 b g x vn vs vo now safe ops :=
  ⟨blk_below h.hb hb, Kd.R_below h.hn hb, Kd.R_below h.hs hb, Kd.R_below h.ho hb, h.hg⟩
theorem u8E (t : Nat) (ht : 5 ≠ t) : ∀ q, q ∈ 5 :: (Kd.int .u8).E → q ≠ t := by
  intro q hq
  have : (Kd.int .u8).E = [] := rfl
  rw [this] at hq
  simp at hq
  omega
theorem opE (t : Nat) (h1 : 129 ≠ t) (ht : 5 ≠ t) : ∀ q, q ∈ 129 :: kOp.E → q ≠ t := by
  intro q hq
  have : kOp.E = [5] := rfl
  rw [this] at hq
  simp at hq
  omega
theorem fnew_any (b : Nat) (x : Nat → Prop) (w : World) (hb : b ≤ w.heap.size) : Calls Tryz.prog 59 #[] w fun e w' => e = .returned (.pointer (some ⟨w.heap.size, 0, none⟩)) ∧ FI w' b w.heap.size x (.slice none 0 0) (.slice none 0 0) (.slice none 0 0) [] [] [] ∧ Below w.heap.size w w' := by
  go_enter Tryz.func59, Tryz.ntmps59
  go_wp2
  go_ret
  exact ⟨rfl, ⟨blk_new _ _, Kd.R_nil _ _ _ _ _, Kd.R_nil _ _ _ _ _, Kd.R_nil _ _ _ _ _, hb⟩, below_alloc (Below.refl _ _) _⟩
theorem flen_any (b g : Nat) (x : Nat → Prop) (vn vs vo : Value) (now safe : List Int) (ops : List FOp) (w : World) (h : FI w b g x vn vs vo now safe ops) : Calls Tryz.prog 85 #[.pointer (some ⟨g, 0, none⟩)] w fun e w' => e = .returned (.int .i64 (now.length : Int)) ∧ w' = w := by
  obtain ⟨A, c, rfl⟩ := Kd.R_slice h.hn
  have hc0 := (blk_cell h.hb 0).trans (rfl : _ = some (Value.slice A now.length c))
  clear h
  go_enter Tryz.func85, Tryz.ntmps85
  go_wp2
  go_ret
  exact ⟨rfl, rfl⟩
theorem fpending_any (b g : Nat) (x : Nat → Prop) (vn vs vo : Value) (now safe : List Int) (ops : List FOp) (w : World) (h : FI w b g x vn vs vo now safe ops) : Calls Tryz.prog 49 #[.pointer (some ⟨g, 0, none⟩)] w fun e w' => e = .returned (.int .i64 (ops.length : Int)) ∧ w' = w := by
  obtain ⟨A, c, rfl⟩ := Kd.R_slice h.ho
  have hc0 := (blk_cell h.hb 2).trans (rfl : _ = some (Value.slice A ops.length c))
  clear h
  go_enter Tryz.func49, Tryz.ntmps49
  go_wp2
  go_ret
  exact ⟨rfl, rfl⟩
theorem flen_nil (w : World) : Calls Tryz.prog 85 #[.pointer none] w fun e w' => e = .returned (.int .i64 0) ∧ w' = w := by
  go_enter Tryz.func85, Tryz.ntmps85
  go_wp2
  go_ret
  exact ⟨rfl, rfl⟩
theorem fpending_nil (w : World) : Calls Tryz.prog 49 #[.pointer none] w fun e w' => e = .returned (.int .i64 0) ∧ w' = w := by
  go_enter Tryz.func49, Tryz.ntmps49
  go_wp2
  go_ret
  exact ⟨rfl, rfl⟩
theorem farU {W : World} {b g i : Nat} {x : Nat → Prop} {v : Value} {xs : List Int} {cs : Array Value} (h : Kd.R (Kd.int .u8) 5 W b x v xs) (hb : W.heap[g]? = some (.cells cs 119 (0, 0))) (u : Value) : Kd.R (Kd.int .u8) 5 (W.setCell ⟨g, i, none⟩ u) b x v xs :=
  Kd.R_mono (Kd.R_far (Kd.R_types h hb (u8E _ (by omega))) (p := ⟨g, i, none⟩) (fun k hk => hk.2) u) (fun k hk => hk.1)
theorem farO {W : World} {b g i : Nat} {x : Nat → Prop} {v : Value} {xs : List FOp} {cs : Array Value} (h : Kd.R kOp 129 W b x v xs) (hb : W.heap[g]? = some (.cells cs 119 (0, 0))) (u : Value) : Kd.R kOp 129 (W.setCell ⟨g, i, none⟩ u) b x v xs :=
  Kd.R_mono (Kd.R_far (Kd.R_types h hb (opE _ (by omega) (by omega))) (p := ⟨g, i, none⟩) (fun k hk => hk.2) u) (fun k hk => hk.1)
/-- A fresh row of numbers, at an elder base, its blocks as wanted. -/
theorem freshU {W : World} {b c : Nat} {x : Nat → Prop} {v : Value} {xs : List Int} (h : Kd.R (Kd.int .u8) 5 W c (fun _ => True) v xs) (hb : b ≤ c) (hx : ∀ k, c ≤ k → x k) : Kd.R (Kd.int .u8) 5 W b x v xs :=
  Kd.R_lower (Kd.R_mono (Kd.R_bound h) (fun k hk => hx k hk.2.1)) hb
/-- Sync. -/
theorem fsync_any (b g : Nat) (x : Nat → Prop) (vn vs vo : Value) (now safe : List Int) (ops : List FOp) (w : World) (h : FI w b g x vn vs vo now safe ops) (hx : ∀ k, w.heap.size ≤ k → x k) (hl : now.length ≤ 1099511627776) : Calls Tryz.prog 41 #[.pointer (some ⟨g, 0, none⟩)] w fun e w' => e = .returned (.tuple #[]) ∧ (∃ vs', FI w' b g x vn vs' (.slice none 0 0) now now []) ∧ KeepBut w w' g none ∧ Below b w w' := by
  obtain ⟨A, c, rfl, hc, hC⟩ := Kd.R_reads h.hn
  have H := Aside0.mk h
  have HC := Aside0.mk hC
  have hc0 := (blk_cell h.hb 0).trans (rfl : _ = some (Value.slice A now.length c))
  clear h hC
  go_enter Tryz.func41, Tryz.ntmps41
  go_wp2_with (go_at_call 74; refine (clone_bytes A now.length c now _ HC.out (by omega)).mono ?_; rintro e w1 ⟨A1, c1, rfl, hc1, hv, hb1⟩; have hbk := blk_below H.out.hb hb1; have k1 := (blk_cell hbk 1).trans (rfl : _ = some vs); have k2 := (blk_cell hbk 2).trans (rfl : _ = some vo); have f1 := blk_frozen hbk 1; have f2 := blk_frozen hbk 2; have HV := Aside0.mk hv; have HB := Aside0.mk hb1; have HK := Aside0.mk hbk; clear hv hb1 hbk)
  first | go_end0 | ((try simp only [Exit.inBlock, Exit.then]); refine bodyPost_ret (results_none rfl _ _ _) rfl ?_)
  have hb1 := blk_put HK.out 1 (.slice A1 now.length c1) rfl
  have hbw : b ≤ w.heap.size := Nat.le_trans H.out.hg (Nat.le_of_lt (blk_lt H.out.hb))
  exact ⟨rfl, ⟨_, blk_put hb1 2 _ rfl, farU (farU (Kd.R_below H.out.hn HB.out) HK.out _) hb1 _, farU (farU (freshU HV.out hbw hx) HK.out _) hb1 _, Kd.R_nil _ _ _ _ _, H.out.hg⟩, ((KeepBut.of_below HB.out g none).set_ 1 _).set_ 2 _, ((HB.out.mono hbw).setCell (p := ⟨g, 1, none⟩) H.out.hg _).setCell (p := ⟨g, 2, none⟩) H.out.hg _⟩
theorem growU {W W1 : World} {b : Nat} {x x' : Nat → Prop} {v vo : Value} {xs : List Int} {ops : List FOp} (h : Kd.R (Kd.int .u8) 5 W b x v xs) (ho : Kd.R kOp 129 W b x' vo ops) (hg : W.grownBy W1 vo.ownBlock) : Kd.R (Kd.int .u8) 5 W1 b x v xs :=
  Kd.R_mono (Kd.R_grown (Kd.R_apartR h ho (u8E _ (by omega))) hg (fun k hk => hk.2)) (fun k hk => hk.1)
theorem setsz (w : World) (p : Addr) (v : Value) : (w.setCell p v).heap.size = w.heap.size := by simp
/-- Another size, whatever it is. -/
theorem fresize_any (b g : Nat) (x : Nat → Prop) (vn vs vo : Value) (now safe : List Int) (ops : List FOp) (n : Nat) (w : World) (h : FI w b g x vn vs vo now safe ops) (hx : ∀ k, w.heap.size ≤ k → x k) (hl : now.length ≤ 1099511627776) (hn : n ≤ 1099511627776) (ho : ops.length ≤ 1000000) : Calls Tryz.prog 89 #[.pointer (some ⟨g, 0, none⟩), .int .i64 (n : Int)] w fun e w' => e = .returned (.tuple #[]) ∧ (∃ vn' vo', FI w' b g x vn' vs vo' (sizeL now n) safe (ops ++ [⟨true, n, []⟩]) ∧ (vo'.ownBlock = vo.ownBlock ∨ ∃ k, vo'.ownBlock = some k ∧ w.heap.size ≤ k)) ∧ KeepBut w w' g vo.ownBlock ∧ Below b w w' := by
  obtain ⟨A, c, rfl, hc, hC⟩ := Kd.R_reads h.hn
  obtain ⟨A2, c2, rfl⟩ := Kd.R_slice h.ho
  have hbw : b ≤ w.heap.size := Nat.le_trans h.hg (Nat.le_of_lt (blk_lt h.hb))
  have H := Aside0.mk h
  have HC := Aside0.mk hC
  have hc0 := (blk_cell h.hb 0).trans (rfl : _ = some (Value.slice A now.length c))
  clear h hC
  go_enter Tryz.func89, Tryz.ntmps89
  go_wp2_with (first
    | (go_at_call 79; refine (size_any A now.length c now (n : Int) _ HC.out (by omega) (by omega)).mono ?_; rintro e w1 ⟨A1, c1, rfl, hc1, hv, hb1⟩; rw [Int.toNat_natCast] at hc1 hv; have hbk := blk_below H.out.hb hb1; have k0 := (blk_cell hbk 0).trans (rfl : _ = some (Value.slice A now.length c)); have k2 := (blk_cell hbk 2).trans (rfl : _ = some (Value.slice A2 ops.length c2)); have f0 := blk_frozen hbk 0; have f2 := blk_frozen hbk 2; have HV := Aside0.mk hv; have HB := Aside0.mk hb1; have HK := Aside0.mk hbk; clear hv hb1 hbk)
    | (at_builtin; refine Kd.R_append kOp (w0 := _) b rfl (.tmp 17) (.tmp 20) 117 129 (.agg #[(.bool false), (.int .i64 0), (.slice none 0 0)]) 40 rfl Tryz.underlying117 infoOp rfl (by decide) (by omega) (.slice A2 ops.length c2) ops ⟨true, (n : Int), []⟩ [.bool true, .int .i64 (n : Int), .slice none 0 0] x (fun _ => False) rfl (congrArg (fun s => Value.slice (some ⟨s, 0, none⟩) 1 1) (setsz w1 ⟨g, 0, none⟩ (.slice A1 n c1)).symm) (kOp_mkM _ _ _ ⟨true, (n : Int), []⟩ (Kd.R_nil _ _ _ _ _)) (fun _ h => h.elim) (fun k hk => hx k (Nat.le_trans HB.out.size (by simpa using hk))) (farO (Kd.R_below H.out.ho HB.out) HK.out _) (Below.refl _ _) (Nat.le_trans hbw (by simpa using HB.out.size)) (by omega) ?_; intro v2 w2 ho2 hbl2 hgr2 hat2; obtain ⟨g2, c3, e3, _, _, _⟩ := Kd.R_form ho2 (by simp); rw [List.length_append, List.length_singleton] at e3; subst e3; have hb0 := blk_put HK.out 0 (.slice A1 n c1) rfl; have hb2 := blk_grown hb0 hgr2 (Kd.R_ne (farO (i := 0) (Kd.R_below H.out.ho HB.out) HK.out (.slice A1 n c1)) hb0 (by omega)); have k2' := (blk_cell hb2 2).trans (rfl : _ = some (Value.slice A2 ops.length c2)); have f2' := blk_frozen hb2 2; have HB0 := Aside0.mk hb0; have HB2 := Aside0.mk hb2; have HO2 := Aside0.mk ho2; have HBL := Aside0.mk hbl2; have HGR := Aside0.mk hgr2; have HAT := Aside0.mk hat2; clear hb0 hb2 ho2 hbl2 hgr2 hat2))
  first | go_end0 | ((try simp only [Exit.inBlock, Exit.then]); refine bodyPost_ret (results_none rfl _ _ _) rfl ?_)
  have ho1 := farO (i := 0) (Kd.R_below H.out.ho HB.out) HK.out (.slice A1 n c1)
  exact ⟨rfl, ⟨_, _, ⟨blk_put HB2.out 2 _ rfl, farU (growU (farU (freshU HV.out hbw hx) HK.out _) ho1 HGR.out) HB2.out _, farU (growU (farU (Kd.R_below H.out.hs HB.out) HK.out _) ho1 HGR.out) HB2.out _, farO HO2.out HB2.out _, H.out.hg⟩, by
      rcases HAT.out with e | ⟨k, e, hk⟩
      · exact .inl e
      · exact .inr ⟨k, e, Nat.le_trans HB.out.size (by simpa using hk)⟩⟩,
    (((KeepBut.of_below HB.out g _).set_ 0 _).trans (KeepBut.of_grown HGR.out g) (.inl rfl)).set_ 2 _, ((((HB.out.mono hbw).setCell (p := ⟨g, 0, none⟩) H.out.hg _).trans HBL.out).setCell (p := ⟨g, 2, none⟩) H.out.hg _)⟩
end Go.Proofs.YtpnbjpkdbiiogaaGreat
/- Files: Truncate, Read. -/
namespace Go.Proofs.YtpnbjpkdbiiogaaGreat
set_option linter.unusedVariables false
open Go.RowKit Go.Proofs.YtpnbjpkdbiiogaaGreatW.PrintWords
attribute [local go_sem] mx2 mn2 mxTwo mnTwo

theorem ftrunc_nil (n : Int) (w : World) : Calls Tryz.prog 66 #[.pointer none, .int .i64 n] w fun e w' => e = .returned (.int .i64 3) ∧ w' = w := by
  go_enter Tryz.func66, Tryz.ntmps66
  go_wp2
  go_ret
  exact ⟨rfl, rfl⟩
theorem ftrunc_bad (g : Nat) (n : Int) (w : World) (hn : n < 0 ∨ 0 ≤ n ∧ 1048576 < n) : Calls Tryz.prog 66 #[.pointer (some ⟨g, 0, none⟩), .int .i64 n] w fun e w' => e = .returned (.int .i64 1) ∧ w' = w := by
  rcases hn with hn | ⟨hn, hn2⟩
  · go_enter Tryz.func66, Tryz.ntmps66
    go_wp2
    go_ret
    exact ⟨rfl, rfl⟩
  · go_enter Tryz.func66, Tryz.ntmps66
    go_wp2
    go_ret
    exact ⟨rfl, rfl⟩
theorem ftrunc_any (b g : Nat) (x : Nat → Prop) (vn vs vo : Value) (now safe : List Int) (ops : List FOp) (n : Nat) (w : World) (h : FI w b g x vn vs vo now safe ops) (hx : ∀ k, w.heap.size ≤ k → x k) (hl : now.length ≤ 1099511627776) (hn : n ≤ 1048576) (ho : ops.length ≤ 1000000) : Calls Tryz.prog 66 #[.pointer (some ⟨g, 0, none⟩), .int .i64 (n : Int)] w fun e w' => e = .returned (.int .i64 0) ∧ (∃ vn' vo', FI w' b g x vn' vs vo' (sizeF (now, ops) n).1 safe (sizeF (now, ops) n).2 ∧ (vo'.ownBlock = vo.ownBlock ∨ ∃ k, vo'.ownBlock = some k ∧ w.heap.size ≤ k)) ∧ KeepBut w w' g vo.ownBlock ∧ Below b w w' := by
  obtain ⟨A, c, hvn⟩ := Kd.R_slice h.hn
  have hc0 := (blk_cell h.hb 0).trans (rfl : _ = some vn)
  rw [hvn] at hc0
  have H := Aside0.mk h
  clear h hvn
  by_cases he : (n : Int) = (now.length : Int)
  · have e : sizeF (now, ops) (n : Int) = (now, ops) := by unfold sizeF; rw [if_pos he]
    have hn2 : n = now.length := by omega
    subst hn2
    rw [e]
    clear he e
    go_enter Tryz.func66, Tryz.ntmps66
    go_wp2
    go_ret
    exact ⟨rfl, ⟨_, _, H.out, .inl rfl⟩, KeepBut.refl _ _ _, Below.refl _ _⟩
  · have e : sizeF (now, ops) (n : Int) = (sizeL now (n : Int), ops ++ [⟨true, (n : Int), []⟩]) := by unfold sizeF; rw [if_neg he]
    have q : (n == now.length) = false := beq_eq_false_iff_ne.mpr (by omega)
    have q2 : ((n : Int) == (now.length : Int)) = false := beq_eq_false_iff_ne.mpr he
    rw [e]
    clear e
    go_enter Tryz.func66, Tryz.ntmps66
    go_wp2_with (go_at_call 89; refine (fresize_any b g x vn vs vo now safe ops n _ H.out hx hl (by omega) ho).mono ?_; rintro e w1 ⟨rfl, hf, hk, hb⟩; have HF := Aside0.mk hf; have HK := Aside0.mk hk; have HB := Aside0.mk hb; clear hf hk hb)
    go_ret
    exact ⟨rfl, HF.out, HK.out, HB.out⟩
/-- A cut of a row: its address under a letter. -/
theorem cut_midC {α : Type} {P : Program} (d : Kd α) (t e : TypeId) (kl kh : IntKind) {i : TypeInfo} (ht : P.underlying t = some (.slice e)) (hi : P.info? e = some i) (hsz : i.size = d.sz) (A : Option Addr) (n c lo up : Nat) (h1 : lo ≤ up) (h2 : up ≤ n) (hc : n ≤ c) :
    ∃ A3, (∀ W : World, (Instr.slice t (.slice A n c) (some (.int kl (lo : Int))) (some (.int kh (up : Int))) none).run P W = .ok (.slice A3 (up - lo) (c - lo)) W) ∧ ∀ (w : World) (xs : List α), d.C w A n xs → d.C w A3 (up - lo) ((xs.take up).drop lo) := by
  refine ⟨if c = lo then A else A.map (·.add (lo * d.sz)), fun W => ?_, fun w xs h => ?_⟩
  · have h := cut_mid (P := P) t e kl kh ht hi d.sz hsz A n c (lo : Int) (up : Int) (by omega) (by omega) (by omega) hc W
    simpa using h
  · obtain rfl : xs.length = n := h.1
    have h3 := C_takeN h up h2
    have hl : (xs.take up).length = up := by rw [List.length_take]; omega
    have h4 : d.C w A (xs.take up).length (xs.take up) := by rw [hl]; exact h3
    have h5 := Kd.C_drop (c := c) h4 (m := lo) (by omega) (by omega)
    rwa [List.length_drop, hl] at h5


/-- What is read. -/
def readL (now : List Int) (k n : Int) : List Int := if k < 0 ∨ (now.length : Int) ≤ k ∨ n ≤ 0 then [] else (now.drop k.toNat).take n.toNat
theorem fread_nil (k n : Int) (w : World) : Calls Tryz.prog 52 #[.pointer none, .int .i64 k, .int .i64 n] w fun e w' => e = .returned (.slice none 0 0) ∧ w' = w := by
  go_enter Tryz.func52, Tryz.ntmps52
  go_wp2
  go_ret
  exact ⟨rfl, rfl⟩
set_option maxHeartbeats 1000000 in
set_option maxRecDepth 100000 in
theorem fread_any (b g : Nat) (x : Nat → Prop) (vn vs vo : Value) (now safe : List Int) (ops : List FOp) (k n : Int) (w : World) (h : FI w b g x vn vs vo now safe ops) (hl : now.length ≤ 1099511627776) : Calls Tryz.prog 52 #[.pointer (some ⟨g, 0, none⟩), .int .i64 k, .int .i64 n] w fun e w' => ∃ A' c', e = .returned (.slice A' (readL now k n).length c') ∧ Kd.C (Kd.int .u8) w' A' (readL now k n).length (readL now k n) ∧ Below w.heap.size w w' := by
  obtain ⟨A, c, rfl, hc, hC⟩ := Kd.R_reads h.hn
  have HC := Aside0.mk hC
  have hc0 := (blk_cell h.hb 0).trans (rfl : _ = some (Value.slice A now.length c))
  clear h hC
  obtain ⟨i0, hi0, _, hz1, _⟩ := info_parts infoU8
  by_cases h1 : k < 0
  · skip
    have HE := Aside0.mk (show readL now k n = [] by unfold readL; rw [if_pos (by omega)])
    rw [HE.out]
    go_enter Tryz.func52, Tryz.ntmps52
    go_wp2
    go_ret
    have hC0 : Kd.C (Kd.int .u8) w none 0 [] := ⟨rfl, Nat.zero_le _, fun h => absurd h (by simp)⟩
    first | exact ⟨none, 0, rfl, hC0, Below.refl _ _⟩ | exact ⟨none, ⟨0, rfl⟩, hC0, Below.refl _ _⟩
  · by_cases h2 : (now.length : Int) ≤ k
    · skip
      have HE := Aside0.mk (show readL now k n = [] by unfold readL; rw [if_pos (by omega)])
      rw [HE.out]
      go_enter Tryz.func52, Tryz.ntmps52
      go_wp2
      go_ret
      have hC0 : Kd.C (Kd.int .u8) w none 0 [] := ⟨rfl, Nat.zero_le _, fun h => absurd h (by simp)⟩
      first | exact ⟨none, 0, rfl, hC0, Below.refl _ _⟩ | exact ⟨none, ⟨0, rfl⟩, hC0, Below.refl _ _⟩
    · by_cases h3 : n ≤ 0
      · skip
        have HE := Aside0.mk (show readL now k n = [] by unfold readL; rw [if_pos (by omega)])
        rw [HE.out]
        go_enter Tryz.func52, Tryz.ntmps52
        go_wp2
        go_ret
        have hC0 : Kd.C (Kd.int .u8) w none 0 [] := ⟨rfl, Nat.zero_le _, fun h => absurd h (by simp)⟩
        first | exact ⟨none, 0, rfl, hC0, Below.refl _ _⟩ | exact ⟨none, ⟨0, rfl⟩, hC0, Below.refl _ _⟩
      · obtain ⟨q, rfl⟩ := Int.eq_ofNat_of_zero_le (show 0 ≤ k by omega)
        obtain ⟨m, hm⟩ : ∃ m : Nat, m = (if (now.length : Int) - (q : Int) < n then (now.length : Int) - (q : Int) else n).toNat := ⟨_, rfl⟩
        have hm1 : (if (now.length : Int) - (q : Int) < n then (now.length : Int) - (q : Int) else n) = (m : Int) := by rw [hm]; split <;> omega
        have hm2 : q + m ≤ now.length := by split at hm <;> omega
        obtain ⟨u, hu⟩ : ∃ u, u = q + m := ⟨_, rfl⟩
        have hw1 : IntKind.i64.wrap ((now.length : Int) - (q : Int)) = (now.length : Int) - (q : Int) := by rw [IntKind.wrap_i64]; omega
        have hw2 : IntKind.i64.wrap ((q : Int) + (m : Int)) = (u : Int) := by rw [IntKind.wrap_i64]; omega
        have hm3 : (if (u : Int) < (now.length : Int) then (u : Int) else (now.length : Int)) = (u : Int) := by split <;> omega
        have hm4 : (if u < now.length then (u : Int) else (now.length : Int)) = (u : Int) := by split <;> omega
        obtain ⟨A3, hcut, hA3⟩ := cut_midC (P := Tryz.prog) (Kd.int .u8) 30 5 .i64 .i64 Tryz.underlying30 hi0 hz1 A now.length c q u (by omega) (by omega) hc
        have hE : (now.take u).drop q = readL now (q : Int) n := by
          unfold readL
          rw [if_neg (by omega), Int.toNat_natCast, hu, List.drop_take, show q + m - q = m by omega]
          by_cases hb : (now.length : Int) - (q : Int) < n
          · rw [if_pos hb] at hm
            rw [List.take_of_length_le (by rw [List.length_drop]; omega), List.take_of_length_le (by rw [List.length_drop]; omega)]
          · rw [if_neg hb] at hm
            rw [hm]
        have hC3 := hA3 _ _ HC.out
        rw [hE] at hC3
        have HC3 := Aside0.mk hC3
        have HL := Aside0.mk hC3.1
        have hun : u - q ≤ 1099511627776 := by omega
        clear hA3 hC3 hE hm hu hm2
        go_enter Tryz.func52, Tryz.ntmps52
        go_wp2_with fail
        go_region_held3 (fun w' => w'.cell? ⟨g, 0, none⟩ = some (.slice A now.length c)) (first | with_reducible exact hc0 | exact hc0) (first
          | (go_at_call 74; refine (clone_bytes A3 (u - q) (c - q) (readL now (q : Int) n) _ (Kd.C_drew HC3.out) (by omega)).mono ?_; rintro e w1 ⟨A1, c1, rfl, hc1, hv, hb1⟩; replace hc0 := pw_cell_below hb1 hc0; have HV := Aside0.mk hv; have HB := Aside0.mk hb1; clear hv hb1))
        all_goals
          go_wp2_with fail
          go_ret
          have hC9 := C_own HV.out
          rw [HL.out]
          have hB9 := below_step (below_drew1 (Below.refl w.heap.size w)) HB.out
          first | exact ⟨_, _, rfl, hC9, hB9⟩ | exact ⟨_, ⟨_, rfl⟩, hC9, hB9⟩
end Go.Proofs.YtpnbjpkdbiiogaaGreat
/- Files: Write. -/
namespace Go.Proofs.YtpnbjpkdbiiogaaGreat
set_option linter.unusedVariables false
open Go.RowKit Go.Proofs.YtpnbjpkdbiiogaaGreatW.PrintWords
attribute [local go_sem] mx2 mn2 mxTwo mnTwo

section
variable {W W1 : World} {b g : Nat} {x : Nat → Prop} {vn vs vo v1 : Value} {now safe now1 : List Int} {ops : List FOp} {o : FOp}
theorem FI.setNow (h : FI W b g x vn vs vo now safe ops) (hb : Below W.heap.size W W1) (hv : Kd.R (Kd.int .u8) 5 W1 b x v1 now1) : FI (W1.setCell ⟨g, 0, none⟩ v1) b g x v1 vs vo now1 safe ops := by
  have h1 := h.below hb
  exact ⟨blk_put h1.hb 0 _ rfl, farU hv h1.hb _, farU h1.hs h1.hb _, farO h1.ho h1.hb _, h.hg⟩
theorem FI.addOp (h : FI W b g x vn vs vo now safe ops) (ho : Kd.R kOp 129 W1 b x v1 (ops ++ [o])) (hg : W.grownBy W1 vo.ownBlock) : FI (W1.setCell ⟨g, 2, none⟩ v1) b g x vn vs v1 now safe (ops ++ [o]) := by
  have hb := blk_grown h.hb hg (Kd.R_ne h.ho h.hb (by omega))
  exact ⟨blk_put hb 2 _ rfl, farU (growU h.hn h.ho hg) hb _, farU (growU h.hs h.ho hg) hb _, farO ho hb _, h.hg⟩
theorem FI.drew (h : FI W b g x vn vs vo now safe ops) : FI W.drew b g x vn vs vo now safe ops := h.below (below_drew1 (Below.refl _ _))
end
theorem fwrite_nil (k : Int) (A : Option Addr) (n c : Nat) (w : World) : Calls Tryz.prog 61 #[.pointer none, .int .i64 k, .slice A n c] w fun e w' => e = .returned (.int .i64 3) ∧ w' = w := by
  go_enter Tryz.func61, Tryz.ntmps61
  go_wp2
  go_ret
  exact ⟨rfl, rfl⟩
theorem fwrite_bad (g : Nat) (k : Int) (A : Option Addr) (n c : Nat) (w : World) (hn : n ≤ 9223372036854775807) (hk : k < 0 ∨ 0 ≤ k ∧ 1048576 < k ∨ 0 ≤ k ∧ k ≤ 1048576 ∧ 1048576 - k < n) : Calls Tryz.prog 61 #[.pointer (some ⟨g, 0, none⟩), .int .i64 k, .slice A n c] w fun e w' => e = .returned (.int .i64 1) ∧ w' = w := by
  rcases hk with hk | ⟨hk, hk2⟩ | ⟨hk, hk2, hk3⟩
  · go_enter Tryz.func61, Tryz.ntmps61
    go_wp2
    go_ret
    exact ⟨rfl, rfl⟩
  · go_enter Tryz.func61, Tryz.ntmps61
    go_wp2
    go_ret
    exact ⟨rfl, rfl⟩
  · go_enter Tryz.func61, Tryz.ntmps61
    go_wp2
    go_ret
    exact ⟨rfl, rfl⟩
theorem kPcE (t : Nat) (h1 : 138 ≠ t) (ht : 5 ≠ t) : ∀ q, q ∈ 138 :: kPc.E → q ≠ t := by
  intro q hq
  have : kPc.E = [5] := rfl
  rw [this] at hq
  simp at hq
  omega
/-- What holds while the pieces are put. -/
structure FW (w : World) (b g : Nat) (x : Nat → Prop) (v0 : Value) (vP : Value) (P : List Pc) (W : World) (vn vs vo : Value) (now safe : List Int) (ops : List FOp) : Prop where
  f : FI W b g x vn vs vo now safe ops
  p : Kd.R kPc 138 W b (fun _ => True) vP P
  k : KeepBut w W g v0.ownBlock
  v : vo.ownBlock = v0.ownBlock ∨ ∃ k, vo.ownBlock = some k ∧ w.heap.size ≤ k
  l : Below b w W
section
variable {w W W1 : World} {b g : Nat} {x : Nat → Prop} {v0 vP vn vs vo v1 : Value} {P : List Pc} {now safe now1 : List Int} {ops : List FOp} {o : FOp}
theorem FW.below (h : FW w b g x v0 vP P W vn vs vo now safe ops) (hb : Below W.heap.size W W1) : FW w b g x v0 vP P W1 vn vs vo now safe ops :=
  ⟨h.f.below hb, Kd.R_below h.p hb, ⟨Nat.le_trans h.k.1 hb.size, fun i hi hg hn => (hb.block i (Nat.lt_of_lt_of_le hi h.k.1)).trans (h.k.2 i hi hg hn)⟩, h.v, h.l.trans (hb.mono (Nat.le_trans h.f.hg (Nat.le_of_lt (blk_lt h.f.hb))))⟩
theorem FW.setNow (h : FW w b g x v0 vP P W vn vs vo now safe ops) (hv : Kd.R (Kd.int .u8) 5 W b x v1 now1) : FW w b g x v0 vP P (W.setCell ⟨g, 0, none⟩ v1) v1 vs vo now1 safe ops :=
  ⟨h.f.setNow (Below.refl _ _) hv, Kd.R_mono (Kd.R_far (Kd.R_types h.p h.f.hb (kPcE _ (by omega) (by omega))) (p := ⟨g, 0, none⟩) (fun k hk => hk.2) _) (fun k hk => hk.1), h.k.set_ 0 _, h.v, h.l.setCell (p := ⟨g, 0, none⟩) h.f.hg _⟩
theorem FW.addOp (h : FW w b g x v0 vP P W vn vs vo now safe ops) (ho : Kd.R kOp 129 W1 b x v1 (ops ++ [o])) (hg : W.grownBy W1 vo.ownBlock) (hl : Below b W W1) (hat : v1.ownBlock = vo.ownBlock ∨ ∃ k, v1.ownBlock = some k ∧ W.heap.size ≤ k) : FW w b g x v0 vP P (W1.setCell ⟨g, 2, none⟩ v1) vn vs v1 now safe (ops ++ [o]) := by
  refine ⟨h.f.addOp ho hg, ?_, (h.k.trans (KeepBut.of_grown hg g) h.v).set_ 2 _, ?_, (h.l.trans hl).setCell (p := ⟨g, 2, none⟩) h.f.hg _⟩
  · have hb := blk_grown h.f.hb hg (Kd.R_ne h.f.ho h.f.hb (by omega))
    have h1 := Kd.R_mono (Kd.R_grown (Kd.R_apartR h.p h.f.ho (kPcE _ (by omega) (by omega))) hg (fun k hk => hk.2)) (fun k hk => hk.1)
    exact Kd.R_mono (Kd.R_far (Kd.R_types h1 hb (kPcE _ (by omega) (by omega))) (p := ⟨g, 2, none⟩) (fun k hk => hk.2) _) (fun k hk => hk.1)
  · rcases hat with e | ⟨k, e, hk⟩
    · rw [e]; exact h.v
    · exact .inr ⟨k, e, Nat.le_trans h.k.1 hk⟩
theorem FW.start {w1 w2 : World} (h : FI w1 b g x vn vs vo now safe ops) (hk : KeepBut w w1 g v0.ownBlock) (hv : vo.ownBlock = v0.ownBlock ∨ ∃ k, vo.ownBlock = some k ∧ w.heap.size ≤ k) (hl : Below b w w1) (hb : Below w1.heap.size w1 w2) (hp : Kd.R kPc 138 w2 w1.heap.size (fun _ => True) vP P) : FW w b g x v0 vP P w2 vn vs vo now safe ops :=
  ⟨h.below hb, Kd.R_lower hp (Nat.le_trans h.hg (Nat.le_of_lt (blk_lt h.hb))), ⟨Nat.le_trans hk.1 hb.size, fun i hi hg hn => (hb.block i (Nat.lt_of_lt_of_le hi hk.1)).trans (hk.2 i hi hg hn)⟩, hv, hl.trans (hb.mono (Nat.le_trans h.hg (Nat.le_of_lt (blk_lt h.hb))))⟩
end
theorem pieces_len : ∀ (g : Nat) (b : List Int) (a : Nat), b.length ≤ g → (pieces a b).length ≤ b.length
  | 0, b, a, hg => by
    obtain rfl := List.eq_nil_of_length_eq_zero (Nat.le_zero.1 hg)
    exact Nat.le_refl _
  | g + 1, b, a, hg => by
    by_cases h0 : 0 < b.length
    · obtain ⟨n, hne⟩ : ∃ n, n = min (64 - a % 64) b.length := ⟨_, rfl⟩
      rw [pieces_step a b n hne h0, List.length_cons]
      have := pieces_len g (b.drop n) (a + n) (by rw [List.length_drop]; omega)
      rw [List.length_drop] at this
      omega
    · obtain rfl := List.eq_nil_of_length_eq_zero (Nat.eq_zero_of_not_pos h0)
      exact Nat.le_refl _
theorem putF_len (s : List Int × List FOp) (p : Pc) : (putF s p).1.length = s.1.length ∧ (putF s p).2.length = s.2.length + 1 := ⟨setL_length _ _ _, by simp [putF]⟩
theorem puts_takeF (P : List Pc) (s : List Int × List FOp) (i : Nat) (h : i < P.length) : (P.take (i + 1)).foldl putF s = putF ((P.take i).foldl putF s) (P.getD i zPc) := by
  rw [List.take_succ_eq_append_getElem h, List.foldl_append]
  simp [List.getD_eq_getElem?_getD, h]
end Go.Proofs.YtpnbjpkdbiiogaaGreat
/- Files: the walk of Write. -/
namespace Go.Proofs.YtpnbjpkdbiiogaaGreat
set_option linter.unusedVariables false
open Go.RowKit Go.Proofs.YtpnbjpkdbiiogaaGreatW.PrintWords
attribute [local go_sem] mx2 mn2 mxTwo mnTwo

set_option maxHeartbeats 4000000 in
set_option maxRecDepth 100000 in
theorem fwrite_any (b g : Nat) (x : Nat → Prop) (vn vs vo : Value) (now safe : List Int) (ops : List FOp) (k : Nat) (A : Option Addr) (n c : Nat) (l : List Int) (w : World) (h : FI w b g x vn vs vo now safe ops) (hx : ∀ k, w.heap.size ≤ k → x k)
    (hl : l.length = n) (hc : n ≤ c) (hst : ∀ W', KeepBut w W' g vo.ownBlock → Below b w W' → Kd.C (Kd.int .u8) W' A n l) (hk : k ≤ 1048576) (hn : n + k ≤ 1048576) (hnow : now.length ≤ 1048576) (hops : ops.length ≤ 500000) :
    Calls Tryz.prog 61 #[.pointer (some ⟨g, 0, none⟩), .int .i64 (k : Int), .slice A n c] w fun e w' => e = .returned (.int .i64 0) ∧ ∃ vn' vo', FI w' b g x vn' vs vo' (writeF (now, ops) k l).1 safe (writeF (now, ops) k l).2 ∧ (vo'.ownBlock = vo.ownBlock ∨ ∃ k, vo'.ownBlock = some k ∧ w.heap.size ≤ k) ∧ KeepBut w w' g vo.ownBlock ∧ Below b w w' := by
  subst hl
  have hbw : b ≤ w.heap.size := Nat.le_trans h.hg (Nat.le_of_lt (blk_lt h.hb))
  obtain ⟨A1, c1, hvn⟩ := Kd.R_slice h.hn
  have hc0 := (blk_cell h.hb 0).trans (rfl : _ = some vn)
  rw [hvn] at hc0
  have HST := Aside0.mk hst
  have HX := Aside0.mk hx
  have H := Aside0.mk h
  clear h hst hvn hx
  by_cases hgrow : 0 < l.length ∧ now.length < k + l.length
  · obtain ⟨hg1, hg2⟩ := hgrow
    go_enter Tryz.func61, Tryz.ntmps61
    go_wp2_with (first
      | (go_at_call 89; refine (fresize_any b g x vn vs vo now safe ops (k + l.length) _ H.out HX.out (by omega) (by omega) (by omega)).mono ?_; rintro e w1 ⟨rfl, ⟨vn1, vo1, hf1, hv1⟩, hk1, hb1⟩; have HF1 := Aside0.mk hf1; have HV1 := Aside0.mk hv1; have HK1 := Aside0.mk hk1; have HB1 := Aside0.mk hb1; clear hf1 hv1 hk1 hb1)
      | (go_at_call 90; refine (pieces_any k A c l _ (HST.out _ HK1.out HB1.out) hc (by omega) (by omega)).mono ?_; rintro e w2 ⟨vP, rfl, hp, hb2⟩; obtain ⟨AP, cP, rfl⟩ := Kd.R_slice hp; have HW := Aside0.mk (FW.start HF1.out HK1.out HV1.out HB1.out hb2 hp); clear hp hb2))
    have hgw : growF (now, ops) k l.length = (sizeL now ((k + l.length : Nat) : Int), ops ++ [⟨true, ((k + l.length : Nat) : Int), []⟩]) := by unfold growF; rw [if_pos ⟨hg1, hg2⟩]
    have HGW := Aside0.mk hgw
    clear hgw HF1 HV1 HK1 HB1
    have hn1 : (sizeL now ((k + l.length : Nat) : Int)).length ≤ 1048576 := by rw [sizeL_length]; omega
    have hn2 : (ops ++ [⟨true, ((k + l.length : Nat) : Int), []⟩] : List FOp).length ≤ 500001 := by rw [List.length_append, List.length_singleton]; omega
    obtain ⟨now1, hE1⟩ : ∃ now1, now1 = sizeL now ((k + l.length : Nat) : Int) := ⟨_, rfl⟩
    obtain ⟨ops1, hE2⟩ : ∃ ops1, ops1 = (ops ++ [⟨true, ((k + l.length : Nat) : Int), []⟩] : List FOp) := ⟨_, rfl⟩
    rw [← hE1] at HGW HW hn1
    rw [← hE2] at HGW HW hn2
    clear hE1 hE2
    have hpl := pieces_len l.length l k (Nat.le_refl _)
    obtain ⟨P, hPE⟩ : ∃ P, P = pieces k l := ⟨_, rfl⟩
    have HPE := Aside0.mk hPE
    rw [← hPE] at HW hpl ⊢
    clear hPE
    go_loopg [8, 9, 52] P.length (fun q v8 v9 v52 wr => ∃ (i : Nat) (vn' vo' : Value) (now' : List Int) (ops' : List FOp), v52 = .int .i64 (i : Int) ∧ i ≤ P.length ∧ Aside0 (q = P.length - i) ∧ now'.length ≤ 1048576 ∧ ops'.length ≤ 500001 + i ∧ Aside0 ((P.take i).foldl putF (now1, ops1) = (now', ops')) ∧ Aside0 (FW w b g x vo (.slice AP P.length cP) P wr vn' vs vo' now' safe ops'))
    case atStart => exact ⟨0, _, _, _, _, rfl, Nat.zero_le _, ⟨rfl⟩, hn1, hn2, ⟨rfl⟩, HW⟩
    case round =>
      clear HW hn1 hn2
      obtain ⟨i, vn', vo', now', ops', rfl, hi, hq, hln, hlo, HF, HW⟩ := hrel
      by_cases hlt : i < P.length
      · obtain ⟨ad, A3, c3, e1, r1, r2, r3, r4⟩ := at_Pc (Kd.R_reads' HW.out.p).2.2 i hlt
        have HPT := Aside0.mk (puts_takeF P (now1, ops1) i hlt)
        obtain ⟨p, hp⟩ : ∃ p, p = P.getD i zPc := ⟨_, rfl⟩
        rw [← hp] at r1 r2 r3 r4 HPT
        subst e1
        have R4 := Aside0.mk r4
        clear hp r4
        go_wp2_with fail
        obtain ⟨W1, hW1⟩ : ∃ W1, W1 = wr.alloc (.cells #[.int .i64 p.s, .int .i64 p.f, .slice A3 p.d.length c3] 138) := ⟨_, rfl⟩
        have hnb : W1.heap[wr.heap.size]? = some (.cells #[.int .i64 p.s, .int .i64 p.f, .slice A3 p.d.length c3] 138 (0, 0)) := by rw [hW1]; exact blk_new _ _
        have hb1 : Below wr.heap.size wr W1 := by rw [hW1]; exact below_alloc (Below.refl _ _) _
        rw [← hW1]
        obtain ⟨p8, hp8⟩ : ∃ p8, p8 = wr.heap.size := ⟨_, rfl⟩
        have hp8b : wr.heap.size ≤ p8 := by omega
        have hgp : g ≠ p8 := by have := blk_lt HW.out.f.hb; omega
        rw [← hp8] at hnb ⊢
        have HW1 := Aside0.mk (HW.out.below hb1)
        have HR4 := Aside0.mk (Kd.C_below R4.out hb1)
        obtain ⟨A7, c7, hvn7⟩ := Kd.R_slice HW.out.f.hn
        have HN7 := Aside0.mk hvn7
        have s0 := (blk_cell HW1.out.f.hb 0).trans (rfl : _ = some vn')
        rw [hvn7] at s0
        have t0 := (blk_cell hnb 0).trans (rfl : _ = some (Value.int .i64 p.s))
        have t1 := (blk_cell hnb 1).trans (rfl : _ = some (Value.int .i64 p.f))
        have t2 := (blk_cell hnb 2).trans (rfl : _ = some (Value.slice A3 p.d.length c3))
        have HNB := Aside0.mk hnb
        clear HW R4 r1 r2 r3 hW1 hb1 hp8 hvn7 hnb
        go_region_held3 (fun w' => w'.cell? ⟨g, 0, none⟩ = some (.slice A7 now'.length c7) ∧ w'.cell? ⟨p8, 0, none⟩ = some (.int .i64 p.s) ∧ w'.cell? ⟨p8, 1, none⟩ = some (.int .i64 p.f) ∧ w'.cell? ⟨p8, 2, none⟩ = some (.slice A3 p.d.length c3)) (first | with_reducible exact ⟨s0, t0, t1, t2⟩ | exact ⟨s0, t0, t1, t2⟩) (first
          | (go_at_call 92; have hfn := (HN7.out ▸ HW1.out.f.hn : Kd.R (Kd.int .u8) 5 W1 b x (.slice A7 now'.length c7) now'); refine (at_any A7 now'.length c7 now' p.s _ (Kd.C_drew (C_own hfn)) (Kd.R_reads' hfn).2.1 (by omega)).mono ?_; rintro e w3 ⟨A8, c8, rfl, hc8, hv, hb⟩; replace s0 := pw_cell_below hb s0; replace t0 := pw_cell_below hb t0; replace t1 := pw_cell_below hb t1; replace t2 := pw_cell_below hb t2; have HAT := Aside0.mk (C_own hv); have hw3 := (HW1.out.below (below_drew1 (Below.refl _ _))).below hb; have hr4 := Kd.C_below (Kd.C_drew HR4.out) hb; have hnb := blk_below (blk_drew HNB.out) hb; clear HW1 HR4 HNB; have HW1 := Aside0.mk hw3; have HR4 := Aside0.mk hr4; have HNB := Aside0.mk hnb; clear hv hb hw3 hr4 hnb hfn)
          | (go_at_call 91; refine (lay_any A8 64 c8 (atL now' p.s) p.s p.f A3 p.d.length c3 p.d _ HAT.out HR4.out).mono ?_; rintro e w4 ⟨A9, c9, rfl, hc9, hv, hb⟩; replace s0 := pw_cell_below hb s0; replace t0 := pw_cell_below hb t0; replace t1 := pw_cell_below hb t1; replace t2 := pw_cell_below hb t2; have hw4 := HW1.out.below hb; have hnb := blk_below HNB.out hb; have hd := freshU hv (Nat.le_trans HW1.out.f.hg (Nat.le_of_lt (blk_lt HW1.out.f.hb))) (x := x) (fun k hk => HX.out k (Nat.le_trans (Nat.le_trans HW1.out.k.1 (Nat.le_refl _)) hk)); clear HW1 HR4 HNB HAT; have HW1 := Aside0.mk hw4; have HNB := Aside0.mk hnb; have HD := Aside0.mk hd; clear hv hb hw4 hnb hd))
        go_wp2_with fail
        have fz := blk_frozen HW1.out.f.hb 0
        go_region_law ((go_simp; go_at_call 80; have hfn := (HN7.out ▸ HW1.out.f.hn : Kd.R (Kd.int .u8) 5 w4 b x (.slice A7 now'.length c7) now'); refine (set_any A7 now'.length c7 now' p.s A9 64 c9 (layL (atL now' p.s) p.f p.d) _ (Kd.C_drew (C_own hfn)) (by omega) (Kd.C_drew (C_own HD.out)) hc9 (by omega)).mono ?_; rintro e w5 ⟨A10, c10, rfl, hc10, hv, hb⟩; replace s0 := pw_cell_below hb s0; replace t0 := pw_cell_below hb t0; have hw5 := (HW1.out.below (below_drew1 (Below.refl _ _))).below hb; have fz5 := blk_frozen hw5.f.hb 0; have hd := Kd.R_below (Kd.R_drew HD.out) hb; have hs := freshU hv (Nat.le_trans HW1.out.f.hg (Nat.le_of_lt (blk_lt HW1.out.f.hb))) (x := x) (fun k hk => HX.out k (Nat.le_trans HW1.out.k.1 hk)); have hnb := blk_below (blk_drew HNB.out) hb; clear HW1 HNB HD; have HW1 := Aside0.mk hw5; have HNB := Aside0.mk hnb; have HD := Aside0.mk hd; have HS := Aside0.mk hs; clear hv hb hw5 hnb hd hs hfn))
        all_goals
          obtain ⟨W6, hW6⟩ : ∃ W6, W6 = w5.setCell ⟨g, 0, none⟩ (.slice A10 now'.length c10) := ⟨_, rfl⟩
          have hw6 := HW1.out.setNow HS.out
          have hd6 := farU (i := 0) HD.out HW1.out.f.hb (.slice A10 now'.length c10)
          have hn6 := blk_far HNB.out (p := ⟨g, 0, none⟩) (Ne.symm hgp) (.slice A10 now'.length c10)
          rw [← hW6] at hw6 hd6 hn6
          have hsz6 : wr.heap.size ≤ W6.heap.size := by have := blk_lt hn6; omega
          rw [← hW6]
          clear HW1 HS HD HNB hW6 s0 t0 fz5
          obtain ⟨A11, c11, hvo⟩ := Kd.R_slice hw6.f.ho
          have s2 := (blk_cell hw6.f.hb 2).trans (rfl : _ = some vo')
          rw [hvo] at s2
          have z2 := blk_frozen hw6.f.hb 2
          have s2a := cell_al (.cells #[.bool false, .int .i64 p.s, .slice A9 64 c9] 129) s2
          have t0 := (blk_cell hn6 0).trans (rfl : _ = some (Value.int .i64 p.s))
          have hda := Kd.R_apartR hd6 hw6.f.ho (u8E _ (by omega))
          have hoA : Kd.R kOp 129 W6 b x (.slice A11 ops'.length c11) ops' := hvo ▸ hw6.f.ho
          have hdA : Kd.R (Kd.int .u8) 5 W6 b (fun k => x k ∧ some k ≠ (Value.slice A11 ops'.length c11).ownBlock) (.slice A9 64 c9) (layL (atL now' p.s) p.f p.d) := hvo ▸ hda
          have hgr0 := Kd.R_ne hoA hw6.f.hb (by omega)
          have hfr : ∀ k, W6.heap.size ≤ k → x k := fun k hk => HX.out k (Nat.le_trans hw6.k.1 hk)
          have hbs : b ≤ W6.heap.size := Nat.le_trans hw6.f.hg (Nat.le_of_lt (blk_lt hw6.f.hb))
          have HW6 := Aside0.mk hw6
          have HDA := Aside0.mk hdA
          have HOA := Aside0.mk hoA
          have HVO := Aside0.mk hvo
          have HFR := Aside0.mk hfr
          have HG0 := Aside0.mk hgr0
          clear hw6 hd6 hn6 hvo hda hdA hoA hfr hgr0
          go_wp2_with fail
          go_region_law ((refine Kd.R_append_step kOp (W := W6.drew) (w0 := W6.drew) b (by rfl) (.tmp 80) (.tmp 85) 117 129 (.agg #[(.bool false), (.int .i64 0), (.slice none 0 0)]) 40 rfl Tryz.underlying117 infoOp rfl (by decide) (by omega) (.slice A11 ops'.length c11) ops' ⟨false, p.s, layL (atL now' p.s) p.f p.d⟩ [.bool false, .int .i64 p.s, .slice A9 64 c9] x (fun k => x k ∧ some k ≠ (Value.slice A11 ops'.length c11).ownBlock) (by rfl) (by rfl) (kOp_mkM _ _ _ ⟨false, p.s, layL (atL now' p.s) p.f p.d⟩ (Kd.R_drew HDA.out)) (fun k hk => hk) (fun k hk => HFR.out k hk) (Kd.R_drew HOA.out) (Below.refl _ _) hbs (by omega) ?_); intro v7 w7 ho7 hl7 hg7 hat7; obtain ⟨g7, c7', e7, _, _, _⟩ := Kd.R_form ho7 (by simp); rw [List.length_append, List.length_singleton] at e7; subst e7; have hb7 := blk_grown (blk_drew HW6.out.f.hb) hg7 HG0.out; have s7 := (blk_cell hb7 2).trans (rfl : _ = some vo'); rw [HVO.out] at s7; have z7 := blk_frozen hb7 2; have HO7 := Aside0.mk ho7; have HL7 := Aside0.mk hl7; have HG7 := Aside0.mk hg7; have HAT7 := Aside0.mk hat7; clear ho7 hl7 hg7 hat7 hb7)
          all_goals
            go_wp2_with fail
            go_roundg (P.length - (i + 1))
            case measure => have := hq.out; omega
            case rel =>
              have hg7 := HG7.out
              have hat7 := HAT7.out
              rw [← HVO.out] at hg7 hat7
              have hfin := (HW6.out.below (below_drew1 (Below.refl _ _))).addOp HO7.out hg7 HL7.out hat7
              exact ⟨i + 1, _, _, _, _, by go_num, by omega, ⟨rfl⟩, by rw [setL_length]; omega, by rw [List.length_append, List.length_singleton]; omega, ⟨by rw [HPT.out, HF.out]; rfl⟩, ⟨hfin⟩⟩
      · go_wp2_with fail
        go_ret
        have e : writeF (now, ops) k l = (now', ops') := by unfold writeF; rw [HGW.out, ← HPE.out, ← HF.out, List.take_of_length_le (by omega)]
        rw [e]
        exact ⟨rfl, _, _, HW.out.f, HW.out.v, HW.out.k, HW.out.l⟩
  · have HGW := Aside0.mk (show growF (now, ops) k l.length = (now, ops) by unfold growF; rw [if_neg hgrow])
    by_cases h0 : 0 < l.length
    · have hng : now.length < k + l.length → False := fun h => hgrow ⟨h0, h⟩
      have hng2 : k + l.length ≤ now.length := by omega
      clear hng hgrow
      go_enter Tryz.func61, Tryz.ntmps61
      go_wp2_with (go_at_call 90; refine (pieces_any k A c l _ (HST.out _ (KeepBut.refl _ _ _) (Below.refl _ _)) hc (by omega) (by omega)).mono ?_; rintro e w2 ⟨vP, rfl, hp, hb2⟩; obtain ⟨AP, cP, rfl⟩ := Kd.R_slice hp; have HW := Aside0.mk (FW.start (v0 := vo) H.out (KeepBut.refl _ _ _) (.inl rfl) (Below.refl _ _) hb2 hp); clear hp hb2)
      have hn1 := hnow
      have hn2 : ops.length ≤ 500001 := by omega
      have hpl := pieces_len l.length l k (Nat.le_refl _)
      obtain ⟨P, hPE⟩ : ∃ P, P = pieces k l := ⟨_, rfl⟩
      have HPE := Aside0.mk hPE
      rw [← hPE] at HW hpl ⊢
      clear hPE
      go_loopg [8, 9, 52] P.length (fun q v8 v9 v52 wr => ∃ (i : Nat) (vn' vo' : Value) (now' : List Int) (ops' : List FOp), v52 = .int .i64 (i : Int) ∧ i ≤ P.length ∧ Aside0 (q = P.length - i) ∧ now'.length ≤ 1048576 ∧ ops'.length ≤ 500001 + i ∧ Aside0 ((P.take i).foldl putF (now, ops) = (now', ops')) ∧ Aside0 (FW w b g x vo (.slice AP P.length cP) P wr vn' vs vo' now' safe ops'))
      case atStart => exact ⟨0, _, _, _, _, rfl, Nat.zero_le _, ⟨rfl⟩, hn1, hn2, ⟨rfl⟩, HW⟩
      case round =>
        clear HW hn1 hn2
        obtain ⟨i, vn', vo', now', ops', rfl, hi, hq, hln, hlo, HF, HW⟩ := hrel
        by_cases hlt : i < P.length
        · obtain ⟨ad, A3, c3, e1, r1, r2, r3, r4⟩ := at_Pc (Kd.R_reads' HW.out.p).2.2 i hlt
          have HPT := Aside0.mk (puts_takeF P (now, ops) i hlt)
          obtain ⟨p, hp⟩ : ∃ p, p = P.getD i zPc := ⟨_, rfl⟩
          rw [← hp] at r1 r2 r3 r4 HPT
          subst e1
          have R4 := Aside0.mk r4
          clear hp r4
          go_wp2_with fail
          obtain ⟨W1, hW1⟩ : ∃ W1, W1 = wr.alloc (.cells #[.int .i64 p.s, .int .i64 p.f, .slice A3 p.d.length c3] 138) := ⟨_, rfl⟩
          have hnb : W1.heap[wr.heap.size]? = some (.cells #[.int .i64 p.s, .int .i64 p.f, .slice A3 p.d.length c3] 138 (0, 0)) := by rw [hW1]; exact blk_new _ _
          have hb1 : Below wr.heap.size wr W1 := by rw [hW1]; exact below_alloc (Below.refl _ _) _
          rw [← hW1]
          obtain ⟨p8, hp8⟩ : ∃ p8, p8 = wr.heap.size := ⟨_, rfl⟩
          have hp8b : wr.heap.size ≤ p8 := by omega
          have hgp : g ≠ p8 := by have := blk_lt HW.out.f.hb; omega
          rw [← hp8] at hnb ⊢
          have HW1 := Aside0.mk (HW.out.below hb1)
          have HR4 := Aside0.mk (Kd.C_below R4.out hb1)
          obtain ⟨A7, c7, hvn7⟩ := Kd.R_slice HW.out.f.hn
          have HN7 := Aside0.mk hvn7
          have s0 := (blk_cell HW1.out.f.hb 0).trans (rfl : _ = some vn')
          rw [hvn7] at s0
          have t0 := (blk_cell hnb 0).trans (rfl : _ = some (Value.int .i64 p.s))
          have t1 := (blk_cell hnb 1).trans (rfl : _ = some (Value.int .i64 p.f))
          have t2 := (blk_cell hnb 2).trans (rfl : _ = some (Value.slice A3 p.d.length c3))
          have HNB := Aside0.mk hnb
          clear HW R4 r1 r2 r3 hW1 hb1 hp8 hvn7 hnb
          go_region_held3 (fun w' => w'.cell? ⟨g, 0, none⟩ = some (.slice A7 now'.length c7) ∧ w'.cell? ⟨p8, 0, none⟩ = some (.int .i64 p.s) ∧ w'.cell? ⟨p8, 1, none⟩ = some (.int .i64 p.f) ∧ w'.cell? ⟨p8, 2, none⟩ = some (.slice A3 p.d.length c3)) (first | with_reducible exact ⟨s0, t0, t1, t2⟩ | exact ⟨s0, t0, t1, t2⟩) (first
            | (go_at_call 92; have hfn := (HN7.out ▸ HW1.out.f.hn : Kd.R (Kd.int .u8) 5 W1 b x (.slice A7 now'.length c7) now'); refine (at_any A7 now'.length c7 now' p.s _ (Kd.C_drew (C_own hfn)) (Kd.R_reads' hfn).2.1 (by omega)).mono ?_; rintro e w3 ⟨A8, c8, rfl, hc8, hv, hb⟩; replace s0 := pw_cell_below hb s0; replace t0 := pw_cell_below hb t0; replace t1 := pw_cell_below hb t1; replace t2 := pw_cell_below hb t2; have HAT := Aside0.mk (C_own hv); have hw3 := (HW1.out.below (below_drew1 (Below.refl _ _))).below hb; have hr4 := Kd.C_below (Kd.C_drew HR4.out) hb; have hnb := blk_below (blk_drew HNB.out) hb; clear HW1 HR4 HNB; have HW1 := Aside0.mk hw3; have HR4 := Aside0.mk hr4; have HNB := Aside0.mk hnb; clear hv hb hw3 hr4 hnb hfn)
            | (go_at_call 91; refine (lay_any A8 64 c8 (atL now' p.s) p.s p.f A3 p.d.length c3 p.d _ HAT.out HR4.out).mono ?_; rintro e w4 ⟨A9, c9, rfl, hc9, hv, hb⟩; replace s0 := pw_cell_below hb s0; replace t0 := pw_cell_below hb t0; replace t1 := pw_cell_below hb t1; replace t2 := pw_cell_below hb t2; have hw4 := HW1.out.below hb; have hnb := blk_below HNB.out hb; have hd := freshU hv (Nat.le_trans HW1.out.f.hg (Nat.le_of_lt (blk_lt HW1.out.f.hb))) (x := x) (fun k hk => HX.out k (Nat.le_trans (Nat.le_trans HW1.out.k.1 (Nat.le_refl _)) hk)); clear HW1 HR4 HNB HAT; have HW1 := Aside0.mk hw4; have HNB := Aside0.mk hnb; have HD := Aside0.mk hd; clear hv hb hw4 hnb hd))
          go_wp2_with fail
          have fz := blk_frozen HW1.out.f.hb 0
          go_region_law ((go_simp; go_at_call 80; have hfn := (HN7.out ▸ HW1.out.f.hn : Kd.R (Kd.int .u8) 5 w4 b x (.slice A7 now'.length c7) now'); refine (set_any A7 now'.length c7 now' p.s A9 64 c9 (layL (atL now' p.s) p.f p.d) _ (Kd.C_drew (C_own hfn)) (by omega) (Kd.C_drew (C_own HD.out)) hc9 (by omega)).mono ?_; rintro e w5 ⟨A10, c10, rfl, hc10, hv, hb⟩; replace s0 := pw_cell_below hb s0; replace t0 := pw_cell_below hb t0; have hw5 := (HW1.out.below (below_drew1 (Below.refl _ _))).below hb; have fz5 := blk_frozen hw5.f.hb 0; have hd := Kd.R_below (Kd.R_drew HD.out) hb; have hs := freshU hv (Nat.le_trans HW1.out.f.hg (Nat.le_of_lt (blk_lt HW1.out.f.hb))) (x := x) (fun k hk => HX.out k (Nat.le_trans HW1.out.k.1 hk)); have hnb := blk_below (blk_drew HNB.out) hb; clear HW1 HNB HD; have HW1 := Aside0.mk hw5; have HNB := Aside0.mk hnb; have HD := Aside0.mk hd; have HS := Aside0.mk hs; clear hv hb hw5 hnb hd hs hfn))
          all_goals
            obtain ⟨W6, hW6⟩ : ∃ W6, W6 = w5.setCell ⟨g, 0, none⟩ (.slice A10 now'.length c10) := ⟨_, rfl⟩
            have hw6 := HW1.out.setNow HS.out
            have hd6 := farU (i := 0) HD.out HW1.out.f.hb (.slice A10 now'.length c10)
            have hn6 := blk_far HNB.out (p := ⟨g, 0, none⟩) (Ne.symm hgp) (.slice A10 now'.length c10)
            rw [← hW6] at hw6 hd6 hn6
            have hsz6 : wr.heap.size ≤ W6.heap.size := by have := blk_lt hn6; omega
            rw [← hW6]
            clear HW1 HS HD HNB hW6 s0 t0 fz5
            obtain ⟨A11, c11, hvo⟩ := Kd.R_slice hw6.f.ho
            have s2 := (blk_cell hw6.f.hb 2).trans (rfl : _ = some vo')
            rw [hvo] at s2
            have z2 := blk_frozen hw6.f.hb 2
            have s2a := cell_al (.cells #[.bool false, .int .i64 p.s, .slice A9 64 c9] 129) s2
            have t0 := (blk_cell hn6 0).trans (rfl : _ = some (Value.int .i64 p.s))
            have hda := Kd.R_apartR hd6 hw6.f.ho (u8E _ (by omega))
            have hoA : Kd.R kOp 129 W6 b x (.slice A11 ops'.length c11) ops' := hvo ▸ hw6.f.ho
            have hdA : Kd.R (Kd.int .u8) 5 W6 b (fun k => x k ∧ some k ≠ (Value.slice A11 ops'.length c11).ownBlock) (.slice A9 64 c9) (layL (atL now' p.s) p.f p.d) := hvo ▸ hda
            have hgr0 := Kd.R_ne hoA hw6.f.hb (by omega)
            have hfr : ∀ k, W6.heap.size ≤ k → x k := fun k hk => HX.out k (Nat.le_trans hw6.k.1 hk)
            have hbs : b ≤ W6.heap.size := Nat.le_trans hw6.f.hg (Nat.le_of_lt (blk_lt hw6.f.hb))
            have HW6 := Aside0.mk hw6
            have HDA := Aside0.mk hdA
            have HOA := Aside0.mk hoA
            have HVO := Aside0.mk hvo
            have HFR := Aside0.mk hfr
            have HG0 := Aside0.mk hgr0
            clear hw6 hd6 hn6 hvo hda hdA hoA hfr hgr0
            go_wp2_with fail
            go_region_law ((refine Kd.R_append_step kOp (W := W6.drew) (w0 := W6.drew) b (by rfl) (.tmp 80) (.tmp 85) 117 129 (.agg #[(.bool false), (.int .i64 0), (.slice none 0 0)]) 40 rfl Tryz.underlying117 infoOp rfl (by decide) (by omega) (.slice A11 ops'.length c11) ops' ⟨false, p.s, layL (atL now' p.s) p.f p.d⟩ [.bool false, .int .i64 p.s, .slice A9 64 c9] x (fun k => x k ∧ some k ≠ (Value.slice A11 ops'.length c11).ownBlock) (by rfl) (by rfl) (kOp_mkM _ _ _ ⟨false, p.s, layL (atL now' p.s) p.f p.d⟩ (Kd.R_drew HDA.out)) (fun k hk => hk) (fun k hk => HFR.out k hk) (Kd.R_drew HOA.out) (Below.refl _ _) hbs (by omega) ?_); intro v7 w7 ho7 hl7 hg7 hat7; obtain ⟨g7, c7', e7, _, _, _⟩ := Kd.R_form ho7 (by simp); rw [List.length_append, List.length_singleton] at e7; subst e7; have hb7 := blk_grown (blk_drew HW6.out.f.hb) hg7 HG0.out; have s7 := (blk_cell hb7 2).trans (rfl : _ = some vo'); rw [HVO.out] at s7; have z7 := blk_frozen hb7 2; have HO7 := Aside0.mk ho7; have HL7 := Aside0.mk hl7; have HG7 := Aside0.mk hg7; have HAT7 := Aside0.mk hat7; clear ho7 hl7 hg7 hat7 hb7)
            all_goals
              go_wp2_with fail
              go_roundg (P.length - (i + 1))
              case measure => have := hq.out; omega
              case rel =>
                have hg7 := HG7.out
                have hat7 := HAT7.out
                rw [← HVO.out] at hg7 hat7
                have hfin := (HW6.out.below (below_drew1 (Below.refl _ _))).addOp HO7.out hg7 HL7.out hat7
                exact ⟨i + 1, _, _, _, _, by go_num, by omega, ⟨rfl⟩, by rw [setL_length]; omega, by rw [List.length_append, List.length_singleton]; omega, ⟨by rw [HPT.out, HF.out]; rfl⟩, ⟨hfin⟩⟩
        · go_wp2_with fail
          go_ret
          have e : writeF (now, ops) k l = (now', ops') := by unfold writeF; rw [HGW.out, ← HPE.out, ← HF.out, List.take_of_length_le (by omega)]
          rw [e]
          exact ⟨rfl, _, _, HW.out.f, HW.out.v, HW.out.k, HW.out.l⟩
    · obtain rfl := List.eq_nil_of_length_eq_zero (show l.length = 0 by omega)
      have HPN := Aside0.mk (pieces_nil k)
      have HWN := Aside0.mk (show writeF (now, ops) k [] = (now, ops) by unfold writeF; rw [pieces_nil]; exact HGW.out)
      clear hgrow h0
      go_enter Tryz.func61, Tryz.ntmps61
      go_wp2_with (go_at_call 90; refine (pieces_any k A c [] _ (HST.out _ (KeepBut.refl _ _ _) (Below.refl _ _)) hc (by simp) (by omega)).mono ?_; rintro e w2 ⟨vP, rfl, hp, hb2⟩; rw [HPN.out] at hp; obtain ⟨AP, cP, rfl⟩ := Kd.R_slice hp; have HW := Aside0.mk (FW.start (v0 := vo) H.out (KeepBut.refl _ _ _) (.inl rfl) (Below.refl _ _) hb2 hp); clear hp hb2)
      refine wp_loop_rounds 1 ?_
      rw [rounds_succ]
      go_wp2_with fail
      go_ret
      rw [HWN.out]
      exact ⟨rfl, _, _, HW.out.f, HW.out.v, HW.out.k, HW.out.l⟩
end Go.Proofs.YtpnbjpkdbiiogaaGreat
/- Maps of whatever elements: a map is a function from keys to values. -/
namespace Go.Proofs.YtpnbjpkdbiiogaaGreat
set_option linter.unusedVariables false
open Go.RowKit Go.Maps

/-- Any element, as it stands. -/
def R0 (v : Value) : Option (DataW Value × List MemPlace) := some (.held v, [])
/-- D is the map that the function says. -/
def Tells (D : DataW Value) (f : Lit → Option Value) : Prop := ∀ (kl : Lit) (z : DataW Value), D.atKey kl z = (match f kl with | some v => .held v | none => z)
/-- Block b is a map of at most n entries: it holds what f says. -/
def MV (w : World) (P : Program) (k : TypeId) (b n : Nat) (f : Lit → Option Value) : Prop := ∃ D : DataW Value, w.ownsMap P k R0 b n D ∧ Tells D f
open Classical in
/-- An entry more, or an entry less. -/
noncomputable def upd (f : Lit → Option Value) (kl : Lit) (v : Option Value) : Lit → Option Value := fun q => if q = kl then v else f q
theorem upd_same (f : Lit → Option Value) (kl : Lit) (v : Option Value) : upd f kl v kl = v := by simp [upd]
theorem upd_other (f : Lit → Option Value) {kl q : Lit} (v : Option Value) (h : q ≠ kl) : upd f kl v q = f q := by simp [upd, h]
theorem Tells.has {D : DataW Value} {f : Lit → Option Value} (h : Tells D f) (kl : Lit) : Maps.has D kl = (f kl).isSome := by
  cases e : f kl with
  | none => exact has_false_of_atKey (fun z => by rw [h kl z, e])
  | some v => exact has_true_of_atKey (y := .held v) (fun z => by rw [h kl z, e])
theorem Tells.put {D : DataW Value} {f : Lit → Option Value} (h : Tells D f) (hm : IsMap D) {kl : Lit} (hk : WideAt.IsKeyLit kl) (v : Value) : Tells (D.put kl (.held v)) (upd f kl (some v)) := by
  intro q z
  by_cases e : q = kl
  · subst e
    rw [upd_same, atKey_put_same hm hk]
  · rw [upd_other _ _ e, atKey_put_other e, h q z]
theorem Tells.del {D : DataW Value} {f : Lit → Option Value} (h : Tells D f) (kl : Lit) : Tells (D.del kl) (upd f kl none) := by
  intro q z
  by_cases e : q = kl
  · subst e
    rw [upd_same, atKey_del_same]
  · rw [upd_other _ _ e, atKey_del_other e, h q z]
theorem key_lit {P : Program} {k : TypeId} {v : Value} {kl : Lit} (h : keyOf P k v = some kl) : WideAt.IsKeyLit kl := by
  unfold keyOf at h
  split at h
  · split at h
    · obtain ⟨ls, _, rfl⟩ := Option.map_eq_some_iff.1 h
      exact trivial
    · cases h
  · split at h
    · obtain ⟨ls, _, rfl⟩ := Option.map_eq_some_iff.1 h
      exact trivial
    · cases h
  · obtain ⟨_, _, _, h2⟩ := Go.WideShapes.mapKey_isKey h
    exact h2
section
variable {w w1 : World} {P : Program} {k : TypeId} {b n : Nat} {f : Lit → Option Value}
theorem MV.made (w : World) (P : Program) (k : TypeId) : MV (w.alloc (.map #[] 0)) P k w.heap.size 0 (fun _ => none) := ⟨_, World.ownsMap_made w P k R0, fun _ _ => rfl⟩
theorem MV.mono (h : MV w P k b n f) {m : Nat} (hm : n ≤ m) : MV w P k b m f := by obtain ⟨D, h1, h2⟩ := h; exact ⟨D, h1.mono hm, h2⟩
theorem MV.lt (h : MV w P k b n f) : b < w.heap.size := by obtain ⟨D, h1, h2⟩ := h; exact h1.lt
theorem MV.move (h : MV w P k b n f) (e : w1.heap[b]? = w.heap[b]?) : MV w1 P k b n f := by
  obtain ⟨D, ⟨es, clock, hb, h1⟩, h2⟩ := h
  exact ⟨D, ⟨es, clock, e.trans hb, h1⟩, h2⟩
theorem MV.below (h : MV w P k b n f) (hb : Below w.heap.size w w1) : MV w1 P k b n f := h.move (hb.block b h.lt)
theorem MV.drew (h : MV w P k b n f) : MV w.drew P k b n f := h
theorem MV.setCell (h : MV w P k b n f) {a : Addr} (ha : b ≠ a.block) (u : Value) : MV (w.setCell a u) P k b n f := h.move (Below.heap_setCell w a u b ha)
theorem MV.obj (h : MV w P k b n f) : ∃ es clock, w.heap[b]? = some (.map es clock) := by
  obtain ⟨D, ⟨es, clock, hb, h1⟩, h2⟩ := h
  exact ⟨es, clock, hb⟩
theorem MV.ne (h : MV w P k b n f) {g : Nat} {cs : Array Value} {t : TypeId} {fr : Nat × Nat} (hg : w.heap[g]? = some (.cells cs t fr)) : b ≠ g := by
  intro e
  obtain ⟨es, clock, hb⟩ := h.obj
  rw [e, hg] at hb
  cases hb
theorem MV.congr (h : MV w P k b n f) {f' : Lit → Option Value} (e : ∀ q, f' q = f q) : MV w P k b n f' := by rwa [show f' = f from funext e]
end
section
variable {P : Program} {w : World} {ops : Array Oper} {rest : List Oper} {o : Oper} {a : Act} {Q : Exit → Act → World → Prop}
/-- v, ok := m[k]. -/
theorem mv_lookup_ok (hg : o.guard = none) (m x : Operand) (t : TypeId) (hop : o.op = Op.lookup t m x true) (k e : TypeId) (K : Keyed P k) (ht : P.underlying t = some (.map k e)) {z : Value} (hz : (zeroValue e).run P w = .ok z w) (b n : Nat) (f : Lit → Option Value)
    (hm : a.eval m = .map (some b)) (h : MV w P k b n f) (key : Value) (kl : Lit) (hx : a.eval x = key) (hkey : keyOf P k key = some kl) (v : Value) (bo : Bool) (hv : (f kl).getD z = v) (hb : (f kl).isSome = bo)
    (hK : wpList P ops Q rest (a.put o.dst (.tuple #[v, .bool bo])) w) : wpList P ops Q (o :: rest) a w := by
  obtain ⟨D, h1, h2⟩ := h
  refine wpList_lookup_own_ok w hg m x t hop k e K ht R0 hz (.held z) [] rfl b n D hm h1 key kl hx hkey (fun v' ps hv' => ?_)
  have e1 : v' = v := by
    have := congrArg (Option.map Prod.fst) hv'
    simp only [R0, Option.map_some, Option.some.injEq] at this
    rw [h2 kl] at this
    rw [← hv]
    cases e : f kl with
    | none => rw [e] at this; simpa using this
    | some y => rw [e] at this; simpa using this
  rw [e1, h2.has kl, hb]
  exact hK
/-- m[k]. -/
theorem mv_lookup (hg : o.guard = none) (m x : Operand) (t : TypeId) (hop : o.op = Op.lookup t m x false) (k e : TypeId) (K : Keyed P k) (ht : P.underlying t = some (.map k e)) {z : Value} (hz : (zeroValue e).run P w = .ok z w) (b n : Nat) (f : Lit → Option Value)
    (hm : a.eval m = .map (some b)) (h : MV w P k b n f) (key : Value) (kl : Lit) (hx : a.eval x = key) (hkey : keyOf P k key = some kl) (v : Value) (hv : (f kl).getD z = v)
    (hK : wpList P ops Q rest (a.put o.dst v) w) : wpList P ops Q (o :: rest) a w := by
  obtain ⟨D, h1, h2⟩ := h
  refine wpList_plain hg fun K' hK' => ?_
  obtain ⟨v', ps, hrun, hv'⟩ := h1.lookup K ht hz (zd := .held z) (zp := []) rfl hkey
  have e1 : v' = v := by
    have := congrArg (Option.map Prod.fst) hv'
    simp only [R0, Option.map_some, Option.some.injEq] at this
    rw [h2 kl] at this
    rw [← hv]
    cases e : f kl with
    | none => rw [e] at this; simpa using this
    | some y => rw [e] at this; simpa using this
  rw [e1] at hrun
  unfold Oper.wp
  simp [execOp, hop, hm, hx, hrun, Result.andThen]
  exact hK' _ _ hK
/-- delete(m, k). -/
theorem mv_delete (hg : o.guard = none) (m x : Operand) (t k : TypeId) (hop : o.op = Op.call { callee := Callee.builtin Builtin.delete, args := #[m, x], argTypes := #[t, k] }) (e : TypeId) (K : Keyed P k) (ht : P.underlying t = some (.map k e)) (b n : Nat) (f : Lit → Option Value)
    (hm : a.eval m = .map (some b)) (h : MV w P k b n f) (key : Value) (kl : Lit) (hx : a.eval x = key) (hkey : keyOf P k key = some kl)
    (hK : ∀ w', MV w' P k b n (upd f kl none) → w.mapTurned w' b → wpList P ops Q rest (a.put o.dst (.tuple #[])) w') : wpList P ops Q (o :: rest) a w := by
  obtain ⟨D, h1, h2⟩ := h
  exact wpList_delete_own w hg m x t k hop e K ht R0 b n D hm h1 key kl hx hkey (fun w' r1 r2 => hK w' ⟨_, r1, h2.del kl⟩ r2)
/-- m[k] = v. -/
theorem mv_store (hg : o.guard = none) (m x v : Operand) (t : TypeId) (hop : o.op = Op.mapUpdate t m x v) (k e : TypeId) (K : Keyed P k) (ht : P.underlying t = some (.map k e)) (b n : Nat) (f : Lit → Option Value)
    (hm : a.eval m = .map (some b)) (h : MV w P k b n f) (hn : n < maxLen) (key val : Value) (kl : Lit) (hx : a.eval x = key) (hv : a.eval v = val) (hkey : keyOf P k key = some kl)
    (hK : ∀ w', MV w' P k b (n + 1) (upd f kl (some val)) → w.mapTurned w' b → wpList P ops Q rest (a.put o.dst undef) w') : wpList P ops Q (o :: rest) a w := by
  obtain ⟨D, h1, h2⟩ := h
  exact wpList_mapUpdate_in w hg m x v t hop k e K ht R0 b n D hm h1 hn key val kl hx hv hkey (.held val) [] rfl (fun w' r1 r2 => hK w' ⟨_, r1, h2.put h1.isMap (key_lit hkey) val⟩ r2)
end
/-- A map that is ranged over. -/
def MR (w : World) (P : Program) (k : TypeId) (b r n : Nat) (f : Lit → Option Value) (left : Lit → Bool) (cnt : Nat) : Prop := ∃ D : DataW Value, w.ranges P k R0 b r n D left cnt ∧ Tells D f
section
variable {w w1 : World} {P : Program} {k : TypeId} {b r n cnt : Nat} {f : Lit → Option Value} {left : Lit → Bool}
theorem MR.owns (h : MR w P k b r n f left cnt) : MV w P k b n f := by obtain ⟨D, h1, h2⟩ := h; exact ⟨D, h1.owns, h2⟩
theorem MR.left_eq (h : MR w P k b r n f left cnt) : w.rangeLeft b r = cnt := by obtain ⟨D, h1, h2⟩ := h; exact h1.left_eq
theorem MR.ne (h : MR w P k b r n f left cnt) : r ≠ b := by obtain ⟨D, h1, h2⟩ := h; exact h1.ne
theorem MR.lt (h : MR w P k b r n f left cnt) : r < w.heap.size := by obtain ⟨D, h1, h2⟩ := h; exact h1.lt
theorem MR.kept {row : Option Nat} (h : MR w P k b r n f left cnt) (hg : w.grownBy w1 row) (hb : some b ≠ row) (hr : some r ≠ row) : MR w1 P k b r n f left cnt := by obtain ⟨D, h1, h2⟩ := h; exact ⟨D, h1.kept hg hb hr, h2⟩
end
section
variable {P : Program} {w : World} {ops : Array Oper} {rest : List Oper} {o : Oper} {a : Act} {Q : Exit → Act → World → Prop}
theorem mv_range (hg : o.guard = none) (m : Operand) (t : TypeId) (hop : o.op = Op.range t m) (k e : TypeId) (K : Keyed P k) (ht : P.underlying t = some (.map k e)) (b n : Nat) (f : Lit → Option Value) (hm : a.eval m = .map (some b)) (h : MV w P k b n f)
    (hK : ∀ w' cnt, cnt ≤ n → MR w' P k b w.heap.size n f (fun q => (f q).isSome) cnt → w.grownBy w' none → w'.heap.size = w.heap.size + 1 → wpList P ops Q rest (a.put o.dst (.pointer (some ⟨w.heap.size, 0, none⟩))) w') : wpList P ops Q (o :: rest) a w := by
  obtain ⟨D, h1, h2⟩ := h
  exact wpList_range_own w hg m t hop k e K ht R0 b n D hm h1 (fun w' r1 r2 r3 => hK w' _ h1.size_le ⟨D, by rwa [show Maps.has D = fun q => (f q).isSome from funext h2.has] at r1, h2⟩ r2 r3)
/-- The step; keys of a shape. -/
theorem mv_next {α : Type} (hg : o.guard = none) (it : Operand) (hop : o.op = Op.next it false) (k : TypeId) (K : Keyed P k) (mkK : α → Value) (invK : ∀ key kl, keyOf P k key = some kl → ∃ x, key = mkK x) (b r n : Nat) (f : Lit → Option Value) (left : Lit → Bool) (cnt : Nat)
    (hit : a.eval it = .pointer (some ⟨r, 0, none⟩)) (h : MR w P k b r n f left cnt)
    (hDone : (∀ kl, left kl = false) → wpList P ops Q rest (a.put o.dst (.tuple #[.bool false])) w)
    (hMore : ∀ (x : α) (v : Value) (kl : Lit) (w' : World) (cnt' : Nat), keyOf P k (mkK x) = some kl → left kl = true → f kl = some v → MR w' P k b r n f (fun z => left z && !z.sameKey kl) cnt' → cnt' < cnt →
      w.grownBy w' (some r) → w'.heap.size = w.heap.size → (Instr.entry (.pointer (some ⟨r, 0, none⟩))).run P w' = .ok (.tuple #[mkK x, v]) w' → wpList P ops Q rest (a.put o.dst (.tuple #[.bool true, mkK x, v])) w') : wpList P ops Q (o :: rest) a w := by
  obtain ⟨D, h1, h2⟩ := h
  refine wpList_next_ranges w hg it hop k K R0 mkK (fun v : Value => v) invK (fun v _ _ => ⟨v, rfl⟩) b r n D left cnt hit h1 (fun _ hl => hDone hl) (fun x v kl y w' cnt' hk hl hv hat hr hlt hg hs he => ?_)
  have e1 : f kl = some v := by
    have h3 := hat (.held (.bool true))
    have h4 := hat (.held (.bool false))
    simp only [R0, Option.some.injEq] at hv
    subst hv
    rw [h2 kl] at h3 h4
    cases e : f kl with
    | none => rw [e] at h3 h4; simp at h3 h4; rw [← h3] at h4; simp at h4
    | some u => rw [e] at h3; simp at h3; rw [h3]
  exact hMore x v kl w' cnt' hk hl e1 ⟨D, hr, h2⟩ hlt hg hs he
end
end Go.Proofs.YtpnbjpkdbiiogaaGreat
/- Directories, lists alone: names that rise, what is done to them. -/
namespace Go.Proofs.YtpnbjpkdbiiogaaGreat
set_option linter.unusedVariables false
open Go.RowKit Go.Maps

/-- A name and its file. -/
abbrev DN := ByteArray × Int
def gtS (a b : ByteArray) : Bool := !(Op.bytesLess a.toList b.toList || a.toList == b.toList)
def withoutL (l : List DN) (s : ByteArray) : List DN := l.filter (fun p => !decide (p.1 = s))
def insL (s : ByteArray) (a : Int) : List DN → List DN
  | [] => [(s, a)]
  | p :: t => if gtS p.1 s then (s, a) :: p :: t else p :: insL s a t
def withL (l : List DN) (s : ByteArray) (a : Int) : List DN := insL s a (withoutL l s)
def getN (l : List DN) (s : ByteArray) : Option Int := (l.find? (fun p => decide (p.1 = s))).map (·.2)
/-- Something done to names: 0 Create, 1 Rename, else Unlink. -/
structure DOp where
  kd : Int
  a : ByteArray
  b : ByteArray
  id : Int
def zDop : DOp := ⟨0, ⟨#[]⟩, ⟨#[]⟩, 0⟩
def didL (l : List DN) (o : DOp) : List DN :=
  if o.kd = 0 then withL l o.a o.id else
    match getN l o.a with
    | none => l
    | some id => if o.kd = 1 then withL (withoutL l o.a) o.b id else withoutL l o.a

/-! ### a round of 'with' -/
def insW (s : ByteArray) (a : Int) (st : List DN × Bool) (p : DN) : List DN × Bool := if !st.2 && gtS p.1 s then (st.1 ++ [(s, a)] ++ [p], true) else (st.1 ++ [p], st.2)
def insEnd (s : ByteArray) (a : Int) (st : List DN × Bool) : List DN := if st.2 then st.1 else st.1 ++ [(s, a)]
theorem insW_true (s : ByteArray) (a : Int) : ∀ (l o : List DN), l.foldl (insW s a) (o, true) = (o ++ l, true)
  | [], o => by simp
  | p :: t, o => by
    rw [List.foldl_cons, show insW s a (o, true) p = (o ++ [p], true) from by simp [insW], insW_true s a t]
    simp
theorem insW_end (s : ByteArray) (a : Int) : ∀ (l o : List DN), insEnd s a (l.foldl (insW s a) (o, false)) = o ++ insL s a l
  | [], o => by simp [insEnd, insL]
  | p :: t, o => by
    rw [List.foldl_cons]
    cases h : gtS p.1 s with
    | true =>
      rw [show insW s a (o, false) p = (o ++ [(s, a)] ++ [p], true) from by simp [insW, h], insW_true]
      simp [insEnd, insL, h]
    | false =>
      rw [show insW s a (o, false) p = (o ++ [p], false) from by simp [insW, h], insW_end s a t]
      simp [insL, h]
theorem insW_len (s : ByteArray) (a : Int) : ∀ (l : List DN) (st : List DN × Bool), (l.foldl (insW s a) st).1.length ≤ st.1.length + l.length + (if st.2 then 0 else 1)
  | [], st => by simp
  | p :: t, st => by
    rw [List.foldl_cons]
    have h := insW_len s a t (insW s a st p)
    obtain ⟨o, d⟩ := st
    cases d with
    | true => simp [insW] at h ⊢; omega
    | false =>
      cases hg : gtS p.1 s with
      | true => simp [insW, hg] at h ⊢; omega
      | false => simp [insW, hg] at h ⊢; omega
theorem insL_len (s : ByteArray) (a : Int) : ∀ l : List DN, (insL s a l).length = l.length + 1
  | [] => rfl
  | p :: t => by
    unfold insL
    split
    · simp
    · simp [insL_len s a t]
theorem withoutL_len (l : List DN) (s : ByteArray) : (withoutL l s).length ≤ l.length := List.length_filter_le _ _
theorem withL_len (l : List DN) (s : ByteArray) (a : Int) : (withL l s a).length ≤ l.length + 1 := by unfold withL; rw [insL_len]; have := withoutL_len l s; omega
theorem didL_len (l : List DN) (o : DOp) : (didL l o).length ≤ l.length + 1 := by
  unfold didL
  split
  · exact withL_len _ _ _
  · split
    · omega
    · split
      · have := withL_len (withoutL l o.a) o.b (by assumption); have := withoutL_len l o.a; omega
      · have := withoutL_len l o.a; omega

/-! ### the map that the names are -/
def kS (s : ByteArray) : Lit := .string s.data.toList
theorem kS_inj {s t : ByteArray} (h : kS s = kS t) : s = t := by
  unfold kS at h
  injection h with h
  cases s; cases t
  simp at h
  rw [h]
open Classical in
noncomputable def mapF (l : List DN) : Lit → Option Value := fun q => match l.find? (fun p => decide (kS p.1 = q)) with | some p => some (.int .i64 p.2) | none => none
open Classical in
theorem mapF_at (l : List DN) (s : ByteArray) : mapF l (kS s) = (getN l s).map (Value.int .i64) := by
  unfold mapF getN
  have e : (fun p : DN => decide (kS p.1 = kS s)) = fun p => decide (p.1 = s) := by
    funext p
    by_cases h : p.1 = s
    · simp [h]
    · have h2 : kS p.1 ≠ kS s := fun e => h (kS_inj e)
      simp [h, h2]
  rw [e]
  cases l.find? (fun p => decide (p.1 = s)) <;> rfl
open Classical in
theorem mapF_cons (p : DN) (l : List DN) (q : Lit) : mapF (p :: l) q = if kS p.1 = q then some (.int .i64 p.2) else mapF l q := by
  unfold mapF
  rw [List.find?_cons]
  by_cases h : kS p.1 = q <;> simp [h]
open Classical in
theorem mapF_without (l : List DN) (s : ByteArray) : mapF (withoutL l s) = upd (mapF l) (kS s) none := by
  funext q
  induction l with
  | nil => unfold upd; simp [mapF, withoutL]
  | cons p t ih =>
    by_cases h : p.1 = s
    · have e : withoutL (p :: t) s = withoutL t s := by simp [withoutL, h]
      rw [e, ih]
      unfold upd
      by_cases hq : q = kS s
      · simp [hq]
      · rw [if_neg hq, if_neg hq, mapF_cons, if_neg (fun e2 => hq (by rw [← e2, h]))]
    · have e : withoutL (p :: t) s = p :: withoutL t s := by simp [withoutL, h]
      rw [e, mapF_cons, ih]
      unfold upd
      rw [mapF_cons]
      by_cases hq : q = kS s
      · rw [if_pos hq, if_pos hq, if_neg (fun e2 => h (kS_inj (e2.trans hq)))]
      · rw [if_neg hq, if_neg hq]
open Classical in
theorem mapF_ins (s : ByteArray) (a : Int) : ∀ (l : List DN), (∀ p ∈ l, p.1 ≠ s) → mapF (insL s a l) = upd (mapF l) (kS s) (some (.int .i64 a))
  | [], _ => by
    funext q
    unfold upd
    by_cases hq : q = kS s
    · rw [if_pos hq]; simp [mapF, insL, hq]
    · rw [if_neg hq]; simp [mapF, insL, Ne.symm hq]
  | p :: t, h => by
    have hp := h p (List.mem_cons_self ..)
    funext q
    unfold insL
    split
    · rw [mapF_cons]
      unfold upd
      by_cases hq : q = kS s
      · simp [hq]
      · rw [if_neg (Ne.symm hq), if_neg hq]
    · rw [mapF_cons, mapF_ins s a t (fun x hx => h x (List.mem_cons_of_mem _ hx))]
      unfold upd
      by_cases hq : q = kS s
      · rw [if_pos hq, if_pos hq, if_neg (fun e => hp (kS_inj (e.trans hq)))]
      · rw [if_neg hq, if_neg hq, mapF_cons]
theorem without_no (l : List DN) (s : ByteArray) : ∀ p ∈ withoutL l s, p.1 ≠ s := by
  intro p hp
  simpa using (List.mem_filter.1 hp).2
open Classical in
theorem mapF_with (l : List DN) (s : ByteArray) (a : Int) : mapF (withL l s a) = upd (mapF l) (kS s) (some (.int .i64 a)) := by
  unfold withL
  rw [mapF_ins s a _ (without_no l s), mapF_without]
  funext q
  unfold upd
  by_cases hq : q = kS s
  · simp [hq]
  · simp [hq]
theorem getN_nil (s : ByteArray) : getN [] s = none := rfl
theorem getN_cons (p : DN) (l : List DN) (s : ByteArray) : getN (p :: l) s = if p.1 = s then some p.2 else getN l s := by
  unfold getN
  rw [List.find?_cons]
  by_cases h : p.1 = s <;> simp [h]
end Go.Proofs.YtpnbjpkdbiiogaaGreat
/- Files: Crash, Copy. -/
namespace Go.Proofs.YtpnbjpkdbiiogaaGreat
set_option linter.unusedVariables false
open Go.RowKit Go.Proofs.YtpnbjpkdbiiogaaGreatW.PrintWords
attribute [local go_sem] mx2 mn2 mxTwo mnTwo

theorem at_Op {w : World} {A : Option Addr} {n : Nat} {xs : List FOp} (h : Kd.C kOp w A n xs) (i : Nat) (h1 : i < n) : ∃ ad A2 c2, A = some ad ∧ w.cell? (ad.add (i * 3)) = some (.bool (xs.getD i zOp).sz) ∧ w.cell? ⟨(ad.add (i * 3)).block, (ad.add (i * 3)).off + 1, none⟩ = some (.int .i64 (xs.getD i zOp).n) ∧ w.cell? ⟨(ad.add (i * 3)).block, (ad.add (i * 3)).off + 2, none⟩ = some (.slice A2 (xs.getD i zOp).d.length c2) ∧ (xs.getD i zOp).d.length ≤ c2 ∧ (Kd.int .u8).C w A2 (xs.getD i zOp).d.length (xs.getD i zOp).d := by
  obtain ⟨ad, c, e, _, hK, hc0⟩ := Kd.C_get h zOp (i : Int) (by omega) (by omega)
  simp only [Int.toNat_natCast] at hK hc0
  have hc : ∀ j u, c[j]? = some u → w.cell? (ad.add (i * 3 + j)) = some u := hc0
  obtain ⟨_, _, rfl, rfl, ⟨_, _, rfl, rfl, ⟨A2, c2, rfl, l2, g2⟩⟩⟩ := hK
  exact ⟨ad, A2, c2, e, hc 0 _ rfl, by rw [← add_field _ _ 1 (by omega)]; exact hc 1 _ rfl, by rw [← add_field _ _ 2 (by omega)]; exact hc 2 _ rfl, l2, g2⟩
theorem at_bool {w : World} {A : Option Addr} {n : Nat} {xs : List Bool} (h : Kd.bool.C w A n xs) (i : Nat) (h1 : i < n) : ∃ ad, A = some ad ∧ w.cell? (ad.add i) = some (.bool (xs.getD i false)) := by
  obtain ⟨ad, c, e, _, hK, hc0⟩ := Kd.C_get h false (i : Int) (by omega) (by omega)
  simp only [Int.toNat_natCast] at hK hc0
  have hK' : c = [.bool (xs.getD i false)] := hK
  subst hK'
  exact ⟨ad, e, by have := hc0 0 _ rfl; rwa [show i * Kd.bool.sz + 0 = i from Nat.mul_one i] at this⟩
theorem fcrash_nil (A : Option Addr) (n c : Nat) (w : World) : Calls Tryz.prog 48 #[.pointer none, .slice A n c] w fun e w' => e = .returned (.pointer none) ∧ w' = w := by
  go_enter Tryz.func48, Tryz.ntmps48
  go_wp2
  go_ret
  exact ⟨rfl, rfl⟩
theorem fsync_nil (w : World) : Calls Tryz.prog 41 #[.pointer none] w fun e w' => e = .returned (.tuple #[]) ∧ w' = w := by
  go_enter Tryz.func41, Tryz.ntmps41
  go_wp2
  first | go_end0 | ((try simp only [Exit.inBlock, Exit.then]); refine bodyPost_ret (results_none rfl _ _ _) rfl ?_)
  exact ⟨rfl, rfl⟩

theorem keepF_len (bs : List Int) (o : FOp) (h : bs.length ≤ 1048576) (ho : o.n ≤ 1048576) : (keepF bs o).length ≤ 1048576 := by
  unfold keepF
  split
  · rw [sizeL_length]; omega
  · rw [setL_length]; exact h
theorem crashF_len (safe : List Int) (ops : List FOp) (kl : List Bool) (h : safe.length ≤ 1048576) (ho : ∀ o ∈ ops, o.n ≤ 1048576) : ∀ i, (crashF safe ops kl i).length ≤ 1048576
  | 0 => h
  | i + 1 => by
    have ih := crashF_len safe ops kl h ho i
    unfold crashF
    split
    · refine keepF_len _ _ ih ?_
      by_cases hi : i < ops.length
      · have e : ops.getD i zOp = ops[i] := by simp [List.getD_eq_getElem?_getD, hi]
        rw [e]
        exact ho _ (List.getElem_mem hi)
      · have e : ops.getD i zOp = zOp := by simp [List.getD_eq_getElem?_getD, List.getElem?_eq_none (Nat.le_of_not_lt hi)]
        rw [e]
        decide
    · exact ih
set_option maxHeartbeats 4000000 in
set_option maxRecDepth 100000 in
theorem fcrash_any (b g : Nat) (x : Nat → Prop) (vn vs vo : Value) (now safe : List Int) (ops : List FOp) (A : Option Addr) (n c : Nat) (kl : List Bool) (w : World) (h : FI w b g x vn vs vo now safe ops) (hk : Kd.bool.C w A n kl) (hsafe : safe.length ≤ 1048576) (hop : ∀ o ∈ ops, o.n ≤ 1048576 ∧ o.d.length ≤ 1048576) (hol : ops.length ≤ 2000000) :
    Calls Tryz.prog 48 #[.pointer (some ⟨g, 0, none⟩), .slice A n c] w fun e w' => ∃ g2 va vb, e = .returned (.pointer (some ⟨g2, 0, none⟩)) ∧ FI w' w.heap.size g2 (fun _ => True) va vb (.slice none 0 0) (crashF safe ops kl ops.length) (crashF safe ops kl ops.length) [] ∧ Below w.heap.size w w' := by
  obtain rfl : kl.length = n := hk.1
  have hkm := Kd.C_max hk
  obtain ⟨A1, c1, rfl, hc1, hC1⟩ := Kd.R_reads h.hs
  obtain ⟨A2, c2, rfl, hc2, hC2⟩ := Kd.R_reads h.ho
  have hc1' := (blk_cell h.hb 1).trans (rfl : _ = some (Value.slice A1 safe.length c1))
  have hc2' := (blk_cell h.hb 2).trans (rfl : _ = some (Value.slice A2 ops.length c2))
  have HK := Aside0.mk hk
  have HC1 := Aside0.mk hC1
  have HC2 := Aside0.mk hC2
  have HOP := Aside0.mk hop
  have HLEN := Aside0.mk (crashF_len safe ops kl hsafe (fun o ho => (hop o ho).1))
  clear h hk hC1 hC2 hop
  go_enter Tryz.func48, Tryz.ntmps48
  go_wp2
  go_loopg [5, 6, 7, 19] ops.length (fun q v5 v6 v7 v19 wr => ∃ (i N : Nat) (A5 : Option Addr) (c5 : Nat), v19 = .int .i64 (i : Int) ∧ v5 = .slice A5 N c5 ∧ N ≤ c5 ∧ i ≤ ops.length ∧ Aside0 (q = ops.length - i) ∧ Aside0 ((crashF safe ops kl i).length = N) ∧ Aside0 (Kd.C (Kd.int .u8) wr A5 N (crashF safe ops kl i)) ∧ Aside0 (Below w.heap.size w wr))
  case atStart => exact ⟨0, _, _, _, rfl, rfl, hc1, Nat.zero_le _, ⟨rfl⟩, ⟨rfl⟩, HC1, ⟨Below.refl _ _⟩⟩
  case round =>
    obtain ⟨i, N, A5, c5, rfl, rfl, hN, hi, hq, HN, HC, HB⟩ := hrel
    by_cases hlt : i < ops.length
    · obtain ⟨ad, A3, c3, e1, r1, r2, r3, hl3, r4⟩ := at_Op (Kd.C_below HC2.out HB.out) i hlt
      subst e1
      obtain ⟨o, ho⟩ : ∃ o, o = ops.getD i zOp := ⟨_, rfl⟩
      rw [← ho] at r1 r2 r3 hl3 r4
      have hoo := HOP.out o (by rw [ho]; simp [List.getD_eq_getElem?_getD, hlt])
      have HSTEP := Aside0.mk (show crashF safe ops kl (i + 1) = if kl.getD i false then keepF (crashF safe ops kl i) o else crashF safe ops kl i by rw [ho]; rfl)
      have hNl : N ≤ 1048576 := by rw [← HN.out]; exact HLEN.out i
      obtain ⟨ho1, ho2⟩ := hoo
      have R4 := Aside0.mk r4
      clear ho r4
      by_cases hkl : i < kl.length
      · obtain ⟨ad2, e2, hkb0⟩ := at_bool HK.out i hkl
        subst e2
        have hkb := cell_al (.cells #[.bool o.sz, .int .i64 o.n, .slice A3 o.d.length c3] 129) (pw_cell_below HB.out hkb0)
        clear hkb0
        cases hb : kl.getD i false with
        | false =>
          rw [hb] at hkb HSTEP
          go_wp2_with fail
          go_roundg (ops.length - (i + 1))
          case measure => have := hq.out; omega
          case rel => exact ⟨i + 1, _, _, _, by go_num, rfl, hN, by omega, ⟨rfl⟩, ⟨by rw [HSTEP.out]; exact HN.out⟩, ⟨by rw [HSTEP.out]; exact Kd.C_alloc HC.out _⟩, ⟨below_alloc HB.out _⟩⟩
        | true =>
          rw [hb] at hkb HSTEP
          cases hs : o.sz with
          | false =>
            have HE := Aside0.mk (show crashF safe ops kl (i + 1) = setL (crashF safe ops kl i) o.n o.d by rw [HSTEP.out, if_pos rfl]; unfold keepF; rw [hs]; rfl)
            rw [hs] at r1 hkb
            go_wp2_with (go_at_call 80; refine (set_any A5 N c5 (crashF safe ops kl i) o.n A3 o.d.length c3 o.d _ (Kd.C_alloc HC.out _) (by omega) (Kd.C_alloc R4.out _) hl3 (by omega)).mono ?_; rintro e w3 ⟨A6, c6, rfl, hc6, hv, hb3⟩; have HV := Aside0.mk (C_own hv); have HB3 := Aside0.mk (below_step (below_alloc HB.out _) hb3); clear hv hb3)
            go_roundg (ops.length - (i + 1))
            case measure => have := hq.out; omega
            case rel => exact ⟨i + 1, N, _, _, by go_num, rfl, hc6, by omega, ⟨rfl⟩, ⟨by rw [HE.out, setL_length]; exact HN.out⟩, ⟨by rw [HE.out]; exact HV.out⟩, HB3⟩
          | true =>
            have HE := Aside0.mk (show crashF safe ops kl (i + 1) = sizeL (crashF safe ops kl i) o.n by rw [HSTEP.out, if_pos rfl]; unfold keepF; rw [hs]; rfl)
            rw [hs] at r1 hkb
            go_wp2_with (go_at_call 79; refine (size_any A5 N c5 (crashF safe ops kl i) o.n _ (Kd.C_alloc HC.out _) (by omega) (by omega)).mono ?_; rintro e w3 ⟨A6, c6, rfl, hc6, hv, hb3⟩; have HV := Aside0.mk (C_own hv); have HB3 := Aside0.mk (below_step (below_alloc HB.out _) hb3); clear hv hb3)
            go_roundg (ops.length - (i + 1))
            case measure => have := hq.out; omega
            case rel => exact ⟨i + 1, o.n.toNat, _, _, by go_num, rfl, by first | exact hc6 | omega, by omega, ⟨rfl⟩, ⟨by rw [HE.out, sizeL_length]⟩, ⟨by rw [HE.out]; exact HV.out⟩, HB3⟩
      · have hb : kl.getD i false = false := by simp [List.getD_eq_getElem?_getD, List.getElem?_eq_none (Nat.le_of_not_lt hkl)]
        rw [hb] at HSTEP
        go_wp2_with fail
        go_roundg (ops.length - (i + 1))
        case measure => have := hq.out; omega
        case rel => exact ⟨i + 1, _, _, _, by go_num, rfl, hN, by omega, ⟨rfl⟩, ⟨by rw [HSTEP.out]; exact HN.out⟩, ⟨by rw [HSTEP.out]; exact Kd.C_alloc HC.out _⟩, ⟨below_alloc HB.out _⟩⟩
    · obtain rfl : i = ops.length := by omega
      have hNl : N ≤ 1048576 := by rw [← HN.out]; exact HLEN.out _
      go_wp2_with (first
        | (go_at_call 74; refine (clone_bytes A5 N c5 (crashF safe ops kl ops.length) _ HC.out (by omega)).mono ?_; rintro e w3 ⟨A6, c6, rfl, hc6, hv, hb3⟩; have HV := Aside0.mk hv; have HC3 := Aside0.mk (Kd.C_below HC.out hb3); have HB3 := Aside0.mk (below_step HB.out hb3); have HS3 := Aside0.mk (below_size HB.out); clear HC HB hv hb3)
        | (go_at_call 74; refine (clone_bytes A5 N c5 (crashF safe ops kl ops.length) _ HC3.out (by omega)).mono ?_; rintro e w4 ⟨A7, c7, rfl, hc7, hv, hb4⟩; have HV4 := Aside0.mk hv; have HV3 := Aside0.mk (Kd.R_below HV.out hb4); have HB4 := Aside0.mk (below_step HB3.out hb4); have HS4 := Aside0.mk (below_size HB3.out); clear HC3 hv hb4))
      go_ret
      exact ⟨_, _, _, rfl, ⟨blk_new _ _, Kd.R_alloc (Kd.R_lower HV3.out HS3.out) _, Kd.R_alloc (Kd.R_lower HV4.out HS4.out) _, Kd.R_nil _ _ _ _ _, below_size HB4.out⟩, below_alloc HB4.out _⟩
end Go.Proofs.YtpnbjpkdbiiogaaGreat
/- The reference's file in memory; Sync. -/
namespace Go.Proofs.YtpnbjpkdbiiogaaGreat
set_option linter.unusedVariables false
open Go.RowKit Go.Proofs.YtpnbjpkdbiiogaaGreatW.PrintWords
attribute [local go_sem] mx2 mn2 mxTwo mnTwo

theorem infoRop : (Tryz.prog.info? 142).map (fun i => (i.zero, i.size, i.bytes)) = some (some (.agg #[(.bool false), (.int .i64 0), (.slice none 0 0)]), 3, 40) := by kernel_rfl
/-- The reference's file: its Now alone is written in place. -/
structure RF (W : World) (b g : Nat) (vn vs vo : Value) (now safe : List Int) (ops : List FOp) : Prop where
  hb : W.heap[g]? = some (.cells #[vn, vs, vo] 60 (0, 0))
  hn : Kd.R (Kd.int .u8) 5 W b (fun _ => True) vn now
  hs : Kd.R (Kd.int .u8) 5 W b (fun k => some k ≠ vn.ownBlock) vs safe
  ho : Kd.R kOp 142 W b (fun k => some k ≠ vn.ownBlock) vo ops
  hg : b ≤ g
theorem ropE (t : Nat) (h1 : 142 ≠ t) (ht : 5 ≠ t) : ∀ q, q ∈ 142 :: kOp.E → q ≠ t := by
  intro q hq
  have : kOp.E = [5] := rfl
  rw [this] at hq
  simp at hq
  omega
section
variable {W W1 : World} {b g i : Nat} {x : Nat → Prop} {v : Value} {cs : Array Value}
theorem rfarU {xs : List Int} (h : Kd.R (Kd.int .u8) 5 W b x v xs) (hb : W.heap[g]? = some (.cells cs 60 (0, 0))) (u : Value) : Kd.R (Kd.int .u8) 5 (W.setCell ⟨g, i, none⟩ u) b x v xs :=
  Kd.R_mono (Kd.R_far (Kd.R_types h hb (u8E _ (by omega))) (p := ⟨g, i, none⟩) (fun k hk => hk.2) u) (fun k hk => hk.1)
theorem rfarO {xs : List FOp} (h : Kd.R kOp 142 W b x v xs) (hb : W.heap[g]? = some (.cells cs 60 (0, 0))) (u : Value) : Kd.R kOp 142 (W.setCell ⟨g, i, none⟩ u) b x v xs :=
  Kd.R_mono (Kd.R_far (Kd.R_types h hb (ropE _ (by omega) (by omega))) (p := ⟨g, i, none⟩) (fun k hk => hk.2) u) (fun k hk => hk.1)
theorem rgrowU {x' : Nat → Prop} {vo : Value} {xs : List Int} {ops : List FOp} (h : Kd.R (Kd.int .u8) 5 W b x v xs) (ho : Kd.R kOp 142 W b x' vo ops) (hg : W.grownBy W1 vo.ownBlock) : Kd.R (Kd.int .u8) 5 W1 b x v xs :=
  Kd.R_mono (Kd.R_grown (Kd.R_apartR h ho (u8E _ (by omega))) hg (fun k hk => hk.2)) (fun k hk => hk.1)
end
theorem RF.below {W W1 : World} {b g : Nat} {vn vs vo : Value} {now safe : List Int} {ops : List FOp} (h : RF W b g vn vs vo now safe ops) (hb : Below W.heap.size W W1) : RF W1 b g vn vs vo now safe ops :=
  ⟨blk_below h.hb hb, Kd.R_below h.hn hb, Kd.R_below h.hs hb, Kd.R_below h.ho hb, h.hg⟩
theorem R_lt {α : Type} {d : Kd α} {e : Nat} {w : World} {base : Nat} {ok : Nat → Prop} {v : Value} {xs : List α} (h : d.R e w base ok v xs) : ∀ k, v.ownBlock = some k → k < w.heap.size := fun k hk => ((Kd.R_bound h).1 k hk).2.2.1
theorem rsync_any (b g : Nat) (vn vs vo : Value) (now safe : List Int) (ops : List FOp) (w : World) (h : RF w b g vn vs vo now safe ops) (hl : now.length ≤ 1099511627776) : Calls Tryz.prog 69 #[.pointer (some ⟨g, 0, none⟩)] w fun e w' => e = .returned (.tuple #[]) ∧ (∃ vs', RF w' b g vn vs' (.slice none 0 0) now now []) ∧ KeepBut w w' g none ∧ Below b w w' := by
  obtain ⟨A, c, rfl, hc, hC⟩ := Kd.R_reads h.hn
  have H := Aside0.mk h
  have HC := Aside0.mk hC
  have hbA := blk_alloc h.hb (.cells #[] 5)
  have hc0 := (blk_cell h.hb 0).trans (rfl : _ = some (Value.slice A now.length c))
  have hc0a := (blk_cell hbA 0).trans (rfl : _ = some (Value.slice A now.length c))
  clear h hC hbA
  go_enter Tryz.func69, Tryz.ntmps69
  go_wp2_with (at_builtin; refine Kd.R_append_rows (Kd.int .u8) (Rr := (Kd.int .u8).K w) (w0 := w) w.heap.size rfl (.tmp 3) (.tmp 7) 30 5 (.int .u8 0) 1 rfl Tryz.underlying30 infoU8 rfl (by decide) (by omega) _ [] now A now.length c (fun _ => True) (fun _ => False) rfl rfl (R_empty _ _ _ _ _ trivial) (Kd.C_alloc HC.out _) (fun _ _ h => h) (fun _ h => h.elim) (fun _ _ => trivial) (below_alloc (Below.refl _ _) _) (by simp) (by simp; omega) ?_; intro v1 w1 h1 hb1 _ _; rw [List.nil_append] at h1; obtain ⟨A1, c1, rfl, hc1, _⟩ := Kd.R_reads h1; have hbk := blk_below H.out.hb hb1; have k1 := (blk_cell hbk 1).trans (rfl : _ = some vs); have k2 := (blk_cell hbk 2).trans (rfl : _ = some vo); have f1 := blk_frozen hbk 1; have f2 := blk_frozen hbk 2; have HV := Aside0.mk h1; have HB := Aside0.mk hb1; have HK := Aside0.mk hbk; clear h1 hb1 hbk)
  first | go_end0 | ((try simp only [Exit.inBlock, Exit.then]); refine bodyPost_ret (results_none rfl _ _ _) rfl ?_)
  have hb1 := blk_put HK.out 1 (.slice A1 now.length c1) rfl
  have hbw : b ≤ w.heap.size := Nat.le_trans H.out.hg (Nat.le_of_lt (blk_lt H.out.hb))
  have hx : ∀ k, w.heap.size ≤ k → some k ≠ (Value.slice A now.length c).ownBlock := fun k hk e => by have := R_lt H.out.hn k e.symm; omega
  exact ⟨rfl, ⟨_, blk_put hb1 2 _ rfl, rfarU (rfarU (Kd.R_below H.out.hn HB.out) HK.out _) hb1 _, rfarU (rfarU (freshU HV.out hbw hx) HK.out _) hb1 _, Kd.R_nil _ _ _ _ _, H.out.hg⟩, ((KeepBut.of_below HB.out g none).set_ 1 _).set_ 2 _, ((HB.out.mono hbw).setCell (p := ⟨g, 1, none⟩) H.out.hg _).setCell (p := ⟨g, 2, none⟩) H.out.hg _⟩
section
variable {W W1 : World} {b g : Nat} {vn vs vo v1 : Value} {now safe now1 : List Int} {ops : List FOp} {o : FOp}
/-- A fresh Now. -/
theorem RF.setNow (h : RF W b g vn vs vo now safe ops) (hb : Below W.heap.size W W1) (hv : Kd.R (Kd.int .u8) 5 W1 W.heap.size (fun _ => True) v1 now1) : RF (W1.setCell ⟨g, 0, none⟩ v1) b g v1 vs vo now1 safe ops := by
  have hbw : b ≤ W.heap.size := Nat.le_trans h.hg (Nat.le_of_lt (blk_lt h.hb))
  have h0 := blk_below h.hb hb
  have hne : ∀ k, k < W.heap.size → some k ≠ v1.ownBlock := fun k hk e => by have := Kd.R_base hv k e.symm; omega
  exact ⟨blk_put h0 0 _ rfl, rfarU (Kd.R_lower hv hbw) h0 _, rfarU (Kd.R_below (Kd.R_mono (Kd.R_bound h.hs) (fun k hk => hne k hk.2.2.1)) hb) h0 _, rfarO (Kd.R_below (Kd.R_mono (Kd.R_bound h.ho) (fun k hk => hne k hk.2.2.1)) hb) h0 _, h.hg⟩
theorem RF.addOp (h : RF W b g vn vs vo now safe ops) (ho : Kd.R kOp 142 W1 b (fun k => some k ≠ vn.ownBlock) v1 (ops ++ [o])) (hg : W.grownBy W1 vo.ownBlock) : RF (W1.setCell ⟨g, 2, none⟩ v1) b g vn vs v1 now safe (ops ++ [o]) := by
  have hb := blk_grown h.hb hg (Kd.R_ne h.ho h.hb (by omega))
  exact ⟨blk_put hb 2 _ rfl, rfarU (rgrowU h.hn h.ho hg) hb _, rfarU (rgrowU h.hs h.ho hg) hb _, rfarO ho hb _, h.hg⟩
end
end Go.Proofs.YtpnbjpkdbiiogaaGreat
/- The reference's file: Truncate. -/
namespace Go.Proofs.YtpnbjpkdbiiogaaGreat
set_option linter.unusedVariables false
open Go.RowKit Go.Proofs.YtpnbjpkdbiiogaaGreatW.PrintWords
attribute [local go_sem] mx2 mn2 mxTwo mnTwo

theorem rtrunc_bad (g : Nat) (n : Int) (w : World) (hn : n < 0 ∨ 0 ≤ n ∧ 1048576 < n) : Calls Tryz.prog 67 #[.pointer (some ⟨g, 0, none⟩), .int .i64 n] w fun e w' => e = .returned (.int .i64 1) ∧ w' = w := by
  rcases hn with hn | ⟨hn, hn2⟩
  · go_enter Tryz.func67, Tryz.ntmps67
    go_wp2
    go_ret
    exact ⟨rfl, rfl⟩
  · go_enter Tryz.func67, Tryz.ntmps67
    go_wp2
    go_ret
    exact ⟨rfl, rfl⟩
theorem rtrunc_any (b g : Nat) (vn vs vo : Value) (now safe : List Int) (ops : List FOp) (n : Nat) (w : World) (h : RF w b g vn vs vo now safe ops) (hl : now.length ≤ 1099511627776) (hn : n ≤ 1048576) (ho : ops.length ≤ 1000000) : Calls Tryz.prog 67 #[.pointer (some ⟨g, 0, none⟩), .int .i64 (n : Int)] w fun e w' => e = .returned (.int .i64 0) ∧ (∃ vn' vo', RF w' b g vn' vs vo' (sizeF (now, ops) n).1 safe (sizeF (now, ops) n).2 ∧ (vn'.ownBlock = vn.ownBlock ∨ vn'.ownBlock = none ∨ ∃ k, vn'.ownBlock = some k ∧ w.heap.size ≤ k)) ∧ KeepBut w w' g vo.ownBlock ∧ Below b w w' := by
  obtain ⟨A, c, rfl, hc, hC⟩ := Kd.R_reads h.hn
  obtain ⟨A2, c2, rfl⟩ := Kd.R_slice h.ho
  have hbw : b ≤ w.heap.size := Nat.le_trans h.hg (Nat.le_of_lt (blk_lt h.hb))
  have hc0 := (blk_cell h.hb 0).trans (rfl : _ = some (Value.slice A now.length c))
  have H := Aside0.mk h
  have HC := Aside0.mk hC
  clear h hC
  by_cases he : (n : Int) = (now.length : Int)
  · have e : sizeF (now, ops) (n : Int) = (now, ops) := by unfold sizeF; rw [if_pos he]
    have hn2 : n = now.length := by omega
    subst hn2
    rw [e]
    clear he e
    go_enter Tryz.func67, Tryz.ntmps67
    go_wp2
    go_ret
    exact ⟨rfl, ⟨_, _, H.out, .inl rfl⟩, KeepBut.refl _ _ _, Below.refl _ _⟩
  · have e : sizeF (now, ops) (n : Int) = (sizeL now (n : Int), ops ++ [⟨true, (n : Int), []⟩]) := by unfold sizeF; rw [if_neg he]
    have q : (n == now.length) = false := beq_eq_false_iff_ne.mpr (by omega)
    have q2 : ((n : Int) == (now.length : Int)) = false := beq_eq_false_iff_ne.mpr he
    rw [e]
    clear e
    go_enter Tryz.func67, Tryz.ntmps67
    go_wp2_with (first
      | (go_at_call 95; refine (rsize_any A now.length c now (n : Int) _ HC.out (by omega) (by omega)).mono ?_; rintro e w1 ⟨A1, c1, rfl, hc1, hv, hb1⟩; rw [Int.toNat_natCast] at hc1 hv; have hbk := blk_below H.out.hb hb1; have k0 := (blk_cell hbk 0).trans (rfl : _ = some (Value.slice A now.length c)); have k2 := (blk_cell hbk 2).trans (rfl : _ = some (Value.slice A2 ops.length c2)); have f0 := blk_frozen hbk 0; have f2 := blk_frozen hbk 2; have HN := Aside0.mk (H.out.setNow hb1 hv); have HVB := Aside0.mk (Kd.R_base hv); have HVL := Aside0.mk (R_lt hv); have HB := Aside0.mk hb1; clear hv hb1 hbk)
      | (at_builtin; refine Kd.R_append kOp (w0 := _) b rfl (.tmp 31) (.tmp 34) 58 142 (.agg #[(.bool false), (.int .i64 0), (.slice none 0 0)]) 40 rfl Tryz.underlying58 infoRop rfl (by decide) (by omega) (.slice A2 ops.length c2) ops ⟨true, (n : Int), []⟩ [.bool true, .int .i64 (n : Int), .slice none 0 0] (fun k => some k ≠ (Value.slice A1 n c1).ownBlock) (fun _ => False) rfl (congrArg (fun s => Value.slice (some ⟨s, 0, none⟩) 1 1) (setsz w1 ⟨g, 0, none⟩ (.slice A1 n c1)).symm) (kOp_mkM _ _ _ ⟨true, (n : Int), []⟩ (Kd.R_nil _ _ _ _ _)) (fun _ h => h.elim) (fun k hk e => absurd (HVL.out k e.symm) (by rw [setsz] at hk; omega)) HN.out.ho (Below.refl _ _) (Nat.le_trans hbw (by simpa using HB.out.size)) (by omega) ?_; intro v2 w2 ho2 hbl2 hgr2 hat2; obtain ⟨g2, c3, e3, _, _, _⟩ := Kd.R_form ho2 (by simp); rw [List.length_append, List.length_singleton] at e3; subst e3; have hb2 := blk_grown HN.out.hb hgr2 (Kd.R_ne HN.out.ho HN.out.hb (by omega)); have k2' := (blk_cell hb2 2).trans (rfl : _ = some (Value.slice A2 ops.length c2)); have f2' := blk_frozen hb2 2; have HF := Aside0.mk (HN.out.addOp ho2 hgr2); have HBL := Aside0.mk hbl2; have HGR := Aside0.mk hgr2; clear hb2 ho2 hbl2 hgr2 hat2))
    go_ret
    refine ⟨rfl, ⟨_, _, HF.out, ?_⟩, (((KeepBut.of_below HB.out g _).set_ 0 _).trans (KeepBut.of_grown HGR.out g) (.inl rfl)).set_ 2 _, ((((HB.out.mono hbw).setCell (p := ⟨g, 0, none⟩) H.out.hg _).trans HBL.out).setCell (p := ⟨g, 2, none⟩) H.out.hg _)⟩
    cases A1 with
    | none => exact .inr (.inl rfl)
    | some ad => exact .inr (.inr ⟨ad.block, rfl, HVB.out ad.block rfl⟩)
end Go.Proofs.YtpnbjpkdbiiogaaGreat
/- The reference's file: Read. -/
namespace Go.Proofs.YtpnbjpkdbiiogaaGreat
set_option linter.unusedVariables false
open Go.RowKit Go.Proofs.YtpnbjpkdbiiogaaGreatW.PrintWords
attribute [local go_sem] mx2 mn2 mxTwo mnTwo

end Go.Proofs.YtpnbjpkdbiiogaaGreat
