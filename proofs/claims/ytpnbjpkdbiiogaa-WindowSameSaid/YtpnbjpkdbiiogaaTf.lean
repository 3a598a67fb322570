/- The reference's directory: Do. -/
import Derived.Test.YtpnbjpkdbiiogaaTe
import Derived.WalkSpells
namespace Go.Proofs.Ytpnbjpkdbiiogaa
set_option linter.unusedVariables false
open Go.RowKit Go.Proofs.YtpnbjpkdbiiogaaW.PrintWords
attribute [local go_sem] mx2 mn2 mxTwo mnTwo

theorem rget_is (A : Option Addr) (n c : Nat) (l : List DN) (s : ByteArray) (w : World) (y : Int) (bo : Bool) (hg : (getN l s).getD 0 = y ∧ (getN l s).isSome = bo) (hr : Kd.C kDN w A n l) :
    Calls Try.prog 101 #[.slice A n c, .string s] w fun e w' => e = .returned (.tuple #[.int .i64 y, .bool bo]) ∧ w = w' := by
  refine (rget_any A n c l s w hr).mono ?_
  rintro e w' ⟨rfl, h⟩
  exact ⟨by rw [hg.1, hg.2], h⟩
set_option maxHeartbeats 400000 in
set_option maxRecDepth 100000 in
theorem rddo_twice (b g : Nat) (vn vs vo : Value) (now safe : List DN) (ops : List DOp) (sa sb : ByteArray) (id : Int) (w : World) (h : RD w b g vn vs vo now safe ops) (hsa : sa.size ≤ maxLen) (hsb : sb.size ≤ maxLen) (hln : now.length ≤ 100000) (hlo : ops.length ≤ 100000) (hg : (getN now sa).isSome = true) : Calls Try.prog 94 #[.pointer (some ⟨g, 0, none⟩), (.agg #[.int .i64 0, .string sa, .string sb, .int .i64 id])] w (fun e w' => e = .returned (.int .i64 7) ∧ ∃ vn' vo', RD w' b g vn' vs vo' (now) safe (ops) ∧ (vo'.ownBlock = vo.ownBlock ∨ ∃ k, vo'.ownBlock = some k ∧ w.heap.size ≤ k) ∧ KeepBut w w' g vo.ownBlock ∧ Below b w w') := by
  obtain ⟨y, hy⟩ : ∃ y, y = (getN now sa).getD 0 := ⟨_, rfl⟩
  have HG := Aside0.mk (show (getN now sa).getD 0 = y ∧ (getN now sa).isSome = true from ⟨hy.symm, hg⟩)
  have HRA : Aside0 (rightB sa = rightB sa) := ⟨rfl⟩
  clear hg hy
  have HSA := Aside0.mk hsa
  have HSB := Aside0.mk hsb
  clear hsa hsb
  obtain ⟨A, c, hvn⟩ := Kd.R_slice h.hn
  have HVN := Aside0.mk hvn
  have H := Aside0.mk h
  have hbw : b ≤ w.heap.size := Nat.le_trans h.hg (Nat.le_of_lt (blk_lt h.hb))
  clear h hvn
  go_enter Try.func94, Try.ntmps94
  go_wp2_with fail
  obtain ⟨W1, hW1⟩ : ∃ W1, W1 = w.alloc (.cells #[.int .i64 0, .string sa, .string sb, .int .i64 id] 144) := ⟨_, rfl⟩
  have hnb : W1.heap[w.heap.size]? = some (.cells #[.int .i64 0, .string sa, .string sb, .int .i64 id] 144 (0, 0)) := by rw [hW1]; exact blk_new _ _
  have hb1 : Below w.heap.size w W1 := by rw [hW1]; exact below_alloc (Below.refl _ _) _
  rw [← hW1]
  obtain ⟨p3, hp3⟩ : ∃ p3, p3 = w.heap.size := ⟨_, rfl⟩
  have hp3w : w.heap.size ≤ p3 := by omega
  rw [← hp3] at hnb ⊢
  have t0 := (blk_cell hnb 0).trans (rfl : _ = some (Value.int .i64 0))
  have t1 := (blk_cell hnb 1).trans (rfl : _ = some (Value.string sa))
  have t2 := (blk_cell hnb 2).trans (rfl : _ = some (Value.string sb))
  have t3 := (blk_cell hnb 3).trans (rfl : _ = some (Value.int .i64 id))
  have HS := Aside0.mk (RD.below (W1 := W1) H.out hb1)
  have HB1 := Aside0.mk hb1
  have hgp : g ≠ p3 := by have := blk_lt H.out.hb; omega
  have s0 := (blk_cell HS.out.hb 0).trans (rfl : _ = some vn)
  rw [HVN.out] at s0
  have HCN := Aside0.mk (C_own9 (HVN.out ▸ (Kd.R_drew HS.out.hn) : Kd.R kDN 156 W1.drew b (fun _ => True) (.slice A now.length c) now))
  have HNB := Aside0.mk hnb
  clear hnb hb1 hp3 hW1
  go_region_held3 (fun w' => w'.cell? ⟨g, 0, none⟩ = some (.slice A now.length c) ∧ w'.cell? ⟨p3, 1, none⟩ = some (.string sa)) (first | with_reducible exact ⟨s0, t1⟩ | exact ⟨s0, t1⟩) (first
    | (go_at_call 101; refine (rget_is A now.length c now sa _ y true HG.out HCN.out).mono ?_; rintro e w9 ⟨rfl, rfl⟩))
  all_goals
    go_wp2_with (first
      | (go_at_call 55; (with_reducible refine (rright_any sa _ HSA.out).mono ?_); rw [HRA.out]; rintro e w8 ⟨rfl, rfl⟩)
      | (go_at_call 55; (with_reducible refine (rright_any sb _ HSB.out).mono ?_); rw [HRA.out]; rintro e w8 ⟨rfl, rfl⟩))
    go_ret
    exact ⟨rfl, _, _, HS.out.below (below_drew1 (Below.refl _ _)), .inl rfl, KeepBut.of_below (HB1.out.trans (below_drew1 (Below.refl _ _))) _ _, (HB1.out.mono hbw).trans (below_drew1 (Below.refl _ _))⟩
set_option maxHeartbeats 400000 in
set_option maxRecDepth 100000 in
theorem rddo_none (b g : Nat) (vn vs vo : Value) (now safe : List DN) (ops : List DOp) (sa sb : ByteArray) (id : Int) (w : World) (h : RD w b g vn vs vo now safe ops) (hsa : sa.size ≤ maxLen) (hsb : sb.size ≤ maxLen) (hln : now.length ≤ 100000) (hlo : ops.length ≤ 100000) (kd : Int) (hk : kd ≠ 0) (hg : getN now sa = none) : Calls Try.prog 94 #[.pointer (some ⟨g, 0, none⟩), (.agg #[.int .i64 kd, .string sa, .string sb, .int .i64 id])] w (fun e w' => e = .returned (.int .i64 6) ∧ ∃ vn' vo', RD w' b g vn' vs vo' (now) safe (ops) ∧ (vo'.ownBlock = vo.ownBlock ∨ ∃ k, vo'.ownBlock = some k ∧ w.heap.size ≤ k) ∧ KeepBut w w' g vo.ownBlock ∧ Below b w w') := by
  have HG := Aside0.mk (show (getN now sa).getD 0 = 0 ∧ (getN now sa).isSome = false by rw [hg]; exact ⟨rfl, rfl⟩)
  have HRA : Aside0 (rightB sa = rightB sa) := ⟨rfl⟩
  have q0 : (kd == 0) = false := beq_eq_false_iff_ne.mpr hk
  have q0' : (kd != 0) = true := bne_iff_ne.mpr hk
  clear hg hk
  have HSA := Aside0.mk hsa
  have HSB := Aside0.mk hsb
  clear hsa hsb
  obtain ⟨A, c, hvn⟩ := Kd.R_slice h.hn
  have HVN := Aside0.mk hvn
  have H := Aside0.mk h
  have hbw : b ≤ w.heap.size := Nat.le_trans h.hg (Nat.le_of_lt (blk_lt h.hb))
  clear h hvn
  go_enter Try.func94, Try.ntmps94
  go_wp2_with fail
  obtain ⟨W1, hW1⟩ : ∃ W1, W1 = w.alloc (.cells #[.int .i64 kd, .string sa, .string sb, .int .i64 id] 144) := ⟨_, rfl⟩
  have hnb : W1.heap[w.heap.size]? = some (.cells #[.int .i64 kd, .string sa, .string sb, .int .i64 id] 144 (0, 0)) := by rw [hW1]; exact blk_new _ _
  have hb1 : Below w.heap.size w W1 := by rw [hW1]; exact below_alloc (Below.refl _ _) _
  rw [← hW1]
  obtain ⟨p3, hp3⟩ : ∃ p3, p3 = w.heap.size := ⟨_, rfl⟩
  have hp3w : w.heap.size ≤ p3 := by omega
  rw [← hp3] at hnb ⊢
  have t0 := (blk_cell hnb 0).trans (rfl : _ = some (Value.int .i64 kd))
  have t1 := (blk_cell hnb 1).trans (rfl : _ = some (Value.string sa))
  have t2 := (blk_cell hnb 2).trans (rfl : _ = some (Value.string sb))
  have t3 := (blk_cell hnb 3).trans (rfl : _ = some (Value.int .i64 id))
  have HS := Aside0.mk (RD.below (W1 := W1) H.out hb1)
  have HB1 := Aside0.mk hb1
  have hgp : g ≠ p3 := by have := blk_lt H.out.hb; omega
  have s0 := (blk_cell HS.out.hb 0).trans (rfl : _ = some vn)
  rw [HVN.out] at s0
  have HCN := Aside0.mk (C_own9 (HVN.out ▸ (Kd.R_drew HS.out.hn) : Kd.R kDN 156 W1.drew b (fun _ => True) (.slice A now.length c) now))
  have HNB := Aside0.mk hnb
  clear hnb hb1 hp3 hW1
  go_region_held3 (fun w' => w'.cell? ⟨g, 0, none⟩ = some (.slice A now.length c) ∧ w'.cell? ⟨p3, 1, none⟩ = some (.string sa)) (first | with_reducible exact ⟨s0, t1⟩ | exact ⟨s0, t1⟩) (first
    | (go_at_call 101; refine (rget_is A now.length c now sa _ 0 false HG.out HCN.out).mono ?_; rintro e w9 ⟨rfl, rfl⟩))
  all_goals
    go_wp2_with (first
      | (go_at_call 55; (with_reducible refine (rright_any sa _ HSA.out).mono ?_); rw [HRA.out]; rintro e w8 ⟨rfl, rfl⟩)
      | (go_at_call 55; (with_reducible refine (rright_any sb _ HSB.out).mono ?_); rw [HRA.out]; rintro e w8 ⟨rfl, rfl⟩))
    go_ret
    exact ⟨rfl, _, _, HS.out.below (below_drew1 (Below.refl _ _)), .inl rfl, KeepBut.of_below (HB1.out.trans (below_drew1 (Below.refl _ _))) _ _, (HB1.out.mono hbw).trans (below_drew1 (Below.refl _ _))⟩
set_option maxHeartbeats 400000 in
set_option maxRecDepth 100000 in
theorem rddo_wrong0 (b g : Nat) (vn vs vo : Value) (now safe : List DN) (ops : List DOp) (sa sb : ByteArray) (id : Int) (w : World) (h : RD w b g vn vs vo now safe ops) (hsa : sa.size ≤ maxLen) (hsb : sb.size ≤ maxLen) (hln : now.length ≤ 100000) (hlo : ops.length ≤ 100000) (hg : getN now sa = none) (hr : rightB sa = false) : Calls Try.prog 94 #[.pointer (some ⟨g, 0, none⟩), (.agg #[.int .i64 0, .string sa, .string sb, .int .i64 id])] w (fun e w' => e = .returned (.int .i64 1) ∧ ∃ vn' vo', RD w' b g vn' vs vo' (now) safe (ops) ∧ (vo'.ownBlock = vo.ownBlock ∨ ∃ k, vo'.ownBlock = some k ∧ w.heap.size ≤ k) ∧ KeepBut w w' g vo.ownBlock ∧ Below b w w') := by
  have HG := Aside0.mk (show (getN now sa).getD 0 = 0 ∧ (getN now sa).isSome = false by rw [hg]; exact ⟨rfl, rfl⟩)
  have HRA := Aside0.mk hr
  clear hg hr
  have HSA := Aside0.mk hsa
  have HSB := Aside0.mk hsb
  clear hsa hsb
  obtain ⟨A, c, hvn⟩ := Kd.R_slice h.hn
  have HVN := Aside0.mk hvn
  have H := Aside0.mk h
  have hbw : b ≤ w.heap.size := Nat.le_trans h.hg (Nat.le_of_lt (blk_lt h.hb))
  clear h hvn
  go_enter Try.func94, Try.ntmps94
  go_wp2_with fail
  obtain ⟨W1, hW1⟩ : ∃ W1, W1 = w.alloc (.cells #[.int .i64 0, .string sa, .string sb, .int .i64 id] 144) := ⟨_, rfl⟩
  have hnb : W1.heap[w.heap.size]? = some (.cells #[.int .i64 0, .string sa, .string sb, .int .i64 id] 144 (0, 0)) := by rw [hW1]; exact blk_new _ _
  have hb1 : Below w.heap.size w W1 := by rw [hW1]; exact below_alloc (Below.refl _ _) _
  rw [← hW1]
  obtain ⟨p3, hp3⟩ : ∃ p3, p3 = w.heap.size := ⟨_, rfl⟩
  have hp3w : w.heap.size ≤ p3 := by omega
  rw [← hp3] at hnb ⊢
  have t0 := (blk_cell hnb 0).trans (rfl : _ = some (Value.int .i64 0))
  have t1 := (blk_cell hnb 1).trans (rfl : _ = some (Value.string sa))
  have t2 := (blk_cell hnb 2).trans (rfl : _ = some (Value.string sb))
  have t3 := (blk_cell hnb 3).trans (rfl : _ = some (Value.int .i64 id))
  have HS := Aside0.mk (RD.below (W1 := W1) H.out hb1)
  have HB1 := Aside0.mk hb1
  have hgp : g ≠ p3 := by have := blk_lt H.out.hb; omega
  have s0 := (blk_cell HS.out.hb 0).trans (rfl : _ = some vn)
  rw [HVN.out] at s0
  have HCN := Aside0.mk (C_own9 (HVN.out ▸ (Kd.R_drew HS.out.hn) : Kd.R kDN 156 W1.drew b (fun _ => True) (.slice A now.length c) now))
  have HNB := Aside0.mk hnb
  clear hnb hb1 hp3 hW1
  go_region_held3 (fun w' => w'.cell? ⟨g, 0, none⟩ = some (.slice A now.length c) ∧ w'.cell? ⟨p3, 1, none⟩ = some (.string sa)) (first | with_reducible exact ⟨s0, t1⟩ | exact ⟨s0, t1⟩) (first
    | (go_at_call 101; refine (rget_is A now.length c now sa _ 0 false HG.out HCN.out).mono ?_; rintro e w9 ⟨rfl, rfl⟩))
  all_goals
    go_wp2_with (first
      | (go_at_call 55; (with_reducible refine (rright_any sa _ HSA.out).mono ?_); rw [HRA.out]; rintro e w8 ⟨rfl, rfl⟩)
      | (go_at_call 55; (with_reducible refine (rright_any sb _ HSB.out).mono ?_); rw [HRA.out]; rintro e w8 ⟨rfl, rfl⟩))
    go_ret
    exact ⟨rfl, _, _, HS.out.below (below_drew1 (Below.refl _ _)), .inl rfl, KeepBut.of_below (HB1.out.trans (below_drew1 (Below.refl _ _))) _ _, (HB1.out.mono hbw).trans (below_drew1 (Below.refl _ _))⟩
set_option maxHeartbeats 400000 in
set_option maxRecDepth 100000 in
theorem rddo_wrong1 (b g : Nat) (vn vs vo : Value) (now safe : List DN) (ops : List DOp) (sa sb : ByteArray) (id : Int) (w : World) (h : RD w b g vn vs vo now safe ops) (hsa : sa.size ≤ maxLen) (hsb : sb.size ≤ maxLen) (hln : now.length ≤ 100000) (hlo : ops.length ≤ 100000) (hg : (getN now sa).isSome = true) (hr : rightB sb = false) : Calls Try.prog 94 #[.pointer (some ⟨g, 0, none⟩), (.agg #[.int .i64 1, .string sa, .string sb, .int .i64 id])] w (fun e w' => e = .returned (.int .i64 1) ∧ ∃ vn' vo', RD w' b g vn' vs vo' (now) safe (ops) ∧ (vo'.ownBlock = vo.ownBlock ∨ ∃ k, vo'.ownBlock = some k ∧ w.heap.size ≤ k) ∧ KeepBut w w' g vo.ownBlock ∧ Below b w w') := by
  obtain ⟨y, hy⟩ : ∃ y, y = (getN now sa).getD 0 := ⟨_, rfl⟩
  have HG := Aside0.mk (show (getN now sa).getD 0 = y ∧ (getN now sa).isSome = true from ⟨hy.symm, hg⟩)
  have HRA := Aside0.mk hr
  clear hg hy hr
  have HSA := Aside0.mk hsa
  have HSB := Aside0.mk hsb
  clear hsa hsb
  obtain ⟨A, c, hvn⟩ := Kd.R_slice h.hn
  have HVN := Aside0.mk hvn
  have H := Aside0.mk h
  have hbw : b ≤ w.heap.size := Nat.le_trans h.hg (Nat.le_of_lt (blk_lt h.hb))
  clear h hvn
  go_enter Try.func94, Try.ntmps94
  go_wp2_with fail
  obtain ⟨W1, hW1⟩ : ∃ W1, W1 = w.alloc (.cells #[.int .i64 1, .string sa, .string sb, .int .i64 id] 144) := ⟨_, rfl⟩
  have hnb : W1.heap[w.heap.size]? = some (.cells #[.int .i64 1, .string sa, .string sb, .int .i64 id] 144 (0, 0)) := by rw [hW1]; exact blk_new _ _
  have hb1 : Below w.heap.size w W1 := by rw [hW1]; exact below_alloc (Below.refl _ _) _
  rw [← hW1]
  obtain ⟨p3, hp3⟩ : ∃ p3, p3 = w.heap.size := ⟨_, rfl⟩
  have hp3w : w.heap.size ≤ p3 := by omega
  rw [← hp3] at hnb ⊢
  have t0 := (blk_cell hnb 0).trans (rfl : _ = some (Value.int .i64 1))
  have t1 := (blk_cell hnb 1).trans (rfl : _ = some (Value.string sa))
  have t2 := (blk_cell hnb 2).trans (rfl : _ = some (Value.string sb))
  have t3 := (blk_cell hnb 3).trans (rfl : _ = some (Value.int .i64 id))
  have HS := Aside0.mk (RD.below (W1 := W1) H.out hb1)
  have HB1 := Aside0.mk hb1
  have hgp : g ≠ p3 := by have := blk_lt H.out.hb; omega
  have s0 := (blk_cell HS.out.hb 0).trans (rfl : _ = some vn)
  rw [HVN.out] at s0
  have HCN := Aside0.mk (C_own9 (HVN.out ▸ (Kd.R_drew HS.out.hn) : Kd.R kDN 156 W1.drew b (fun _ => True) (.slice A now.length c) now))
  have HNB := Aside0.mk hnb
  clear hnb hb1 hp3 hW1
  go_region_held3 (fun w' => w'.cell? ⟨g, 0, none⟩ = some (.slice A now.length c) ∧ w'.cell? ⟨p3, 1, none⟩ = some (.string sa)) (first | with_reducible exact ⟨s0, t1⟩ | exact ⟨s0, t1⟩) (first
    | (go_at_call 101; refine (rget_is A now.length c now sa _ y true HG.out HCN.out).mono ?_; rintro e w9 ⟨rfl, rfl⟩))
  all_goals
    go_wp2_with (first
      | (go_at_call 55; (with_reducible refine (rright_any sa _ HSA.out).mono ?_); rw [HRA.out]; rintro e w8 ⟨rfl, rfl⟩)
      | (go_at_call 55; (with_reducible refine (rright_any sb _ HSB.out).mono ?_); rw [HRA.out]; rintro e w8 ⟨rfl, rfl⟩))
    go_ret
    exact ⟨rfl, _, _, HS.out.below (below_drew1 (Below.refl _ _)), .inl rfl, KeepBut.of_below (HB1.out.trans (below_drew1 (Below.refl _ _))) _ _, (HB1.out.mono hbw).trans (below_drew1 (Below.refl _ _))⟩
set_option maxHeartbeats 4000000 in
set_option maxRecDepth 100000 in
theorem rddo_create (b g : Nat) (vn vs vo : Value) (now safe : List DN) (ops : List DOp) (sa sb : ByteArray) (id : Int) (w : World) (h : RD w b g vn vs vo now safe ops) (hsa : sa.size ≤ maxLen) (hsb : sb.size ≤ maxLen) (hln : now.length ≤ 100000) (hlo : ops.length ≤ 100000) (hg : getN now sa = none) (hr : rightB sa = true) : Calls Try.prog 94 #[.pointer (some ⟨g, 0, none⟩), (.agg #[.int .i64 0, .string sa, .string sb, .int .i64 id])] w (fun e w' => e = .returned (.int .i64 0) ∧ ∃ vn' vo', RD w' b g vn' vs vo' (didL now ⟨0, sa, sb, id⟩) safe (ops ++ [⟨0, sa, sb, id⟩]) ∧ (vo'.ownBlock = vo.ownBlock ∨ ∃ k, vo'.ownBlock = some k ∧ w.heap.size ≤ k) ∧ KeepBut w w' g vo.ownBlock ∧ Below b w w') := by
  have HG := Aside0.mk (show (getN now sa).getD 0 = 0 ∧ (getN now sa).isSome = false by rw [hg]; exact ⟨rfl, rfl⟩)
  have HRA := Aside0.mk hr
  clear hg hr
  have HSA := Aside0.mk hsa
  have HSB := Aside0.mk hsb
  clear hsa hsb
  obtain ⟨A, c, hvn⟩ := Kd.R_slice h.hn
  have HVN := Aside0.mk hvn
  have H := Aside0.mk h
  have hbw : b ≤ w.heap.size := Nat.le_trans h.hg (Nat.le_of_lt (blk_lt h.hb))
  clear h hvn
  go_enter Try.func94, Try.ntmps94
  go_wp2_with fail
  obtain ⟨W1, hW1⟩ : ∃ W1, W1 = w.alloc (.cells #[.int .i64 0, .string sa, .string sb, .int .i64 id] 144) := ⟨_, rfl⟩
  have hnb : W1.heap[w.heap.size]? = some (.cells #[.int .i64 0, .string sa, .string sb, .int .i64 id] 144 (0, 0)) := by rw [hW1]; exact blk_new _ _
  have hb1 : Below w.heap.size w W1 := by rw [hW1]; exact below_alloc (Below.refl _ _) _
  rw [← hW1]
  obtain ⟨p3, hp3⟩ : ∃ p3, p3 = w.heap.size := ⟨_, rfl⟩
  have hp3w : w.heap.size ≤ p3 := by omega
  rw [← hp3] at hnb ⊢
  have t0 := (blk_cell hnb 0).trans (rfl : _ = some (Value.int .i64 0))
  have t1 := (blk_cell hnb 1).trans (rfl : _ = some (Value.string sa))
  have t2 := (blk_cell hnb 2).trans (rfl : _ = some (Value.string sb))
  have t3 := (blk_cell hnb 3).trans (rfl : _ = some (Value.int .i64 id))
  have HS := Aside0.mk (RD.below (W1 := W1) H.out hb1)
  have HB1 := Aside0.mk hb1
  have hgp : g ≠ p3 := by have := blk_lt H.out.hb; omega
  have s0 := (blk_cell HS.out.hb 0).trans (rfl : _ = some vn)
  rw [HVN.out] at s0
  have HCN := Aside0.mk (C_own9 (HVN.out ▸ (Kd.R_drew HS.out.hn) : Kd.R kDN 156 W1.drew b (fun _ => True) (.slice A now.length c) now))
  have HNB := Aside0.mk hnb
  clear hnb hb1 hp3 hW1
  go_region_held3 (fun w' => w'.cell? ⟨g, 0, none⟩ = some (.slice A now.length c) ∧ w'.cell? ⟨p3, 1, none⟩ = some (.string sa)) (first | with_reducible exact ⟨s0, t1⟩ | exact ⟨s0, t1⟩) (first
    | (go_at_call 101; refine (rget_is A now.length c now sa _ 0 false HG.out HCN.out).mono ?_; rintro e w9 ⟨rfl, rfl⟩))
  all_goals
    go_wp2_with (first
      | (go_at_call 55; (with_reducible refine (rright_any sa _ HSA.out).mono ?_); rw [HRA.out]; rintro e w8 ⟨rfl, rfl⟩)
      | (go_at_call 55; (with_reducible refine (rright_any sb _ HSB.out).mono ?_); rw [HRA.out]; rintro e w8 ⟨rfl, rfl⟩))
    obtain ⟨W2, hW2⟩ : ∃ W2, W2 = W1.drew := ⟨_, rfl⟩
    have hb2 : Below w.heap.size w W2 := by rw [hW2]; exact HB1.out.trans (below_drew1 (Below.refl _ _))
    have hs2 : RD W2 b g vn vs vo now safe ops := by rw [hW2]; exact HS.out.below (below_drew1 (Below.refl _ _))
    have hnb2 : W2.heap[p3]? = some (.cells #[.int .i64 0, .string sa, .string sb, .int .i64 id] 144 (0, 0)) := by rw [hW2]; exact blk_drew HNB.out
    rw [← hW2]
    clear HS HB1 HNB HCN t0 t1 t2 t3 s0 hW2
    have t0 := (blk_cell hnb2 0).trans (rfl : _ = some (Value.int .i64 0))
    have t1 := (blk_cell hnb2 1).trans (rfl : _ = some (Value.string sa))
    have t2 := (blk_cell hnb2 2).trans (rfl : _ = some (Value.string sb))
    have t3 := (blk_cell hnb2 3).trans (rfl : _ = some (Value.int .i64 id))
    have s0 := (blk_cell hs2.hb 0).trans (rfl : _ = some vn)
    rw [HVN.out] at s0
    have z0 := blk_frozen hs2.hb 0
    have HRN := Aside0.mk (HVN.out ▸ hs2.hn : Kd.R kDN 156 W2 b (fun _ => True) (.slice A now.length c) now)
    have hbw2 : b ≤ W2.heap.size := Nat.le_trans hbw hb2.size
    have HS := Aside0.mk hs2
    have HB2 := Aside0.mk hb2
    have HNB := Aside0.mk hnb2
    clear hs2 hb2 hnb2
    go_region_law ((go_simp; go_at_call 112; refine (did_any b A now.length c now 0 sa sb id _ (Kd.R_drew HRN.out) hbw2 hln).mono ?_; rintro e w5 ⟨v5, rfl, hv, hb⟩; obtain ⟨A5, c5, rfl⟩ := Kd.R_slice hv; replace s0 := pw_cell_below hb s0; have hs5 := (HS.out.below (below_drew1 (Below.refl _ _))).below hb; have z5 := blk_frozen hs5.hb 0; have hn5 := blk_below (blk_drew HNB.out) hb; have hb5 := HB2.out.trans ((below_drew1 (Below.refl _ _)).trans (hb.mono HB2.out.size)); clear HS HB2 HNB HRN; have HS := Aside0.mk hs5; have HB2 := Aside0.mk hb5; have HNB := Aside0.mk hn5; have HV := Aside0.mk hv; clear hs5 hb5 hn5 hv hb))
    all_goals
      obtain ⟨N2, hN2⟩ : ∃ N2, N2 = didL now ⟨0, sa, sb, id⟩ := ⟨_, rfl⟩
      rw [← hN2] at HV ⊢
      obtain ⟨W6, hW6⟩ : ∃ W6, W6 = w5.setCell ⟨g, 0, none⟩ (.slice A5 N2.length c5) := ⟨_, rfl⟩
      have hs6 := HS.out.setNow HV.out
      have hn6 := blk_far HNB.out (p := ⟨g, 0, none⟩) (Ne.symm hgp) (.slice A5 N2.length c5)
      rw [← hW6] at hs6 hn6
      have hk6 : KeepBut w W6 g vo.ownBlock := by rw [hW6]; exact (KeepBut.of_below HB2.out _ _).set_ 0 _
      have hb6 : Below b w W6 := by rw [hW6]; exact (HB2.out.mono hbw).setCell (p := ⟨g, 0, none⟩) hs6.hg _
      rw [← hW6]
      clear HS HV HNB HB2 hW6 s0 z5 t0 t1 t2 t3
      have t0 := (blk_cell hn6 0).trans (rfl : _ = some (Value.int .i64 0))
      have t1 := (blk_cell hn6 1).trans (rfl : _ = some (Value.string sa))
      have t2 := (blk_cell hn6 2).trans (rfl : _ = some (Value.string sb))
      have t3 := (blk_cell hn6 3).trans (rfl : _ = some (Value.int .i64 id))
      obtain ⟨A11, c11, hvo⟩ := Kd.R_slice hs6.ho
      have s2 := (blk_cell hs6.hb 2).trans (rfl : _ = some vo)
      rw [hvo] at s2
      have z2 := blk_frozen hs6.hb 2
      have s2a := cell_al (.cells #[.int .i64 0, .string sa, .string sb, .int .i64 id] 144) s2
      have hoA : Kd.R kDop 144 W6 b (fun _ => True) (.slice A11 ops.length c11) ops := hvo ▸ hs6.ho
      have HG0 := Aside0.mk (Kd.R_ne hoA hs6.hb (by decide))
      have hbs : b ≤ W6.heap.size := Nat.le_trans hs6.hg (Nat.le_of_lt (blk_lt hs6.hb))
      have HOA := Aside0.mk hoA
      have HVO := Aside0.mk hvo
      have HS6 := Aside0.mk hs6
      have HK6 := Aside0.mk hk6
      have HB6 := Aside0.mk hb6
      clear hs6 hn6 hvo hoA hk6 hb6
      go_wp2_with fail
      go_region_law ((refine Kd.R_append_step kDop (W := W6.drew) (w0 := W6.drew) b (by rfl) (.tmp 63) (.tmp 65) 68 144 (.agg #[(.int .i64 0), (.string ⟨#[]⟩), (.string ⟨#[]⟩), (.int .i64 0)]) 48 rfl Try.underlying68 infoRDop rfl (by decide) (by omega) (.slice A11 ops.length c11) ops ⟨0, sa, sb, id⟩ [.int .i64 0, .string sa, .string sb, .int .i64 id] (fun _ => True) (fun _ => False) (by rfl) (by rfl) (kDop_mkM _ _ _ ⟨0, sa, sb, id⟩) (fun _ h => h.elim) (fun _ _ => trivial) (Kd.R_drew HOA.out) (Below.refl _ _) hbs (by omega) ?_); intro v7 w7 ho7 hl7 hg7 hat7; obtain ⟨g7, c7', e7, _, _, _⟩ := Kd.R_form ho7 (by simp); rw [List.length_append, List.length_singleton] at e7; subst e7; have hb7 := blk_grown (blk_drew HS6.out.hb) hg7 HG0.out; have s7 := (blk_cell hb7 2).trans (rfl : _ = some vo); rw [HVO.out] at s7; have z7 := blk_frozen hb7 2; have HO7 := Aside0.mk ho7; have HL7 := Aside0.mk hl7; have HG7 := Aside0.mk hg7; have HAT7 := Aside0.mk hat7; clear ho7 hl7 hg7 hat7 hb7)
      all_goals
        go_wp2_with fail
        go_ret
        have hg7 := HG7.out
        have hat7 := HAT7.out
        rw [← HVO.out] at hg7 hat7
        have hfin := (HS6.out.below (below_drew1 (Below.refl _ _))).addOp HO7.out hg7
        rw [hN2] at hfin
        exact ⟨rfl, _, _, hfin, hat7.imp (fun h => h) (fun ⟨k, e, hk⟩ => ⟨k, e, Nat.le_trans HK6.out.1 hk⟩), ((keep_drew HK6.out).trans (KeepBut.of_grown hg7 g) (.inl rfl)).set_ 2 _, ((HB6.out.trans (below_drew1 (Below.refl _ _))).trans HL7.out).setCell (p := ⟨g, 2, none⟩) HS6.out.hg _⟩
set_option maxHeartbeats 1000000 in
set_option maxRecDepth 100000 in
theorem rddo_rename (b g : Nat) (vn vs vo : Value) (now safe : List DN) (ops : List DOp) (sa sb : ByteArray) (id : Int) (w : World) (h : RD w b g vn vs vo now safe ops) (hsa : sa.size ≤ maxLen) (hsb : sb.size ≤ maxLen) (hln : now.length ≤ 100000) (hlo : ops.length ≤ 100000) (hg : (getN now sa).isSome = true) (hr : rightB sb = true) : Calls Try.prog 94 #[.pointer (some ⟨g, 0, none⟩), (.agg #[.int .i64 1, .string sa, .string sb, .int .i64 id])] w (fun e w' => e = .returned (.int .i64 0) ∧ ∃ vn' vo', RD w' b g vn' vs vo' (didL now ⟨1, sa, sb, id⟩) safe (ops ++ [⟨1, sa, sb, id⟩]) ∧ (vo'.ownBlock = vo.ownBlock ∨ ∃ k, vo'.ownBlock = some k ∧ w.heap.size ≤ k) ∧ KeepBut w w' g vo.ownBlock ∧ Below b w w') := by
  obtain ⟨y, hy⟩ : ∃ y, y = (getN now sa).getD 0 := ⟨_, rfl⟩
  have HG := Aside0.mk (show (getN now sa).getD 0 = y ∧ (getN now sa).isSome = true from ⟨hy.symm, hg⟩)
  have HRA := Aside0.mk hr
  clear hg hy hr
  have HSA := Aside0.mk hsa
  have HSB := Aside0.mk hsb
  clear hsa hsb
  obtain ⟨A, c, hvn⟩ := Kd.R_slice h.hn
  have HVN := Aside0.mk hvn
  have H := Aside0.mk h
  have hbw : b ≤ w.heap.size := Nat.le_trans h.hg (Nat.le_of_lt (blk_lt h.hb))
  clear h hvn
  go_enter Try.func94, Try.ntmps94
  go_wp2_with fail
  obtain ⟨W1, hW1⟩ : ∃ W1, W1 = w.alloc (.cells #[.int .i64 1, .string sa, .string sb, .int .i64 id] 144) := ⟨_, rfl⟩
  have hnb : W1.heap[w.heap.size]? = some (.cells #[.int .i64 1, .string sa, .string sb, .int .i64 id] 144 (0, 0)) := by rw [hW1]; exact blk_new _ _
  have hb1 : Below w.heap.size w W1 := by rw [hW1]; exact below_alloc (Below.refl _ _) _
  rw [← hW1]
  obtain ⟨p3, hp3⟩ : ∃ p3, p3 = w.heap.size := ⟨_, rfl⟩
  have hp3w : w.heap.size ≤ p3 := by omega
  rw [← hp3] at hnb ⊢
  have t0 := (blk_cell hnb 0).trans (rfl : _ = some (Value.int .i64 1))
  have t1 := (blk_cell hnb 1).trans (rfl : _ = some (Value.string sa))
  have t2 := (blk_cell hnb 2).trans (rfl : _ = some (Value.string sb))
  have t3 := (blk_cell hnb 3).trans (rfl : _ = some (Value.int .i64 id))
  have HS := Aside0.mk (RD.below (W1 := W1) H.out hb1)
  have HB1 := Aside0.mk hb1
  have hgp : g ≠ p3 := by have := blk_lt H.out.hb; omega
  have s0 := (blk_cell HS.out.hb 0).trans (rfl : _ = some vn)
  rw [HVN.out] at s0
  have HCN := Aside0.mk (C_own9 (HVN.out ▸ (Kd.R_drew HS.out.hn) : Kd.R kDN 156 W1.drew b (fun _ => True) (.slice A now.length c) now))
  have HNB := Aside0.mk hnb
  clear hnb hb1 hp3 hW1
  go_region_held3 (fun w' => w'.cell? ⟨g, 0, none⟩ = some (.slice A now.length c) ∧ w'.cell? ⟨p3, 1, none⟩ = some (.string sa)) (first | with_reducible exact ⟨s0, t1⟩ | exact ⟨s0, t1⟩) (first
    | (go_at_call 101; refine (rget_is A now.length c now sa _ y true HG.out HCN.out).mono ?_; rintro e w9 ⟨rfl, rfl⟩))
  all_goals
    go_wp2_with (first
      | (go_at_call 55; (with_reducible refine (rright_any sa _ HSA.out).mono ?_); rw [HRA.out]; rintro e w8 ⟨rfl, rfl⟩)
      | (go_at_call 55; (with_reducible refine (rright_any sb _ HSB.out).mono ?_); rw [HRA.out]; rintro e w8 ⟨rfl, rfl⟩))
    obtain ⟨W2, hW2⟩ : ∃ W2, W2 = W1.drew := ⟨_, rfl⟩
    have hb2 : Below w.heap.size w W2 := by rw [hW2]; exact HB1.out.trans (below_drew1 (Below.refl _ _))
    have hs2 : RD W2 b g vn vs vo now safe ops := by rw [hW2]; exact HS.out.below (below_drew1 (Below.refl _ _))
    have hnb2 : W2.heap[p3]? = some (.cells #[.int .i64 1, .string sa, .string sb, .int .i64 id] 144 (0, 0)) := by rw [hW2]; exact blk_drew HNB.out
    rw [← hW2]
    clear HS HB1 HNB HCN t0 t1 t2 t3 s0 hW2
    have t0 := (blk_cell hnb2 0).trans (rfl : _ = some (Value.int .i64 1))
    have t1 := (blk_cell hnb2 1).trans (rfl : _ = some (Value.string sa))
    have t2 := (blk_cell hnb2 2).trans (rfl : _ = some (Value.string sb))
    have t3 := (blk_cell hnb2 3).trans (rfl : _ = some (Value.int .i64 id))
    have s0 := (blk_cell hs2.hb 0).trans (rfl : _ = some vn)
    rw [HVN.out] at s0
    have z0 := blk_frozen hs2.hb 0
    have HRN := Aside0.mk (HVN.out ▸ hs2.hn : Kd.R kDN 156 W2 b (fun _ => True) (.slice A now.length c) now)
    have hbw2 : b ≤ W2.heap.size := Nat.le_trans hbw hb2.size
    have HS := Aside0.mk hs2
    have HB2 := Aside0.mk hb2
    have HNB := Aside0.mk hnb2
    clear hs2 hb2 hnb2
    go_region_law ((go_simp; go_at_call 112; refine (did_any b A now.length c now 1 sa sb id _ (Kd.R_drew HRN.out) hbw2 hln).mono ?_; rintro e w5 ⟨v5, rfl, hv, hb⟩; obtain ⟨A5, c5, rfl⟩ := Kd.R_slice hv; replace s0 := pw_cell_below hb s0; have hs5 := (HS.out.below (below_drew1 (Below.refl _ _))).below hb; have z5 := blk_frozen hs5.hb 0; have hn5 := blk_below (blk_drew HNB.out) hb; have hb5 := HB2.out.trans ((below_drew1 (Below.refl _ _)).trans (hb.mono HB2.out.size)); clear HS HB2 HNB HRN; have HS := Aside0.mk hs5; have HB2 := Aside0.mk hb5; have HNB := Aside0.mk hn5; have HV := Aside0.mk hv; clear hs5 hb5 hn5 hv hb))
    all_goals
      obtain ⟨N2, hN2⟩ : ∃ N2, N2 = didL now ⟨1, sa, sb, id⟩ := ⟨_, rfl⟩
      rw [← hN2] at HV ⊢
      obtain ⟨W6, hW6⟩ : ∃ W6, W6 = w5.setCell ⟨g, 0, none⟩ (.slice A5 N2.length c5) := ⟨_, rfl⟩
      have hs6 := HS.out.setNow HV.out
      have hn6 := blk_far HNB.out (p := ⟨g, 0, none⟩) (Ne.symm hgp) (.slice A5 N2.length c5)
      rw [← hW6] at hs6 hn6
      have hk6 : KeepBut w W6 g vo.ownBlock := by rw [hW6]; exact (KeepBut.of_below HB2.out _ _).set_ 0 _
      have hb6 : Below b w W6 := by rw [hW6]; exact (HB2.out.mono hbw).setCell (p := ⟨g, 0, none⟩) hs6.hg _
      rw [← hW6]
      clear HS HV HNB HB2 hW6 s0 z5 t0 t1 t2 t3
      have t0 := (blk_cell hn6 0).trans (rfl : _ = some (Value.int .i64 1))
      have t1 := (blk_cell hn6 1).trans (rfl : _ = some (Value.string sa))
      have t2 := (blk_cell hn6 2).trans (rfl : _ = some (Value.string sb))
      have t3 := (blk_cell hn6 3).trans (rfl : _ = some (Value.int .i64 id))
      obtain ⟨A11, c11, hvo⟩ := Kd.R_slice hs6.ho
      have s2 := (blk_cell hs6.hb 2).trans (rfl : _ = some vo)
      rw [hvo] at s2
      have z2 := blk_frozen hs6.hb 2
      have s2a := cell_al (.cells #[.int .i64 1, .string sa, .string sb, .int .i64 id] 144) s2
      have hoA : Kd.R kDop 144 W6 b (fun _ => True) (.slice A11 ops.length c11) ops := hvo ▸ hs6.ho
      have HG0 := Aside0.mk (Kd.R_ne hoA hs6.hb (by decide))
      have hbs : b ≤ W6.heap.size := Nat.le_trans hs6.hg (Nat.le_of_lt (blk_lt hs6.hb))
      have HOA := Aside0.mk hoA
      have HVO := Aside0.mk hvo
      have HS6 := Aside0.mk hs6
      have HK6 := Aside0.mk hk6
      have HB6 := Aside0.mk hb6
      clear hs6 hn6 hvo hoA hk6 hb6
      go_wp2_with fail
      go_region_law ((refine Kd.R_append_step kDop (W := W6.drew) (w0 := W6.drew) b (by rfl) (.tmp 63) (.tmp 65) 68 144 (.agg #[(.int .i64 0), (.string ⟨#[]⟩), (.string ⟨#[]⟩), (.int .i64 0)]) 48 rfl Try.underlying68 infoRDop rfl (by decide) (by omega) (.slice A11 ops.length c11) ops ⟨1, sa, sb, id⟩ [.int .i64 1, .string sa, .string sb, .int .i64 id] (fun _ => True) (fun _ => False) (by rfl) (by rfl) (kDop_mkM _ _ _ ⟨1, sa, sb, id⟩) (fun _ h => h.elim) (fun _ _ => trivial) (Kd.R_drew HOA.out) (Below.refl _ _) hbs (by omega) ?_); intro v7 w7 ho7 hl7 hg7 hat7; obtain ⟨g7, c7', e7, _, _, _⟩ := Kd.R_form ho7 (by simp); rw [List.length_append, List.length_singleton] at e7; subst e7; have hb7 := blk_grown (blk_drew HS6.out.hb) hg7 HG0.out; have s7 := (blk_cell hb7 2).trans (rfl : _ = some vo); rw [HVO.out] at s7; have z7 := blk_frozen hb7 2; have HO7 := Aside0.mk ho7; have HL7 := Aside0.mk hl7; have HG7 := Aside0.mk hg7; have HAT7 := Aside0.mk hat7; clear ho7 hl7 hg7 hat7 hb7)
      all_goals
        go_wp2_with fail
        go_ret
        have hg7 := HG7.out
        have hat7 := HAT7.out
        rw [← HVO.out] at hg7 hat7
        have hfin := (HS6.out.below (below_drew1 (Below.refl _ _))).addOp HO7.out hg7
        rw [hN2] at hfin
        exact ⟨rfl, _, _, hfin, hat7.imp (fun h => h) (fun ⟨k, e, hk⟩ => ⟨k, e, Nat.le_trans HK6.out.1 hk⟩), ((keep_drew HK6.out).trans (KeepBut.of_grown hg7 g) (.inl rfl)).set_ 2 _, ((HB6.out.trans (below_drew1 (Below.refl _ _))).trans HL7.out).setCell (p := ⟨g, 2, none⟩) HS6.out.hg _⟩
set_option maxHeartbeats 1000000 in
set_option maxRecDepth 100000 in
theorem rddo_unlink (b g : Nat) (vn vs vo : Value) (now safe : List DN) (ops : List DOp) (sa sb : ByteArray) (id : Int) (w : World) (h : RD w b g vn vs vo now safe ops) (hsa : sa.size ≤ maxLen) (hsb : sb.size ≤ maxLen) (hln : now.length ≤ 100000) (hlo : ops.length ≤ 100000) (kd : Int) (hk : kd ≠ 0) (hk1 : kd ≠ 1) (hg : (getN now sa).isSome = true) : Calls Try.prog 94 #[.pointer (some ⟨g, 0, none⟩), (.agg #[.int .i64 kd, .string sa, .string sb, .int .i64 id])] w (fun e w' => e = .returned (.int .i64 0) ∧ ∃ vn' vo', RD w' b g vn' vs vo' (didL now ⟨kd, sa, sb, id⟩) safe (ops ++ [⟨kd, sa, sb, id⟩]) ∧ (vo'.ownBlock = vo.ownBlock ∨ ∃ k, vo'.ownBlock = some k ∧ w.heap.size ≤ k) ∧ KeepBut w w' g vo.ownBlock ∧ Below b w w') := by
  obtain ⟨y, hy⟩ : ∃ y, y = (getN now sa).getD 0 := ⟨_, rfl⟩
  have HG := Aside0.mk (show (getN now sa).getD 0 = y ∧ (getN now sa).isSome = true from ⟨hy.symm, hg⟩)
  have HRA : Aside0 (rightB sa = rightB sa) := ⟨rfl⟩
  have q0 : (kd == 0) = false := beq_eq_false_iff_ne.mpr hk
  have q0' : (kd != 0) = true := bne_iff_ne.mpr hk
  have q1 : (kd == 1) = false := beq_eq_false_iff_ne.mpr hk1
  clear hg hy hk hk1
  have HSA := Aside0.mk hsa
  have HSB := Aside0.mk hsb
  clear hsa hsb
  obtain ⟨A, c, hvn⟩ := Kd.R_slice h.hn
  have HVN := Aside0.mk hvn
  have H := Aside0.mk h
  have hbw : b ≤ w.heap.size := Nat.le_trans h.hg (Nat.le_of_lt (blk_lt h.hb))
  clear h hvn
  go_enter Try.func94, Try.ntmps94
  go_wp2_with fail
  obtain ⟨W1, hW1⟩ : ∃ W1, W1 = w.alloc (.cells #[.int .i64 kd, .string sa, .string sb, .int .i64 id] 144) := ⟨_, rfl⟩
  have hnb : W1.heap[w.heap.size]? = some (.cells #[.int .i64 kd, .string sa, .string sb, .int .i64 id] 144 (0, 0)) := by rw [hW1]; exact blk_new _ _
  have hb1 : Below w.heap.size w W1 := by rw [hW1]; exact below_alloc (Below.refl _ _) _
  rw [← hW1]
  obtain ⟨p3, hp3⟩ : ∃ p3, p3 = w.heap.size := ⟨_, rfl⟩
  have hp3w : w.heap.size ≤ p3 := by omega
  rw [← hp3] at hnb ⊢
  have t0 := (blk_cell hnb 0).trans (rfl : _ = some (Value.int .i64 kd))
  have t1 := (blk_cell hnb 1).trans (rfl : _ = some (Value.string sa))
  have t2 := (blk_cell hnb 2).trans (rfl : _ = some (Value.string sb))
  have t3 := (blk_cell hnb 3).trans (rfl : _ = some (Value.int .i64 id))
  have HS := Aside0.mk (RD.below (W1 := W1) H.out hb1)
  have HB1 := Aside0.mk hb1
  have hgp : g ≠ p3 := by have := blk_lt H.out.hb; omega
  have s0 := (blk_cell HS.out.hb 0).trans (rfl : _ = some vn)
  rw [HVN.out] at s0
  have HCN := Aside0.mk (C_own9 (HVN.out ▸ (Kd.R_drew HS.out.hn) : Kd.R kDN 156 W1.drew b (fun _ => True) (.slice A now.length c) now))
  have HNB := Aside0.mk hnb
  clear hnb hb1 hp3 hW1
  go_region_held3 (fun w' => w'.cell? ⟨g, 0, none⟩ = some (.slice A now.length c) ∧ w'.cell? ⟨p3, 1, none⟩ = some (.string sa)) (first | with_reducible exact ⟨s0, t1⟩ | exact ⟨s0, t1⟩) (first
    | (go_at_call 101; refine (rget_is A now.length c now sa _ y true HG.out HCN.out).mono ?_; rintro e w9 ⟨rfl, rfl⟩))
  all_goals
    go_wp2_with (first
      | (go_at_call 55; (with_reducible refine (rright_any sa _ HSA.out).mono ?_); rw [HRA.out]; rintro e w8 ⟨rfl, rfl⟩)
      | (go_at_call 55; (with_reducible refine (rright_any sb _ HSB.out).mono ?_); rw [HRA.out]; rintro e w8 ⟨rfl, rfl⟩))
    obtain ⟨W2, hW2⟩ : ∃ W2, W2 = W1.drew := ⟨_, rfl⟩
    have hb2 : Below w.heap.size w W2 := by rw [hW2]; exact HB1.out.trans (below_drew1 (Below.refl _ _))
    have hs2 : RD W2 b g vn vs vo now safe ops := by rw [hW2]; exact HS.out.below (below_drew1 (Below.refl _ _))
    have hnb2 : W2.heap[p3]? = some (.cells #[.int .i64 kd, .string sa, .string sb, .int .i64 id] 144 (0, 0)) := by rw [hW2]; exact blk_drew HNB.out
    rw [← hW2]
    clear HS HB1 HNB HCN t0 t1 t2 t3 s0 hW2
    have t0 := (blk_cell hnb2 0).trans (rfl : _ = some (Value.int .i64 kd))
    have t1 := (blk_cell hnb2 1).trans (rfl : _ = some (Value.string sa))
    have t2 := (blk_cell hnb2 2).trans (rfl : _ = some (Value.string sb))
    have t3 := (blk_cell hnb2 3).trans (rfl : _ = some (Value.int .i64 id))
    have s0 := (blk_cell hs2.hb 0).trans (rfl : _ = some vn)
    rw [HVN.out] at s0
    have z0 := blk_frozen hs2.hb 0
    have HRN := Aside0.mk (HVN.out ▸ hs2.hn : Kd.R kDN 156 W2 b (fun _ => True) (.slice A now.length c) now)
    have hbw2 : b ≤ W2.heap.size := Nat.le_trans hbw hb2.size
    have HS := Aside0.mk hs2
    have HB2 := Aside0.mk hb2
    have HNB := Aside0.mk hnb2
    clear hs2 hb2 hnb2
    go_region_law ((go_simp; go_at_call 112; refine (did_any b A now.length c now kd sa sb id _ (Kd.R_drew HRN.out) hbw2 hln).mono ?_; rintro e w5 ⟨v5, rfl, hv, hb⟩; obtain ⟨A5, c5, rfl⟩ := Kd.R_slice hv; replace s0 := pw_cell_below hb s0; have hs5 := (HS.out.below (below_drew1 (Below.refl _ _))).below hb; have z5 := blk_frozen hs5.hb 0; have hn5 := blk_below (blk_drew HNB.out) hb; have hb5 := HB2.out.trans ((below_drew1 (Below.refl _ _)).trans (hb.mono HB2.out.size)); clear HS HB2 HNB HRN; have HS := Aside0.mk hs5; have HB2 := Aside0.mk hb5; have HNB := Aside0.mk hn5; have HV := Aside0.mk hv; clear hs5 hb5 hn5 hv hb))
    all_goals
      obtain ⟨N2, hN2⟩ : ∃ N2, N2 = didL now ⟨kd, sa, sb, id⟩ := ⟨_, rfl⟩
      rw [← hN2] at HV ⊢
      obtain ⟨W6, hW6⟩ : ∃ W6, W6 = w5.setCell ⟨g, 0, none⟩ (.slice A5 N2.length c5) := ⟨_, rfl⟩
      have hs6 := HS.out.setNow HV.out
      have hn6 := blk_far HNB.out (p := ⟨g, 0, none⟩) (Ne.symm hgp) (.slice A5 N2.length c5)
      rw [← hW6] at hs6 hn6
      have hk6 : KeepBut w W6 g vo.ownBlock := by rw [hW6]; exact (KeepBut.of_below HB2.out _ _).set_ 0 _
      have hb6 : Below b w W6 := by rw [hW6]; exact (HB2.out.mono hbw).setCell (p := ⟨g, 0, none⟩) hs6.hg _
      rw [← hW6]
      clear HS HV HNB HB2 hW6 s0 z5 t0 t1 t2 t3
      have t0 := (blk_cell hn6 0).trans (rfl : _ = some (Value.int .i64 kd))
      have t1 := (blk_cell hn6 1).trans (rfl : _ = some (Value.string sa))
      have t2 := (blk_cell hn6 2).trans (rfl : _ = some (Value.string sb))
      have t3 := (blk_cell hn6 3).trans (rfl : _ = some (Value.int .i64 id))
      obtain ⟨A11, c11, hvo⟩ := Kd.R_slice hs6.ho
      have s2 := (blk_cell hs6.hb 2).trans (rfl : _ = some vo)
      rw [hvo] at s2
      have z2 := blk_frozen hs6.hb 2
      have s2a := cell_al (.cells #[.int .i64 kd, .string sa, .string sb, .int .i64 id] 144) s2
      have hoA : Kd.R kDop 144 W6 b (fun _ => True) (.slice A11 ops.length c11) ops := hvo ▸ hs6.ho
      have HG0 := Aside0.mk (Kd.R_ne hoA hs6.hb (by decide))
      have hbs : b ≤ W6.heap.size := Nat.le_trans hs6.hg (Nat.le_of_lt (blk_lt hs6.hb))
      have HOA := Aside0.mk hoA
      have HVO := Aside0.mk hvo
      have HS6 := Aside0.mk hs6
      have HK6 := Aside0.mk hk6
      have HB6 := Aside0.mk hb6
      clear hs6 hn6 hvo hoA hk6 hb6
      go_wp2_with fail
      go_region_law ((refine Kd.R_append_step kDop (W := W6.drew) (w0 := W6.drew) b (by rfl) (.tmp 63) (.tmp 65) 68 144 (.agg #[(.int .i64 0), (.string ⟨#[]⟩), (.string ⟨#[]⟩), (.int .i64 0)]) 48 rfl Try.underlying68 infoRDop rfl (by decide) (by omega) (.slice A11 ops.length c11) ops ⟨kd, sa, sb, id⟩ [.int .i64 kd, .string sa, .string sb, .int .i64 id] (fun _ => True) (fun _ => False) (by rfl) (by rfl) (kDop_mkM _ _ _ ⟨kd, sa, sb, id⟩) (fun _ h => h.elim) (fun _ _ => trivial) (Kd.R_drew HOA.out) (Below.refl _ _) hbs (by omega) ?_); intro v7 w7 ho7 hl7 hg7 hat7; obtain ⟨g7, c7', e7, _, _, _⟩ := Kd.R_form ho7 (by simp); rw [List.length_append, List.length_singleton] at e7; subst e7; have hb7 := blk_grown (blk_drew HS6.out.hb) hg7 HG0.out; have s7 := (blk_cell hb7 2).trans (rfl : _ = some vo); rw [HVO.out] at s7; have z7 := blk_frozen hb7 2; have HO7 := Aside0.mk ho7; have HL7 := Aside0.mk hl7; have HG7 := Aside0.mk hg7; have HAT7 := Aside0.mk hat7; clear ho7 hl7 hg7 hat7 hb7)
      all_goals
        go_wp2_with fail
        go_ret
        have hg7 := HG7.out
        have hat7 := HAT7.out
        rw [← HVO.out] at hg7 hat7
        have hfin := (HS6.out.below (below_drew1 (Below.refl _ _))).addOp HO7.out hg7
        rw [hN2] at hfin
        exact ⟨rfl, _, _, hfin, hat7.imp (fun h => h) (fun ⟨k, e, hk⟩ => ⟨k, e, Nat.le_trans HK6.out.1 hk⟩), ((keep_drew HK6.out).trans (KeepBut.of_grown hg7 g) (.inl rfl)).set_ 2 _, ((HB6.out.trans (below_drew1 (Below.refl _ _))).trans HL7.out).setCell (p := ⟨g, 2, none⟩) HS6.out.hg _⟩
theorem rddo_any (b g : Nat) (vn vs vo : Value) (now safe : List DN) (ops : List DOp) (sa sb : ByteArray) (id : Int) (w : World) (h : RD w b g vn vs vo now safe ops) (hsa : sa.size ≤ maxLen) (hsb : sb.size ≤ maxLen) (hln : now.length ≤ 100000) (hlo : ops.length ≤ 100000) (kd : Int) : Calls Try.prog 94 #[.pointer (some ⟨g, 0, none⟩), (.agg #[.int .i64 kd, .string sa, .string sb, .int .i64 id])] w (fun e w' => e = .returned (.int .i64 (doCode now ⟨kd, sa, sb, id⟩)) ∧ ∃ vn' vo', RD w' b g vn' vs vo' (doNow now ⟨kd, sa, sb, id⟩) safe (doOps now ops ⟨kd, sa, sb, id⟩) ∧ (vo'.ownBlock = vo.ownBlock ∨ ∃ k, vo'.ownBlock = some k ∧ w.heap.size ≤ k) ∧ KeepBut w w' g vo.ownBlock ∧ Below b w w') := by
  unfold doNow doOps doCode
  dsimp only
  by_cases k0 : kd = 0
  · subst k0
    cases hg : getN now sa with
    | some y =>
      rw [if_pos ⟨rfl, rfl⟩]
      exact rddo_twice b g vn vs vo now safe ops sa sb id w h hsa hsb hln hlo (by rw [hg]; rfl)
    | none =>
      cases hr : rightB sa with
      | false => simpa using rddo_wrong0 b g vn vs vo now safe ops sa sb id w h hsa hsb hln hlo hg hr
      | true => simpa using rddo_create b g vn vs vo now safe ops sa sb id w h hsa hsb hln hlo hg hr
  · cases hg : getN now sa with
    | none => simpa [k0] using rddo_none b g vn vs vo now safe ops sa sb id w h hsa hsb hln hlo kd k0 hg
    | some y =>
      by_cases k1 : kd = 1
      · subst k1
        cases hr : rightB sb with
        | false => simpa using rddo_wrong1 b g vn vs vo now safe ops sa sb id w h hsa hsb hln hlo (by rw [hg]; rfl) hr
        | true => simpa using rddo_rename b g vn vs vo now safe ops sa sb id w h hsa hsb hln hlo (by rw [hg]; rfl) hr
      · simpa [k0, k1] using rddo_unlink b g vn vs vo now safe ops sa sb id w h hsa hsb hln hlo kd k0 k1 (by rw [hg]; rfl)
end Go.Proofs.Ytpnbjpkdbiiogaa
/- The reference's directory: Crash. -/
namespace Go.Proofs.Ytpnbjpkdbiiogaa
set_option linter.unusedVariables false
open Go.RowKit Go.Proofs.YtpnbjpkdbiiogaaW.PrintWords
attribute [local go_sem] mx2 mn2 mxTwo mnTwo

/-- What a crash leaves, of the first i things. -/
def crashD (safe : List DN) (ops : List DOp) (keep : List Bool) : Nat → List DN
  | 0 => safe
  | i + 1 => if keep.getD i false then didL (crashD safe ops keep i) (ops.getD i zDop) else crashD safe ops keep i
theorem crashD_len (safe : List DN) (ops : List DOp) (kl : List Bool) : ∀ i, (crashD safe ops kl i).length ≤ safe.length + i
  | 0 => Nat.le_refl _
  | i + 1 => by
    have ih := crashD_len safe ops kl i
    unfold crashD
    split
    · have := didL_len (crashD safe ops kl i) (ops.getD i zDop); omega
    · omega
theorem crashD_end (safe : List DN) (ops : List DOp) (kl : List Bool) (n : Nat) (h : kl.length ≤ n) : ∀ i, n ≤ i → crashD safe ops kl i = crashD safe ops kl n
  | 0, hi => by rw [Nat.le_zero.1 hi]
  | i + 1, hi => by
    by_cases e : n = i + 1
    · rw [e]
    · have ih := crashD_end safe ops kl n h i (by omega)
      unfold crashD
      rw [if_neg (by rw [List.getD_eq_getElem?_getD, List.getElem?_eq_none (by omega)]; simp)]
      rw [ih]
      cases n with
      | zero => rfl
      | succ m => rfl
set_option maxHeartbeats 1000000 in
set_option maxRecDepth 100000 in
theorem rdcrash_any (b g : Nat) (vn vs vo : Value) (now safe : List DN) (ops : List DOp) (A : Option Addr) (n c : Nat) (kl : List Bool) (w : World) (h : RD w b g vn vs vo now safe ops) (hk : Kd.bool.C w A n kl) (hs : safe.length + ops.length ≤ 100000) :
    Calls Try.prog 96 #[.pointer (some ⟨g, 0, none⟩), .slice A n c] w fun e w' => ∃ g2 v, e = .returned (.pointer (some ⟨g2, 0, none⟩)) ∧ w.heap.size ≤ g2 ∧ RD w' b g2 v v (.slice none 0 0) (crashD safe ops kl ops.length) (crashD safe ops kl ops.length) [] ∧ Below w.heap.size w w' := by
  obtain rfl : kl.length = n := hk.1
  have hkm := Kd.C_max hk
  have hbw : b ≤ w.heap.size := Nat.le_trans h.hg (Nat.le_of_lt (blk_lt h.hb))
  obtain ⟨A1, c1, rfl⟩ := Kd.R_slice h.hs
  obtain ⟨A2, c2, rfl, _, hC2⟩ := Kd.R_reads h.ho
  have HS1 := Aside0.mk ((blk_cell h.hb 1).trans (rfl : _ = some (Value.slice A1 safe.length c1)))
  have HS2 := Aside0.mk ((blk_cell h.hb 2).trans (rfl : _ = some (Value.slice A2 ops.length c2)))
  have hs1 := HS1.out
  have HK := Aside0.mk hk
  have HC2 := Aside0.mk hC2
  have HSF := Aside0.mk h.hs
  have hol : ops.length ≤ 100000 := by omega
  have HLEN := Aside0.mk (show ∀ i, i ≤ ops.length → (crashD safe ops kl i).length ≤ 100000 from fun i hi => by have := crashD_len safe ops kl i; omega)
  clear h hk hC2 hs
  go_enter Try.func96, Try.ntmps96
  go_wp2
  go_loopg [5, 6] ops.length (fun q v5 v6 wr => ∃ i : Nat, v6 = .int .i64 (i : Int) ∧ i ≤ ops.length ∧ i ≤ kl.length ∧ Aside0 (q = ops.length - i) ∧ Aside0 (Kd.R kDN 156 wr b (fun _ => True) v5 (crashD safe ops kl i)) ∧ Aside0 (Below w.heap.size w wr))
  case atStart => exact ⟨0, rfl, Nat.zero_le _, Nat.zero_le _, ⟨rfl⟩, HSF, ⟨Below.refl _ _⟩⟩
  case round =>
    obtain ⟨i, rfl, hi, hik, hq, HC, HB⟩ := hrel
    have s2 := pw_cell_below HB.out HS2.out
    by_cases hlt : i < ops.length
    · by_cases hkl : i < kl.length
      · obtain ⟨ad2, e2, hkb0⟩ := at_bool HK.out i hkl
        subst e2
        have hkb := pw_cell_below HB.out hkb0
        clear hkb0
        cases hb : kl.getD i false with
        | false =>
          rw [hb] at hkb
          have HSTEP := Aside0.mk (show crashD safe ops kl (i + 1) = crashD safe ops kl i by show (if kl.getD i false = true then didL (crashD safe ops kl i) (ops.getD i zDop) else crashD safe ops kl i) = _; rw [hb]; rfl)
          clear hb
          go_wp2_with fail
          go_roundg (ops.length - (i + 1))
          case measure => have := hq.out; omega
          case rel => exact ⟨i + 1, by go_num, by omega, by omega, ⟨rfl⟩, ⟨by rw [HSTEP.out]; exact HC.out⟩, HB⟩
        | true =>
          rw [hb] at hkb
          obtain ⟨ad, e1, r1, r2, r3, r4⟩ := at_Dop (Kd.C_below HC2.out HB.out) i hlt
          subst e1
          obtain ⟨o, ho⟩ : ∃ o, o = ops.getD i zDop := ⟨_, rfl⟩
          have HSTEP := Aside0.mk (show crashD safe ops kl (i + 1) = didL (crashD safe ops kl i) ⟨o.kd, o.a, o.b, o.id⟩ by show (if kl.getD i false = true then didL (crashD safe ops kl i) (ops.getD i zDop) else crashD safe ops kl i) = _; rw [hb, ← ho]; rfl)
          rw [← ho] at r1 r2 r3 r4
          have hl9 := HLEN.out i hi
          obtain ⟨L, hL⟩ : ∃ L, L = crashD safe ops kl i := ⟨_, rfl⟩
          rw [← hL] at HC HSTEP hl9
          clear hb ho hL
          obtain ⟨A5, c5, hu⟩ := Kd.R_slice HC.out
          subst hu
          go_wp2_with (go_at_call 112; refine (did_any b A5 L.length c5 L o.kd o.a o.b o.id _ HC.out (Nat.le_trans hbw HB.out.size) hl9).mono ?_; rintro e w5 ⟨v5, rfl, hv, hb5⟩; obtain ⟨A6, c6, rfl⟩ := Kd.R_slice hv; have HV := Aside0.mk hv; have HB5 := Aside0.mk (below_step HB.out hb5); clear hv hb5)
          go_roundg (ops.length - (i + 1))
          case measure => have := hq.out; omega
          case rel => exact ⟨i + 1, by go_num, by omega, by omega, ⟨rfl⟩, ⟨by rw [HSTEP.out]; exact HV.out⟩, HB5⟩
      · have HE := Aside0.mk (crashD_end safe ops kl i (by omega) ops.length hi)
        obtain ⟨A5, c5, hu⟩ := Kd.R_slice HC.out
        subst hu
        go_wp2_with fail
        go_ret
        rw [HE.out]
        exact ⟨_, _, rfl, HB.out.size, ⟨blk_new _ _, Kd.R_alloc HC.out _, Kd.R_alloc HC.out _, Kd.R_nil _ _ _ _ _, Nat.le_trans hbw HB.out.size⟩, below_alloc HB.out _⟩
    · obtain rfl : i = ops.length := by omega
      obtain ⟨A5, c5, hu⟩ := Kd.R_slice HC.out
      subst hu
      go_wp2_with fail
      go_ret
      exact ⟨_, _, rfl, HB.out.size, ⟨blk_new _ _, Kd.R_alloc HC.out _, Kd.R_alloc HC.out _, Kd.R_nil _ _ _ _ _, Nat.le_trans hbw HB.out.size⟩, below_alloc HB.out _⟩
end Go.Proofs.Ytpnbjpkdbiiogaa
/- The code's directory in memory: New, Get, Pending, do. -/
namespace Go.Proofs.Ytpnbjpkdbiiogaa
set_option linter.unusedVariables false
open Go.RowKit Go.Maps Go.Proofs.YtpnbjpkdbiiogaaW.PrintWords
attribute [local go_sem] mx2 mn2 mxTwo mnTwo

theorem lawS : Keyed Try.prog 9 := string_keyed Try.underlying9
theorem zeroI (w : World) : (zeroValue 3).run Try.prog w = .ok (.int .i64 0) w := by kernel_rfl
/-- The code's directory. -/
structure DI (W : World) (b g mn ms : Nat) (vo : Value) (N : Nat) (now safe : List DN) (ops : List DOp) : Prop where
  hb : W.heap[g]? = some (.cells #[.map (some mn), .map (some ms), vo] 88 (0, 0))
  hn : MV W Try.prog 9 mn N (mapF now)
  hs : MV W Try.prog 9 ms N (mapF safe)
  ho : Kd.R kDop 149 W b (fun _ => True) vo ops
  hg : b ≤ g
  hmn : b ≤ mn
  hms : b ≤ ms
  ne : mn ≠ ms
theorem DI.below {W W1 : World} {b g mn ms N : Nat} {vo : Value} {now safe : List DN} {ops : List DOp} (h : DI W b g mn ms vo N now safe ops) (hb : Below W.heap.size W W1) : DI W1 b g mn ms vo N now safe ops :=
  ⟨blk_below h.hb hb, h.hn.below hb, h.hs.below hb, Kd.R_below h.ho hb, h.hg, h.hmn, h.hms, h.ne⟩
theorem mapF_nil : mapF [] = fun _ => none := rfl
theorem dnew_any (b : Nat) (w : World) (hb : b ≤ w.heap.size) : Calls Try.prog 43 #[] w fun e w' => ∃ g mn ms, e = .returned (.pointer (some ⟨g, 0, none⟩)) ∧ w.heap.size ≤ g ∧ w.heap.size ≤ mn ∧ w.heap.size ≤ ms ∧ DI w' b g mn ms (.slice none 0 0) 0 [] [] [] ∧ Below w.heap.size w w' := by
  have hmm := @run_makeMap Try.prog
  go_enter Try.func43, Try.ntmps43
  go_wp2
  go_ret
  have h1 := MV.made w Try.prog 9
  have h2 := MV.made (w.alloc (.map #[] 0)) Try.prog 9
  have hz : (w.alloc (.map #[] 0)).heap.size = w.heap.size + 1 := World.size_alloc ..
  rw [hz] at h2
  have hz2 : ((w.alloc (.map #[] 0)).alloc (.map #[] 0)).heap.size = w.heap.size + 2 := by rw [World.size_alloc, hz]
  refine ⟨_, _, _, rfl, ?_, Nat.le_refl _, ?_, ⟨?_, (h1.below (below_alloc (Below.refl _ _) _)).below (below_alloc (Below.refl _ _) _), h2.below (below_alloc (Below.refl _ _) _), Kd.R_nil _ _ _ _ _, ?_, hb, ?_, ?_⟩, below_alloc (below_alloc (below_alloc (Below.refl _ _) _) _) _⟩
  all_goals first | (have := blk_new ((w.alloc (.map #[] 0)).alloc (.map #[] 0)) (.cells #[.map (some w.heap.size), .map (some (w.heap.size + 1)), .slice none 0 0] 88); rw [hz2] at this; exact this) | omega
theorem dget_any (b g mn ms N : Nat) (vo : Value) (now safe : List DN) (ops : List DOp) (s : ByteArray) (w : World) (h : DI w b g mn ms vo N now safe ops) (hs : s.size ≤ maxLen) : Calls Try.prog 59 #[.pointer (some ⟨g, 0, none⟩), .string s] w fun e w' => e = .returned (.tuple #[.int .i64 ((getN now s).getD 0), .bool (getN now s).isSome]) ∧ w = w' := by
  have hc0 := (blk_cell h.hb 0).trans (rfl : _ = some (Value.map (some mn)))
  have HM := Aside0.mk h.hn
  have hkey := Go.WideMaps.keyOf_string_mk (P := Try.prog) Try.underlying9 hs
  have HK := Aside0.mk hkey
  have HV := Aside0.mk (show (mapF now (kS s)).getD (Value.int .i64 0) = .int .i64 ((getN now s).getD 0) ∧ (mapF now (kS s)).isSome = (getN now s).isSome by rw [mapF_at]; cases getN now s <;> exact ⟨rfl, rfl⟩)
  clear h hkey
  go_enter Try.func59, Try.ntmps59
  go_wp2_with (at_lookup; refine mv_lookup_ok rfl _ _ 85 rfl 9 3 lawS Try.underlying85 (zeroI _) mn N (mapF now) rfl HM.out _ (kS s) rfl HK.out _ _ HV.out.1 HV.out.2 ?_)
  go_ret2
  exact ⟨rfl, rfl⟩
theorem dget_nil (s : ByteArray) (w : World) : Calls Try.prog 59 #[.pointer none, .string s] w fun e w' => e = .returned (.tuple #[.int .i64 0, .bool false]) ∧ w = w' := by
  go_enter Try.func59, Try.ntmps59
  go_wp2
  go_ret2
  exact ⟨rfl, rfl⟩
theorem dpending_any (b g mn ms N : Nat) (vo : Value) (now safe : List DN) (ops : List DOp) (w : World) (h : DI w b g mn ms vo N now safe ops) : Calls Try.prog 52 #[.pointer (some ⟨g, 0, none⟩)] w fun e w' => e = .returned (.int .i64 (ops.length : Int)) ∧ w = w' := by
  obtain ⟨A, c, rfl⟩ := Kd.R_slice h.ho
  have hc0 := (blk_cell h.hb 2).trans (rfl : _ = some (Value.slice A ops.length c))
  clear h
  go_enter Try.func52, Try.ntmps52
  go_wp2
  go_ret
  exact ⟨rfl, rfl⟩
theorem dpending_nil (w : World) : Calls Try.prog 52 #[.pointer none] w fun e w' => e = .returned (.int .i64 0) ∧ w = w' := by
  go_enter Try.func52, Try.ntmps52
  go_wp2
  go_ret
  exact ⟨rfl, rfl⟩
/-- A map is turned, no other block. -/
structure Turn (w w' : World) (m : Nat) : Prop where
  k : KeepBut w w' m none
  l : ∀ b, b ≤ m → b ≤ w.heap.size → Below b w w'
theorem Turn.of_below {w w' : World} {m : Nat} (h : Below w.heap.size w w') : Turn w w' m := ⟨KeepBut.of_below h _ _, fun b _ hb => h.mono hb⟩
theorem Turn.step {w W W' : World} {m : Nat} (h : Turn w W m) (ht : W.mapTurned W' m) : Turn w W' m := by
  have hg := ht.grown
  refine ⟨⟨Nat.le_trans h.k.1 hg.size, fun i hi hne _ => (hg.block i (Nat.lt_of_lt_of_le hi h.k.1) (fun e => hne (by injection e))).trans (h.k.2 i hi hne (by simp))⟩, fun b hm hb => ?_⟩
  have h1 := h.l b hm hb
  exact ⟨hg.os.trans h1.os, hg.tape.trans h1.tape, hg.output.trans h1.output, Nat.le_trans h1.size hg.size, fun i hi => (hg.block i (by have := h1.size; omega) (fun e => by injection e; omega)).trans (h1.block i hi)⟩
theorem upd_none (l : List DN) (s : ByteArray) (h : getN l s = none) : upd (mapF l) (kS s) none = mapF l := by
  funext q
  by_cases e : q = kS s
  · subst e
    rw [upd_same, mapF_at, h]
    rfl
  · rw [upd_other _ _ e]
set_option maxHeartbeats 1000000 in
set_option maxRecDepth 100000 in
theorem ddo_any (m N : Nat) (l : List DN) (kd : Int) (sa sb : ByteArray) (id : Int) (w : World) (h : MV w Try.prog 9 m N (mapF l)) (hN : N < 1000000) (hsa : sa.size ≤ maxLen) (hsb : sb.size ≤ maxLen) :
    Calls Try.prog 98 #[.map (some m), (.agg #[.int .i64 kd, .string sa, .string sb, .int .i64 id])] w fun e w' => e = .returned (.tuple #[]) ∧ MV w' Try.prog 9 m (N + 1) (mapF (didL l ⟨kd, sa, sb, id⟩)) ∧ Turn w w' m := by
  by_cases h0 : kd = 0
  · subst h0
    have HD := Aside0.mk (show mapF (didL l ⟨0, sa, sb, id⟩) = upd (mapF l) (kS sa) (some (.int .i64 id)) by rw [show didL l ⟨0, sa, sb, id⟩ = withL l sa id from rfl, mapF_with])
    have HKA := Aside0.mk (Go.WideMaps.keyOf_string_mk (P := Try.prog) Try.underlying9 hsa)
    have HKB := Aside0.mk (Go.WideMaps.keyOf_string_mk (P := Try.prog) Try.underlying9 hsb)
    have HT := Aside0.mk (Turn.of_below (m := m) (below_alloc (Below.refl w.heap.size w) (.cells #[.int .i64 0, .string sa, .string sb, .int .i64 id] 149)))
    have hnb := blk_new w (.cells #[.int .i64 0, .string sa, .string sb, .int .i64 id] 149)
    have HNB := Aside0.mk hnb
    have HM := Aside0.mk (MV.below h (below_alloc (Below.refl w.heap.size w) (.cells #[.int .i64 0, .string sa, .string sb, .int .i64 id] 149)))
    have hmw := h.lt
    clear h hsa hsb hnb
    go_enter Try.func98, Try.ntmps98
    go_wp2_with (at_mapUpdate; refine mv_store rfl _ _ _ 85 rfl 9 3 lawS Try.underlying85 m N (mapF l) rfl HM.out (by unfold maxLen; omega) _ _ (kS sa) rfl rfl HKA.out ?_; intro w1 hm1 ht1; have HM1 := Aside0.mk hm1; have HT1 := Aside0.mk (HT.out.step ht1); clear hm1 ht1)
    first | go_end0 | ((try simp only [Exit.inBlock, Exit.then]); refine bodyPost_ret (results_none rfl _ _ _) rfl ?_)
    exact ⟨rfl, by rw [HD.out]; exact HM1.out, HT1.out⟩
  · have q0 : (kd == 0) = false := beq_eq_false_iff_ne.mpr h0
    by_cases h1 : kd = 1
    · subst h1
      cases hg : getN l sa with
      | none =>
        have HD := Aside0.mk (show didL l ⟨1, sa, sb, id⟩ = l by unfold didL; rw [if_neg h0]; simp [hg])
        have HV := Aside0.mk (show (mapF l (kS sa)).getD (Value.int .i64 0) = .int .i64 0 ∧ (mapF l (kS sa)).isSome = false by rw [mapF_at, hg]; exact ⟨rfl, rfl⟩)
        clear hg h0
        have HKA := Aside0.mk (Go.WideMaps.keyOf_string_mk (P := Try.prog) Try.underlying9 hsa)
        have HKB := Aside0.mk (Go.WideMaps.keyOf_string_mk (P := Try.prog) Try.underlying9 hsb)
        have HT := Aside0.mk (Turn.of_below (m := m) (below_alloc (Below.refl w.heap.size w) (.cells #[.int .i64 1, .string sa, .string sb, .int .i64 id] 149)))
        have hnb := blk_new w (.cells #[.int .i64 1, .string sa, .string sb, .int .i64 id] 149)
        have HNB := Aside0.mk hnb
        have HM := Aside0.mk (MV.below h (below_alloc (Below.refl w.heap.size w) (.cells #[.int .i64 1, .string sa, .string sb, .int .i64 id] 149)))
        have hmw := h.lt
        clear h hsa hsb hnb
        go_enter Try.func98, Try.ntmps98
        go_wp2_with (at_lookup; refine mv_lookup_ok rfl _ _ 85 rfl 9 3 lawS Try.underlying85 (zeroI _) m N (mapF l) rfl HM.out _ (kS sa) rfl HKA.out _ _ HV.out.1 HV.out.2 ?_)
        first | go_end0 | ((try simp only [Exit.inBlock, Exit.then]); refine bodyPost_ret (results_none rfl _ _ _) rfl ?_)
        exact ⟨rfl, by rw [HD.out]; exact HM.out.mono (Nat.le_succ _), HT.out⟩
      | some y =>
        have HD := Aside0.mk (show mapF (didL l ⟨1, sa, sb, id⟩) = upd (upd (mapF l) (kS sa) none) (kS sb) (some (.int .i64 y)) by
          have e : didL l ⟨1, sa, sb, id⟩ = withL (withoutL l sa) sb y := by unfold didL; rw [if_neg h0]; simp [hg]
          rw [e, mapF_with, mapF_without])
        have HV := Aside0.mk (show (mapF l (kS sa)).getD (Value.int .i64 0) = .int .i64 y ∧ (mapF l (kS sa)).isSome = true by rw [mapF_at, hg]; exact ⟨rfl, rfl⟩)
        clear hg h0
        have HKA := Aside0.mk (Go.WideMaps.keyOf_string_mk (P := Try.prog) Try.underlying9 hsa)
        have HKB := Aside0.mk (Go.WideMaps.keyOf_string_mk (P := Try.prog) Try.underlying9 hsb)
        have HT := Aside0.mk (Turn.of_below (m := m) (below_alloc (Below.refl w.heap.size w) (.cells #[.int .i64 1, .string sa, .string sb, .int .i64 id] 149)))
        have hnb := blk_new w (.cells #[.int .i64 1, .string sa, .string sb, .int .i64 id] 149)
        have HNB := Aside0.mk hnb
        have HM := Aside0.mk (MV.below h (below_alloc (Below.refl w.heap.size w) (.cells #[.int .i64 1, .string sa, .string sb, .int .i64 id] 149)))
        have hmw := h.lt
        clear h hsa hsb hnb
        go_enter Try.func98, Try.ntmps98
        go_wp2_with (first
          | (at_lookup; refine mv_lookup_ok rfl _ _ 85 rfl 9 3 lawS Try.underlying85 (zeroI _) m N (mapF l) rfl HM.out _ (kS sa) rfl HKA.out _ _ HV.out.1 HV.out.2 ?_)
          | (at_delete; refine mv_delete rfl _ _ 85 9 rfl 3 lawS Try.underlying85 m N (mapF l) rfl HM.out _ (kS sa) rfl HKA.out ?_; intro w1 hm1 ht1; have hn1 := (ht1.grown.block w.heap.size (blk_lt HNB.out) (fun e => by injection e; omega)).trans HNB.out; have t2 := (blk_cell hn1 2).trans (rfl : _ = some (Value.string sb)); have HM1 := Aside0.mk hm1; have HT1 := Aside0.mk (HT.out.step ht1); clear hm1 ht1 hn1)
          | (at_mapUpdate; refine mv_store rfl _ _ _ 85 rfl 9 3 lawS Try.underlying85 m N _ rfl HM1.out (by unfold maxLen; omega) _ _ (kS sb) rfl rfl HKB.out ?_; intro w2 hm2 ht2; have HM2 := Aside0.mk hm2; have HT2 := Aside0.mk (HT1.out.step ht2); clear hm2 ht2))
        first | go_end0 | ((try simp only [Exit.inBlock, Exit.then]); refine bodyPost_ret (results_none rfl _ _ _) rfl ?_)
        exact ⟨rfl, by rw [HD.out]; exact HM2.out, HT2.out⟩
    · have HD := Aside0.mk (show mapF (didL l ⟨kd, sa, sb, id⟩) = upd (mapF l) (kS sa) none by
        cases hg : getN l sa with
        | none =>
          have e : didL l ⟨kd, sa, sb, id⟩ = l := by unfold didL; rw [if_neg h0]; simp [hg]
          rw [e, upd_none l sa hg]
        | some y =>
          have e : didL l ⟨kd, sa, sb, id⟩ = withoutL l sa := by unfold didL; rw [if_neg h0]; simp [hg, h1]
          rw [e, mapF_without])
      have q1 : (kd == 1) = false := beq_eq_false_iff_ne.mpr h1
      clear h0 h1
      have HKA := Aside0.mk (Go.WideMaps.keyOf_string_mk (P := Try.prog) Try.underlying9 hsa)
      have HKB := Aside0.mk (Go.WideMaps.keyOf_string_mk (P := Try.prog) Try.underlying9 hsb)
      have HT := Aside0.mk (Turn.of_below (m := m) (below_alloc (Below.refl w.heap.size w) (.cells #[.int .i64 kd, .string sa, .string sb, .int .i64 id] 149)))
      have hnb := blk_new w (.cells #[.int .i64 kd, .string sa, .string sb, .int .i64 id] 149)
      have HNB := Aside0.mk hnb
      have HM := Aside0.mk (MV.below h (below_alloc (Below.refl w.heap.size w) (.cells #[.int .i64 kd, .string sa, .string sb, .int .i64 id] 149)))
      have hmw := h.lt
      clear h hsa hsb hnb
      go_enter Try.func98, Try.ntmps98
      go_wp2_with (at_delete; refine mv_delete rfl _ _ 85 9 rfl 3 lawS Try.underlying85 m N (mapF l) rfl HM.out _ (kS sa) rfl HKA.out ?_; intro w1 hm1 ht1; have HM1 := Aside0.mk hm1; have HT1 := Aside0.mk (HT.out.step ht1); clear hm1 ht1)
      first | go_end0 | ((try simp only [Exit.inBlock, Exit.then]); refine bodyPost_ret (results_none rfl _ _ _) rfl ?_)
      exact ⟨rfl, by rw [HD.out]; exact HM1.out.mono (Nat.le_succ _), HT1.out⟩
end Go.Proofs.Ytpnbjpkdbiiogaa
/- The code's directory: Create, Rename, Unlink. -/
namespace Go.Proofs.Ytpnbjpkdbiiogaa
set_option linter.unusedVariables false
open Go.RowKit Go.Maps Go.Proofs.YtpnbjpkdbiiogaaW.PrintWords
attribute [local go_sem] mx2 mn2 mxTwo mnTwo

/-- A map is turned: a row stays. -/
theorem R_turn {α : Type} {d : Kd α} {e : Nat} {W W1 : World} {b : Nat} {x : Nat → Prop} {v : Value} {xs : List α} {P : Program} {k : TypeId} {m n : Nat} {f : Lit → Option Value} (h : d.R e W b x v xs) (hm : MV W P k m n f) (ht : KeepBut W W1 m none) : d.R e W1 b x v xs :=
  Kd.R_mono (Kd.R_step (Kd.R_bound h) (fun q ho hlt => by
    obtain ⟨_, _, _, t, _, cells, hc⟩ := ho
    exact ht.2 q hlt (fun e => hm.ne hc e.symm) (by simp))) (fun q hq => hq.1)
section
variable {W W1 : World} {b g mn ms N : Nat} {vo v1 : Value} {now safe now1 : List DN} {ops : List DOp} {o : DOp}
theorem DI.turn (h : DI W b g mn ms vo N now safe ops) (ht : Turn W W1 mn) (hn : MV W1 Try.prog 9 mn (N + 1) (mapF now1)) : DI W1 b g mn ms vo (N + 1) now1 safe ops :=
  ⟨(ht.k.2 g (blk_lt h.hb) (fun e => h.hn.ne h.hb e.symm) (by simp)).trans h.hb, hn, (h.hs.move (ht.k.2 ms h.hs.lt (Ne.symm h.ne) (by simp))).mono (Nat.le_succ _), R_turn h.ho h.hn ht.k, h.hg, h.hmn, h.hms, h.ne⟩
theorem DI.addOp (h : DI W b g mn ms vo N now safe ops) (ho : Kd.R kDop 149 W1 b (fun _ => True) v1 (ops ++ [o])) (hg : W.grownBy W1 vo.ownBlock) : DI (W1.setCell ⟨g, 2, none⟩ v1) b g mn ms v1 N now safe (ops ++ [o]) := by
  have hb := blk_grown h.hb hg (Kd.R_ne h.ho h.hb (by decide))
  have hvo : ∀ k, vo.ownBlock = some k → ∃ cells, W.heap[k]? = some (.cells cells 149 (0, 0)) := fun k hk => own_typed h.ho.2.choose_spec.1 k hk
  have hmv : ∀ (m : Nat) (f : Lit → Option Value), MV W Try.prog 9 m N f → MV (W1.setCell ⟨g, 2, none⟩ v1) Try.prog 9 m N f := by
    intro m f hm
    have h1 : MV W1 Try.prog 9 m N f := hm.move (hg.block m hm.lt (fun e => by
      obtain ⟨c, hc⟩ := hvo m e.symm
      exact hm.ne hc rfl))
    exact h1.setCell (h1.ne hb) _
  exact ⟨blk_put hb 2 _ rfl, hmv _ _ h.hn, hmv _ _ h.hs, dfarO ho hb (by decide) _, h.hg, h.hmn, h.hms, h.ne⟩
end
set_option maxHeartbeats 1000000 in
set_option maxRecDepth 100000 in
theorem ddone_any (b g mn ms N : Nat) (vo : Value) (now safe : List DN) (ops : List DOp) (kd : Int) (sa sb : ByteArray) (id : Int) (w : World) (h : DI w b g mn ms vo N now safe ops) (hN : N < 1000000) (hlo : ops.length ≤ 100000) (hsa : sa.size ≤ maxLen) (hsb : sb.size ≤ maxLen) :
    Calls Try.prog 102 #[.pointer (some ⟨g, 0, none⟩), (.agg #[.int .i64 kd, .string sa, .string sb, .int .i64 id])] w fun e w' => e = .returned (.int .i64 0) ∧ ∃ vo', DI w' b g mn ms vo' (N + 1) (didL now ⟨kd, sa, sb, id⟩) safe (ops ++ [⟨kd, sa, sb, id⟩]) ∧ (vo'.ownBlock = vo.ownBlock ∨ ∃ k, vo'.ownBlock = some k ∧ w.heap.size ≤ k) ∧ Keep3 w w' g (some mn) vo.ownBlock ∧ Below b w w' := by
  have hbw : b ≤ w.heap.size := Nat.le_trans h.hg (Nat.le_of_lt (blk_lt h.hb))
  have H := Aside0.mk h
  have HSA := Aside0.mk hsa
  have HSB := Aside0.mk hsb
  clear h hsa hsb
  go_enter Try.func102, Try.ntmps102
  go_wp2_with fail
  obtain ⟨W1, hW1⟩ : ∃ W1, W1 = w.alloc (.cells #[.int .i64 kd, .string sa, .string sb, .int .i64 id] 149) := ⟨_, rfl⟩
  have hnb : W1.heap[w.heap.size]? = some (.cells #[.int .i64 kd, .string sa, .string sb, .int .i64 id] 149 (0, 0)) := by rw [hW1]; exact blk_new _ _
  have hb1 : Below w.heap.size w W1 := by rw [hW1]; exact below_alloc (Below.refl _ _) _
  rw [← hW1]
  obtain ⟨p3, hp3⟩ : ∃ p3, p3 = w.heap.size := ⟨_, rfl⟩
  rw [← hp3] at hnb ⊢
  have t0 := (blk_cell hnb 0).trans (rfl : _ = some (Value.int .i64 kd))
  have t1 := (blk_cell hnb 1).trans (rfl : _ = some (Value.string sa))
  have t2 := (blk_cell hnb 2).trans (rfl : _ = some (Value.string sb))
  have t3 := (blk_cell hnb 3).trans (rfl : _ = some (Value.int .i64 id))
  have hs1 := H.out.below hb1
  have hgp : g ≠ p3 := by have := blk_lt H.out.hb; omega
  have hmp : p3 ≠ mn := fun e => hs1.hn.ne hnb e.symm
  have s0 := (blk_cell hs1.hb 0).trans (rfl : _ = some (Value.map (some mn)))
  have HS := Aside0.mk hs1
  have HB1 := Aside0.mk hb1
  have HNB := Aside0.mk hnb
  clear hnb hb1 hp3 hW1 hs1
  go_region_held3 (fun w' => w'.cell? ⟨g, 0, none⟩ = some (.map (some mn)) ∧ w'.cell? ⟨p3, 0, none⟩ = some (.int .i64 kd) ∧ w'.cell? ⟨p3, 1, none⟩ = some (.string sa) ∧ w'.cell? ⟨p3, 2, none⟩ = some (.string sb) ∧ w'.cell? ⟨p3, 3, none⟩ = some (.int .i64 id)) (first | with_reducible exact ⟨s0, t0, t1, t2, t3⟩ | exact ⟨s0, t0, t1, t2, t3⟩) (first
    | (go_at_call 98; refine (ddo_any mn N now kd sa sb id _ (MV.drew HS.out.hn) hN HSA.out HSB.out).mono ?_; rintro e w5 ⟨rfl, hm5, ht5⟩; have hs5 := (HS.out.below (below_drew1 (Below.refl _ _))).turn ht5 hm5; have hn5 := (ht5.k.2 p3 (blk_lt (blk_drew HNB.out)) hmp (by simp)).trans (blk_drew HNB.out); replace s0 := (blk_cell hs5.hb 0).trans (rfl : _ = some (Value.map (some mn))); replace t0 := (blk_cell hn5 0).trans (rfl : _ = some (Value.int .i64 kd)); replace t1 := (blk_cell hn5 1).trans (rfl : _ = some (Value.string sa)); replace t2 := (blk_cell hn5 2).trans (rfl : _ = some (Value.string sb)); replace t3 := (blk_cell hn5 3).trans (rfl : _ = some (Value.int .i64 id)); have HS5 := Aside0.mk hs5; have HN5 := Aside0.mk hn5; have HT5 := Aside0.mk ht5; clear hm5 ht5 hs5 hn5))
  all_goals
    first | go_end0 | skip
    go_wp2_with fail
    obtain ⟨N2, hN2⟩ : ∃ N2, N2 = didL now ⟨kd, sa, sb, id⟩ := ⟨_, rfl⟩
    rw [← hN2] at HS5
    have hs6 := HS5.out
    have hk6 : Keep3 w w5 g (some mn) vo.ownBlock := ((Keep3.refl w g (some mn) vo.ownBlock).step (q1 := none) (q2 := none) (W' := W1.drew) HB1.out.size (fun i hi _ _ _ => HB1.out.block i hi) (.inr (.inl rfl)) (.inr (.inl rfl))).step (q1 := some mn) (q2 := none) (W' := w5) HT5.out.k.1 (fun i hi _ h1 _ => HT5.out.k.2 i hi (fun e => h1 (by rw [e])) (by simp)) (.inl rfl) (.inr (.inl rfl))
    have hb6 : Below b w w5 := ((HB1.out.mono hbw).trans (below_drew1 (Below.refl _ _))).trans (HT5.out.l b hs6.hmn (Nat.le_trans hbw HB1.out.size))
    obtain ⟨A11, c11, hvo⟩ := Kd.R_slice hs6.ho
    have s2 := (blk_cell hs6.hb 2).trans (rfl : _ = some vo)
    rw [hvo] at s2
    have z2 := blk_frozen hs6.hb 2
    have s2a := cell_al (.cells #[.int .i64 kd, .string sa, .string sb, .int .i64 id] 149) s2
    have hoA : Kd.R kDop 149 w5 b (fun _ => True) (.slice A11 ops.length c11) ops := hvo ▸ hs6.ho
    have HG0 := Aside0.mk (Kd.R_ne hoA hs6.hb (by decide))
    have hbs : b ≤ w5.heap.size := Nat.le_trans hs6.hg (Nat.le_of_lt (blk_lt hs6.hb))
    have HOA := Aside0.mk hoA
    have HVO := Aside0.mk hvo
    have HS6 := Aside0.mk hs6
    have HK6 := Aside0.mk hk6
    have HB6 := Aside0.mk hb6
    clear hs6 hvo hoA hk6 hb6 HS5 HT5 HS HB1 HNB HN5
    go_region_law ((refine Kd.R_append_step kDop (W := w5.drew) (w0 := w5.drew) b (by rfl) (.tmp 15) (.tmp 17) 86 149 (.agg #[(.int .i64 0), (.string ⟨#[]⟩), (.string ⟨#[]⟩), (.int .i64 0)]) 48 rfl Try.underlying86 infoDop rfl (by decide) (by omega) (.slice A11 ops.length c11) ops ⟨kd, sa, sb, id⟩ [.int .i64 kd, .string sa, .string sb, .int .i64 id] (fun _ => True) (fun _ => False) (by rfl) (by rfl) (kDop_mkM _ _ _ ⟨kd, sa, sb, id⟩) (fun _ h => h.elim) (fun _ _ => trivial) (Kd.R_drew HOA.out) (Below.refl _ _) hbs (by omega) ?_); intro v7 w7 ho7 hl7 hg7 hat7; obtain ⟨g7, c7', e7, _, _, _⟩ := Kd.R_form ho7 (by simp); rw [List.length_append, List.length_singleton] at e7; subst e7; have hb7 := blk_grown (blk_drew HS6.out.hb) hg7 HG0.out; have s7 := (blk_cell hb7 2).trans (rfl : _ = some vo); rw [HVO.out] at s7; have z7 := blk_frozen hb7 2; have HO7 := Aside0.mk ho7; have HL7 := Aside0.mk hl7; have HG7 := Aside0.mk hg7; have HAT7 := Aside0.mk hat7; clear ho7 hl7 hg7 hat7 hb7)
    all_goals
      go_wp2_with fail
      go_ret
      have hg7 := HG7.out
      have hat7 := HAT7.out
      rw [← HVO.out] at hg7 hat7
      have hfin := (HS6.out.below (below_drew1 (Below.refl _ _))).addOp HO7.out hg7
      rw [hN2] at hfin
      exact ⟨rfl, _, hfin, hat7.imp (fun h => h) (fun ⟨k, e, hk⟩ => ⟨k, e, Nat.le_trans HK6.out.1 hk⟩), (HK6.out.step (q1 := none) (q2 := vo.ownBlock) (W' := w7) hg7.size (fun i hi _ _ h2 => hg7.block i hi h2) (.inr (.inl rfl)) (.inl rfl)).step (q1 := none) (q2 := none) (by rw [setsz]; exact Nat.le_refl _) (fun i hi hne _ _ => Below.heap_setCell _ ⟨g, 2, none⟩ _ i hne) (.inr (.inl rfl)) (.inr (.inl rfl)), ((HB6.out.trans (below_drew1 (Below.refl _ _))).trans HL7.out).setCell (p := ⟨g, 2, none⟩) HS6.out.hg _⟩
/-- What the code keeps of a call. -/
def nrm (o : DOp) : DOp := if o.kd = 0 then ⟨0, o.a, ⟨#[]⟩, o.id⟩ else if o.kd = 1 then ⟨1, o.a, o.b, 0⟩ else ⟨2, o.a, ⟨#[]⟩, 0⟩
theorem did_nrm (l : List DN) (o : DOp) : didL l (nrm o) = didL l o := by
  unfold nrm
  by_cases h0 : o.kd = 0
  · rw [if_pos h0]; unfold didL; simp [h0]
  · rw [if_neg h0]
    by_cases h1 : o.kd = 1
    · rw [if_pos h1]; unfold didL; simp [h1]
    · rw [if_neg h1]; unfold didL; simp [h0, h1]
theorem empty_ok : (⟨#[]⟩ : ByteArray).size ≤ maxLen := by decide
end Go.Proofs.Ytpnbjpkdbiiogaa
/- The code's directory: Create, Rename, Unlink. -/
namespace Go.Proofs.Ytpnbjpkdbiiogaa
set_option linter.unusedVariables false
open Go.RowKit Go.Maps Go.Proofs.YtpnbjpkdbiiogaaW.PrintWords
attribute [local go_sem] mx2 mn2 mxTwo mnTwo


def doOpsI (now : List DN) (ops : List DOp) (o : DOp) : List DOp := if doCode now o = 0 then ops ++ [nrm o] else ops
theorem DI.mono {W : World} {b g mn ms N : Nat} {vo : Value} {now safe : List DN} {ops : List DOp} (h : DI W b g mn ms vo N now safe ops) : DI W b g mn ms vo (N + 1) now safe ops := ⟨h.hb, h.hn.mono (Nat.le_succ _), h.hs.mono (Nat.le_succ _), h.ho, h.hg, h.hmn, h.hms, h.ne⟩
set_option maxHeartbeats 400000 in
set_option maxRecDepth 100000 in
theorem dcreate_any (b g mn ms N : Nat) (vo : Value) (now safe : List DN) (ops : List DOp) (w : World) (h : DI w b g mn ms vo N now safe ops) (hN : N < 1000000) (hlo : ops.length ≤ 100000) (sa sb : ByteArray) (id : Int) (hsa : sa.size ≤ maxLen) : Calls Try.prog 56 #[.pointer (some ⟨g, 0, none⟩), .string sa, .int .i64 id] w (fun e w' => e = .returned (.int .i64 (doCode now ⟨0, sa, sb, id⟩)) ∧ ∃ vo', DI w' b g mn ms vo' (N + 1) (doNow now ⟨0, sa, sb, id⟩) safe (doOpsI now ops ⟨0, sa, sb, id⟩) ∧ (vo'.ownBlock = vo.ownBlock ∨ ∃ k, vo'.ownBlock = some k ∧ w.heap.size ≤ k) ∧ Keep3 w w' g (some mn) vo.ownBlock ∧ Below b w w') := by
  have HSA := Aside0.mk hsa
  unfold doNow doOpsI doCode
  dsimp only
  cases hg : getN now sa with
  | some y =>
    rw [if_pos ⟨rfl, rfl⟩]
    have HV := Aside0.mk (show (mapF now (kS sa)).getD (Value.int .i64 0) = .int .i64 y ∧ (mapF now (kS sa)).isSome = true by rw [mapF_at, hg]; exact ⟨rfl, rfl⟩)
    have hbw : b ≤ w.heap.size := Nat.le_trans h.hg (Nat.le_of_lt (blk_lt h.hb))
    have s0 := (blk_cell h.hb 0).trans (rfl : _ = some (Value.map (some mn)))
    have H := Aside0.mk h
    have HM := Aside0.mk h.hn
    have HKA := Aside0.mk (Go.WideMaps.keyOf_string_mk (P := Try.prog) Try.underlying9 hsa)
    have qn : ∀ (w : World) (r : Option Nat), (binOp .eql 85 (.map r) (.map none)).run Try.prog w = .ok (.bool r.isNone) w := fun w r => run_eql_map_nil w 85 9 3 r Try.underlying85
    clear h
    clear hg hsa
    go_enter Try.func56, Try.ntmps56
    go_wp2_with (at_lookup; refine mv_lookup_ok rfl _ _ 85 rfl 9 3 lawS Try.underlying85 (zeroI _) mn N (mapF now) rfl HM.out _ (kS sa) rfl HKA.out (.int .i64 y) (true) HV.out.1 HV.out.2 ?_)
    go_ret
    first
    | exact ⟨rfl, _, H.out.mono, .inl rfl, Keep3.refl _ _ _ _, Below.refl _ _⟩
    | exact ⟨rfl, _, HD5.out.mono, .inl rfl, (Keep3.refl _ _ _ _).step (q1 := none) (q2 := none) HB5.out.size (fun i hi _ _ _ => HB5.out.block i hi) (.inr (.inl rfl)) (.inr (.inl rfl)), HB5.out.mono hbw⟩
  | none =>
    have HV := Aside0.mk (show (mapF now (kS sa)).getD (Value.int .i64 0) = .int .i64 0 ∧ (mapF now (kS sa)).isSome = false by rw [mapF_at, hg]; exact ⟨rfl, rfl⟩)
    cases hr : rightB sa with
    | false =>
      have HRA := Aside0.mk hr
      have hbw : b ≤ w.heap.size := Nat.le_trans h.hg (Nat.le_of_lt (blk_lt h.hb))
      have s0 := (blk_cell h.hb 0).trans (rfl : _ = some (Value.map (some mn)))
      have H := Aside0.mk h
      have HM := Aside0.mk h.hn
      have HKA := Aside0.mk (Go.WideMaps.keyOf_string_mk (P := Try.prog) Try.underlying9 hsa)
      have qn : ∀ (w : World) (r : Option Nat), (binOp .eql 85 (.map r) (.map none)).run Try.prog w = .ok (.bool r.isNone) w := fun w r => run_eql_map_nil w 85 9 3 r Try.underlying85
      clear h
      clear hg hsa hr
      simp only [Option.isSome_none, Bool.false_eq_true, and_false, if_false, ne_eq, not_true_eq_false, false_and, true_and, true_or, if_true]
      go_enter Try.func56, Try.ntmps56
      go_wp2_with (first
        | (at_lookup; refine mv_lookup_ok rfl _ _ 85 rfl 9 3 lawS Try.underlying85 (zeroI _) mn N (mapF now) rfl HM.out _ (kS sa) rfl HKA.out (.int .i64 0) (false) HV.out.1 HV.out.2 ?_)
        | (go_at_call 54; refine (right_any sa _ HSA.out).mono ?_; rw [HRA.out]; rintro e w5 ⟨rfl, hb⟩; have hd := H.out.below hb; have HD5 := Aside0.mk hd; have HB5 := Aside0.mk hb; clear hd hb))
      go_ret
      first
      | exact ⟨rfl, _, H.out.mono, .inl rfl, Keep3.refl _ _ _ _, Below.refl _ _⟩
      | exact ⟨rfl, _, HD5.out.mono, .inl rfl, (Keep3.refl _ _ _ _).step (q1 := none) (q2 := none) HB5.out.size (fun i hi _ _ _ => HB5.out.block i hi) (.inr (.inl rfl)) (.inr (.inl rfl)), HB5.out.mono hbw⟩
    | true =>
      have HRA := Aside0.mk hr
      have hbw : b ≤ w.heap.size := Nat.le_trans h.hg (Nat.le_of_lt (blk_lt h.hb))
      have s0 := (blk_cell h.hb 0).trans (rfl : _ = some (Value.map (some mn)))
      have H := Aside0.mk h
      have HM := Aside0.mk h.hn
      have HKA := Aside0.mk (Go.WideMaps.keyOf_string_mk (P := Try.prog) Try.underlying9 hsa)
      have qn : ∀ (w : World) (r : Option Nat), (binOp .eql 85 (.map r) (.map none)).run Try.prog w = .ok (.bool r.isNone) w := fun w r => run_eql_map_nil w 85 9 3 r Try.underlying85
      clear h
      clear hg hsa hr
      simp
      go_enter Try.func56, Try.ntmps56
      go_wp2_with (first
        | (at_lookup; refine mv_lookup_ok rfl _ _ 85 rfl 9 3 lawS Try.underlying85 (zeroI _) mn N (mapF now) rfl HM.out _ (kS sa) rfl HKA.out (.int .i64 0) (false) HV.out.1 HV.out.2 ?_)
        | (go_at_call 54; refine (right_any sa _ HSA.out).mono ?_; rw [HRA.out]; rintro e w5 ⟨rfl, hb⟩; have hd := H.out.below hb; have HD5 := Aside0.mk hd; have HB5 := Aside0.mk hb; clear hd hb)
        | (go_at_call 102; refine (ddone_any b g mn ms N vo now safe ops 0 sa ⟨#[]⟩ id _ HD5.out hN hlo HSA.out empty_ok).mono ?_; rintro e w6 ⟨rfl, hx⟩; have HX := Aside0.mk hx; clear hx))
      go_ret
      obtain ⟨vo', hd, hv, hk, hl⟩ := HX.out
      exact ⟨rfl, vo', hd, hv.imp (fun h => h) (fun ⟨k, e, hk⟩ => ⟨k, e, Nat.le_trans HB5.out.size hk⟩), ((Keep3.refl w g (some mn) vo.ownBlock).step (q1 := none) (q2 := none) HB5.out.size (fun i hi _ _ _ => HB5.out.block i hi) (.inr (.inl rfl)) (.inr (.inl rfl))).step (q1 := some mn) (q2 := vo.ownBlock) hk.1 hk.2 (.inl rfl) (.inl rfl), (HB5.out.mono hbw).trans hl⟩
set_option maxHeartbeats 400000 in
set_option maxRecDepth 100000 in
theorem drename_any (b g mn ms N : Nat) (vo : Value) (now safe : List DN) (ops : List DOp) (w : World) (h : DI w b g mn ms vo N now safe ops) (hN : N < 1000000) (hlo : ops.length ≤ 100000) (sa sb : ByteArray) (id : Int) (hsa : sa.size ≤ maxLen) (hsb : sb.size ≤ maxLen) : Calls Try.prog 57 #[.pointer (some ⟨g, 0, none⟩), .string sa, .string sb] w (fun e w' => e = .returned (.int .i64 (doCode now ⟨1, sa, sb, id⟩)) ∧ ∃ vo', DI w' b g mn ms vo' (N + 1) (doNow now ⟨1, sa, sb, id⟩) safe (doOpsI now ops ⟨1, sa, sb, id⟩) ∧ (vo'.ownBlock = vo.ownBlock ∨ ∃ k, vo'.ownBlock = some k ∧ w.heap.size ≤ k) ∧ Keep3 w w' g (some mn) vo.ownBlock ∧ Below b w w') := by
  have HSA := Aside0.mk hsa
  have HSB := Aside0.mk hsb
  have e9 : ∀ l : List DN, didL l ⟨1, sa, sb, id⟩ = didL l ⟨1, sa, sb, 0⟩ := fun l => rfl
  unfold doNow doOpsI doCode
  dsimp only
  cases hg : getN now sa with
  | none =>
    have HV := Aside0.mk (show (mapF now (kS sa)).getD (Value.int .i64 0) = .int .i64 0 ∧ (mapF now (kS sa)).isSome = false by rw [mapF_at, hg]; exact ⟨rfl, rfl⟩)
    have hbw : b ≤ w.heap.size := Nat.le_trans h.hg (Nat.le_of_lt (blk_lt h.hb))
    have s0 := (blk_cell h.hb 0).trans (rfl : _ = some (Value.map (some mn)))
    have H := Aside0.mk h
    have HM := Aside0.mk h.hn
    have HKA := Aside0.mk (Go.WideMaps.keyOf_string_mk (P := Try.prog) Try.underlying9 hsa)
    have qn : ∀ (w : World) (r : Option Nat), (binOp .eql 85 (.map r) (.map none)).run Try.prog w = .ok (.bool r.isNone) w := fun w r => run_eql_map_nil w 85 9 3 r Try.underlying85
    clear h
    clear hg hsa hsb e9
    simp
    go_enter Try.func57, Try.ntmps57
    go_wp2_with (at_lookup; refine mv_lookup_ok rfl _ _ 85 rfl 9 3 lawS Try.underlying85 (zeroI _) mn N (mapF now) rfl HM.out _ (kS sa) rfl HKA.out (.int .i64 0) (false) HV.out.1 HV.out.2 ?_)
    go_ret
    first
    | exact ⟨rfl, _, H.out.mono, .inl rfl, Keep3.refl _ _ _ _, Below.refl _ _⟩
    | exact ⟨rfl, _, HD5.out.mono, .inl rfl, (Keep3.refl _ _ _ _).step (q1 := none) (q2 := none) HB5.out.size (fun i hi _ _ _ => HB5.out.block i hi) (.inr (.inl rfl)) (.inr (.inl rfl)), HB5.out.mono hbw⟩
  | some y =>
    have HV := Aside0.mk (show (mapF now (kS sa)).getD (Value.int .i64 0) = .int .i64 y ∧ (mapF now (kS sa)).isSome = true by rw [mapF_at, hg]; exact ⟨rfl, rfl⟩)
    cases hr : rightB sb with
    | false =>
      have HRA := Aside0.mk hr
      have hbw : b ≤ w.heap.size := Nat.le_trans h.hg (Nat.le_of_lt (blk_lt h.hb))
      have s0 := (blk_cell h.hb 0).trans (rfl : _ = some (Value.map (some mn)))
      have H := Aside0.mk h
      have HM := Aside0.mk h.hn
      have HKA := Aside0.mk (Go.WideMaps.keyOf_string_mk (P := Try.prog) Try.underlying9 hsa)
      have qn : ∀ (w : World) (r : Option Nat), (binOp .eql 85 (.map r) (.map none)).run Try.prog w = .ok (.bool r.isNone) w := fun w r => run_eql_map_nil w 85 9 3 r Try.underlying85
      clear h
      clear hg hsa hr hsb e9
      simp
      go_enter Try.func57, Try.ntmps57
      go_wp2_with (first
        | (at_lookup; refine mv_lookup_ok rfl _ _ 85 rfl 9 3 lawS Try.underlying85 (zeroI _) mn N (mapF now) rfl HM.out _ (kS sa) rfl HKA.out (.int .i64 y) (true) HV.out.1 HV.out.2 ?_)
        | (go_at_call 54; refine (right_any sb _ HSB.out).mono ?_; rw [HRA.out]; rintro e w5 ⟨rfl, hb⟩; have hd := H.out.below hb; have HD5 := Aside0.mk hd; have HB5 := Aside0.mk hb; clear hd hb))
      go_ret
      first
      | exact ⟨rfl, _, H.out.mono, .inl rfl, Keep3.refl _ _ _ _, Below.refl _ _⟩
      | exact ⟨rfl, _, HD5.out.mono, .inl rfl, (Keep3.refl _ _ _ _).step (q1 := none) (q2 := none) HB5.out.size (fun i hi _ _ _ => HB5.out.block i hi) (.inr (.inl rfl)) (.inr (.inl rfl)), HB5.out.mono hbw⟩
    | true =>
      have HRA := Aside0.mk hr
      have hbw : b ≤ w.heap.size := Nat.le_trans h.hg (Nat.le_of_lt (blk_lt h.hb))
      have s0 := (blk_cell h.hb 0).trans (rfl : _ = some (Value.map (some mn)))
      have H := Aside0.mk h
      have HM := Aside0.mk h.hn
      have HKA := Aside0.mk (Go.WideMaps.keyOf_string_mk (P := Try.prog) Try.underlying9 hsa)
      have qn : ∀ (w : World) (r : Option Nat), (binOp .eql 85 (.map r) (.map none)).run Try.prog w = .ok (.bool r.isNone) w := fun w r => run_eql_map_nil w 85 9 3 r Try.underlying85
      clear h
      clear hg hsa hr hsb
      simp
      rw [e9]
      clear e9
      go_enter Try.func57, Try.ntmps57
      go_wp2_with (first
        | (at_lookup; refine mv_lookup_ok rfl _ _ 85 rfl 9 3 lawS Try.underlying85 (zeroI _) mn N (mapF now) rfl HM.out _ (kS sa) rfl HKA.out (.int .i64 y) (true) HV.out.1 HV.out.2 ?_)
        | (go_at_call 54; refine (right_any sb _ HSB.out).mono ?_; rw [HRA.out]; rintro e w5 ⟨rfl, hb⟩; have hd := H.out.below hb; have HD5 := Aside0.mk hd; have HB5 := Aside0.mk hb; clear hd hb)
        | (go_at_call 102; refine (ddone_any b g mn ms N vo now safe ops 1 sa sb 0 _ HD5.out hN hlo HSA.out HSB.out).mono ?_; rintro e w6 ⟨rfl, hx⟩; have HX := Aside0.mk hx; clear hx))
      go_ret
      obtain ⟨vo', hd, hv, hk, hl⟩ := HX.out
      exact ⟨rfl, vo', hd, hv.imp (fun h => h) (fun ⟨k, e, hk⟩ => ⟨k, e, Nat.le_trans HB5.out.size hk⟩), ((Keep3.refl w g (some mn) vo.ownBlock).step (q1 := none) (q2 := none) HB5.out.size (fun i hi _ _ _ => HB5.out.block i hi) (.inr (.inl rfl)) (.inr (.inl rfl))).step (q1 := some mn) (q2 := vo.ownBlock) hk.1 hk.2 (.inl rfl) (.inl rfl), (HB5.out.mono hbw).trans hl⟩
set_option maxHeartbeats 400000 in
set_option maxRecDepth 100000 in
theorem dunlink_any (b g mn ms N : Nat) (vo : Value) (now safe : List DN) (ops : List DOp) (w : World) (h : DI w b g mn ms vo N now safe ops) (hN : N < 1000000) (hlo : ops.length ≤ 100000) (kd : Int) (hk0 : kd ≠ 0) (hk1 : kd ≠ 1) (sa sb : ByteArray) (id : Int) (hsa : sa.size ≤ maxLen) : Calls Try.prog 58 #[.pointer (some ⟨g, 0, none⟩), .string sa] w (fun e w' => e = .returned (.int .i64 (doCode now ⟨kd, sa, sb, id⟩)) ∧ ∃ vo', DI w' b g mn ms vo' (N + 1) (doNow now ⟨kd, sa, sb, id⟩) safe (doOpsI now ops ⟨kd, sa, sb, id⟩) ∧ (vo'.ownBlock = vo.ownBlock ∨ ∃ k, vo'.ownBlock = some k ∧ w.heap.size ≤ k) ∧ Keep3 w w' g (some mn) vo.ownBlock ∧ Below b w w') := by
  have HSA := Aside0.mk hsa
  have e9 : ∀ l : List DN, didL l ⟨kd, sa, sb, id⟩ = didL l ⟨2, sa, ⟨#[]⟩, 0⟩ := fun l => by unfold didL; simp [hk0, hk1]
  have e8 : nrm ⟨kd, sa, sb, id⟩ = ⟨2, sa, ⟨#[]⟩, 0⟩ := by unfold nrm; simp [hk0, hk1]
  unfold doNow doOpsI doCode
  dsimp only
  cases hg : getN now sa with
  | none =>
    have HV := Aside0.mk (show (mapF now (kS sa)).getD (Value.int .i64 0) = .int .i64 0 ∧ (mapF now (kS sa)).isSome = false by rw [mapF_at, hg]; exact ⟨rfl, rfl⟩)
    have hbw : b ≤ w.heap.size := Nat.le_trans h.hg (Nat.le_of_lt (blk_lt h.hb))
    have s0 := (blk_cell h.hb 0).trans (rfl : _ = some (Value.map (some mn)))
    have H := Aside0.mk h
    have HM := Aside0.mk h.hn
    have HKA := Aside0.mk (Go.WideMaps.keyOf_string_mk (P := Try.prog) Try.underlying9 hsa)
    have qn : ∀ (w : World) (r : Option Nat), (binOp .eql 85 (.map r) (.map none)).run Try.prog w = .ok (.bool r.isNone) w := fun w r => run_eql_map_nil w 85 9 3 r Try.underlying85
    clear h
    clear hg hsa e9 e8
    simp [hk0]
    clear hk0 hk1
    go_enter Try.func58, Try.ntmps58
    go_wp2_with (at_lookup; refine mv_lookup_ok rfl _ _ 85 rfl 9 3 lawS Try.underlying85 (zeroI _) mn N (mapF now) rfl HM.out _ (kS sa) rfl HKA.out (.int .i64 0) (false) HV.out.1 HV.out.2 ?_)
    go_ret
    first
    | exact ⟨rfl, _, H.out.mono, .inl rfl, Keep3.refl _ _ _ _, Below.refl _ _⟩
    | exact ⟨rfl, _, HD5.out.mono, .inl rfl, (Keep3.refl _ _ _ _).step (q1 := none) (q2 := none) HB5.out.size (fun i hi _ _ _ => HB5.out.block i hi) (.inr (.inl rfl)) (.inr (.inl rfl)), HB5.out.mono hbw⟩
  | some y =>
    have HV := Aside0.mk (show (mapF now (kS sa)).getD (Value.int .i64 0) = .int .i64 y ∧ (mapF now (kS sa)).isSome = true by rw [mapF_at, hg]; exact ⟨rfl, rfl⟩)
    have hbw : b ≤ w.heap.size := Nat.le_trans h.hg (Nat.le_of_lt (blk_lt h.hb))
    have s0 := (blk_cell h.hb 0).trans (rfl : _ = some (Value.map (some mn)))
    have H := Aside0.mk h
    have HM := Aside0.mk h.hn
    have HKA := Aside0.mk (Go.WideMaps.keyOf_string_mk (P := Try.prog) Try.underlying9 hsa)
    have qn : ∀ (w : World) (r : Option Nat), (binOp .eql 85 (.map r) (.map none)).run Try.prog w = .ok (.bool r.isNone) w := fun w r => run_eql_map_nil w 85 9 3 r Try.underlying85
    clear h
    have HD5 := H
    have HB5 := Aside0.mk (Below.refl w.heap.size w)
    clear hg hsa
    rw [e9, e8]
    simp [hk0, hk1]
    clear e9 e8 hk0 hk1
    go_enter Try.func58, Try.ntmps58
    go_wp2_with (first
      | (at_lookup; refine mv_lookup_ok rfl _ _ 85 rfl 9 3 lawS Try.underlying85 (zeroI _) mn N (mapF now) rfl HM.out _ (kS sa) rfl HKA.out (.int .i64 y) (true) HV.out.1 HV.out.2 ?_)
      | (go_at_call 102; refine (ddone_any b g mn ms N vo now safe ops 2 sa ⟨#[]⟩ 0 _ HD5.out hN hlo HSA.out empty_ok).mono ?_; rintro e w6 ⟨rfl, hx⟩; have HX := Aside0.mk hx; clear hx))
    go_ret
    obtain ⟨vo', hd, hv, hk, hl⟩ := HX.out
    exact ⟨rfl, vo', hd, hv.imp (fun h => h) (fun ⟨k, e, hk⟩ => ⟨k, e, Nat.le_trans HB5.out.size hk⟩), ((Keep3.refl w g (some mn) vo.ownBlock).step (q1 := none) (q2 := none) HB5.out.size (fun i hi _ _ _ => HB5.out.block i hi) (.inr (.inl rfl)) (.inr (.inl rfl))).step (q1 := some mn) (q2 := vo.ownBlock) hk.1 hk.2 (.inl rfl) (.inl rfl), (HB5.out.mono hbw).trans hl⟩
end Go.Proofs.Ytpnbjpkdbiiogaa
