/- The reference's directory: Do. -/
import Derived.Test.YtpnbjpkdbiiogaaDiE
namespace Go.Proofs.Ytpnbjpkdbiiogaa
set_option linter.unusedVariables false
open Go.RowKit Go.Proofs.YtpnbjpkdbiiogaaW.PrintWords
attribute [local go_sem] mx2 mn2 mxTwo mnTwo

theorem rget_is (A : Option Addr) (n c : Nat) (l : List DN) (s : ByteArray) (w : World) (y : Int) (bo : Bool) (hg : (getN l s).getD 0 = y ∧ (getN l s).isSome = bo) (hr : Kd.C kDN w A n l) :
    Calls Try.prog 101 #[.slice A n c, .string s] w fun e w' => e = .returned (.tuple #[.int .i64 y, .bool bo]) ∧ w = w' := by
  refine (rget_any A n c l s w hr).mono ?_
  rintro e w' ⟨rfl, h⟩
  exact ⟨by rw [hg.1, hg.2], h⟩
set_option maxHeartbeats 400000 in
set_option maxRecDepth 100000 in
theorem rddo_twice (b g : Nat) (vn vs vo : Value) (now safe : List DN) (ops : List DOp) (sa sb : ByteArray) (id : Int) (w : World) (h : RD w b g vn vs vo now safe ops) (hsa : sa.size ≤ maxLen) (hsb : sb.size ≤ maxLen) (hln : now.length ≤ 100000) (hlo : ops.length ≤ 100000) (hg : (getN now sa).isSome = true) : Calls Try.prog 94 #[.pointer (some ⟨g, 0, none⟩), (.agg #[.int .i64 0, .string sa, .string sb, .int .i64 id])] w (fun e w' => e = .returned (.int .i64 7) ∧ ∃ vn' vo', RD w' b g vn' vs vo' (now) safe (ops) ∧ (vo'.ownBlock = vo.ownBlock ∨ ∃ k, vo'.ownBlock = some k ∧ w.heap.size ≤ k) ∧ KeepBut w w' g vo.ownBlock ∧ Below b w w') := by
  obtain ⟨y, hy⟩ : ∃ y, y = (getN now sa).getD 0 := ⟨_, rfl⟩
  have HG := Aside0.mk (show (getN now sa).getD 0 = y ∧ (getN now sa).isSome = true from ⟨hy.symm, hg⟩)
  have HRA : Aside0 (rightB sa = rightB sa) := ⟨rfl⟩
  clear hg hy
  have HSA := Aside0.mk hsa
  have HSB := Aside0.mk hsb
  clear hsa hsb
  obtain ⟨A, c, hvn⟩ := Kd.R_slice h.hn
  have HVN := Aside0.mk hvn
  have H := Aside0.mk h
  have hbw : b ≤ w.heap.size := Nat.le_trans h.hg (Nat.le_of_lt (blk_lt h.hb))
  clear h hvn
  go_enter Try.func94, Try.ntmps94
  go_wp2_with fail
  obtain ⟨W1, hW1⟩ : ∃ W1, W1 = w.alloc (.cells #[.int .i64 0, .string sa, .string sb, .int .i64 id] 144) := ⟨_, rfl⟩
  have hnb : W1.heap[w.heap.size]? = some (.cells #[.int .i64 0, .string sa, .string sb, .int .i64 id] 144 (0, 0)) := by rw [hW1]; exact blk_new _ _
  have hb1 : Below w.heap.size w W1 := by rw [hW1]; exact below_alloc (Below.refl _ _) _
  rw [← hW1]
  obtain ⟨p3, hp3⟩ : ∃ p3, p3 = w.heap.size := ⟨_, rfl⟩
  have hp3w : w.heap.size ≤ p3 := by omega
  rw [← hp3] at hnb ⊢
  have t0 := (blk_cell hnb 0).trans (rfl : _ = some (Value.int .i64 0))
  have t1 := (blk_cell hnb 1).trans (rfl : _ = some (Value.string sa))
  have t2 := (blk_cell hnb 2).trans (rfl : _ = some (Value.string sb))
  have t3 := (blk_cell hnb 3).trans (rfl : _ = some (Value.int .i64 id))
  have HS := Aside0.mk (RD.below (W1 := W1) H.out hb1)
  have HB1 := Aside0.mk hb1
  have hgp : g ≠ p3 := by have := blk_lt H.out.hb; omega
  have s0 := (blk_cell HS.out.hb 0).trans (rfl : _ = some vn)
  rw [HVN.out] at s0
  have HCN := Aside0.mk (C_own9 (HVN.out ▸ (Kd.R_drew HS.out.hn) : Kd.R kDN 156 W1.drew b (fun _ => True) (.slice A now.length c) now))
  have HNB := Aside0.mk hnb
  clear hnb hb1 hp3 hW1
  go_region_held3 (fun w' => w'.cell? ⟨g, 0, none⟩ = some (.slice A now.length c) ∧ w'.cell? ⟨p3, 1, none⟩ = some (.string sa)) (first | with_reducible exact ⟨s0, t1⟩ | exact ⟨s0, t1⟩) (first
    | (go_at_call 101; refine (rget_is A now.length c now sa _ y true HG.out HCN.out).mono ?_; rintro e w9 ⟨rfl, rfl⟩))
  all_goals
    go_wp2_with (first
      | (go_at_call 55; (with_reducible refine (rright_any sa _ HSA.out).mono ?_); rw [HRA.out]; rintro e w8 ⟨rfl, rfl⟩)
      | (go_at_call 55; (with_reducible refine (rright_any sb _ HSB.out).mono ?_); rw [HRA.out]; rintro e w8 ⟨rfl, rfl⟩))
    go_ret
    exact ⟨rfl, _, _, HS.out.below (below_drew1 (Below.refl _ _)), .inl rfl, KeepBut.of_below (HB1.out.trans (below_drew1 (Below.refl _ _))) _ _, (HB1.out.mono hbw).trans (below_drew1 (Below.refl _ _))⟩
set_option maxHeartbeats 400000 in
set_option maxRecDepth 100000 in
theorem rddo_none (b g : Nat) (vn vs vo : Value) (now safe : List DN) (ops : List DOp) (sa sb : ByteArray) (id : Int) (w : World) (h : RD w b g vn vs vo now safe ops) (hsa : sa.size ≤ maxLen) (hsb : sb.size ≤ maxLen) (hln : now.length ≤ 100000) (hlo : ops.length ≤ 100000) (kd : Int) (hk : kd ≠ 0) (hg : getN now sa = none) : Calls Try.prog 94 #[.pointer (some ⟨g, 0, none⟩), (.agg #[.int .i64 kd, .string sa, .string sb, .int .i64 id])] w (fun e w' => e = .returned (.int .i64 6) ∧ ∃ vn' vo', RD w' b g vn' vs vo' (now) safe (ops) ∧ (vo'.ownBlock = vo.ownBlock ∨ ∃ k, vo'.ownBlock = some k ∧ w.heap.size ≤ k) ∧ KeepBut w w' g vo.ownBlock ∧ Below b w w') := by
  have HG := Aside0.mk (show (getN now sa).getD 0 = 0 ∧ (getN now sa).isSome = false by rw [hg]; exact ⟨rfl, rfl⟩)
  have HRA : Aside0 (rightB sa = rightB sa) := ⟨rfl⟩
  have q0 : (kd == 0) = false := beq_eq_false_iff_ne.mpr hk
  have q0' : (kd != 0) = true := bne_iff_ne.mpr hk
  clear hg hk
  have HSA := Aside0.mk hsa
  have HSB := Aside0.mk hsb
  clear hsa hsb
  obtain ⟨A, c, hvn⟩ := Kd.R_slice h.hn
  have HVN := Aside0.mk hvn
  have H := Aside0.mk h
  have hbw : b ≤ w.heap.size := Nat.le_trans h.hg (Nat.le_of_lt (blk_lt h.hb))
  clear h hvn
  go_enter Try.func94, Try.ntmps94
  go_wp2_with fail
  obtain ⟨W1, hW1⟩ : ∃ W1, W1 = w.alloc (.cells #[.int .i64 kd, .string sa, .string sb, .int .i64 id] 144) := ⟨_, rfl⟩
  have hnb : W1.heap[w.heap.size]? = some (.cells #[.int .i64 kd, .string sa, .string sb, .int .i64 id] 144 (0, 0)) := by rw [hW1]; exact blk_new _ _
  have hb1 : Below w.heap.size w W1 := by rw [hW1]; exact below_alloc (Below.refl _ _) _
  rw [← hW1]
  obtain ⟨p3, hp3⟩ : ∃ p3, p3 = w.heap.size := ⟨_, rfl⟩
  have hp3w : w.heap.size ≤ p3 := by omega
  rw [← hp3] at hnb ⊢
  have t0 := (blk_cell hnb 0).trans (rfl : _ = some (Value.int .i64 kd))
  have t1 := (blk_cell hnb 1).trans (rfl : _ = some (Value.string sa))
  have t2 := (blk_cell hnb 2).trans (rfl : _ = some (Value.string sb))
  have t3 := (blk_cell hnb 3).trans (rfl : _ = some (Value.int .i64 id))
  have HS := Aside0.mk (RD.below (W1 := W1) H.out hb1)
  have HB1 := Aside0.mk hb1
  have hgp : g ≠ p3 := by have := blk_lt H.out.hb; omega
  have s0 := (blk_cell HS.out.hb 0).trans (rfl : _ = some vn)
  rw [HVN.out] at s0
  have HCN := Aside0.mk (C_own9 (HVN.out ▸ (Kd.R_drew HS.out.hn) : Kd.R kDN 156 W1.drew b (fun _ => True) (.slice A now.length c) now))
  have HNB := Aside0.mk hnb
  clear hnb hb1 hp3 hW1
  go_region_held3 (fun w' => w'.cell? ⟨g, 0, none⟩ = some (.slice A now.length c) ∧ w'.cell? ⟨p3, 1, none⟩ = some (.string sa)) (first | with_reducible exact ⟨s0, t1⟩ | exact ⟨s0, t1⟩) (first
    | (go_at_call 101; refine (rget_is A now.length c now sa _ 0 false HG.out HCN.out).mono ?_; rintro e w9 ⟨rfl, rfl⟩))
  all_goals
    go_wp2_with (first
      | (go_at_call 55; (with_reducible refine (rright_any sa _ HSA.out).mono ?_); rw [HRA.out]; rintro e w8 ⟨rfl, rfl⟩)
      | (go_at_call 55; (with_reducible refine (rright_any sb _ HSB.out).mono ?_); rw [HRA.out]; rintro e w8 ⟨rfl, rfl⟩))
    go_ret
    exact ⟨rfl, _, _, HS.out.below (below_drew1 (Below.refl _ _)), .inl rfl, KeepBut.of_below (HB1.out.trans (below_drew1 (Below.refl _ _))) _ _, (HB1.out.mono hbw).trans (below_drew1 (Below.refl _ _))⟩
set_option maxHeartbeats 400000 in
set_option maxRecDepth 100000 in
theorem rddo_wrong0 (b g : Nat) (vn vs vo : Value) (now safe : List DN) (ops : List DOp) (sa sb : ByteArray) (id : Int) (w : World) (h : RD w b g vn vs vo now safe ops) (hsa : sa.size ≤ maxLen) (hsb : sb.size ≤ maxLen) (hln : now.length ≤ 100000) (hlo : ops.length ≤ 100000) (hg : getN now sa = none) (hr : rightB sa = false) : Calls Try.prog 94 #[.pointer (some ⟨g, 0, none⟩), (.agg #[.int .i64 0, .string sa, .string sb, .int .i64 id])] w (fun e w' => e = .returned (.int .i64 1) ∧ ∃ vn' vo', RD w' b g vn' vs vo' (now) safe (ops) ∧ (vo'.ownBlock = vo.ownBlock ∨ ∃ k, vo'.ownBlock = some k ∧ w.heap.size ≤ k) ∧ KeepBut w w' g vo.ownBlock ∧ Below b w w') := by
  have HG := Aside0.mk (show (getN now sa).getD 0 = 0 ∧ (getN now sa).isSome = false by rw [hg]; exact ⟨rfl, rfl⟩)
  have HRA := Aside0.mk hr
  clear hg hr
  have HSA := Aside0.mk hsa
  have HSB := Aside0.mk hsb
  clear hsa hsb
  obtain ⟨A, c, hvn⟩ := Kd.R_slice h.hn
  have HVN := Aside0.mk hvn
  have H := Aside0.mk h
  have hbw : b ≤ w.heap.size := Nat.le_trans h.hg (Nat.le_of_lt (blk_lt h.hb))
  clear h hvn
  go_enter Try.func94, Try.ntmps94
  go_wp2_with fail
  obtain ⟨W1, hW1⟩ : ∃ W1, W1 = w.alloc (.cells #[.int .i64 0, .string sa, .string sb, .int .i64 id] 144) := ⟨_, rfl⟩
  have hnb : W1.heap[w.heap.size]? = some (.cells #[.int .i64 0, .string sa, .string sb, .int .i64 id] 144 (0, 0)) := by rw [hW1]; exact blk_new _ _
  have hb1 : Below w.heap.size w W1 := by rw [hW1]; exact below_alloc (Below.refl _ _) _
  rw [← hW1]
  obtain ⟨p3, hp3⟩ : ∃ p3, p3 = w.heap.size := ⟨_, rfl⟩
  have hp3w : w.heap.size ≤ p3 := by omega
  rw [← hp3] at hnb ⊢
  have t0 := (blk_cell hnb 0).trans (rfl : _ = some (Value.int .i64 0))
  have t1 := (blk_cell hnb 1).trans (rfl : _ = some (Value.string sa))
  have t2 := (blk_cell hnb 2).trans (rfl : _ = some (Value.string sb))
  have t3 := (blk_cell hnb 3).trans (rfl : _ = some (Value.int .i64 id))
  have HS := Aside0.mk (RD.below (W1 := W1) H.out hb1)
  have HB1 := Aside0.mk hb1
  have hgp : g ≠ p3 := by have := blk_lt H.out.hb; omega
  have s0 := (blk_cell HS.out.hb 0).trans (rfl : _ = some vn)
  rw [HVN.out] at s0
  have HCN := Aside0.mk (C_own9 (HVN.out ▸ (Kd.R_drew HS.out.hn) : Kd.R kDN 156 W1.drew b (fun _ => True) (.slice A now.length c) now))
  have HNB := Aside0.mk hnb
  clear hnb hb1 hp3 hW1
  go_region_held3 (fun w' => w'.cell? ⟨g, 0, none⟩ = some (.slice A now.length c) ∧ w'.cell? ⟨p3, 1, none⟩ = some (.string sa)) (first | with_reducible exact ⟨s0, t1⟩ | exact ⟨s0, t1⟩) (first
    | (go_at_call 101; refine (rget_is A now.length c now sa _ 0 false HG.out HCN.out).mono ?_; rintro e w9 ⟨rfl, rfl⟩))
  all_goals
    go_wp2_with (first
      | (go_at_call 55; (with_reducible refine (rright_any sa _ HSA.out).mono ?_); rw [HRA.out]; rintro e w8 ⟨rfl, rfl⟩)
      | (go_at_call 55; (with_reducible refine (rright_any sb _ HSB.out).mono ?_); rw [HRA.out]; rintro e w8 ⟨rfl, rfl⟩))
    go_ret
    exact ⟨rfl, _, _, HS.out.below (below_drew1 (Below.refl _ _)), .inl rfl, KeepBut.of_below (HB1.out.trans (below_drew1 (Below.refl _ _))) _ _, (HB1.out.mono hbw).trans (below_drew1 (Below.refl _ _))⟩
set_option maxHeartbeats 400000 in
set_option maxRecDepth 100000 in
theorem rddo_wrong1 (b g : Nat) (vn vs vo : Value) (now safe : List DN) (ops : List DOp) (sa sb : ByteArray) (id : Int) (w : World) (h : RD w b g vn vs vo now safe ops) (hsa : sa.size ≤ maxLen) (hsb : sb.size ≤ maxLen) (hln : now.length ≤ 100000) (hlo : ops.length ≤ 100000) (hg : (getN now sa).isSome = true) (hr : rightB sb = false) : Calls Try.prog 94 #[.pointer (some ⟨g, 0, none⟩), (.agg #[.int .i64 1, .string sa, .string sb, .int .i64 id])] w (fun e w' => e = .returned (.int .i64 1) ∧ ∃ vn' vo', RD w' b g vn' vs vo' (now) safe (ops) ∧ (vo'.ownBlock = vo.ownBlock ∨ ∃ k, vo'.ownBlock = some k ∧ w.heap.size ≤ k) ∧ KeepBut w w' g vo.ownBlock ∧ Below b w w') := by
  obtain ⟨y, hy⟩ : ∃ y, y = (getN now sa).getD 0 := ⟨_, rfl⟩
  have HG := Aside0.mk (show (getN now sa).getD 0 = y ∧ (getN now sa).isSome = true from ⟨hy.symm, hg⟩)
  have HRA := Aside0.mk hr
  clear hg hy hr
  have HSA := Aside0.mk hsa
  have HSB := Aside0.mk hsb
  clear hsa hsb
  obtain ⟨A, c, hvn⟩ := Kd.R_slice h.hn
  have HVN := Aside0.mk hvn
  have H := Aside0.mk h
  have hbw : b ≤ w.heap.size := Nat.le_trans h.hg (Nat.le_of_lt (blk_lt h.hb))
  clear h hvn
  go_enter Try.func94, Try.ntmps94
  go_wp2_with fail
  obtain ⟨W1, hW1⟩ : ∃ W1, W1 = w.alloc (.cells #[.int .i64 1, .string sa, .string sb, .int .i64 id] 144) := ⟨_, rfl⟩
  have hnb : W1.heap[w.heap.size]? = some (.cells #[.int .i64 1, .string sa, .string sb, .int .i64 id] 144 (0, 0)) := by rw [hW1]; exact blk_new _ _
  have hb1 : Below w.heap.size w W1 := by rw [hW1]; exact below_alloc (Below.refl _ _) _
  rw [← hW1]
  obtain ⟨p3, hp3⟩ : ∃ p3, p3 = w.heap.size := ⟨_, rfl⟩
  have hp3w : w.heap.size ≤ p3 := by omega
  rw [← hp3] at hnb ⊢
  have t0 := (blk_cell hnb 0).trans (rfl : _ = some (Value.int .i64 1))
  have t1 := (blk_cell hnb 1).trans (rfl : _ = some (Value.string sa))
  have t2 := (blk_cell hnb 2).trans (rfl : _ = some (Value.string sb))
  have t3 := (blk_cell hnb 3).trans (rfl : _ = some (Value.int .i64 id))
  have HS := Aside0.mk (RD.below (W1 := W1) H.out hb1)
  have HB1 := Aside0.mk hb1
  have hgp : g ≠ p3 := by have := blk_lt H.out.hb; omega
  have s0 := (blk_cell HS.out.hb 0).trans (rfl : _ = some vn)
  rw [HVN.out] at s0
  have HCN := Aside0.mk (C_own9 (HVN.out ▸ (Kd.R_drew HS.out.hn) : Kd.R kDN 156 W1.drew b (fun _ => True) (.slice A now.length c) now))
  have HNB := Aside0.mk hnb
  clear hnb hb1 hp3 hW1
  go_region_held3 (fun w' => w'.cell? ⟨g, 0, none⟩ = some (.slice A now.length c) ∧ w'.cell? ⟨p3, 1, none⟩ = some (.string sa)) (first | with_reducible exact ⟨s0, t1⟩ | exact ⟨s0, t1⟩) (first
    | (go_at_call 101; refine (rget_is A now.length c now sa _ y true HG.out HCN.out).mono ?_; rintro e w9 ⟨rfl, rfl⟩))
  all_goals
    go_wp2_with (first
      | (go_at_call 55; (with_reducible refine (rright_any sa _ HSA.out).mono ?_); rw [HRA.out]; rintro e w8 ⟨rfl, rfl⟩)
      | (go_at_call 55; (with_reducible refine (rright_any sb _ HSB.out).mono ?_); rw [HRA.out]; rintro e w8 ⟨rfl, rfl⟩))
    go_ret
    exact ⟨rfl, _, _, HS.out.below (below_drew1 (Below.refl _ _)), .inl rfl, KeepBut.of_below (HB1.out.trans (below_drew1 (Below.refl _ _))) _ _, (HB1.out.mono hbw).trans (below_drew1 (Below.refl _ _))⟩
set_option maxHeartbeats 4000000 in
set_option maxRecDepth 100000 in
theorem rddo_create (b g : Nat) (vn vs vo : Value) (now safe : List DN) (ops : List DOp) (sa sb : ByteArray) (id : Int) (w : World) (h : RD w b g vn vs vo now safe ops) (hsa : sa.size ≤ maxLen) (hsb : sb.size ≤ maxLen) (hln : now.length ≤ 100000) (hlo : ops.length ≤ 100000) (hg : getN now sa = none) (hr : rightB sa = true) : Calls Try.prog 94 #[.pointer (some ⟨g, 0, none⟩), (.agg #[.int .i64 0, .string sa, .string sb, .int .i64 id])] w (fun e w' => e = .returned (.int .i64 0) ∧ ∃ vn' vo', RD w' b g vn' vs vo' (didL now ⟨0, sa, sb, id⟩) safe (ops ++ [⟨0, sa, sb, id⟩]) ∧ (vo'.ownBlock = vo.ownBlock ∨ ∃ k, vo'.ownBlock = some k ∧ w.heap.size ≤ k) ∧ KeepBut w w' g vo.ownBlock ∧ Below b w w') := by
  have HG := Aside0.mk (show (getN now sa).getD 0 = 0 ∧ (getN now sa).isSome = false by rw [hg]; exact ⟨rfl, rfl⟩)
  have HRA := Aside0.mk hr
  clear hg hr
  have HSA := Aside0.mk hsa
  have HSB := Aside0.mk hsb
  clear hsa hsb
  obtain ⟨A, c, hvn⟩ := Kd.R_slice h.hn
  have HVN := Aside0.mk hvn
  have H := Aside0.mk h
  have hbw : b ≤ w.heap.size := Nat.le_trans h.hg (Nat.le_of_lt (blk_lt h.hb))
  clear h hvn
  go_enter Try.func94, Try.ntmps94
  go_wp2_with fail
  obtain ⟨W1, hW1⟩ : ∃ W1, W1 = w.alloc (.cells #[.int .i64 0, .string sa, .string sb, .int .i64 id] 144) := ⟨_, rfl⟩
  have hnb : W1.heap[w.heap.size]? = some (.cells #[.int .i64 0, .string sa, .string sb, .int .i64 id] 144 (0, 0)) := by rw [hW1]; exact blk_new _ _
  have hb1 : Below w.heap.size w W1 := by rw [hW1]; exact below_alloc (Below.refl _ _) _
  rw [← hW1]
  obtain ⟨p3, hp3⟩ : ∃ p3, p3 = w.heap.size := ⟨_, rfl⟩
  have hp3w : w.heap.size ≤ p3 := by omega
  rw [← hp3] at hnb ⊢
  have t0 := (blk_cell hnb 0).trans (rfl : _ = some (Value.int .i64 0))
  have t1 := (blk_cell hnb 1).trans (rfl : _ = some (Value.string sa))
  have t2 := (blk_cell hnb 2).trans (rfl : _ = some (Value.string sb))
  have t3 := (blk_cell hnb 3).trans (rfl : _ = some (Value.int .i64 id))
  have HS := Aside0.mk (RD.below (W1 := W1) H.out hb1)
  have HB1 := Aside0.mk hb1
  have hgp : g ≠ p3 := by have := blk_lt H.out.hb; omega
  have s0 := (blk_cell HS.out.hb 0).trans (rfl : _ = some vn)
  rw [HVN.out] at s0
  have HCN := Aside0.mk (C_own9 (HVN.out ▸ (Kd.R_drew HS.out.hn) : Kd.R kDN 156 W1.drew b (fun _ => True) (.slice A now.length c) now))
  have HNB := Aside0.mk hnb
  clear hnb hb1 hp3 hW1
  go_region_held3 (fun w' => w'.cell? ⟨g, 0, none⟩ = some (.slice A now.length c) ∧ w'.cell? ⟨p3, 1, none⟩ = some (.string sa)) (first | with_reducible exact ⟨s0, t1⟩ | exact ⟨s0, t1⟩) (first
    | (go_at_call 101; refine (rget_is A now.length c now sa _ 0 false HG.out HCN.out).mono ?_; rintro e w9 ⟨rfl, rfl⟩))
  all_goals
    go_wp2_with (first
      | (go_at_call 55; (with_reducible refine (rright_any sa _ HSA.out).mono ?_); rw [HRA.out]; rintro e w8 ⟨rfl, rfl⟩)
      | (go_at_call 55; (with_reducible refine (rright_any sb _ HSB.out).mono ?_); rw [HRA.out]; rintro e w8 ⟨rfl, rfl⟩))
    obtain ⟨W2, hW2⟩ : ∃ W2, W2 = W1.drew := ⟨_, rfl⟩
    have hb2 : Below w.heap.size w W2 := by rw [hW2]; exact HB1.out.trans (below_drew1 (Below.refl _ _))
    have hs2 : RD W2 b g vn vs vo now safe ops := by rw [hW2]; exact HS.out.below (below_drew1 (Below.refl _ _))
    have hnb2 : W2.heap[p3]? = some (.cells #[.int .i64 0, .string sa, .string sb, .int .i64 id] 144 (0, 0)) := by rw [hW2]; exact blk_drew HNB.out
    rw [← hW2]
    clear HS HB1 HNB HCN t0 t1 t2 t3 s0 hW2
    have t0 := (blk_cell hnb2 0).trans (rfl : _ = some (Value.int .i64 0))
    have t1 := (blk_cell hnb2 1).trans (rfl : _ = some (Value.string sa))
    have t2 := (blk_cell hnb2 2).trans (rfl : _ = some (Value.string sb))
    have t3 := (blk_cell hnb2 3).trans (rfl : _ = some (Value.int .i64 id))
    have s0 := (blk_cell hs2.hb 0).trans (rfl : _ = some vn)
    rw [HVN.out] at s0
    have z0 := blk_frozen hs2.hb 0
    have HRN := Aside0.mk (HVN.out ▸ hs2.hn : Kd.R kDN 156 W2 b (fun _ => True) (.slice A now.length c) now)
    have hbw2 : b ≤ W2.heap.size := Nat.le_trans hbw hb2.size
    have HS := Aside0.mk hs2
    have HB2 := Aside0.mk hb2
    have HNB := Aside0.mk hnb2
    clear hs2 hb2 hnb2
    go_region_law ((go_simp; go_at_call 112; refine (did_any b A now.length c now 0 sa sb id _ (Kd.R_drew HRN.out) hbw2 hln).mono ?_; rintro e w5 ⟨v5, rfl, hv, hb⟩; obtain ⟨A5, c5, rfl⟩ := Kd.R_slice hv; replace s0 := pw_cell_below hb s0; have hs5 := (HS.out.below (below_drew1 (Below.refl _ _))).below hb; have z5 := blk_frozen hs5.hb 0; have hn5 := blk_below (blk_drew HNB.out) hb; have hb5 := HB2.out.trans ((below_drew1 (Below.refl _ _)).trans (hb.mono HB2.out.size)); clear HS HB2 HNB HRN; have HS := Aside0.mk hs5; have HB2 := Aside0.mk hb5; have HNB := Aside0.mk hn5; have HV := Aside0.mk hv; clear hs5 hb5 hn5 hv hb))
    all_goals
      obtain ⟨N2, hN2⟩ : ∃ N2, N2 = didL now ⟨0, sa, sb, id⟩ := ⟨_, rfl⟩
      rw [← hN2] at HV ⊢
      obtain ⟨W6, hW6⟩ : ∃ W6, W6 = w5.setCell ⟨g, 0, none⟩ (.slice A5 N2.length c5) := ⟨_, rfl⟩
      have hs6 := HS.out.setNow HV.out
      have hn6 := blk_far HNB.out (p := ⟨g, 0, none⟩) (Ne.symm hgp) (.slice A5 N2.length c5)
      rw [← hW6] at hs6 hn6
      have hk6 : KeepBut w W6 g vo.ownBlock := by rw [hW6]; exact (KeepBut.of_below HB2.out _ _).set_ 0 _
      have hb6 : Below b w W6 := by rw [hW6]; exact (HB2.out.mono hbw).setCell (p := ⟨g, 0, none⟩) hs6.hg _
      rw [← hW6]
      clear HS HV HNB HB2 hW6 s0 z5 t0 t1 t2 t3
      have t0 := (blk_cell hn6 0).trans (rfl : _ = some (Value.int .i64 0))
      have t1 := (blk_cell hn6 1).trans (rfl : _ = some (Value.string sa))
      have t2 := (blk_cell hn6 2).trans (rfl : _ = some (Value.string sb))
      have t3 := (blk_cell hn6 3).trans (rfl : _ = some (Value.int .i64 id))
      obtain ⟨A11, c11, hvo⟩ := Kd.R_slice hs6.ho
      have s2 := (blk_cell hs6.hb 2).trans (rfl : _ = some vo)
      rw [hvo] at s2
      have z2 := blk_frozen hs6.hb 2
      have s2a := cell_al (.cells #[.int .i64 0, .string sa, .string sb, .int .i64 id] 144) s2
      have hoA : Kd.R kDop 144 W6 b (fun _ => True) (.slice A11 ops.length c11) ops := hvo ▸ hs6.ho
      have HG0 := Aside0.mk (Kd.R_ne hoA hs6.hb (by decide))
      have hbs : b ≤ W6.heap.size := Nat.le_trans hs6.hg (Nat.le_of_lt (blk_lt hs6.hb))
      have HOA := Aside0.mk hoA
      have HVO := Aside0.mk hvo
      have HS6 := Aside0.mk hs6
      have HK6 := Aside0.mk hk6
      have HB6 := Aside0.mk hb6
      clear hs6 hn6 hvo hoA hk6 hb6
      go_wp2_with fail
      go_region_law ((refine Kd.R_append_step kDop (W := W6.drew) (w0 := W6.drew) b (by rfl) (.tmp 63) (.tmp 65) 68 144 (.agg #[(.int .i64 0), (.string ⟨#[]⟩), (.string ⟨#[]⟩), (.int .i64 0)]) 48 rfl Try.underlying68 infoRDop rfl (by decide) (by omega) (.slice A11 ops.length c11) ops ⟨0, sa, sb, id⟩ [.int .i64 0, .string sa, .string sb, .int .i64 id] (fun _ => True) (fun _ => False) (by rfl) (by rfl) (kDop_mkM _ _ _ ⟨0, sa, sb, id⟩) (fun _ h => h.elim) (fun _ _ => trivial) (Kd.R_drew HOA.out) (Below.refl _ _) hbs (by omega) ?_); intro v7 w7 ho7 hl7 hg7 hat7; obtain ⟨g7, c7', e7, _, _, _⟩ := Kd.R_form ho7 (by simp); rw [List.length_append, List.length_singleton] at e7; subst e7; have hb7 := blk_grown (blk_drew HS6.out.hb) hg7 HG0.out; have s7 := (blk_cell hb7 2).trans (rfl : _ = some vo); rw [HVO.out] at s7; have z7 := blk_frozen hb7 2; have HO7 := Aside0.mk ho7; have HL7 := Aside0.mk hl7; have HG7 := Aside0.mk hg7; have HAT7 := Aside0.mk hat7; clear ho7 hl7 hg7 hat7 hb7)
      all_goals
        go_wp2_with fail
        go_ret
        have hg7 := HG7.out
        have hat7 := HAT7.out
        rw [← HVO.out] at hg7 hat7
        have hfin := (HS6.out.below (below_drew1 (Below.refl _ _))).addOp HO7.out hg7
        rw [hN2] at hfin
        exact ⟨rfl, _, _, hfin, hat7.imp (fun h => h) (fun ⟨k, e, hk⟩ => ⟨k, e, Nat.le_trans HK6.out.1 hk⟩), ((keep_drew HK6.out).trans (KeepBut.of_grown hg7 g) (.inl rfl)).set_ 2 _, ((HB6.out.trans (below_drew1 (Below.refl _ _))).trans HL7.out).setCell (p := ⟨g, 2, none⟩) HS6.out.hg _⟩
set_option maxHeartbeats 1000000 in
set_option maxRecDepth 100000 in
theorem rddo_rename (b g : Nat) (vn vs vo : Value) (now safe : List DN) (ops : List DOp) (sa sb : ByteArray) (id : Int) (w : World) (h : RD w b g vn vs vo now safe ops) (hsa : sa.size ≤ maxLen) (hsb : sb.size ≤ maxLen) (hln : now.length ≤ 100000) (hlo : ops.length ≤ 100000) (hg : (getN now sa).isSome = true) (hr : rightB sb = true) : Calls Try.prog 94 #[.pointer (some ⟨g, 0, none⟩), (.agg #[.int .i64 1, .string sa, .string sb, .int .i64 id])] w (fun e w' => e = .returned (.int .i64 0) ∧ ∃ vn' vo', RD w' b g vn' vs vo' (didL now ⟨1, sa, sb, id⟩) safe (ops ++ [⟨1, sa, sb, id⟩]) ∧ (vo'.ownBlock = vo.ownBlock ∨ ∃ k, vo'.ownBlock = some k ∧ w.heap.size ≤ k) ∧ KeepBut w w' g vo.ownBlock ∧ Below b w w') := by
  obtain ⟨y, hy⟩ : ∃ y, y = (getN now sa).getD 0 := ⟨_, rfl⟩
  have HG := Aside0.mk (show (getN now sa).getD 0 = y ∧ (getN now sa).isSome = true from ⟨hy.symm, hg⟩)
  have HRA := Aside0.mk hr
  clear hg hy hr
  have HSA := Aside0.mk hsa
  have HSB := Aside0.mk hsb
  clear hsa hsb
  obtain ⟨A, c, hvn⟩ := Kd.R_slice h.hn
  have HVN := Aside0.mk hvn
  have H := Aside0.mk h
  have hbw : b ≤ w.heap.size := Nat.le_trans h.hg (Nat.le_of_lt (blk_lt h.hb))
  clear h hvn
  go_enter Try.func94, Try.ntmps94
  go_wp2_with fail
  obtain ⟨W1, hW1⟩ : ∃ W1, W1 = w.alloc (.cells #[.int .i64 1, .string sa, .string sb, .int .i64 id] 144) := ⟨_, rfl⟩
  have hnb : W1.heap[w.heap.size]? = some (.cells #[.int .i64 1, .string sa, .string sb, .int .i64 id] 144 (0, 0)) := by rw [hW1]; exact blk_new _ _
  have hb1 : Below w.heap.size w W1 := by rw [hW1]; exact below_alloc (Below.refl _ _) _
  rw [← hW1]
  obtain ⟨p3, hp3⟩ : ∃ p3, p3 = w.heap.size := ⟨_, rfl⟩
  have hp3w : w.heap.size ≤ p3 := by omega
  rw [← hp3] at hnb ⊢
  have t0 := (blk_cell hnb 0).trans (rfl : _ = some (Value.int .i64 1))
  have t1 := (blk_cell hnb 1).trans (rfl : _ = some (Value.string sa))
  have t2 := (blk_cell hnb 2).trans (rfl : _ = some (Value.string sb))
  have t3 := (blk_cell hnb 3).trans (rfl : _ = some (Value.int .i64 id))
  have HS := Aside0.mk (RD.below (W1 := W1) H.out hb1)
  have HB1 := Aside0.mk hb1
  have hgp : g ≠ p3 := by have := blk_lt H.out.hb; omega
  have s0 := (blk_cell HS.out.hb 0).trans (rfl : _ = some vn)
  rw [HVN.out] at s0
  have HCN := Aside0.mk (C_own9 (HVN.out ▸ (Kd.R_drew HS.out.hn) : Kd.R kDN 156 W1.drew b (fun _ => True) (.slice A now.length c) now))
  have HNB := Aside0.mk hnb
  clear hnb hb1 hp3 hW1
  go_region_held3 (fun w' => w'.cell? ⟨g, 0, none⟩ = some (.slice A now.length c) ∧ w'.cell? ⟨p3, 1, none⟩ = some (.string sa)) (first | with_reducible exact ⟨s0, t1⟩ | exact ⟨s0, t1⟩) (first
    | (go_at_call 101; refine (rget_is A now.length c now sa _ y true HG.out HCN.out).mono ?_; rintro e w9 ⟨rfl, rfl⟩))
  all_goals
    go_wp2_with (first
      | (go_at_call 55; (with_reducible refine (rright_any sa _ HSA.out).mono ?_); rw [HRA.out]; rintro e w8 ⟨rfl, rfl⟩)
      | (go_at_call 55; (with_reducible refine (rright_any sb _ HSB.out).mono ?_); rw [HRA.out]; rintro e w8 ⟨rfl, rfl⟩))
    obtain ⟨W2, hW2⟩ : ∃ W2, W2 = W1.drew := ⟨_, rfl⟩
    have hb2 : Below w.heap.size w W2 := by rw [hW2]; exact HB1.out.trans (below_drew1 (Below.refl _ _))
    have hs2 : RD W2 b g vn vs vo now safe ops := by rw [hW2]; exact HS.out.below (below_drew1 (Below.refl _ _))
    have hnb2 : W2.heap[p3]? = some (.cells #[.int .i64 1, .string sa, .string sb, .int .i64 id] 144 (0, 0)) := by rw [hW2]; exact blk_drew HNB.out
    rw [← hW2]
    clear HS HB1 HNB HCN t0 t1 t2 t3 s0 hW2
    have t0 := (blk_cell hnb2 0).trans (rfl : _ = some (Value.int .i64 1))
    have t1 := (blk_cell hnb2 1).trans (rfl : _ = some (Value.string sa))
    have t2 := (blk_cell hnb2 2).trans (rfl : _ = some (Value.string sb))
    have t3 := (blk_cell hnb2 3).trans (rfl : _ = some (Value.int .i64 id))
    have s0 := (blk_cell hs2.hb 0).trans (rfl : _ = some vn)
    rw [HVN.out] at s0
    have z0 := blk_frozen hs2.hb 0
    have HRN := Aside0.mk (HVN.out ▸ hs2.hn : Kd.R kDN 156 W2 b (fun _ => True) (.slice A now.length c) now)
    have hbw2 : b ≤ W2.heap.size := Nat.le_trans hbw hb2.size
    have HS := Aside0.mk hs2
    have HB2 := Aside0.mk hb2
    have HNB := Aside0.mk hnb2
    clear hs2 hb2 hnb2
    go_region_law ((go_simp; go_at_call 112; refine (did_any b A now.length c now 1 sa sb id _ (Kd.R_drew HRN.out) hbw2 hln).mono ?_; rintro e w5 ⟨v5, rfl, hv, hb⟩; obtain ⟨A5, c5, rfl⟩ := Kd.R_slice hv; replace s0 := pw_cell_below hb s0; have hs5 := (HS.out.below (below_drew1 (Below.refl _ _))).below hb; have z5 := blk_frozen hs5.hb 0; have hn5 := blk_below (blk_drew HNB.out) hb; have hb5 := HB2.out.trans ((below_drew1 (Below.refl _ _)).trans (hb.mono HB2.out.size)); clear HS HB2 HNB HRN; have HS := Aside0.mk hs5; have HB2 := Aside0.mk hb5; have HNB := Aside0.mk hn5; have HV := Aside0.mk hv; clear hs5 hb5 hn5 hv hb))
    all_goals
      obtain ⟨N2, hN2⟩ : ∃ N2, N2 = didL now ⟨1, sa, sb, id⟩ := ⟨_, rfl⟩
      rw [← hN2] at HV ⊢
      obtain ⟨W6, hW6⟩ : ∃ W6, W6 = w5.setCell ⟨g, 0, none⟩ (.slice A5 N2.length c5) := ⟨_, rfl⟩
      have hs6 := HS.out.setNow HV.out
      have hn6 := blk_far HNB.out (p := ⟨g, 0, none⟩) (Ne.symm hgp) (.slice A5 N2.length c5)
      rw [← hW6] at hs6 hn6
      have hk6 : KeepBut w W6 g vo.ownBlock := by rw [hW6]; exact (KeepBut.of_below HB2.out _ _).set_ 0 _
      have hb6 : Below b w W6 := by rw [hW6]; exact (HB2.out.mono hbw).setCell (p := ⟨g, 0, none⟩) hs6.hg _
      rw [← hW6]
      clear HS HV HNB HB2 hW6 s0 z5 t0 t1 t2 t3
      have t0 := (blk_cell hn6 0).trans (rfl : _ = some (Value.int .i64 1))
      have t1 := (blk_cell hn6 1).trans (rfl : _ = some (Value.string sa))
      have t2 := (blk_cell hn6 2).trans (rfl : _ = some (Value.string sb))
      have t3 := (blk_cell hn6 3).trans (rfl : _ = some (Value.int .i64 id))
      obtain ⟨A11, c11, hvo⟩ := Kd.R_slice hs6.ho
      have s2 := (blk_cell hs6.hb 2).trans (rfl : _ = some vo)
      rw [hvo] at s2
      have z2 := blk_frozen hs6.hb 2
      have s2a := cell_al (.cells #[.int .i64 1, .string sa, .string sb, .int .i64 id] 144) s2
      have hoA : Kd.R kDop 144 W6 b (fun _ => True) (.slice A11 ops.length c11) ops := hvo ▸ hs6.ho
      have HG0 := Aside0.mk (Kd.R_ne hoA hs6.hb (by decide))
      have hbs : b ≤ W6.heap.size := Nat.le_trans hs6.hg (Nat.le_of_lt (blk_lt hs6.hb))
      have HOA := Aside0.mk hoA
      have HVO := Aside0.mk hvo
      have HS6 := Aside0.mk hs6
      have HK6 := Aside0.mk hk6
      have HB6 := Aside0.mk hb6
      clear hs6 hn6 hvo hoA hk6 hb6
      go_wp2_with fail
      go_region_law ((refine Kd.R_append_step kDop (W := W6.drew) (w0 := W6.drew) b (by rfl) (.tmp 63) (.tmp 65) 68 144 (.agg #[(.int .i64 0), (.string ⟨#[]⟩), (.string ⟨#[]⟩), (.int .i64 0)]) 48 rfl Try.underlying68 infoRDop rfl (by decide) (by omega) (.slice A11 ops.length c11) ops ⟨1, sa, sb, id⟩ [.int .i64 1, .string sa, .string sb, .int .i64 id] (fun _ => True) (fun _ => False) (by rfl) (by rfl) (kDop_mkM _ _ _ ⟨1, sa, sb, id⟩) (fun _ h => h.elim) (fun _ _ => trivial) (Kd.R_drew HOA.out) (Below.refl _ _) hbs (by omega) ?_); intro v7 w7 ho7 hl7 hg7 hat7; obtain ⟨g7, c7', e7, _, _, _⟩ := Kd.R_form ho7 (by simp); rw [List.length_append, List.length_singleton] at e7; subst e7; have hb7 := blk_grown (blk_drew HS6.out.hb) hg7 HG0.out; have s7 := (blk_cell hb7 2).trans (rfl : _ = some vo); rw [HVO.out] at s7; have z7 := blk_frozen hb7 2; have HO7 := Aside0.mk ho7; have HL7 := Aside0.mk hl7; have HG7 := Aside0.mk hg7; have HAT7 := Aside0.mk hat7; clear ho7 hl7 hg7 hat7 hb7)
      all_goals
        go_wp2_with fail
        go_ret
        have hg7 := HG7.out
        have hat7 := HAT7.out
        rw [← HVO.out] at hg7 hat7
        have hfin := (HS6.out.below (below_drew1 (Below.refl _ _))).addOp HO7.out hg7
        rw [hN2] at hfin
        exact ⟨rfl, _, _, hfin, hat7.imp (fun h => h) (fun ⟨k, e, hk⟩ => ⟨k, e, Nat.le_trans HK6.out.1 hk⟩), ((keep_drew HK6.out).trans (KeepBut.of_grown hg7 g) (.inl rfl)).set_ 2 _, ((HB6.out.trans (below_drew1 (Below.refl _ _))).trans HL7.out).setCell (p := ⟨g, 2, none⟩) HS6.out.hg _⟩
set_option maxHeartbeats 1000000 in
set_option maxRecDepth 100000 in
theorem rddo_unlink (b g : Nat) (vn vs vo : Value) (now safe : List DN) (ops : List DOp) (sa sb : ByteArray) (id : Int) (w : World) (h : RD w b g vn vs vo now safe ops) (hsa : sa.size ≤ maxLen) (hsb : sb.size ≤ maxLen) (hln : now.length ≤ 100000) (hlo : ops.length ≤ 100000) (kd : Int) (hk : kd ≠ 0) (hk1 : kd ≠ 1) (hg : (getN now sa).isSome = true) : Calls Try.prog 94 #[.pointer (some ⟨g, 0, none⟩), (.agg #[.int .i64 kd, .string sa, .string sb, .int .i64 id])] w (fun e w' => e = .returned (.int .i64 0) ∧ ∃ vn' vo', RD w' b g vn' vs vo' (didL now ⟨kd, sa, sb, id⟩) safe (ops ++ [⟨kd, sa, sb, id⟩]) ∧ (vo'.ownBlock = vo.ownBlock ∨ ∃ k, vo'.ownBlock = some k ∧ w.heap.size ≤ k) ∧ KeepBut w w' g vo.ownBlock ∧ Below b w w') := by
  obtain ⟨y, hy⟩ : ∃ y, y = (getN now sa).getD 0 := ⟨_, rfl⟩
  have HG := Aside0.mk (show (getN now sa).getD 0 = y ∧ (getN now sa).isSome = true from ⟨hy.symm, hg⟩)
  have HRA : Aside0 (rightB sa = rightB sa) := ⟨rfl⟩
  have q0 : (kd == 0) = false := beq_eq_false_iff_ne.mpr hk
  have q0' : (kd != 0) = true := bne_iff_ne.mpr hk
  have q1 : (kd == 1) = false := beq_eq_false_iff_ne.mpr hk1
  clear hg hy hk hk1
  have HSA := Aside0.mk hsa
  have HSB := Aside0.mk hsb
  clear hsa hsb
  obtain ⟨A, c, hvn⟩ := Kd.R_slice h.hn
  have HVN := Aside0.mk hvn
  have H := Aside0.mk h
  have hbw : b ≤ w.heap.size := Nat.le_trans h.hg (Nat.le_of_lt (blk_lt h.hb))
  clear h hvn
  go_enter Try.func94, Try.ntmps94
  go_wp2_with fail
  obtain ⟨W1, hW1⟩ : ∃ W1, W1 = w.alloc (.cells #[.int .i64 kd, .string sa, .string sb, .int .i64 id] 144) := ⟨_, rfl⟩
  have hnb : W1.heap[w.heap.size]? = some (.cells #[.int .i64 kd, .string sa, .string sb, .int .i64 id] 144 (0, 0)) := by rw [hW1]; exact blk_new _ _
  have hb1 : Below w.heap.size w W1 := by rw [hW1]; exact below_alloc (Below.refl _ _) _
  rw [← hW1]
  obtain ⟨p3, hp3⟩ : ∃ p3, p3 = w.heap.size := ⟨_, rfl⟩
  have hp3w : w.heap.size ≤ p3 := by omega
  rw [← hp3] at hnb ⊢
  have t0 := (blk_cell hnb 0).trans (rfl : _ = some (Value.int .i64 kd))
  have t1 := (blk_cell hnb 1).trans (rfl : _ = some (Value.string sa))
  have t2 := (blk_cell hnb 2).trans (rfl : _ = some (Value.string sb))
  have t3 := (blk_cell hnb 3).trans (rfl : _ = some (Value.int .i64 id))
  have HS := Aside0.mk (RD.below (W1 := W1) H.out hb1)
  have HB1 := Aside0.mk hb1
  have hgp : g ≠ p3 := by have := blk_lt H.out.hb; omega
  have s0 := (blk_cell HS.out.hb 0).trans (rfl : _ = some vn)
  rw [HVN.out] at s0
  have HCN := Aside0.mk (C_own9 (HVN.out ▸ (Kd.R_drew HS.out.hn) : Kd.R kDN 156 W1.drew b (fun _ => True) (.slice A now.length c) now))
  have HNB := Aside0.mk hnb
  clear hnb hb1 hp3 hW1
  go_region_held3 (fun w' => w'.cell? ⟨g, 0, none⟩ = some (.slice A now.length c) ∧ w'.cell? ⟨p3, 1, none⟩ = some (.string sa)) (first | with_reducible exact ⟨s0, t1⟩ | exact ⟨s0, t1⟩) (first
    | (go_at_call 101; refine (rget_is A now.length c now sa _ y true HG.out HCN.out).mono ?_; rintro e w9 ⟨rfl, rfl⟩))
  all_goals
    go_wp2_with (first
      | (go_at_call 55; (with_reducible refine (rright_any sa _ HSA.out).mono ?_); rw [HRA.out]; rintro e w8 ⟨rfl, rfl⟩)
      | (go_at_call 55; (with_reducible refine (rright_any sb _ HSB.out).mono ?_); rw [HRA.out]; rintro e w8 ⟨rfl, rfl⟩))
    obtain ⟨W2, hW2⟩ : ∃ W2, W2 = W1.drew := ⟨_, rfl⟩
    have hb2 : Below w.heap.size w W2 := by rw [hW2]; exact HB1.out.trans (below_drew1 (Below.refl _ _))
    have hs2 : RD W2 b g vn vs vo now safe ops := by rw [hW2]; exact HS.out.below (below_drew1 (Below.refl _ _))
    have hnb2 : W2.heap[p3]? = some (.cells #[.int .i64 kd, .string sa, .string sb, .int .i64 id] 144 (0, 0)) := by rw [hW2]; exact blk_drew HNB.out
    rw [← hW2]
    clear HS HB1 HNB HCN t0 t1 t2 t3 s0 hW2
    have t0 := (blk_cell hnb2 0).trans (rfl : _ = some (Value.int .i64 kd))
    have t1 := (blk_cell hnb2 1).trans (rfl : _ = some (Value.string sa))
    have t2 := (blk_cell hnb2 2).trans (rfl : _ = some (Value.string sb))
    have t3 := (blk_cell hnb2 3).trans (rfl : _ = some (Value.int .i64 id))
    have s0 := (blk_cell hs2.hb 0).trans (rfl : _ = some vn)
    rw [HVN.out] at s0
    have z0 := blk_frozen hs2.hb 0
    have HRN := Aside0.mk (HVN.out ▸ hs2.hn : Kd.R kDN 156 W2 b (fun _ => True) (.slice A now.length c) now)
    have hbw2 : b ≤ W2.heap.size := Nat.le_trans hbw hb2.size
    have HS := Aside0.mk hs2
    have HB2 := Aside0.mk hb2
    have HNB := Aside0.mk hnb2
    clear hs2 hb2 hnb2
    go_region_law ((go_simp; go_at_call 112; refine (did_any b A now.length c now kd sa sb id _ (Kd.R_drew HRN.out) hbw2 hln).mono ?_; rintro e w5 ⟨v5, rfl, hv, hb⟩; obtain ⟨A5, c5, rfl⟩ := Kd.R_slice hv; replace s0 := pw_cell_below hb s0; have hs5 := (HS.out.below (below_drew1 (Below.refl _ _))).below hb; have z5 := blk_frozen hs5.hb 0; have hn5 := blk_below (blk_drew HNB.out) hb; have hb5 := HB2.out.trans ((below_drew1 (Below.refl _ _)).trans (hb.mono HB2.out.size)); clear HS HB2 HNB HRN; have HS := Aside0.mk hs5; have HB2 := Aside0.mk hb5; have HNB := Aside0.mk hn5; have HV := Aside0.mk hv; clear hs5 hb5 hn5 hv hb))
    all_goals
      obtain ⟨N2, hN2⟩ : ∃ N2, N2 = didL now ⟨kd, sa, sb, id⟩ := ⟨_, rfl⟩
      rw [← hN2] at HV ⊢
      obtain ⟨W6, hW6⟩ : ∃ W6, W6 = w5.setCell ⟨g, 0, none⟩ (.slice A5 N2.length c5) := ⟨_, rfl⟩
      have hs6 := HS.out.setNow HV.out
      have hn6 := blk_far HNB.out (p := ⟨g, 0, none⟩) (Ne.symm hgp) (.slice A5 N2.length c5)
      rw [← hW6] at hs6 hn6
      have hk6 : KeepBut w W6 g vo.ownBlock := by rw [hW6]; exact (KeepBut.of_below HB2.out _ _).set_ 0 _
      have hb6 : Below b w W6 := by rw [hW6]; exact (HB2.out.mono hbw).setCell (p := ⟨g, 0, none⟩) hs6.hg _
      rw [← hW6]
      clear HS HV HNB HB2 hW6 s0 z5 t0 t1 t2 t3
      have t0 := (blk_cell hn6 0).trans (rfl : _ = some (Value.int .i64 kd))
      have t1 := (blk_cell hn6 1).trans (rfl : _ = some (Value.string sa))
      have t2 := (blk_cell hn6 2).trans (rfl : _ = some (Value.string sb))
      have t3 := (blk_cell hn6 3).trans (rfl : _ = some (Value.int .i64 id))
      obtain ⟨A11, c11, hvo⟩ := Kd.R_slice hs6.ho
      have s2 := (blk_cell hs6.hb 2).trans (rfl : _ = some vo)
      rw [hvo] at s2
      have z2 := blk_frozen hs6.hb 2
      have s2a := cell_al (.cells #[.int .i64 kd, .string sa, .string sb, .int .i64 id] 144) s2
      have hoA : Kd.R kDop 144 W6 b (fun _ => True) (.slice A11 ops.length c11) ops := hvo ▸ hs6.ho
      have HG0 := Aside0.mk (Kd.R_ne hoA hs6.hb (by decide))
      have hbs : b ≤ W6.heap.size := Nat.le_trans hs6.hg (Nat.le_of_lt (blk_lt hs6.hb))
      have HOA := Aside0.mk hoA
      have HVO := Aside0.mk hvo
      have HS6 := Aside0.mk hs6
      have HK6 := Aside0.mk hk6
      have HB6 := Aside0.mk hb6
      clear hs6 hn6 hvo hoA hk6 hb6
      go_wp2_with fail
      go_region_law ((refine Kd.R_append_step kDop (W := W6.drew) (w0 := W6.drew) b (by rfl) (.tmp 63) (.tmp 65) 68 144 (.agg #[(.int .i64 0), (.string ⟨#[]⟩), (.string ⟨#[]⟩), (.int .i64 0)]) 48 rfl Try.underlying68 infoRDop rfl (by decide) (by omega) (.slice A11 ops.length c11) ops ⟨kd, sa, sb, id⟩ [.int .i64 kd, .string sa, .string sb, .int .i64 id] (fun _ => True) (fun _ => False) (by rfl) (by rfl) (kDop_mkM _ _ _ ⟨kd, sa, sb, id⟩) (fun _ h => h.elim) (fun _ _ => trivial) (Kd.R_drew HOA.out) (Below.refl _ _) hbs (by omega) ?_); intro v7 w7 ho7 hl7 hg7 hat7; obtain ⟨g7, c7', e7, _, _, _⟩ := Kd.R_form ho7 (by simp); rw [List.length_append, List.length_singleton] at e7; subst e7; have hb7 := blk_grown (blk_drew HS6.out.hb) hg7 HG0.out; have s7 := (blk_cell hb7 2).trans (rfl : _ = some vo); rw [HVO.out] at s7; have z7 := blk_frozen hb7 2; have HO7 := Aside0.mk ho7; have HL7 := Aside0.mk hl7; have HG7 := Aside0.mk hg7; have HAT7 := Aside0.mk hat7; clear ho7 hl7 hg7 hat7 hb7)
      all_goals
        go_wp2_with fail
        go_ret
        have hg7 := HG7.out
        have hat7 := HAT7.out
        rw [← HVO.out] at hg7 hat7
        have hfin := (HS6.out.below (below_drew1 (Below.refl _ _))).addOp HO7.out hg7
        rw [hN2] at hfin
        exact ⟨rfl, _, _, hfin, hat7.imp (fun h => h) (fun ⟨k, e, hk⟩ => ⟨k, e, Nat.le_trans HK6.out.1 hk⟩), ((keep_drew HK6.out).trans (KeepBut.of_grown hg7 g) (.inl rfl)).set_ 2 _, ((HB6.out.trans (below_drew1 (Below.refl _ _))).trans HL7.out).setCell (p := ⟨g, 2, none⟩) HS6.out.hg _⟩
theorem rddo_any (b g : Nat) (vn vs vo : Value) (now safe : List DN) (ops : List DOp) (sa sb : ByteArray) (id : Int) (w : World) (h : RD w b g vn vs vo now safe ops) (hsa : sa.size ≤ maxLen) (hsb : sb.size ≤ maxLen) (hln : now.length ≤ 100000) (hlo : ops.length ≤ 100000) (kd : Int) : Calls Try.prog 94 #[.pointer (some ⟨g, 0, none⟩), (.agg #[.int .i64 kd, .string sa, .string sb, .int .i64 id])] w (fun e w' => e = .returned (.int .i64 (doCode now ⟨kd, sa, sb, id⟩)) ∧ ∃ vn' vo', RD w' b g vn' vs vo' (doNow now ⟨kd, sa, sb, id⟩) safe (doOps now ops ⟨kd, sa, sb, id⟩) ∧ (vo'.ownBlock = vo.ownBlock ∨ ∃ k, vo'.ownBlock = some k ∧ w.heap.size ≤ k) ∧ KeepBut w w' g vo.ownBlock ∧ Below b w w') := by
  unfold doNow doOps doCode
  dsimp only
  by_cases k0 : kd = 0
  · subst k0
    cases hg : getN now sa with
    | some y =>
      rw [if_pos ⟨rfl, rfl⟩]
      exact rddo_twice b g vn vs vo now safe ops sa sb id w h hsa hsb hln hlo (by rw [hg]; rfl)
    | none =>
      cases hr : rightB sa with
      | false => simpa using rddo_wrong0 b g vn vs vo now safe ops sa sb id w h hsa hsb hln hlo hg hr
      | true => simpa using rddo_create b g vn vs vo now safe ops sa sb id w h hsa hsb hln hlo hg hr
  · cases hg : getN now sa with
    | none => simpa [k0] using rddo_none b g vn vs vo now safe ops sa sb id w h hsa hsb hln hlo kd k0 hg
    | some y =>
      by_cases k1 : kd = 1
      · subst k1
        cases hr : rightB sb with
        | false => simpa using rddo_wrong1 b g vn vs vo now safe ops sa sb id w h hsa hsb hln hlo (by rw [hg]; rfl) hr
        | true => simpa using rddo_rename b g vn vs vo now safe ops sa sb id w h hsa hsb hln hlo (by rw [hg]; rfl) hr
      · simpa [k0, k1] using rddo_unlink b g vn vs vo now safe ops sa sb id w h hsa hsb hln hlo kd k0 k1 (by rw [hg]; rfl)
end Go.Proofs.Ytpnbjpkdbiiogaa
