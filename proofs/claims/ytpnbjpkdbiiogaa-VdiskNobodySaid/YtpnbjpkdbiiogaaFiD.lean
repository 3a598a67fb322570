/- Files: Write. -/
import Derived.Test.YtpnbjpkdbiiogaaFiC
import Derived.Deep.RegionLaw
namespace Go.Proofs.Ytpnbjpkdbiiogaa
set_option linter.unusedVariables false
open Go.RowKit Go.Proofs.YtpnbjpkdbiiogaaW.PrintWords
attribute [local go_sem] mx2 mn2 mxTwo mnTwo

section
variable {W W1 : World} {b g : Nat} {x : Nat → Prop} {vn vs vo v1 : Value} {now safe now1 : List Int} {ops : List FOp} {o : FOp}
theorem FI.setNow (h : FI W b g x vn vs vo now safe ops) (hb : Below W.heap.size W W1) (hv : Kd.R (Kd.int .u8) 5 W1 b x v1 now1) : FI (W1.setCell ⟨g, 0, none⟩ v1) b g x v1 vs vo now1 safe ops := by
  have h1 := h.below hb
  exact ⟨blk_put h1.hb 0 _ rfl, farU hv h1.hb _, farU h1.hs h1.hb _, farO h1.ho h1.hb _, h.hg⟩
theorem FI.addOp (h : FI W b g x vn vs vo now safe ops) (ho : Kd.R kOp 141 W1 b x v1 (ops ++ [o])) (hg : W.grownBy W1 vo.ownBlock) : FI (W1.setCell ⟨g, 2, none⟩ v1) b g x vn vs v1 now safe (ops ++ [o]) := by
  have hb := blk_grown h.hb hg (Kd.R_ne h.ho h.hb (by omega))
  exact ⟨blk_put hb 2 _ rfl, farU (growU h.hn h.ho hg) hb _, farU (growU h.hs h.ho hg) hb _, farO ho hb _, h.hg⟩
theorem FI.drew (h : FI W b g x vn vs vo now safe ops) : FI W.drew b g x vn vs vo now safe ops := h.below (below_drew1 (Below.refl _ _))
end
theorem fwrite_nil (k : Int) (A : Option Addr) (n c : Nat) (w : World) : Calls Try.prog 41 #[.pointer none, .int .i64 k, .slice A n c] w fun e w' => e = .returned (.int .i64 3) ∧ w' = w := by
  go_enter Try.func41, Try.ntmps41
  go_wp2
  go_ret
  exact ⟨rfl, rfl⟩
theorem fwrite_bad (g : Nat) (k : Int) (A : Option Addr) (n c : Nat) (w : World) (hn : n ≤ 9223372036854775807) (hk : k < 0 ∨ 0 ≤ k ∧ 1048576 < k ∨ 0 ≤ k ∧ k ≤ 1048576 ∧ 1048576 - k < n) : Calls Try.prog 41 #[.pointer (some ⟨g, 0, none⟩), .int .i64 k, .slice A n c] w fun e w' => e = .returned (.int .i64 1) ∧ w' = w := by
  rcases hk with hk | ⟨hk, hk2⟩ | ⟨hk, hk2, hk3⟩
  · go_enter Try.func41, Try.ntmps41
    go_wp2
    go_ret
    exact ⟨rfl, rfl⟩
  · go_enter Try.func41, Try.ntmps41
    go_wp2
    go_ret
    exact ⟨rfl, rfl⟩
  · go_enter Try.func41, Try.ntmps41
    go_wp2
    go_ret
    exact ⟨rfl, rfl⟩
theorem kPcE (t : Nat) (h1 : 30 ≠ t) (ht : 5 ≠ t) : ∀ q, q ∈ 30 :: kPc.E → q ≠ t := by
  intro q hq
  have : kPc.E = [5] := rfl
  rw [this] at hq
  simp at hq
  omega
/-- What holds while the pieces are put. -/
structure FW (w : World) (b g : Nat) (x : Nat → Prop) (v0 : Value) (vP : Value) (P : List Pc) (W : World) (vn vs vo : Value) (now safe : List Int) (ops : List FOp) : Prop where
  f : FI W b g x vn vs vo now safe ops
  p : Kd.R kPc 30 W b (fun _ => True) vP P
  k : KeepBut w W g v0.ownBlock
  v : vo.ownBlock = v0.ownBlock ∨ ∃ k, vo.ownBlock = some k ∧ w.heap.size ≤ k
  l : Below b w W
section
variable {w W W1 : World} {b g : Nat} {x : Nat → Prop} {v0 vP vn vs vo v1 : Value} {P : List Pc} {now safe now1 : List Int} {ops : List FOp} {o : FOp}
theorem FW.below (h : FW w b g x v0 vP P W vn vs vo now safe ops) (hb : Below W.heap.size W W1) : FW w b g x v0 vP P W1 vn vs vo now safe ops :=
  ⟨h.f.below hb, Kd.R_below h.p hb, ⟨Nat.le_trans h.k.1 hb.size, fun i hi hg hn => (hb.block i (Nat.lt_of_lt_of_le hi h.k.1)).trans (h.k.2 i hi hg hn)⟩, h.v, h.l.trans (hb.mono (Nat.le_trans h.f.hg (Nat.le_of_lt (blk_lt h.f.hb))))⟩
theorem FW.setNow (h : FW w b g x v0 vP P W vn vs vo now safe ops) (hv : Kd.R (Kd.int .u8) 5 W b x v1 now1) : FW w b g x v0 vP P (W.setCell ⟨g, 0, none⟩ v1) v1 vs vo now1 safe ops :=
  ⟨h.f.setNow (Below.refl _ _) hv, Kd.R_mono (Kd.R_far (Kd.R_types h.p h.f.hb (kPcE _ (by omega) (by omega))) (p := ⟨g, 0, none⟩) (fun k hk => hk.2) _) (fun k hk => hk.1), h.k.set_ 0 _, h.v, h.l.setCell (p := ⟨g, 0, none⟩) h.f.hg _⟩
theorem FW.addOp (h : FW w b g x v0 vP P W vn vs vo now safe ops) (ho : Kd.R kOp 141 W1 b x v1 (ops ++ [o])) (hg : W.grownBy W1 vo.ownBlock) (hl : Below b W W1) (hat : v1.ownBlock = vo.ownBlock ∨ ∃ k, v1.ownBlock = some k ∧ W.heap.size ≤ k) : FW w b g x v0 vP P (W1.setCell ⟨g, 2, none⟩ v1) vn vs v1 now safe (ops ++ [o]) := by
  refine ⟨h.f.addOp ho hg, ?_, (h.k.trans (KeepBut.of_grown hg g) h.v).set_ 2 _, ?_, (h.l.trans hl).setCell (p := ⟨g, 2, none⟩) h.f.hg _⟩
  · have hb := blk_grown h.f.hb hg (Kd.R_ne h.f.ho h.f.hb (by omega))
    have h1 := Kd.R_mono (Kd.R_grown (Kd.R_apartR h.p h.f.ho (kPcE _ (by omega) (by omega))) hg (fun k hk => hk.2)) (fun k hk => hk.1)
    exact Kd.R_mono (Kd.R_far (Kd.R_types h1 hb (kPcE _ (by omega) (by omega))) (p := ⟨g, 2, none⟩) (fun k hk => hk.2) _) (fun k hk => hk.1)
  · rcases hat with e | ⟨k, e, hk⟩
    · rw [e]; exact h.v
    · exact .inr ⟨k, e, Nat.le_trans h.k.1 hk⟩
theorem FW.start {w1 w2 : World} (h : FI w1 b g x vn vs vo now safe ops) (hk : KeepBut w w1 g v0.ownBlock) (hv : vo.ownBlock = v0.ownBlock ∨ ∃ k, vo.ownBlock = some k ∧ w.heap.size ≤ k) (hl : Below b w w1) (hb : Below w1.heap.size w1 w2) (hp : Kd.R kPc 30 w2 w1.heap.size (fun _ => True) vP P) : FW w b g x v0 vP P w2 vn vs vo now safe ops :=
  ⟨h.below hb, Kd.R_lower hp (Nat.le_trans h.hg (Nat.le_of_lt (blk_lt h.hb))), ⟨Nat.le_trans hk.1 hb.size, fun i hi hg hn => (hb.block i (Nat.lt_of_lt_of_le hi hk.1)).trans (hk.2 i hi hg hn)⟩, hv, hl.trans (hb.mono (Nat.le_trans h.hg (Nat.le_of_lt (blk_lt h.hb))))⟩
end
theorem pieces_len : ∀ (g : Nat) (b : List Int) (a : Nat), b.length ≤ g → (pieces a b).length ≤ b.length
  | 0, b, a, hg => by
    obtain rfl := List.eq_nil_of_length_eq_zero (Nat.le_zero.1 hg)
    exact Nat.le_refl _
  | g + 1, b, a, hg => by
    by_cases h0 : 0 < b.length
    · obtain ⟨n, hne⟩ : ∃ n, n = min (64 - a % 64) b.length := ⟨_, rfl⟩
      rw [pieces_step a b n hne h0, List.length_cons]
      have := pieces_len g (b.drop n) (a + n) (by rw [List.length_drop]; omega)
      rw [List.length_drop] at this
      omega
    · obtain rfl := List.eq_nil_of_length_eq_zero (Nat.eq_zero_of_not_pos h0)
      exact Nat.le_refl _
theorem putF_len (s : List Int × List FOp) (p : Pc) : (putF s p).1.length = s.1.length ∧ (putF s p).2.length = s.2.length + 1 := ⟨setL_length _ _ _, by simp [putF]⟩
theorem puts_takeF (P : List Pc) (s : List Int × List FOp) (i : Nat) (h : i < P.length) : (P.take (i + 1)).foldl putF s = putF ((P.take i).foldl putF s) (P.getD i zPc) := by
  rw [List.take_succ_eq_append_getElem h, List.foldl_append]
  simp [List.getD_eq_getElem?_getD, h]
end Go.Proofs.Ytpnbjpkdbiiogaa
