/- The reference's file: what holds in Write. -/
import Derived.Test.YtpnbjpkdbiiogaaFiJ
namespace Go.Proofs.Ytpnbjpkdbiiogaa
set_option linter.unusedVariables false
open Go.RowKit Go.Proofs.YtpnbjpkdbiiogaaW.PrintWords

/-- All but a block and two rows stay. -/
def Keep3 (w w' : World) (g : Nat) (r1 r2 : Option Nat) : Prop := w.heap.size ≤ w'.heap.size ∧ ∀ i, i < w.heap.size → i ≠ g → some i ≠ r1 → some i ≠ r2 → w'.heap[i]? = w.heap[i]?
theorem Keep3.refl (w : World) (g : Nat) (r1 r2 : Option Nat) : Keep3 w w g r1 r2 := ⟨Nat.le_refl _, fun _ _ _ _ _ => rfl⟩
theorem Keep3.step {w W W' : World} {g : Nat} {r1 r2 q1 q2 : Option Nat} (h : Keep3 w W g r1 r2) (hs : W.heap.size ≤ W'.heap.size) (hm : ∀ i, i < W.heap.size → i ≠ g → some i ≠ q1 → some i ≠ q2 → W'.heap[i]? = W.heap[i]?) (h1 : q1 = r1 ∨ q1 = none ∨ ∃ k, q1 = some k ∧ w.heap.size ≤ k) (h2 : q2 = r2 ∨ q2 = none ∨ ∃ k, q2 = some k ∧ w.heap.size ≤ k) : Keep3 w W' g r1 r2 := by
  refine ⟨Nat.le_trans h.1 hs, fun i hi hg e1 e2 => (hm i (Nat.lt_of_lt_of_le hi h.1) hg ?_ ?_).trans (h.2 i hi hg e1 e2)⟩
  · rcases h1 with rfl | rfl | ⟨k, rfl, hk⟩
    · exact e1
    · simp
    · intro e; injection e with e; omega
  · rcases h2 with rfl | rfl | ⟨k, rfl, hk⟩
    · exact e2
    · simp
    · intro e; injection e with e; omega
theorem RF.store {W : World} {b g gN n c : Nat} {vs vo : Value} {now safe : List Int} {ops : List FOp} (h : RF W b g (.slice (some ⟨gN, 0, none⟩) n c) vs vo now safe ops) (j : Nat) (x : Int) : RF (W.setCell ⟨gN, j, none⟩ (.int .u8 x)) b g (.slice (some ⟨gN, 0, none⟩) n c) vs vo (now.set j x) safe ops := by
  have hne : g ≠ gN := fun e => by
    have := Kd.R_ne h.hn h.hb (by omega)
    exact this (by rw [e]; rfl)
  have hk : ∀ k, some k ≠ (Value.slice (some ⟨gN, 0, none⟩) n c).ownBlock → k ≠ gN := fun k hk e => hk (by rw [e]; rfl)
  exact ⟨blk_far h.hb (p := ⟨gN, j, none⟩) hne _, R_putN h.hn j x, Kd.R_far h.hs (p := ⟨gN, j, none⟩) hk _, Kd.R_far h.ho (p := ⟨gN, j, none⟩) hk _, h.hg⟩
structure RW (w : World) (b g : Nat) (v0 u0 : Value) (gN n c : Nat) (W : World) (vs vo : Value) (now safe : List Int) (ops : List FOp) : Prop where
  f : RF W b g (.slice (some ⟨gN, 0, none⟩) n c) vs vo now safe ops
  k : Keep3 w W g v0.ownBlock u0.ownBlock
  v : some gN = v0.ownBlock ∨ w.heap.size ≤ gN
  u : vo.ownBlock = u0.ownBlock ∨ ∃ k, vo.ownBlock = some k ∧ w.heap.size ≤ k
  l : Below b w W
section
variable {w W W1 : World} {b g gN n c : Nat} {v0 u0 vs vo v1 : Value} {now safe : List Int} {ops : List FOp} {o : FOp}
theorem RW.below (h : RW w b g v0 u0 gN n c W vs vo now safe ops) (hb : Below W.heap.size W W1) : RW w b g v0 u0 gN n c W1 vs vo now safe ops :=
  ⟨h.f.below hb, h.k.step (q1 := none) (q2 := none) hb.size (fun i hi _ _ _ => hb.block i hi) (.inr (.inl rfl)) (.inr (.inl rfl)), h.v, h.u, h.l.trans (hb.mono (Nat.le_trans h.f.hg (Nat.le_of_lt (blk_lt h.f.hb))))⟩
theorem RW.store (h : RW w b g v0 u0 gN n c W vs vo now safe ops) (j : Nat) (x : Int) : RW w b g v0 u0 gN n c (W.setCell ⟨gN, j, none⟩ (.int .u8 x)) vs vo (now.set j x) safe ops := by
  refine ⟨h.f.store j x, h.k.step (q1 := some gN) (q2 := none) (by simp) (fun i hi _ h1 _ => Below.heap_setCell W ⟨gN, j, none⟩ _ i (fun e => h1 (by rw [e]))) ?_ (.inr (.inl rfl)), h.v, h.u, h.l.setCell (p := ⟨gN, j, none⟩) (Kd.R_base h.f.hn gN rfl) _⟩
  rcases h.v with e | e
  · exact .inl e
  · exact .inr (.inr ⟨gN, rfl, e⟩)
theorem RW.addOp (h : RW w b g v0 u0 gN n c W vs vo now safe ops) (ho : Kd.R kOp 178 W1 b (fun k => some k ≠ (Value.slice (some ⟨gN, 0, none⟩) n c).ownBlock) v1 (ops ++ [o])) (hg : W.grownBy W1 vo.ownBlock) (hl : Below b W W1) (hat : v1.ownBlock = vo.ownBlock ∨ ∃ k, v1.ownBlock = some k ∧ W.heap.size ≤ k) : RW w b g v0 u0 gN n c (W1.setCell ⟨g, 2, none⟩ v1) vs v1 now safe (ops ++ [o]) := by
  refine ⟨h.f.addOp ho hg, h.k.step (q1 := none) (q2 := vo.ownBlock) (by simp; exact hg.size) (fun i hi hne _ h2 => (Below.heap_setCell W1 ⟨g, 2, none⟩ v1 i hne).trans (hg.block i hi h2)) (.inr (.inl rfl)) ?_, h.v, ?_, (h.l.trans hl).setCell (p := ⟨g, 2, none⟩) h.f.hg _⟩
  · rcases h.u with e | e
    · exact .inl e
    · exact .inr (.inr e)
  · rcases hat with e | ⟨k, e, hk⟩
    · rw [e]; exact h.u
    · exact .inr ⟨k, e, Nat.le_trans h.k.1 hk⟩
end
end Go.Proofs.Ytpnbjpkdbiiogaa
