/- A region that draws its order, inside a round. -/
import Derived.Test.YtldiginkmmlojaaHiC
import Derived.Stop.RegionWithIn
namespace Go.Proofs.Ytldiginkmmlojaa
set_option linter.unusedVariables false
set_option linter.unusedSimpArgs false
open Go.RowKit Go.Proofs.YtldiginkmmlojaaW.PrintWords

section
variable {F : Fence} {n : Nat} {P : Program} {ops : Array Oper} {Q : Exit → Act → World → Prop}
/-- What holds of a region's operations outside of a round holds in it, where none defers. -/
theorem wpOps_roundH (l2 : Nat) (hro : F.round = none) (hd : ∀ o ∈ ops, ∀ c, o.op ≠ .defer c) : ∀ (l : List Nat) (a : Act) (w : World), wpOpsIn F n P ops Q l a w → wpOpsIn (F.inRound l2) n P ops Q l a w
  | [], a, w, h => h
  | i :: rest, a, w, h => by
    unfold wpOpsIn at h ⊢
    cases ho : ops[i]? with
    | none => simp only [ho] at h ⊢; exact wpOps_roundH l2 hro hd rest a w h
    | some o =>
      simp only [ho] at h ⊢
      have hdo := hd o (Array.mem_of_getElem? ho)
      by_cases hw : Region.wanted o (yielded ops a.tmps) = true
      · rw [if_pos hw] at h ⊢
        unfold Oper.wpIn at h ⊢
        rw [hro, Oper.semAt_none] at h
        rw [Oper.semAt_eq _ _ _ hdo]
        refine ⟨h.1, ?_⟩
        have h2 := h.2
        generalize (execOp a.eval o).run P w = r at h2 ⊢
        have hm : ∀ (a' : Act) (w' : World), wpOpsIn F n P ops Q rest a' w' → wpOpsIn (F.inRound l2) n P ops Q rest a' w' := fun a' w' => wpOps_roundH l2 hro hd rest a' w'
        cases r with
        | ok x w' =>
          cases x with
          | value v => exact hm _ _ h2
          | skip => exact hm _ _ h2
          | «defer» d => exact hm _ _ h2
          | enter f args =>
            refine ⟨h2.1, CallsIn.inRound l2 (CallsIn.mono h2.2 (fun e w'' he => ?_))⟩
            cases e with
            | returned v => exact hm _ _ he
            | panicked chain => exact he
            | outgrown => exact he
          | row r args => exact ⟨h2.1, fun c cs hc => let ⟨v, w'', hv, hs⟩ := h2.2 c cs hc; ⟨v, w'', hm _ _ hv, hs⟩⟩
          | round l f tmps assign body =>
            refine ⟨h2.1, h2.2.1, fun c cs hc => ?_⟩
            obtain ⟨e, w'', he, hs⟩ := h2.2.2 c cs hc
            refine ⟨e, w'', ?_, hs⟩
            cases e with
            | returned v => exact hm _ _ he
            | panicked chain => exact he
            | outgrown => exact he
          | _ => exact h2
        | halt hh w' => cases hh <;> exact h2
      · rw [if_neg hw] at h ⊢
        exact ⟨h.1, wpOps_roundH l2 hro hd rest _ _ h.2⟩
theorem wpIn_region_roundH {id : Nat} {a : Act} {w : World} (l2 : Nat) (hm : P.follows .mixedOrders = true) (hro : F.round = none) (hd : ∀ o ∈ ops, ∀ c, o.op ≠ .defer c)
    (h : wpAnyIn F n P .any ops Q ops.size (Array.replicate ops.size false) a w.drew) : (Code.region id ops true).wpIn (F.inRound l2) n P Q a w :=
  wpIn_region_draw fun t => wpOps_roundH l2 hro hd _ _ _ (by
    simp only [Region.schedule, hm, Bool.true_or, if_true]
    exact wpAnyIn_sound ops.size t _ a _ h)
end
end Go.Proofs.Ytldiginkmmlojaa
