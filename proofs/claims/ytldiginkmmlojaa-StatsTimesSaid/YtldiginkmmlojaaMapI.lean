/- Maps of whatever elements, inside a range over a function. -/
import Derived.Test.YtldiginkmmlojaaMap
import Derived.Maps.OwnIn
import Derived.RangeFuncFrom
namespace Go.Proofs.Ytldiginkmmlojaa
set_option linter.unusedVariables false
open Go.RowKit Go.Maps

section
variable {F : Fence} {nF : Nat} {P : Program} {w : World} {ops : Array Oper} {rest : List Oper} {o : Oper} {a : Act} {Q : Exit → Act → World → Prop}
/-- v, ok := m[k], fenced. -/
theorem mvi_lookup_ok (hg : o.guard = none) (m x : Operand) (t : TypeId) (hop : o.op = Op.lookup t m x true) (k e : TypeId) (K : Keyed P k) (ht : P.underlying t = some (.map k e)) {z : Value} (hz : (zeroValue e).run P w = .ok z w) (b n : Nat) (f : Lit → Option Value)
    (hm : a.eval m = .map (some b)) (h : MV w P k b n f) (key : Value) (kl : Lit) (hx : a.eval x = key) (hkey : keyOf P k key = some kl) (v : Value) (bo : Bool) (hv : (f kl).getD z = v) (hb : (f kl).isSome = bo)
    (hK : wpListIn F nF P ops Q rest (a.put o.dst (.tuple #[v, .bool bo])) w) : wpListIn F nF P ops Q (o :: rest) a w := by
  obtain ⟨D, h1, h2⟩ := h
  refine wpListIn_lookup_own_ok w hg m x t hop k e K ht R0 hz (.held z) [] rfl b n D hm h1 key kl hx hkey (fun v' ps hv' => ?_)
  have e1 : v' = v := by
    have := congrArg (Option.map Prod.fst) hv'
    simp only [R0, Option.map_some, Option.some.injEq] at this
    rw [h2 kl] at this
    rw [← hv]
    cases e : f kl with
    | none => rw [e] at this; simpa using this
    | some y => rw [e] at this; simpa using this
  rw [e1, h2.has kl, hb]
  exact hK
/-- m[k] = v, fenced. -/
theorem mvi_store (hg : o.guard = none) (m x v : Operand) (t : TypeId) (hop : o.op = Op.mapUpdate t m x v) (k e : TypeId) (K : Keyed P k) (ht : P.underlying t = some (.map k e)) (b n : Nat) (f : Lit → Option Value)
    (hm : a.eval m = .map (some b)) (h : MV w P k b n f) (hn : n < maxLen) (key val : Value) (kl : Lit) (hx : a.eval x = key) (hv : a.eval v = val) (hkey : keyOf P k key = some kl)
    (hK : ∀ w', MV w' P k b (n + 1) (upd f kl (some val)) → w.mapTurned w' b → wpListIn F nF P ops Q rest (a.put o.dst undef) w') : wpListIn F nF P ops Q (o :: rest) a w := by
  obtain ⟨D, h1, h2⟩ := h
  refine wpListIn_plain hg fun K' hK' => ?_
  obtain ⟨w', hrun, r1, r2⟩ := h1.store K ht hn (val := val) (d := .held val) (ps := []) hkey rfl
  unfold Oper.wpIn
  refine ⟨by simp [Oper.about, hop], ?_⟩
  rw [Oper.semAt_plain F _ _ (by rw [hop]; intro c hc'; cases hc')]
  simp [execOp, hop, hm, hx, hv, hrun, Result.andThen]
  exact hK' _ _ (hK w' ⟨_, r1, h2.put h1.isMap (key_lit hkey) val⟩ r2)
end
theorem MV.kept {w w1 : World} {P : Program} {k : TypeId} {b n : Nat} {f : Lit → Option Value} {row : Option Nat} (h : MV w P k b n f) (hg : w.grownBy w1 row) (hb : some b ≠ row) : MV w1 P k b n f := by
  obtain ⟨D, h1, h2⟩ := h
  exact ⟨D, h1.kept hg hb, h2⟩
theorem mv_own {β : Type} (B b : Nat) (hb : b < B) (P : Program) (k : TypeId) (n : β → Nat) (f : β → Lit → Option Value) : OwnFrom B (fun (s : β) W => MV W P k b (n s) (f s)) := fun s X Y row hs hg hr => hs.kept hg (fun e => by have := (hr _ e.symm).1; omega)
end Go.Proofs.Ytldiginkmmlojaa
