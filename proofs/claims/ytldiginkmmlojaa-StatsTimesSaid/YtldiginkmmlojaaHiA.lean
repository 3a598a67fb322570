/- Ranges over iterators that give their elements in whatever order. -/
import Derived.Test.YtldiginkmmlojaaMeA
namespace Go.Proofs.Ytldiginkmmlojaa
set_option linter.unusedVariables false
open Go.RowKit

section
variable {P : Program} {F : Fence} {n : Nat} {α : Type}
/-- An iterator that gives these elements, each once, in whatever order; nobody stops it. -/
def SeqD (F : Fence) (n : Nat) (P : Program) (g : Nat) (lb : Array Value) (enc : α → Value) (ks : List α) (bd : Nat) (N0 : Nat) (w0 : World) : Prop :=
  ∀ (l : Nat) (J : (Nat → Prop) → List α → World → Prop) (W : World), Below N0 w0 W → N0 ≤ W.heap.size → StableX W.heap.size J →
    (∀ (R : Nat → Prop) (pre : List α) (A : World) (x : α), x ∈ ks → pre.length < bd → J R pre A → (∀ q, R q → W.heap.size ≤ q) → W.heap.size ≤ A.heap.size → YieldAt F (n - 1) P l #[enc x] A fun e C =>
      ∃ R', FrX N0 W.heap.size R R' A C ∧ e = .returned (.bool true) ∧ J R' (pre ++ [x]) C) →
    J (fun _ => False) [] W →
    CallsIn F n P g (#[.func (.yield l) #[] #[]] ++ lb) W fun e C => (∃ v, e = .returned v) ∧ ∃ (R : Nat → Prop) (ss : List α), (∀ q, R q → W.heap.size ≤ q) ∧ ss.Perm ks ∧ J R ss C
/-- What a round's body leaves. -/
def postD (N0 B : Nat) (I : (Nat → Prop) → List α → World → Prop) (R : Nat → Prop) (pre : List α) (A : World) : Exit → Act → World → Prop
  | .normal, _, C => ∃ R', FrX N0 B R R' A C ∧ I R' pre C
  | _, _, _ => False
set_option maxHeartbeats 1000000 in
/-- The range over it. -/
theorem wpIn_rangeD {g : Operand} {ps : Array Tmp} {assign body : Code} {Q : Exit → Act → World → Prop} {a : Act} {w : World}
    (hro : F.round = none) (h1 : F.depth.isSome = true → 1 ≤ n) {gf : Nat} {lb : Array Value} (hg : a.eval g = .func (.func gf) #[] lb) (hFg : F.fn gf) (eg : ∀ args w, (callFunc gf args).run P w = .ok (.enter gf args) w)
    {enc : α → Value} {ks : List α} {bd : Nat} {N0 : Nat} {w0 : World} (hseq : SeqD F (n - 1) P gf lb enc ks bd N0 w0) (hN : N0 ≤ w.heap.size) (hb0 : Below N0 w0 w) (hps : ps.size = 1)
    (I : (Nat → Prop) → List α → World → Prop) (hI : StableX w.heap.size I) (h0 : I (fun _ => False) [] w) (a₁ : α → Act)
    (hassign : ∀ (l : Nat) (x : α) (W : World) (K : Act → World → Prop), K (a₁ x) W →
      assign.wpIn (F.inRound l) (n - 1 - 1) P (Exit.then K (fun _ _ _ => False)) { tmps := (ps.zip #[enc x]).foldl (fun t (p, v) => t.setIfInBounds p v) a.tmps, defers := [] } W)
    (hbody : ∀ (l : Nat) (R : Nat → Prop) (pre : List α) (x : α) (A : World), x ∈ ks → pre.length < bd → I R pre A → (∀ q, R q → w.heap.size ≤ q) → w.heap.size ≤ A.heap.size → body.wpIn (F.inRound l) (n - 1 - 1) P (postD N0 w.heap.size I R (pre ++ [x]) A) (a₁ x) A)
    (hdone : ∀ (D : Nat) (R : Nat → Prop) (ss : List α) (C : World), D = w.heap.size → (∀ q, R q → w.heap.size + 2 ≤ q) → ss.Perm ks → I R ss C → C.heap[D]? = some (.deferred (some [])) → Q .normal { a with defers := { target := .collected D, args := #[] } :: a.defers } C) :
    (Code.rangeFunc g ps assign body).wpIn F n P Q a w := by
  refine wpIn_rangeFunc ?_
  intro fn hfn
  rw [hro]
  obtain ⟨rec, hrec⟩ : ∃ rec : LoopState → Option Code → Loop, rec = fun st pe => { state := st, pending := pe, fn, tmps := a.tmps, params := ps, assign, body, defers := w.heap.size } := ⟨_, rfl⟩
  obtain ⟨W1, hW1⟩ : ∃ W1, (w.alloc (.deferred (some []))).alloc (.loop (rec .ready none)) = W1 := ⟨_, rfl⟩
  have hs1 : W1.heap.size = w.heap.size + 2 := by rw [← hW1]; simp
  have hL1 : W1.heap[w.heap.size + 1]? = some (.loop (rec .ready none)) := by
    rw [← hW1]; have := World.alloc_heap_new (w.alloc (.deferred (some []))) (.loop (rec .ready none)); rwa [World.size_alloc] at this
  have hK1 : W1.heap[w.heap.size]? = some (.deferred (some [])) := by
    rw [← hW1]; exact (Below.heap_alloc _ _ _ (by simp)).trans (World.alloc_heap_new w _)
  have hbw : Below w.heap.size w W1 := by rw [← hW1]; exact ((Below.refl _ w).alloc (Nat.le_refl _) _).alloc (by simp) _
  have hI1 : I (fun _ => False) [] W1 := hI _ _ _ _ h0 (Unt.of_below hbw)
  refine ⟨w.heap.size + 1, [{ target := .collected w.heap.size, args := #[] }], W1, { target := .fn (.func gf) lb, args := #[.func (.yield (w.heap.size + 1)) #[] #[]] }, W1, gf,
    #[.func (.yield (w.heap.size + 1)) #[] #[]] ++ lb, W1, ?_, ?_, ?_, ?_, h1, ?_⟩
  · rw [← hW1, hrec]; exact run_enterLoop_outer _ _ _ _ _
  · simp only [resolve, hg]
    simp [go_sem]
  · intro f' hf'; simp [Target.leads] at hf'; subst hf'; exact hFg
  · simp [invoke, go_sem, eg]
  · refine (hseq (w.heap.size + 1)
      (fun R k A => I R k A ∧ A.heap[w.heap.size + 1]? = some (.loop (rec .ready none)) ∧ A.heap[w.heap.size]? = some (.deferred (some [])) ∧ w.heap.size + 2 ≤ A.heap.size ∧ (∀ q, R q → w.heap.size + 2 ≤ q))
      W1 (hb0.trans (hbw.mono hN)) (by omega) ?_ ?_ ⟨hI1, hL1, hK1, by omega, fun _ h => h.elim⟩).mono ?_
    · rintro R k A C ⟨hi, hl, hk, hsz, hr⟩ hu
      have hu' := hu.mono (show w.heap.size ≤ W1.heap.size by omega)
      exact ⟨hI _ _ _ _ hi hu', (hu.block _ (by omega) (.inl (by omega))).trans hl, (hu.block _ (by omega) (.inl (by omega))).trans hk, Nat.le_trans hsz hu.size, hr⟩
    · rintro R pre W x hx hpl ⟨hi, hl, hk, hsz, hr2⟩ _ hAs
      have hy := run_yield (P := P) (args := #[enc x]) hl (by rw [hrec]; exact hps.symm)
      rw [hrec] at hy
      refine ⟨fn, _, assign, body, hy, roundIn_of_wpIn hfn (hassign _ x W _ ⟨_, run_beginRound hl (by rw [hrec]), ?_⟩)⟩
      have hnR1 : ¬ R (w.heap.size + 1) := fun h => by have := hr2 _ h; omega
      have hl2 : (W.putObj (w.heap.size + 1) (.loop { rec .ready none with state := .busy })).heap[w.heap.size + 1]? = some (.loop { rec .ready none with state := .busy }) := World.putObj_heap_same (by omega)
      have hk2 : (W.putObj (w.heap.size + 1) (.loop { rec .ready none with state := .busy })).heap[w.heap.size]? = some (.deferred (some [])) := (World.putObj_heap_other (by omega)).trans hk
      have hi2 := hI _ _ _ _ hi (Unt.putObj (B := w.heap.size) (R := R) (.loop { rec .ready none with state := .busy }) (show w.heap.size ≤ w.heap.size + 1 by omega) hnR1)
      have hf2 : FrX N0 W1.heap.size R R W (W.putObj (w.heap.size + 1) (.loop { rec .ready none with state := .busy })) := FrX.putObj _ (by omega) (by omega)
      refine wpIn_mono (hbody _ R pre x _ hx hpl hi2 (fun q hq => by have := hr2 q hq; omega) (by simp; omega)) ?_
      rintro e a3 W3 hp
      cases e with
      | normal =>
        obtain ⟨R', hf3x, hi3⟩ := hp
        have hf3 : FrX N0 w.heap.size R R' (W.putObj (w.heap.size + 1) (.loop { rec .ready none with state := .busy })) W3 := hf3x
        have hsz2 : w.heap.size + 2 ≤ (W.putObj (w.heap.size + 1) (.loop { rec .ready none with state := .busy })).heap.size := by simp; omega
        have hl3 := (hf3.own (w.heap.size + 1) (by omega) (by omega) hnR1).trans hl2
        have hk3 := (hf3.own w.heap.size (by omega) (Nat.le_refl _) (fun h => by have := hr2 _ h; omega)).trans hk2
        have hR' : ∀ q, R' q → w.heap.size + 2 ≤ q := fun q hq => (hf3.new q hq).elim (hr2 q) (fun h => by omega)
        have hn' : ¬ R' (w.heap.size + 1) := fun h => by have := hR' _ h; omega
        have hlt3 : w.heap.size + 1 < W3.heap.size := (Array.getElem?_eq_some_iff.1 hl3).1
        have hend := run_endRound (P := P) none hl3
        rw [hrec] at hend hl3
        exact ⟨_, _, hend, R', (hf2.trans (hf3.lift (by omega))).trans (FrX.putObj _ (by omega) (by omega)), rfl, hI _ _ _ _ hi3 (Unt.putObj _ (by omega) hn'), (World.putObj_heap_same hlt3).trans (by rw [hrec]; rfl), (World.putObj_heap_other (by omega)).trans hk3, by simp; omega, hR'⟩
      | ret => exact hp.elim
      | exit id => exact hp.elim
      | goto t => exact hp.elim
      | panic ch => exact hp.elim
      | outgrown => exact hp.elim
    · rintro e W2 ⟨⟨v, rfl⟩, R, ss, hR, hss, hi, hl, hk, hsz, hr⟩
      have hn : ¬ R (w.heap.size + 1) := fun h => by have := hr _ h; omega
      exact ⟨none, _, by have := run_endLoop (P := P) hl (by rw [hrec]; simp); rw [hrec] at this; exact this, hdone _ R ss _ rfl hr hss (hI _ _ _ _ hi (Unt.putObj _ (by omega) hn)) ((World.putObj_heap_other (by omega)).trans hk)⟩
end
end Go.Proofs.Ytldiginkmmlojaa
