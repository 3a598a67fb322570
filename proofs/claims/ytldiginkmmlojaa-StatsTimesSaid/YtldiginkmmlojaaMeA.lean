/- Ranges over iterators that keep cells of their own: what the iterator and its rounds owe each other. -/
import Derived.RangeFuncNested
import Derived.RangeFuncBound
import Derived.RangeFuncCalls
import Derived.RangeFuncLeaves
import Derived.RangeFuncBox
import Derived.Shelf.Abstract
import Derived.WalkKit
namespace Go.Proofs.Ytldiginkmmlojaa
set_option linter.unusedVariables false
open Go.RowKit

/-- The iterator's step, as its rounds see it: what lay below B, and what the rounds laid (R), lies as it lay. -/
structure Unt (B : Nat) (R : Nat → Prop) (A C : World) : Prop where
  size : A.heap.size ≤ C.heap.size
  os : C.os = A.os
  tape : C.tape = A.tape
  output : C.output = A.output
  block : ∀ q, q < A.heap.size → (q < B ∨ R q) → C.heap[q]? = A.heap[q]?
def StableX {β : Type} (B : Nat) (J : (Nat → Prop) → β → World → Prop) : Prop := ∀ R s A C, J R s A → Unt B R A C → J R s C
/-- A round's word to the iterator: the iterator's own blocks lie as they lay. -/
structure FrX (N0 B : Nat) (R R' : Nat → Prop) (A C : World) : Prop where
  low : Below N0 A C
  own : ∀ q, q < A.heap.size → B ≤ q → ¬ R q → C.heap[q]? = A.heap[q]?
  inc : ∀ q, R q → R' q
  new : ∀ q, R' q → R q ∨ A.heap.size ≤ q
theorem Unt.mono {B B' : Nat} {R : Nat → Prop} {A C : World} (h : Unt B R A C) (hb : B' ≤ B) : Unt B' R A C := ⟨h.size, h.os, h.tape, h.output, fun q hq hx => h.block q hq (hx.imp (fun h => Nat.lt_of_lt_of_le h hb) id)⟩
theorem Unt.trans {B : Nat} {R : Nat → Prop} {A C D : World} (h : Unt B R A C) (k : Unt B R C D) : Unt B R A D :=
  ⟨Nat.le_trans h.size k.size, k.os.trans h.os, k.tape.trans h.tape, k.output.trans h.output, fun q hq hx => (k.block q (Nat.lt_of_lt_of_le hq h.size) hx).trans (h.block q hq hx)⟩
theorem Unt.below {B N : Nat} {R : Nat → Prop} {A C : World} (h : Unt B R A C) (hn : N ≤ B) (hs : N ≤ A.heap.size) : Below N A C := ⟨h.os, h.tape, h.output, h.size, fun q hq => h.block q (Nat.lt_of_lt_of_le hq hs) (.inl (Nat.lt_of_lt_of_le hq hn))⟩
theorem Unt.of_below {B : Nat} {R : Nat → Prop} {A C : World} (h : Below A.heap.size A C) : Unt B R A C := ⟨h.size, h.os, h.tape, h.output, fun q hq _ => h.block q hq⟩
theorem Unt.putObj {B : Nat} {R : Nat → Prop} {A : World} {r : Nat} (o : Obj) (hr : B ≤ r) (hR : ¬ R r) : Unt B R A (A.putObj r o) :=
  ⟨by simp, rfl, rfl, rfl, fun q hq hx => World.putObj_heap_other (fun e => hx.elim (fun h => by omega) (fun h => hR (e ▸ h)))⟩
theorem FrX.refl (N0 B : Nat) (R : Nat → Prop) (A : World) : FrX N0 B R R A A := ⟨Below.refl _ _, fun _ _ _ _ => rfl, fun _ h => h, fun _ h => .inl h⟩
theorem FrX.trans {N0 B : Nat} {R R' R2 : Nat → Prop} {A C D : World} (h : FrX N0 B R R' A C) (k : FrX N0 B R' R2 C D) : FrX N0 B R R2 A D :=
  ⟨h.low.trans k.low, fun q hq hb hr => (k.own q (Nat.lt_of_lt_of_le hq h.low.size) hb (fun hr' => (h.new q hr').elim hr (fun hge => by omega))).trans (h.own q hq hb hr), fun q hq => k.inc q (h.inc q hq),
    fun q hq => (k.new q hq).elim (h.new q) (fun hge => .inr (Nat.le_trans h.low.size hge))⟩
theorem FrX.weaken {N0 N1 B B' : Nat} {R R' : Nat → Prop} {A C : World} (h : FrX N1 B R R' A C) (hn : N0 ≤ N1) (hb : B ≤ B') : FrX N0 B' R R' A C := ⟨h.low.mono hn, fun q hq hb' hr => h.own q hq (Nat.le_trans hb hb') hr, h.inc, h.new⟩
theorem FrX.lift {N0 B B' : Nat} {R R' : Nat → Prop} {A C : World} (h : FrX N0 B R R' A C) (hb : B ≤ B') : FrX N0 B' R R' A C := ⟨h.low, fun q hq hb' hr => h.own q hq (Nat.le_trans hb hb') hr, h.inc, h.new⟩
/-- A block that the iterator does not own, and that lies at N0 or beyond, turns. -/
theorem FrX.putObj {N0 B : Nat} {R : Nat → Prop} {A : World} {r : Nat} (o : Obj) (h0 : N0 ≤ r) (hr : r < B) : FrX N0 B R R A (A.putObj r o) :=
  ⟨⟨rfl, rfl, rfl, by simp, fun q hq => World.putObj_heap_other (by omega)⟩, fun q hq hb _ => World.putObj_heap_other (by omega), fun _ h => h, fun _ h => .inl h⟩
section
variable {P : Program} {F : Fence} {n : Nat} {α : Type}
/-- An iterator that gives these elements, one by one, whoever asks: it leans on what lies below N0 alone. -/
def SeqX (F : Fence) (n : Nat) (P : Program) (g : Nat) (lb : Array Value) (enc : α → Value) (xs : List α) (N0 : Nat) (w0 : World) : Prop :=
  ∀ (l : Nat) (J Jx : (Nat → Prop) → Nat → World → Prop) (W : World), Below N0 w0 W → N0 ≤ W.heap.size → StableX W.heap.size J → StableX W.heap.size Jx →
    (∀ (R : Nat → Prop) (k : Nat) (A : World) (x : α), xs[k]? = some x → J R k A → (∀ q, R q → W.heap.size ≤ q) → W.heap.size ≤ A.heap.size → YieldAt F (n - 1) P l #[enc x] A fun e C =>
      ∃ R', FrX N0 W.heap.size R R' A C ∧ ((e = .returned (.bool true) ∧ J R' (k + 1) C) ∨ (e = .returned (.bool false) ∧ Jx R' (k + 1) C))) →
    J (fun _ => False) 0 W →
    CallsIn F n P g (#[.func (.yield l) #[] #[]] ++ lb) W fun e C => (∃ v, e = .returned v) ∧ ∃ R : Nat → Prop, (∀ q, R q → W.heap.size ≤ q) ∧ (J R xs.length C ∨ ∃ k, k ≤ xs.length ∧ Jx R k C)
theorem SeqX.later {g : Nat} {lb : Array Value} {enc : α → Value} {xs : List α} {N0 : Nat} {w0 w1 : World} (h : SeqX F n P g lb enc xs N0 w0) (hb : Below N0 w0 w1) : SeqX F n P g lb enc xs N0 w1 :=
  fun l J Jx W hW hN hJ hJx hY h0 => h l J Jx W (hb.trans hW) hN hJ hJx hY h0
/-- What a round's body leaves. -/
def postX (N0 B : Nat) (I : (Nat → Prop) → Nat → World → Prop) (Ix : Code → (Nat → Prop) → Nat → World → Prop) (R : Nat → Prop) (k : Nat) (A : World) : Exit → Act → World → Prop
  | .normal, _, C => ∃ R', FrX N0 B R R' A C ∧ I R' k C
  | .ret, _, C => ∃ R', FrX N0 B R R' A C ∧ Ix .ret R' k C
  | .exit id, _, C => ∃ R', FrX N0 B R R' A C ∧ Ix (.exit id) R' k C
  | .goto t, _, C => ∃ R', FrX N0 B R R' A C ∧ Ix (.goto t) R' k C
  | .panic _, _, _ => False
  | .outgrown, _, _ => False
set_option maxHeartbeats 1000000 in
/-- The range over such an iterator. -/
theorem wpIn_rangeX {g : Operand} {ps : Array Tmp} {assign body : Code} {Q : Exit → Act → World → Prop} {a : Act} {w : World}
    (hro : F.round = none) (h1 : F.depth.isSome = true → 1 ≤ n) {gf : Nat} {lb : Array Value} (hg : a.eval g = .func (.func gf) #[] lb) (hFg : F.fn gf) (eg : ∀ args w, (callFunc gf args).run P w = .ok (.enter gf args) w)
    {enc : α → Value} {xs : List α} {N0 : Nat} {w0 : World} (hseq : SeqX F (n - 1) P gf lb enc xs N0 w0) (hN : N0 ≤ w.heap.size) (hb0 : Below N0 w0 w) (hps : ps.size = 1)
    (I : (Nat → Prop) → Nat → World → Prop) (Ix : Code → (Nat → Prop) → Nat → World → Prop) (hI : StableX w.heap.size I) (hIx : ∀ c, StableX w.heap.size (Ix c)) (h0 : I (fun _ => False) 0 w) (a₁ : α → Act)
    (hassign : ∀ (l : Nat) (x : α) (W : World) (K : Act → World → Prop), K (a₁ x) W →
      assign.wpIn (F.inRound l) (n - 1 - 1) P (Exit.then K (fun _ _ _ => False)) { tmps := (ps.zip #[enc x]).foldl (fun t (p, v) => t.setIfInBounds p v) a.tmps, defers := [] } W)
    (hbody : ∀ (l : Nat) (R : Nat → Prop) (k : Nat) (x : α) (A : World), xs[k]? = some x → I R k A → (∀ q, R q → w.heap.size ≤ q) → w.heap.size ≤ A.heap.size → body.wpIn (F.inRound l) (n - 1 - 1) P (postX N0 w.heap.size I Ix R (k + 1) A) (a₁ x) A)
    (hdone : ∀ (D : Nat) (R : Nat → Prop) (C : World), D = w.heap.size → (∀ q, R q → w.heap.size + 2 ≤ q) → I R xs.length C → C.heap[D]? = some (.deferred (some [])) → Q .normal { a with defers := { target := .collected D, args := #[] } :: a.defers } C)
    (hstop : ∀ (D : Nat) (c : Code) (R : Nat → Prop) (k : Nat) (C : World), D = w.heap.size → (∀ q, R q → w.heap.size + 2 ≤ q) → k ≤ xs.length → Ix c R k C → C.heap[D]? = some (.deferred (some [])) → c.wpIn F n P Q { a with defers := { target := .collected D, args := #[] } :: a.defers } C) :
    (Code.rangeFunc g ps assign body).wpIn F n P Q a w := by
  refine wpIn_rangeFunc ?_
  intro fn hfn
  rw [hro]
  obtain ⟨rec, hrec⟩ : ∃ rec : LoopState → Option Code → Loop, rec = fun st pe => { state := st, pending := pe, fn, tmps := a.tmps, params := ps, assign, body, defers := w.heap.size } := ⟨_, rfl⟩
  obtain ⟨W1, hW1⟩ : ∃ W1, (w.alloc (.deferred (some []))).alloc (.loop (rec .ready none)) = W1 := ⟨_, rfl⟩
  have hs1 : W1.heap.size = w.heap.size + 2 := by rw [← hW1]; simp
  have hL1 : W1.heap[w.heap.size + 1]? = some (.loop (rec .ready none)) := by
    rw [← hW1]; have := World.alloc_heap_new (w.alloc (.deferred (some []))) (.loop (rec .ready none)); rwa [World.size_alloc] at this
  have hK1 : W1.heap[w.heap.size]? = some (.deferred (some [])) := by
    rw [← hW1]; exact (Below.heap_alloc _ _ _ (by simp)).trans (World.alloc_heap_new w _)
  have hbw : Below w.heap.size w W1 := by rw [← hW1]; exact ((Below.refl _ w).alloc (Nat.le_refl _) _).alloc (by simp) _
  have hI1 : I (fun _ => False) 0 W1 := hI _ _ _ _ h0 (Unt.of_below hbw)
  refine ⟨w.heap.size + 1, [{ target := .collected w.heap.size, args := #[] }], W1, { target := .fn (.func gf) lb, args := #[.func (.yield (w.heap.size + 1)) #[] #[]] }, W1, gf,
    #[.func (.yield (w.heap.size + 1)) #[] #[]] ++ lb, W1, ?_, ?_, ?_, ?_, h1, ?_⟩
  · rw [← hW1, hrec]; exact run_enterLoop_outer _ _ _ _ _
  · simp only [resolve, hg]
    simp [go_sem]
  · intro f' hf'; simp [Target.leads] at hf'; subst hf'; exact hFg
  · simp [invoke, go_sem, eg]
  · refine (hseq (w.heap.size + 1)
      (fun R k A => I R k A ∧ A.heap[w.heap.size + 1]? = some (.loop (rec .ready none)) ∧ A.heap[w.heap.size]? = some (.deferred (some [])) ∧ w.heap.size + 2 ≤ A.heap.size ∧ (∀ q, R q → w.heap.size + 2 ≤ q))
      (fun R k A => ∃ c, Ix c R k A ∧ A.heap[w.heap.size + 1]? = some (.loop (rec .done (some c))) ∧ A.heap[w.heap.size]? = some (.deferred (some [])) ∧ w.heap.size + 2 ≤ A.heap.size ∧ (∀ q, R q → w.heap.size + 2 ≤ q))
      W1 (hb0.trans (hbw.mono hN)) (by omega) ?_ ?_ ?_ ⟨hI1, hL1, hK1, by omega, fun _ h => h.elim⟩).mono ?_
    · rintro R k A C ⟨hi, hl, hk, hsz, hr⟩ hu
      have hu' := hu.mono (show w.heap.size ≤ W1.heap.size by omega)
      exact ⟨hI _ _ _ _ hi hu', (hu.block _ (by omega) (.inl (by omega))).trans hl, (hu.block _ (by omega) (.inl (by omega))).trans hk, Nat.le_trans hsz hu.size, hr⟩
    · rintro R k A C ⟨c, hi, hl, hk, hsz, hr⟩ hu
      have hu' := hu.mono (show w.heap.size ≤ W1.heap.size by omega)
      exact ⟨c, hIx c _ _ _ _ hi hu', (hu.block _ (by omega) (.inl (by omega))).trans hl, (hu.block _ (by omega) (.inl (by omega))).trans hk, Nat.le_trans hsz hu.size, hr⟩
    · rintro R k W x hx ⟨hi, hl, hk, hsz, hr2⟩ _ hAs
      have hy := run_yield (P := P) (args := #[enc x]) hl (by rw [hrec]; exact hps.symm)
      rw [hrec] at hy
      refine ⟨fn, _, assign, body, hy, roundIn_of_wpIn hfn (hassign _ x W _ ⟨_, run_beginRound hl (by rw [hrec]), ?_⟩)⟩
      have hnR1 : ¬ R (w.heap.size + 1) := fun h => by have := hr2 _ h; omega
      have hl2 : (W.putObj (w.heap.size + 1) (.loop { rec .ready none with state := .busy })).heap[w.heap.size + 1]? = some (.loop { rec .ready none with state := .busy }) := World.putObj_heap_same (by omega)
      have hk2 : (W.putObj (w.heap.size + 1) (.loop { rec .ready none with state := .busy })).heap[w.heap.size]? = some (.deferred (some [])) := (World.putObj_heap_other (by omega)).trans hk
      have hi2 := hI _ _ _ _ hi (Unt.putObj (B := w.heap.size) (R := R) (.loop { rec .ready none with state := .busy }) (show w.heap.size ≤ w.heap.size + 1 by omega) hnR1)
      have hf2 : FrX N0 W1.heap.size R R W (W.putObj (w.heap.size + 1) (.loop { rec .ready none with state := .busy })) := FrX.putObj _ (by omega) (by omega)
      refine wpIn_mono (hbody _ R k x _ hx hi2 (fun q hq => by have := hr2 q hq; omega) (by simp; omega)) ?_
      have fin : ∀ (jump : Option Code) (R' : Nat → Prop) (W3 : World), FrX N0 w.heap.size R R' (W.putObj (w.heap.size + 1) (.loop { rec .ready none with state := .busy })) W3 →
          (Instr.endRound (w.heap.size + 1) jump).run P W3 = .ok (.bool jump.isNone) (W3.putObj (w.heap.size + 1) (.loop (rec (if jump.isNone then .ready else .done) jump))) ∧
          (W3.putObj (w.heap.size + 1) (.loop (rec (if jump.isNone then .ready else .done) jump))).heap[w.heap.size + 1]? = some (.loop (rec (if jump.isNone then .ready else .done) jump)) ∧
          (W3.putObj (w.heap.size + 1) (.loop (rec (if jump.isNone then .ready else .done) jump))).heap[w.heap.size]? = some (.deferred (some [])) ∧
          w.heap.size + 2 ≤ (W3.putObj (w.heap.size + 1) (.loop (rec (if jump.isNone then .ready else .done) jump))).heap.size ∧ (∀ q, R' q → w.heap.size + 2 ≤ q) ∧ ¬ R' (w.heap.size + 1) ∧
          FrX N0 W1.heap.size R R' W (W3.putObj (w.heap.size + 1) (.loop (rec (if jump.isNone then .ready else .done) jump))) := fun jump R' W3 hf3 => by
        have hsz2 : w.heap.size + 2 ≤ (W.putObj (w.heap.size + 1) (.loop { rec .ready none with state := .busy })).heap.size := by simp; omega
        have hl3 := (hf3.own (w.heap.size + 1) (by omega) (by omega) hnR1).trans hl2
        have hk3 := (hf3.own w.heap.size (by omega) (Nat.le_refl _) (fun h => by have := hr2 _ h; omega)).trans hk2
        have hR' : ∀ q, R' q → w.heap.size + 2 ≤ q := fun q hq => (hf3.new q hq).elim (hr2 q) (fun h => by omega)
        have hn' : ¬ R' (w.heap.size + 1) := fun h => by have := hR' _ h; omega
        have hlt3 : w.heap.size + 1 < W3.heap.size := (Array.getElem?_eq_some_iff.1 hl3).1
        have := run_endRound (P := P) jump hl3
        rw [hrec] at this ⊢
        exact ⟨this, World.putObj_heap_same hlt3, (World.putObj_heap_other (by omega)).trans hk3, by simp; omega, hR', hn', (hf2.trans (hf3.lift (by omega))).trans (FrX.putObj _ (by omega) (by omega))⟩
      rintro e a3 W3 hp
      cases e with
      | normal =>
        obtain ⟨R', hf3, hi3⟩ := hp
        obtain ⟨hr, hl4, hk4, hs4, hR4, hn4, hf4⟩ := fin none R' W3 hf3
        exact ⟨_, _, hr, R', hf4, .inl ⟨rfl, hI _ _ _ _ hi3 (Unt.putObj _ (by omega) hn4), hl4, hk4, hs4, hR4⟩⟩
      | ret =>
        obtain ⟨R', hf3, hi3⟩ := hp
        obtain ⟨hr, hl4, hk4, hs4, hR4, hn4, hf4⟩ := fin (some .ret) R' W3 hf3
        exact ⟨_, _, hr, R', hf4, .inr ⟨rfl, .ret, hIx _ _ _ _ _ hi3 (Unt.putObj _ (by omega) hn4), hl4, hk4, hs4, hR4⟩⟩
      | exit id =>
        obtain ⟨R', hf3, hi3⟩ := hp
        obtain ⟨hr, hl4, hk4, hs4, hR4, hn4, hf4⟩ := fin (some (.exit id)) R' W3 hf3
        exact ⟨_, _, hr, R', hf4, .inr ⟨rfl, .exit id, hIx _ _ _ _ _ hi3 (Unt.putObj _ (by omega) hn4), hl4, hk4, hs4, hR4⟩⟩
      | goto t =>
        obtain ⟨R', hf3, hi3⟩ := hp
        obtain ⟨hr, hl4, hk4, hs4, hR4, hn4, hf4⟩ := fin (some (.goto t)) R' W3 hf3
        exact ⟨_, _, hr, R', hf4, .inr ⟨rfl, .goto t, hIx _ _ _ _ _ hi3 (Unt.putObj _ (by omega) hn4), hl4, hk4, hs4, hR4⟩⟩
      | panic ch => exact hp.elim
      | outgrown => exact hp.elim
    · rintro e W2 ⟨⟨v, rfl⟩, R, hR, (⟨hi, hl, hk, hsz, hr⟩ | ⟨k, hk9, c, hi, hl, hk, hsz, hr⟩)⟩
      · have hn : ¬ R (w.heap.size + 1) := fun h => by have := hr _ h; omega
        exact ⟨none, _, by have := run_endLoop (P := P) hl (by rw [hrec]; simp); rw [hrec] at this; exact this, hdone _ R _ rfl hr (hI _ _ _ _ hi (Unt.putObj _ (by omega) hn)) ((World.putObj_heap_other (by omega)).trans hk)⟩
      · have hn : ¬ R (w.heap.size + 1) := fun h => by have := hr _ h; omega
        exact ⟨some c, _, by have := run_endLoop (P := P) hl (by rw [hrec]; simp); rw [hrec] at this; exact this, hstop _ c R k _ rfl hr hk9 (hIx c _ _ _ _ hi (Unt.putObj _ (by omega) hn)) ((World.putObj_heap_other (by omega)).trans hk)⟩
end
end Go.Proofs.Ytldiginkmmlojaa
