/- The walk of the law StreamCuts: what holds in its loop. -/
import Derived.Test.YtldiginkmmlojaaSmG
import Derived.Test.YtldiginkmmlojaaOpen
import Derived.OpenShut
namespace Go.Proofs.Ytldiginkmmlojaa
set_option linter.unusedVariables false
open Go.RowKit Go.Proofs.YtldiginkmmlojaaW.PrintWords
attribute [local go_sem] mx2 mn2 mxTwo mnTwo

theorem opens_t79 : Opens Try.prog 79 (Kd.slice 82 (Kd.slice 5 (Kd.int .u8))) (fun xs => ∀ x ∈ xs, ∀ y ∈ x, (Lit.int .u8 y).wf = true) := opens_slice Try.underlying79 (by kernel_rfl) (opens_slice Try.underlying82 (by kernel_rfl) (opens_int Try.underlying5))
theorem fold_out (mo : Int) (l : List Int) : ∀ (r : List Int) (o : List Ln), l.foldl (stepW mo) (r, o) = ((writeL mo r l).1, o ++ (writeL mo r l).2) := by
  induction l with
  | nil => intro r o; simp [writeL]
  | cons c t ih =>
    intro r o
    have key : ∀ o, stepW mo (r, o) c = ((stepW mo (r, []) c).1, o ++ (stepW mo (r, []) c).2) := by
      intro o
      unfold stepW
      split
      · simp
      · split
        · simp
        · split <;> simp
    unfold writeL
    rw [List.foldl_cons, List.foldl_cons, key o]
    obtain ⟨r1, o1⟩ := stepW mo (r, []) c
    rw [ih r1 (o ++ o1), ih r1 o1]
    simp
theorem writeL_append (mo : Int) (r a b : List Int) : writeL mo r (a ++ b) = ((writeL mo (writeL mo r a).1 b).1, (writeL mo r a).2 ++ (writeL mo (writeL mo r a).1 b).2) := by
  conv => lhs; unfold writeL
  rw [List.foldl_append]
  exact fold_out mo b (writeL mo r a).1 (writeL mo r a).2
theorem at_part {w : World} {A : Option Addr} {n : Nat} {xs : List (List Int)} (h : Kd.C (Kd.slice 5 (Kd.int .u8)) w A n xs) (i : Nat) (h1 : i < n) : ∃ ad A2 c2, A = some ad ∧ w.cell? (ad.add i) = some (.slice A2 (xs.getD i []).length c2) ∧ (xs.getD i []).length ≤ c2 ∧ Kd.C (Kd.int .u8) w A2 (xs.getD i []).length (xs.getD i []) := by
  obtain ⟨ad, c, e, _, hK, hc0⟩ := Kd.C_get h [] (i : Int) (by omega) (by omega)
  simp only [Int.toNat_natCast] at hK hc0
  obtain ⟨A2, c2, rfl, hl, hC⟩ := hK
  exact ⟨ad, A2, c2, e, by have := hc0 0 _ rfl; rwa [show i * (Kd.slice 5 (Kd.int .u8)).sz + 0 = i from Nat.mul_one i] at this, hl, hC⟩

/-- A row of numbers: whose block it is not is said anew. -/
theorem R_reok {ki : IntKind} {e : Nat} {w : World} {base : Nat} {ok ok' : Nat → Prop} {v : Value} {xs : List Int} (h : Kd.R (Kd.int ki) e w base ok v xs) (h' : ∀ k, v.ownBlock = some k → ok' k) : Kd.R (Kd.int ki) e w base ok' v xs := ⟨h', h.2⟩
theorem R_row {α : Type} {d : Kd α} {e : Nat} {w w1 : World} {base : Nat} {ok : Nat → Prop} {v : Value} {xs : List α} {g : Nat} {row : Option Nat} (h : d.R e w base ok v xs) (hk : KeepBut w w1 g row) (h1 : ∀ k, ok k → k ≠ g ∧ some k ≠ row) : d.R e w1 base ok v xs := Kd.R_step h (fun k ho hlt => hk.2 k hlt (h1 k ho).1 (h1 k ho).2)
theorem R_lt {α : Type} {d : Kd α} {e : Nat} {w : World} {base : Nat} {ok : Nat → Prop} {v : Value} {xs : List α} (h : d.R e w base ok v xs) : ∀ k, v.ownBlock = some k → k < w.heap.size := fun k hk => ((Kd.R_bound h).1 k hk).2.2.1

structure CI (w : World) (g : Nat) (mo : Int) (W : World) (vr va vg : Value) (r all : List Int) (got : List Ln) : Prop where
  hb : W.heap[g]? = some (.cells #[vr, .int .i64 mo, .bool false] 130 (0, 0))
  hr : Kd.R (Kd.int .u8) 5 W w.heap.size (fun k => k ≠ g) vr r
  ha : Kd.R (Kd.int .u8) 5 W w.heap.size (fun _ => True) va all
  hg : Kd.R kLn 59 W w.heap.size (fun _ => True) vg got
  hs : ∀ k, va.ownBlock = some k → vr.ownBlock ≠ some k
  hl : Below w.heap.size w W
  hw : w.heap.size ≤ g
theorem kLnE5 : ∀ q, q ∈ 59 :: kLn.E → q ≠ 5 := by
  intro q hq
  have : kLn.E = [] := rfl
  rw [this] at hq
  simp at hq
  omega
theorem intE (t : Nat) (ht : 5 ≠ t) : ∀ q, q ∈ 5 :: (Kd.int .u8).E → q ≠ t := by
  intro q hq
  have : (Kd.int .u8).E = [] := rfl
  rw [this] at hq
  simp at hq
  omega
section
variable {w W w1 : World} {g : Nat} {mo : Int} {vr va vg vr' vo v1 : Value} {r all r' : List Int} {got out : List Ln}
theorem CI.write (h : CI w g mo W vr va vg r all got) (hw : WI W w.heap.size g vr mo w1 vr' vo r' out) : CI w g mo w1 vr' va vg r' all got := by
  have ha1 := R_row (R_reok h.ha (ok' := fun k => k ≠ g ∧ some k ≠ vr.ownBlock) (fun k hk => ⟨fun e => by subst e; exact Kd.R_ne h.ha h.hb (by omega) hk.symm, fun e => h.hs k hk e.symm⟩)) hw.hk (fun k hk => hk)
  have hg1 := R_row (Kd.R_mono (ok' := fun k => k ≠ g ∧ some k ≠ vr.ownBlock) (Kd.R_types (Kd.R_apartR h.hg h.hr kLnE5) h.hb kLnE) (fun k hk => ⟨hk.2, hk.1.2⟩)) hw.hk (fun k hk => hk)
  refine ⟨hw.hb, hw.hr, R_reok ha1 (fun _ _ => trivial), Kd.R_mono hg1 (fun _ _ => trivial), fun k hk e => ?_, h.hl.trans hw.hl, h.hw⟩
  rcases hw.hv with e2 | e2 | ⟨k2, e2, hk2⟩
  · exact h.hs k hk (e2.symm.trans e)
  · rw [e2] at e; cases e
  · rw [e2] at e
    cases e
    have := R_lt h.ha k hk
    omega
theorem CI.lines (h : CI w g mo W vr va vg r all got) (hg1 : Kd.R kLn 59 w1 w.heap.size (fun _ => True) v1 (got ++ out)) (hbl : Below w.heap.size w w1) (hgr : W.grownBy w1 vg.ownBlock) : CI w g mo w1 vr va v1 r all (got ++ out) :=
  ⟨blk_grown h.hb hgr (Kd.R_ne h.hg h.hb (by omega)), Kd.R_mono (Kd.R_grown (Kd.R_apartR h.hr h.hg (intE _ (by omega))) hgr (fun k hk => hk.2)) (fun k hk => hk.1), Kd.R_mono (Kd.R_grown (Kd.R_apartR h.ha h.hg (intE _ (by omega))) hgr (fun k hk => hk.2)) (fun _ _ => trivial), hg1, h.hs, hbl, h.hw⟩
theorem CI.bytes (h : CI w g mo W vr va vg r all got) {p : List Int} (ha1 : Kd.R (Kd.int .u8) 5 w1 w.heap.size (fun _ => True) v1 (all ++ p)) (hbl : Below w.heap.size w w1) (hgr : W.grownBy w1 va.ownBlock) (hat : v1.ownBlock = va.ownBlock ∨ ∃ b, v1.ownBlock = some b ∧ W.heap.size ≤ b) : CI w g mo w1 vr v1 vg r (all ++ p) got := by
  refine ⟨blk_grown h.hb hgr (Kd.R_ne h.ha h.hb (by omega)), ?_, ha1, Kd.R_mono (Kd.R_grown (Kd.R_apartR h.hg h.ha kLnE5) hgr (fun k hk => hk.2)) (fun _ _ => trivial), fun k hk e => ?_, hbl, h.hw⟩
  · have h1 := Kd.R_grown (R_reok h.hr (ok' := fun k => k ≠ g ∧ some k ≠ va.ownBlock) (fun k hk => ⟨h.hr.1 k hk, fun e => h.hs k e.symm hk⟩)) hgr (fun k hk => hk.2)
    exact R_reok h1 (fun k hk => (h1.1 k hk).1)
  · rcases hat with e2 | ⟨b, e2, hb⟩
    · exact h.hs k (e2.symm.trans hk) e
    · rw [e2] at hk
      cases hk
      have := R_lt h.hr k e
      omega
theorem CI.below (h : CI w g mo W vr va vg r all got) (hb : Below W.heap.size W w1) : CI w g mo w1 vr va vg r all got :=
  ⟨blk_below h.hb hb, Kd.R_below h.hr hb, Kd.R_below h.ha hb, Kd.R_below h.hg hb, h.hs, below_step h.hl hb, h.hw⟩
end
end Go.Proofs.Ytldiginkmmlojaa
