/- How often the clock went back, over entries whose times are 64 bits wide. -/
import Derived.Test.YtldiginkmmlojaaHiV
namespace Go.Proofs.Ytldiginkmmlojaa
set_option linter.unusedVariables false
set_option linter.unusedSimpArgs false
open Go.RowKit Go.Shelf Go.Proofs.YtldiginkmmlojaaW.PrintWords

/-- How often an entry's time is less than the one's before; the last time. -/
def stepU (s : Nat × Int) (x : RecU) : Nat × Int := (if x.1.real < s.2 then s.1 + 1 else s.1, x.1.real)
def backU (l : List RecU) : Nat × Int := l.foldl stepU (0, 0)
theorem backU_snoc (l : List RecU) (x : RecU) : backU (l ++ [x]) = stepU (backU l) x := by unfold backU; rw [List.foldl_append]; rfl
theorem backU_len : ∀ l : List RecU, (backU l).1 ≤ l.length := by
  have h : ∀ (l : List RecU) (s : Nat × Int), (l.foldl stepU s).1 ≤ s.1 + l.length := by
    intro l
    induction l with
    | nil => intro s; simp
    | cons p t ih =>
      intro s
      rw [List.foldl_cons, List.length_cons]
      have h1 := ih (stepU s p)
      have h2 : (stepU s p).1 ≤ s.1 + 1 := by unfold stepU; dsimp only; split <;> omega
      omega
  intro l
  unfold backU
  simpa using h l (0, 0)
section
attribute [local go_sem] Oper.semAt_some
set_option maxRecDepth 100000 in
set_option maxHeartbeats 2000000 in
theorem backU_in (F : Fence) (n : Nat) (h3 : F.fn 56) (h5 : F.fn 88) (hro : F.round = none) (hn : 3 ≤ n) (Bs : Nat) (sv : Value) (zs : List RecU) (hlen : zs.length ≤ 1000) (w : World) (hBs : Bs < w.heap.size) (hc : w.cell? ⟨Bs, 0, none⟩ = some sv) (hI : RecsU w.heap.size w sv zs) :
    CallsIn F n Try.prog 56 #[.func (.func 88) #[] #[.pointer (some ⟨Bs, 0, none⟩)]] w fun e W' => e = .returned (.int .i64 ((backU zs).1 : Int)) ∧ Below w.heap.size w W' := by
  have h1 : 1 ≤ n := by omega
  refine callsIn_of_wp_marks Try.func56 rfl h3 ?_ hro
  simp only [Try.ntmps56, List.size_toArray, List.length_cons, List.length_nil, Nat.reduceAdd, Nat.reduceSub, Array.replicate_succ, Array.replicate_zero, List.push_toArray, List.append_toArray, List.nil_append, List.cons_append]
  gi_wp2
  have bN := (Boxed.new w 3 (.int .i64 0)).alloc (.cells #[.int .u64 0] 37)
  have bL := Boxed.new (w.alloc (.cells #[.int .i64 0] 3)) 37 (.int .u64 0)
  simp only [World.size_alloc] at bL
  have hB0 : Below w.heap.size w ((w.alloc (.cells #[.int .i64 0] 3)).alloc (.cells #[.int .u64 0] 37)) := ((Below.refl _ w).alloc (Nat.le_refl _) _).alloc (by simp) _
  have hsz : ((w.alloc (.cells #[.int .i64 0] 3)).alloc (.cells #[.int .u64 0] 37)).heap.size = w.heap.size + 2 := by simp
  obtain ⟨W0, hW0⟩ : ∃ W0, (w.alloc (.cells #[.int .i64 0] 3)).alloc (.cells #[.int .u64 0] 37) = W0 := ⟨_, rfl⟩
  rw [hW0] at bN bL hB0 hsz ⊢
  clear hW0
  refine wpIn_rangeFunc_ownH hro h1 (gf := 88) (lb := #[.pointer (some ⟨Bs, 0, none⟩)]) rfl h5 (enters_of Try.func88 (by kernel_rfl) rfl)
    (ru_stops F (n - 1) h5 hro (by omega) Bs w.heap.size sv zs (by omega) W0 (by omega) (by omega) ((hB0.cell (p := ⟨Bs, 0, none⟩) hBs).trans hc) (hI.below hB0)) belowK_t (belowK_b (by omega)) (Below.refl _ _) (fun _ => rfl)
    (fun pre W => (Boxed W w.heap.size 3 (.int .i64 ((backU pre).1 : Int)) ∧ Boxed W (w.heap.size + 1) 37 (.int .u64 (backU pre).2)) ∧ Below w.heap.size w W)
    (fun _ _ _ => False)
    (OwnFrom.and (OwnFrom.and (Own.from (boxed_own _ _ _) _) (Own.from (boxed_own _ _ _) _)) (ownFrom_below (Nat.le_refl _) (by omega)))
    (fun _ _ _ _ _ hs _ _ => hs)
    ⟨⟨bN, bL⟩, hB0⟩
    (fun x a' W => ∃ Bx, w.heap.size + 1 < Bx ∧ W.heap[Bx]? = some (.cells #[.int .u64 x.1.seq, .int .u64 x.1.real, .int .u64 x.1.mono, .int .u64 x.1.boot, .slice x.1.A x.1.n x.1.c] 47 (0, 0)) ∧ a' = { tmps := #[.func (.func 88) #[] #[.pointer (some ⟨Bs, 0, none⟩)], undef, .int .i64 0, .pointer (some ⟨w.heap.size, 0, none⟩), .pointer (some ⟨w.heap.size + 1, 0, none⟩), .pointer (some ⟨Bx, 0, none⟩), .func (.func 88) #[] #[.pointer (some ⟨Bs, 0, none⟩)], x.1.v, undef, undef, undef, undef, undef, undef, undef, undef, undef], defers := [] })
    (fun x a' _ X Y row hs hg hr => by
      obtain ⟨Bx, h1, h2, h3⟩ := hs
      refine ⟨Bx, h1, (hg.block Bx (Array.getElem?_eq_some_iff.1 h2).1 (fun e' => ?_)).trans h2, h3⟩
      obtain ⟨o, ho, hc⟩ := (hr Bx e'.symm).2
      rw [h2] at ho; cases ho; cases hc)
    ?assign ?body ?done ?stop
  case assign =>
    rintro l pre x W K ⟨⟨bN1, bL1⟩, hB1⟩ hK
    simp only [RecV.v]
    gi_wp2
    exact hK _ _ ((KeepsOthers.alloc _ _).from _) ((Below.refl _ W).alloc hB1.size _) ⟨⟨bN1.alloc _, bL1.alloc _⟩, hB1.alloc hB1.size _⟩ ⟨W.heap.size, bL1.lt, World.alloc_heap_new W _, rfl⟩
  case body =>
    rintro l pre x a' W hl ⟨r, hr⟩ ⟨⟨bN1, bL1⟩, hB1⟩ ⟨Bx, hBx, bX, rfl⟩ hlt
    have HSZ := Aside0.mk hsz
    clear hsz
    have hS := Aside0.mk (backU_snoc pre x)
    have hlp := backU_len pre
    have hpl : pre.length ≤ 1000 := by omega
    obtain ⟨⟨k, la⟩, hs⟩ : ∃ s, s = backU pre := ⟨_, rfl⟩
    rw [← hs] at hS bN1 bL1 hlp
    clear hs
    dsimp only at bN1 bL1 hlp
    have c1 : W.cell? ⟨Bx, 1, none⟩ = some (.int .u64 x.1.real) := by simp [World.cell?, bX]
    have cN := bN1.cell
    have cL := bL1.cell
    have fN := bN1.frozen
    have fL := bL1.frozen
    have hn0 : Bx ≠ w.heap.size := by omega
    have hn1 : Bx ≠ w.heap.size + 1 := by omega
    have e1 : w.heap.size + 1 ≠ w.heap.size := by omega
    have hsW := hB1.size
    generalize hre : x.1.real = re at *
    have HRE := Aside0.mk hre
    clear hre
    by_cases hlt2 : re < la
    · have d1 : decide (re < la) = true := decide_eq_true hlt2
      have HST := Aside0.mk (show backU (pre ++ [x]) = (k + 1, re) by rw [hS.out]; unfold stepU; simp [HRE.out, hlt2])
      have b2 := bN1.set (.int .i64 ((k + 1 : Nat) : Int))
      have b3 := bL1.other (B' := w.heap.size) (by omega) (.int .i64 ((k + 1 : Nat) : Int))
      have b4 := b2.other (B' := w.heap.size + 1) (by omega) (.int .u64 re)
      have b5 := b3.set (.int .u64 re)
      have hbn := ((Below.refl w.heap.size W).setCell (p := ⟨w.heap.size, 0, none⟩) (Nat.le_refl _) (.int .i64 ((k + 1 : Nat) : Int))).setCell (p := ⟨w.heap.size + 1, 0, none⟩) (by simp) (.int .u64 re)
      have HEND := Aside0.mk (show KeepsFrom W0.heap.size W ((W.setCell ⟨w.heap.size, 0, none⟩ (.int .i64 ((k + 1 : Nat) : Int))).setCell ⟨w.heap.size + 1, 0, none⟩ (.int .u64 re)) ∧ Below w.heap.size W ((W.setCell ⟨w.heap.size, 0, none⟩ (.int .i64 ((k + 1 : Nat) : Int))).setCell ⟨w.heap.size + 1, 0, none⟩ (.int .u64 re)) ∧ ((Boxed ((W.setCell ⟨w.heap.size, 0, none⟩ (.int .i64 ((k + 1 : Nat) : Int))).setCell ⟨w.heap.size + 1, 0, none⟩ (.int .u64 re)) w.heap.size 3 (.int .i64 ((backU (pre ++ [x])).1 : Int)) ∧ Boxed ((W.setCell ⟨w.heap.size, 0, none⟩ (.int .i64 ((k + 1 : Nat) : Int))).setCell ⟨w.heap.size + 1, 0, none⟩ (.int .u64 re)) (w.heap.size + 1) 37 (.int .u64 (backU (pre ++ [x])).2)) ∧ Below w.heap.size w ((W.setCell ⟨w.heap.size, 0, none⟩ (.int .i64 ((k + 1 : Nat) : Int))).setCell ⟨w.heap.size + 1, 0, none⟩ (.int .u64 re))) by
        rw [HST.out]
        exact ⟨((KeepsOthers.setCell _ _ _).trans (KeepsOthers.setCell _ _ _)).from _, hbn, ⟨b4, b5⟩, hB1.trans hbn⟩)
      clear b2 b3 b4 b5 hbn
      gi_wp2_with fail
      exact HEND.out
    · have d1 : decide (re < la) = false := decide_eq_false hlt2
      have HST := Aside0.mk (show backU (pre ++ [x]) = (k, re) by rw [hS.out]; unfold stepU; simp [HRE.out, hlt2])
      have hbn := (Below.refl w.heap.size W).setCell (p := ⟨w.heap.size + 1, 0, none⟩) (by simp) (.int .u64 re)
      have HEND := Aside0.mk (show KeepsFrom W0.heap.size W (W.setCell ⟨w.heap.size + 1, 0, none⟩ (.int .u64 re)) ∧ Below w.heap.size W (W.setCell ⟨w.heap.size + 1, 0, none⟩ (.int .u64 re)) ∧ ((Boxed (W.setCell ⟨w.heap.size + 1, 0, none⟩ (.int .u64 re)) w.heap.size 3 (.int .i64 ((backU (pre ++ [x])).1 : Int)) ∧ Boxed (W.setCell ⟨w.heap.size + 1, 0, none⟩ (.int .u64 re)) (w.heap.size + 1) 37 (.int .u64 (backU (pre ++ [x])).2)) ∧ Below w.heap.size w (W.setCell ⟨w.heap.size + 1, 0, none⟩ (.int .u64 re))) by
        rw [HST.out]
        exact ⟨(KeepsOthers.setCell _ _ _).from _, hbn, ⟨bN1.other (by omega) _, bL1.set _⟩, hB1.trans hbn⟩)
      clear hbn
      gi_wp2_with fail
      exact HEND.out
  case done =>
    rintro D ys W hD rfl ⟨⟨bN1, bL1⟩, hB1⟩ hK
    have hc := bN1.cell
    gi_wp2
    refine ⟨by simp, .inl ⟨_, _, rfl, run_takeDeferred hK, ?_⟩⟩
    exact ⟨_, results_tmp rfl _ _ _, rfl, hB1.trans (belowK_b (w := w) (Nat.le_refl _) W D _ _ (by omega) hK rfl rfl)⟩
  case stop =>
    rintro D c pre W _ _ h _
    exact h.elim
theorem backU_any (Bs : Nat) (sv : Value) (zs : List RecU) (hlen : zs.length ≤ 1000) (w : World) (hBs : Bs < w.heap.size) (hc : w.cell? ⟨Bs, 0, none⟩ = some sv) (hI : RecsU w.heap.size w sv zs) :
    Calls Try.prog 56 #[.func (.func 88) #[] #[.pointer (some ⟨Bs, 0, none⟩)]] w fun e W' => e = .returned (.int .i64 ((backU zs).1 : Int)) ∧ Below w.heap.size w W' :=
  (callsIn_wide (n := 3)).1 (backU_in Fence.wide 3 trivial trivial rfl (by omega) Bs sv zs hlen w hBs hc hI)
end
theorem backU_is (zu : List RecU) (zs : List RecW) (h : zu.map (fun x => x.1.real) = zs.map (fun x => x.1.real)) : backU zu = backF zs := by
  have g : ∀ (zu : List RecU) (zs : List RecW) (s : Nat × Int), zu.map (fun x => x.1.real) = zs.map (fun x => x.1.real) → zu.foldl stepU s = zs.foldl stepK s := by
    intro zu
    induction zu with
    | nil =>
      intro zs s h
      cases zs with
      | nil => rfl
      | cons z t => cases h
    | cons x t ih =>
      intro zs s h
      cases zs with
      | nil => cases h
      | cons z t' =>
        rw [List.map_cons, List.map_cons] at h
        injection h with h1 h2
        rw [List.foldl_cons, List.foldl_cons, ← ih t' (stepK s z) h2]
        congr 1
        unfold stepU stepK
        rw [h1]
  exact g zu zs (0, 0) h
end Go.Proofs.Ytldiginkmmlojaa
