/- How often the clock went back. -/
import Derived.Test.YtldiginkmmlojaaBoH
import Derived.Test.YtldiginkmmlojaaHiP
namespace Go.Proofs.Ytldiginkmmlojaa
set_option linter.unusedVariables false
set_option linter.unusedSimpArgs false
open Go.RowKit Go.Shelf Go.Proofs.YtldiginkmmlojaaW.PrintWords

/-- How often an entry's time is less than the one's before; the last time. -/
def stepK (s : Nat × Int) (x : RecW) : Nat × Int := (if x.1.real < s.2 then s.1 + 1 else s.1, x.1.real)
def backF (l : List RecW) : Nat × Int := l.foldl stepK (0, 0)
theorem backF_snoc (l : List RecW) (x : RecW) : backF (l ++ [x]) = stepK (backF l) x := by unfold backF; rw [List.foldl_append]; rfl
theorem backF_len : ∀ l : List RecW, (backF l).1 ≤ l.length := by
  have h : ∀ (l : List RecW) (s : Nat × Int), (l.foldl stepK s).1 ≤ s.1 + l.length := by
    intro l
    induction l with
    | nil => intro s; simp
    | cons p t ih =>
      intro s
      rw [List.foldl_cons, List.length_cons]
      have h1 := ih (stepK s p)
      have h2 : (stepK s p).1 ≤ s.1 + 1 := by unfold stepK; dsimp only; split <;> omega
      omega
  intro l
  unfold backF
  simpa using h l (0, 0)
section
attribute [local go_sem] Oper.semAt_some
set_option maxRecDepth 100000 in
set_option maxHeartbeats 2000000 in
theorem back_in (F : Fence) (n : Nat) (h3 : F.fn 56) (h5 : F.fn 88) (hro : F.round = none) (hn : 3 ≤ n) (Bs : Nat) (sv : Value) (zs : List RecW) (hlen : zs.length ≤ 1000) (w : World) (hBs : Bs < w.heap.size) (hc : w.cell? ⟨Bs, 0, none⟩ = some sv) (hI : Recs w.heap.size w sv zs) :
    CallsIn F n Try.prog 56 #[.func (.func 88) #[] #[.pointer (some ⟨Bs, 0, none⟩)]] w fun e W' => e = .returned (.int .i64 ((backF zs).1 : Int)) ∧ Below w.heap.size w W' := by
  have h1 : 1 ≤ n := by omega
  refine callsIn_of_wp_marks Try.func56 rfl h3 ?_ hro
  simp only [Try.ntmps56, List.size_toArray, List.length_cons, List.length_nil, Nat.reduceAdd, Nat.reduceSub, Array.replicate_succ, Array.replicate_zero, List.push_toArray, List.append_toArray, List.nil_append, List.cons_append]
  gi_wp2
  have bN := (Boxed.new w 3 (.int .i64 0)).alloc (.cells #[.int .u64 0] 37)
  have bL := Boxed.new (w.alloc (.cells #[.int .i64 0] 3)) 37 (.int .u64 0)
  simp only [World.size_alloc] at bL
  have hB0 : Below w.heap.size w ((w.alloc (.cells #[.int .i64 0] 3)).alloc (.cells #[.int .u64 0] 37)) := ((Below.refl _ w).alloc (Nat.le_refl _) _).alloc (by simp) _
  have hsz : ((w.alloc (.cells #[.int .i64 0] 3)).alloc (.cells #[.int .u64 0] 37)).heap.size = w.heap.size + 2 := by simp
  obtain ⟨W0, hW0⟩ : ∃ W0, (w.alloc (.cells #[.int .i64 0] 3)).alloc (.cells #[.int .u64 0] 37) = W0 := ⟨_, rfl⟩
  rw [hW0] at bN bL hB0 hsz ⊢
  clear hW0
  refine wpIn_rangeFunc_ownH hro h1 (gf := 88) (lb := #[.pointer (some ⟨Bs, 0, none⟩)]) rfl h5 (enters_of Try.func88 (by kernel_rfl) rfl)
    (rvalues_stops F (n - 1) h5 hro (by omega) Bs w.heap.size sv zs (by omega) W0 (by omega) (by omega) ((hB0.cell (p := ⟨Bs, 0, none⟩) hBs).trans hc) (hI.below hB0)) belowK_t (belowK_b (by omega)) (Below.refl _ _) (fun _ => rfl)
    (fun pre W => (Boxed W w.heap.size 3 (.int .i64 ((backF pre).1 : Int)) ∧ Boxed W (w.heap.size + 1) 37 (.int .u64 (backF pre).2)) ∧ Below w.heap.size w W)
    (fun _ _ _ => False)
    (OwnFrom.and (OwnFrom.and (Own.from (boxed_own _ _ _) _) (Own.from (boxed_own _ _ _) _)) (ownFrom_below (Nat.le_refl _) (by omega)))
    (fun _ _ _ _ _ hs _ _ => hs)
    ⟨⟨bN, bL⟩, hB0⟩
    (fun x a' W => ∃ Bx, w.heap.size + 1 < Bx ∧ W.heap[Bx]? = some (.cells #[.int .u64 x.1.seq, .int .u64 x.1.real, .int .u64 x.1.mono, .int .u64 x.1.boot, .slice x.1.A x.1.n x.1.c] 47 (0, 0)) ∧ a' = { tmps := #[.func (.func 88) #[] #[.pointer (some ⟨Bs, 0, none⟩)], undef, .int .i64 0, .pointer (some ⟨w.heap.size, 0, none⟩), .pointer (some ⟨w.heap.size + 1, 0, none⟩), .pointer (some ⟨Bx, 0, none⟩), .func (.func 88) #[] #[.pointer (some ⟨Bs, 0, none⟩)], x.1.v, undef, undef, undef, undef, undef, undef, undef, undef, undef], defers := [] })
    (fun x a' _ X Y row hs hg hr => by
      obtain ⟨Bx, h1, h2, h3⟩ := hs
      refine ⟨Bx, h1, (hg.block Bx (Array.getElem?_eq_some_iff.1 h2).1 (fun e' => ?_)).trans h2, h3⟩
      obtain ⟨o, ho, hc⟩ := (hr Bx e'.symm).2
      rw [h2] at ho; cases ho; cases hc)
    ?assign ?body ?done ?stop
  case assign =>
    rintro l pre x W K ⟨⟨bN1, bL1⟩, hB1⟩ hK
    simp only [RecV.v]
    gi_wp2
    exact hK _ _ ((KeepsOthers.alloc _ _).from _) ((Below.refl _ W).alloc hB1.size _) ⟨⟨bN1.alloc _, bL1.alloc _⟩, hB1.alloc hB1.size _⟩ ⟨W.heap.size, bL1.lt, World.alloc_heap_new W _, rfl⟩
  case body =>
    rintro l pre x a' W hl ⟨r, hr⟩ ⟨⟨bN1, bL1⟩, hB1⟩ ⟨Bx, hBx, bX, rfl⟩ hlt
    have HSZ := Aside0.mk hsz
    clear hsz
    have hS := Aside0.mk (backF_snoc pre x)
    have hlp := backF_len pre
    have hpl : pre.length ≤ 1000 := by omega
    obtain ⟨⟨k, la⟩, hs⟩ : ∃ s, s = backF pre := ⟨_, rfl⟩
    rw [← hs] at hS bN1 bL1 hlp
    clear hs
    dsimp only at bN1 bL1 hlp
    have c1 : W.cell? ⟨Bx, 1, none⟩ = some (.int .u64 x.1.real) := by simp [World.cell?, bX]
    have cN := bN1.cell
    have cL := bL1.cell
    have fN := bN1.frozen
    have fL := bL1.frozen
    have hn0 : Bx ≠ w.heap.size := by omega
    have hn1 : Bx ≠ w.heap.size + 1 := by omega
    have e1 : w.heap.size + 1 ≠ w.heap.size := by omega
    have hsW := hB1.size
    generalize hre : x.1.real = re at *
    have HRE := Aside0.mk hre
    clear hre
    by_cases hlt2 : re < la
    · have d1 : decide (re < la) = true := decide_eq_true hlt2
      have HST := Aside0.mk (show backF (pre ++ [x]) = (k + 1, re) by rw [hS.out]; unfold stepK; simp [HRE.out, hlt2])
      have b2 := bN1.set (.int .i64 ((k + 1 : Nat) : Int))
      have b3 := bL1.other (B' := w.heap.size) (by omega) (.int .i64 ((k + 1 : Nat) : Int))
      have b4 := b2.other (B' := w.heap.size + 1) (by omega) (.int .u64 re)
      have b5 := b3.set (.int .u64 re)
      have hbn := ((Below.refl w.heap.size W).setCell (p := ⟨w.heap.size, 0, none⟩) (Nat.le_refl _) (.int .i64 ((k + 1 : Nat) : Int))).setCell (p := ⟨w.heap.size + 1, 0, none⟩) (by simp) (.int .u64 re)
      have HEND := Aside0.mk (show KeepsFrom W0.heap.size W ((W.setCell ⟨w.heap.size, 0, none⟩ (.int .i64 ((k + 1 : Nat) : Int))).setCell ⟨w.heap.size + 1, 0, none⟩ (.int .u64 re)) ∧ Below w.heap.size W ((W.setCell ⟨w.heap.size, 0, none⟩ (.int .i64 ((k + 1 : Nat) : Int))).setCell ⟨w.heap.size + 1, 0, none⟩ (.int .u64 re)) ∧ ((Boxed ((W.setCell ⟨w.heap.size, 0, none⟩ (.int .i64 ((k + 1 : Nat) : Int))).setCell ⟨w.heap.size + 1, 0, none⟩ (.int .u64 re)) w.heap.size 3 (.int .i64 ((backF (pre ++ [x])).1 : Int)) ∧ Boxed ((W.setCell ⟨w.heap.size, 0, none⟩ (.int .i64 ((k + 1 : Nat) : Int))).setCell ⟨w.heap.size + 1, 0, none⟩ (.int .u64 re)) (w.heap.size + 1) 37 (.int .u64 (backF (pre ++ [x])).2)) ∧ Below w.heap.size w ((W.setCell ⟨w.heap.size, 0, none⟩ (.int .i64 ((k + 1 : Nat) : Int))).setCell ⟨w.heap.size + 1, 0, none⟩ (.int .u64 re))) by
        rw [HST.out]
        exact ⟨((KeepsOthers.setCell _ _ _).trans (KeepsOthers.setCell _ _ _)).from _, hbn, ⟨b4, b5⟩, hB1.trans hbn⟩)
      clear b2 b3 b4 b5 hbn
      gi_wp2_with fail
      exact HEND.out
    · have d1 : decide (re < la) = false := decide_eq_false hlt2
      have HST := Aside0.mk (show backF (pre ++ [x]) = (k, re) by rw [hS.out]; unfold stepK; simp [HRE.out, hlt2])
      have hbn := (Below.refl w.heap.size W).setCell (p := ⟨w.heap.size + 1, 0, none⟩) (by simp) (.int .u64 re)
      have HEND := Aside0.mk (show KeepsFrom W0.heap.size W (W.setCell ⟨w.heap.size + 1, 0, none⟩ (.int .u64 re)) ∧ Below w.heap.size W (W.setCell ⟨w.heap.size + 1, 0, none⟩ (.int .u64 re)) ∧ ((Boxed (W.setCell ⟨w.heap.size + 1, 0, none⟩ (.int .u64 re)) w.heap.size 3 (.int .i64 ((backF (pre ++ [x])).1 : Int)) ∧ Boxed (W.setCell ⟨w.heap.size + 1, 0, none⟩ (.int .u64 re)) (w.heap.size + 1) 37 (.int .u64 (backF (pre ++ [x])).2)) ∧ Below w.heap.size w (W.setCell ⟨w.heap.size + 1, 0, none⟩ (.int .u64 re))) by
        rw [HST.out]
        exact ⟨(KeepsOthers.setCell _ _ _).from _, hbn, ⟨bN1.other (by omega) _, bL1.set _⟩, hB1.trans hbn⟩)
      clear hbn
      gi_wp2_with fail
      exact HEND.out
  case done =>
    rintro D ys W hD rfl ⟨⟨bN1, bL1⟩, hB1⟩ hK
    have hc := bN1.cell
    gi_wp2
    refine ⟨by simp, .inl ⟨_, _, rfl, run_takeDeferred hK, ?_⟩⟩
    exact ⟨_, results_tmp rfl _ _ _, rfl, hB1.trans (belowK_b (w := w) (Nat.le_refl _) W D _ _ (by omega) hK rfl rfl)⟩
  case stop =>
    rintro D c pre W _ _ h _
    exact h.elim
theorem back_any (Bs : Nat) (sv : Value) (zs : List RecW) (hlen : zs.length ≤ 1000) (w : World) (hBs : Bs < w.heap.size) (hc : w.cell? ⟨Bs, 0, none⟩ = some sv) (hI : Recs w.heap.size w sv zs) :
    Calls Try.prog 56 #[.func (.func 88) #[] #[.pointer (some ⟨Bs, 0, none⟩)]] w fun e W' => e = .returned (.int .i64 ((backF zs).1 : Int)) ∧ Below w.heap.size w W' :=
  (callsIn_wide (n := 3)).1 (back_in Fence.wide 3 trivial trivial rfl (by omega) Bs sv zs hlen w hBs hc hI)
end
set_option maxHeartbeats 1000000 in
set_option maxRecDepth 100000 in
theorem rback_any (A : Option Addr) (c : Nat) (zs : List RecW) (w : World) (hr : Kd.C kRec w A zs.length zs) (hn : zs.length ≤ 1000) (hre : ∀ x ∈ zs, 0 ≤ x.1.real) : Calls Try.prog 57 #[.slice A zs.length c] w fun e w' => e = .returned (.int .i64 ((backF zs).1 : Int)) ∧ Below w.heap.size w w' := by
  have HR := Aside0.mk hr
  have HS := Aside0.mk (show ∀ i, i + 1 < zs.length → backF (zs.take (i + 1 + 1)) = stepK (backF (zs.take (i + 1))) (zs.getD (i + 1) zRecW) ∧ (backF (zs.take (i + 1))).2 = (zs.getD i zRecW).1.real from fun i hi => ⟨by rw [take_one zs hi, backF_snoc], by rw [take_one zs (by omega), backF_snoc]; rfl⟩)
  have HL := Aside0.mk (fun i => backF_len (zs.take i))
  have H0 := Aside0.mk (show (backF (zs.take 1)).1 = 0 by
    cases zs with
    | nil => rfl
    | cons z t =>
      show (backF [z]).1 = 0
      unfold backF
      show (stepK (0, 0) z).1 = 0
      unfold stepK
      have := hre z (List.mem_cons_self ..)
      rw [if_neg (by show ¬ z.1.real < 0; omega)])
  clear hr hre
  go_enter Try.func57, Try.ntmps57
  go_wp2
  go_loopg [3, 4] zs.length (fun g v3 v4 wr => ∃ (i m : Nat), v3 = .int .i64 (m : Int) ∧ v4 = .int .i64 ((i + 1 : Nat) : Int) ∧ (i + 1 ≤ zs.length ∨ i = 0) ∧ m ≤ i ∧ Aside0 (m = (backF (zs.take (i + 1))).1) ∧ Aside0 (g = zs.length - i) ∧ Aside0 (Below w.heap.size w wr))
  case atStart => exact ⟨0, 0, rfl, rfl, .inr rfl, Nat.le_refl _, ⟨H0.out.symm⟩, ⟨rfl⟩, ⟨Below.refl _ _⟩⟩
  case round =>
    obtain ⟨i, m, rfl, rfl, hi, hm, HM, hg, HB⟩ := hrel
    by_cases hlt : i + 1 < zs.length
    · obtain ⟨ad, rfl, _, s0, _⟩ := at_Rec (Kd.C_below HR.out HB.out) i (by omega)
      obtain ⟨ad', e', _, s1, _⟩ := at_Rec (Kd.C_below HR.out HB.out) (i + 1) hlt
      obtain rfl : ad = ad' := by injection e'
      clear e'
      obtain ⟨h1, h2⟩ := HS.out i hlt
      obtain ⟨a, ha⟩ : ∃ a, a = (zs.getD i zRecW).1.real := ⟨_, rfl⟩
      obtain ⟨b, hb⟩ : ∃ b, b = (zs.getD (i + 1) zRecW).1.real := ⟨_, rfl⟩
      rw [← ha] at s0 h2
      rw [← hb] at s1
      have HST := Aside0.mk (show (backF (zs.take (i + 1 + 1))).1 = if b < a then m + 1 else m by rw [h1, HM.out]; unfold stepK; rw [h2, ← hb])
      clear ha hb h1 h2
      by_cases he : b < a
      · have hd : decide (b < a) = true := decide_eq_true he
        have HE := Aside0.mk he
        clear he
        go_wp2
        go_quiet (fail)
        go_wp2_with fail
        go_roundg (zs.length - (i + 1))
        case measure => have := hg.out; omega
        case rel => exact ⟨i + 1, m + 1, by go_num, by go_num, .inl (by omega), by omega, ⟨by have h9 := HE.out; rw [HST.out, if_pos (by omega)]⟩, ⟨rfl⟩, ⟨pw_below_drewN HB.out _⟩⟩
      · have hd : decide (b < a) = false := decide_eq_false he
        have HE := Aside0.mk he
        clear he
        go_wp2
        go_quiet (fail)
        go_wp2_with fail
        go_roundg (zs.length - (i + 1))
        case measure => have := hg.out; omega
        case rel => exact ⟨i + 1, m, rfl, by go_num, .inl (by omega), by omega, ⟨by have h9 := HE.out; rw [HST.out, if_neg (by omega)]⟩, ⟨rfl⟩, ⟨pw_below_drewN HB.out _⟩⟩
    · have HF := Aside0.mk (show (m : Int) = ((backF zs).1 : Int) by rw [HM.out, List.take_of_length_le (by omega)])
      clear HM
      go_wp2_with fail
      go_ret
      exact ⟨congrArg Ending.returned (congrArg (Value.int IntKind.i64) HF.out), HB.out⟩
end Go.Proofs.Ytldiginkmmlojaa
