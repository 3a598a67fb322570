/- The walk of the law StatsBoots: it answers true. -/
import Derived.Test.YtldiginkmmlojaaBoG
namespace Go.Proofs.Ytldiginkmmlojaa
set_option linter.unusedVariables false
open Go.RowKit Go.Shelf Go.Proofs.YtldiginkmmlojaaW.PrintWords
attribute [local go_sem] mx2 mn2 mxTwo mnTwo

def recN (n : Int) (h : (Lit.int .u64 n).wf = true) : RecW := ⟨⟨n, 0, 0, 0, none, 0, 0⟩, h, (by decide : (Lit.int .u64 0).wf = true)⟩
def ex41 : List RecW := [recN 1 (by decide), recN 2 (by decide), recN 5 (by decide)]
theorem ex41_gaps : (gapsF ex41).1 = [2] := by
  have h1 : IntKind.u64.wrap 1 = 1 := wrapU (by decide) (by decide)
  have h3 : IntKind.u64.wrap 3 = 3 := wrapU (by decide) (by decide)
  simp [gapsF, ex41, stepG, recN, h1, h3]
theorem ex41_recs (w : World) (o : Obj) (n : Nat) (hn : w.heap.size < n) : Recs n ((w.alloc (.cells #[.int .u64 1, .int .u64 0, .int .u64 0, .int .u64 0, .slice none 0 0, .int .u64 2, .int .u64 0, .int .u64 0, .int .u64 0, .slice none 0 0, .int .u64 5, .int .u64 0, .int .u64 0, .int .u64 0, .slice none 0 0] 47)).alloc o) (.slice (some ⟨w.heap.size, 0, none⟩) 3 3) ex41 := by
  have hb := blk_alloc (blk_new w (.cells #[.int .u64 1, .int .u64 0, .int .u64 0, .int .u64 0, .slice none 0 0, .int .u64 2, .int .u64 0, .int .u64 0, .int .u64 0, .slice none 0 0, .int .u64 5, .int .u64 0, .int .u64 0, .int .u64 0, .slice none 0 0] 47)) o
  refine .inr ⟨w.heap.size, 0, 3, rfl, hn, fun j hj => ?_⟩
  match j, hj with
  | 0, _ => exact ⟨(blk_cell hb 0).trans rfl, (blk_cell hb 1).trans rfl, (blk_cell hb 2).trans rfl, (blk_cell hb 3).trans rfl, (blk_cell hb 4).trans rfl⟩
  | 1, _ => exact ⟨(blk_cell hb 5).trans rfl, (blk_cell hb 6).trans rfl, (blk_cell hb 7).trans rfl, (blk_cell hb 8).trans rfl, (blk_cell hb 9).trans rfl⟩
  | 2, _ => exact ⟨(blk_cell hb 10).trans rfl, (blk_cell hb 11).trans rfl, (blk_cell hb 12).trans rfl, (blk_cell hb 13).trans rfl, (blk_cell hb 14).trans rfl⟩
set_option maxRecDepth 100000 in
set_option maxHeartbeats 1000000 in
theorem awake41_any (w : World) : Calls Try.prog 14 #[] w fun e w' => e = .returned (.bool true) ∧ Below w.heap.size w w' := by
  have HX := Aside0.mk (fun o n hn => ex41_recs w o n hn)
  have HB1 := Aside0.mk (below_alloc (Below.refl w.heap.size w) (.cells #[.int .u64 1, .int .u64 0, .int .u64 0, .int .u64 0, .slice none 0 0, .int .u64 2, .int .u64 0, .int .u64 0, .int .u64 0, .slice none 0 0, .int .u64 5, .int .u64 0, .int .u64 0, .int .u64 0, .slice none 0 0] 47))
  go_enter Try.func14, Try.ntmps14
  go_wp2_with (first
    | (go_at_call 17; refine (rseq_any _ _ _ _).mono ?_; rintro e w1 ⟨rfl, rfl⟩)
    | (go_at_call 20; refine (gaps_any (w.heap.size + 1) (.slice (some ⟨w.heap.size, 0, none⟩) 3 3) ex41 (by decide) _ (by simp) (by simp) (HX.out _ _ (by simp; omega))).mono ?_; rintro e w2 ⟨v, rfl, ho, hb⟩; rw [ex41_gaps] at ho; obtain ⟨g, cap, rfl⟩ := ownsRow_succ ho; have s0 := (ho.cellAt 0 (by decide)).trans (rfl : _ = some (Value.int .u64 2)); have HB2 := Aside0.mk hb; clear ho hb))
  go_ret
  exact ⟨rfl, HB1.out.trans ((below_alloc (Below.refl _ _) _).mono (by simp) |>.trans (HB2.out.mono (by simp; omega)))⟩
set_option maxRecDepth 100000 in
set_option maxHeartbeats 2000000 in
theorem boots41_walk (a0 : Option Addr) (cap0 : Nat) (l : List LR) (w : World) (hC : Kd.C kLr w a0 l.length l) (hcap : l.length ≤ cap0) (hg : ∀ x ∈ l, goodLr x) :
    Calls Try.prog 3 #[.slice a0 l.length cap0] w fun e w' => e = .returned (.bool true) ∧ Below w.heap.size w w' := by
  obtain ⟨zs, hzl, hZ⟩ := recs_of hC hg
  have HC := Aside0.mk hC
  have HZ := Aside0.mk hZ
  have hri := rising_any a0 cap0 zs
  rw [hzl] at hri
  have HRI := Aside0.mk hri
  clear hC hg hZ hri
  go_enter Try.func3, Try.ntmps3
  go_wp2_with (first
    | (go_at_call 13; refine (light41_any _ _ l _ HC.out).mono ?_; rintro e w1 ⟨b, rfl, h40, hb⟩; have H40 := Aside0.mk h40; have HB := Aside0.mk hb; clear h40 hb; cases b)
    | (go_at_call 14; refine (awake41_any _).mono ?_; rintro e W9 ⟨rfl, hb⟩; have hbn := below_step HB.out hb; clear HB; have HB := Aside0.mk hbn; clear hbn; (try (have hrn := Kd.R_below HR.out hb; clear HR; have HR := Aside0.mk hrn; clear hrn)); (try (have h4n := pw_own_below HO4.out hb; clear HO4; have HO4 := Aside0.mk h4n; clear h4n)); (try (have h5n := pw_own_below HO5.out hb; clear HO5; have HO5 := Aside0.mk h5n; clear h5n)); (try (have hgn := Kd.R_below HG.out hb; clear HG; have HG := Aside0.mk hgn; clear hgn)); (try (have hqn := Kd.R_below HQ.out hb; clear HQ; have HQ := Aside0.mk hqn; clear hqn)))
    | (go_at_call 15; refine (HRI.out _ (Kd.C_below HZ.out HB.out) (by first | (have := H40.out rfl; omega) | (have := H40.out trivial; omega))).mono ?_; rintro e w2 ⟨v2, zs', rfl, hr2, hzl2, hris, hb⟩; have hlen : zs'.length ≤ 40 := (by first | (have := H40.out rfl; omega) | (have := H40.out trivial; omega)); have hlen2 : zs.length ≤ 40 := (by omega); have HRS := Aside0.mk hris; obtain ⟨A2, c2, rfl⟩ := Kd.R_slice hr2; have hr3 := Kd.R_lower hr2 (below_size HB.out); have hbn := below_step HB.out hb; clear HB; have HB := Aside0.mk hbn; clear hbn; (try (have hrn := Kd.R_below HR.out hb; clear HR; have HR := Aside0.mk hrn; clear hrn)); (try (have h4n := pw_own_below HO4.out hb; clear HO4; have HO4 := Aside0.mk h4n; clear h4n)); (try (have h5n := pw_own_below HO5.out hb; clear HO5; have HO5 := Aside0.mk h5n; clear h5n)); (try (have hgn := Kd.R_below HG.out hb; clear HG; have HG := Aside0.mk hgn; clear hgn)); (try (have hqn := Kd.R_below HQ.out hb; clear HQ; have HQ := Aside0.mk hqn; clear hqn)); have HR := Aside0.mk hr3; clear hr3 hr2 hris hb hzl2)
    | (go_at_call 17; refine (rseq_any _ _ _ _).mono ?_; rintro e w3 ⟨rfl, hw3⟩; have hb : Below _ _ w3 := hw3 ▸ below_alloc (Below.refl _ _) _; have HC3 := Aside0.mk (show w3.cell? ⟨_, 0, none⟩ = some _ by rw [hw3]; exact (blk_cell (blk_new _ _) 0).trans rfl); have HLT := Aside0.mk (show _ < w3.heap.size by rw [hw3, World.size_alloc]; exact Nat.lt_succ_self _); clear hw3; have hbn := below_step HB.out hb; clear HB; have HB := Aside0.mk hbn; clear hbn; (try (have hrn := Kd.R_below HR.out hb; clear HR; have HR := Aside0.mk hrn; clear hrn)); (try (have h4n := pw_own_below HO4.out hb; clear HO4; have HO4 := Aside0.mk h4n; clear h4n)); (try (have h5n := pw_own_below HO5.out hb; clear HO5; have HO5 := Aside0.mk h5n; clear h5n)); (try (have hgn := Kd.R_below HG.out hb; clear HG; have HG := Aside0.mk hgn; clear hgn)); (try (have hqn := Kd.R_below HQ.out hb; clear HQ; have HQ := Aside0.mk hqn; clear hqn)))
    | (go_at_call 16; refine (boots_any _ _ zs' (by omega) _ HLT.out HC3.out (recs_C HR.out _ (Nat.le_refl _))).mono ?_; rintro e w4 ⟨v4, rfl, ho4, hb⟩; obtain ⟨A4, c4, rfl, hA4⟩ := row_form ho4; have HA4 := Aside0.mk hA4; clear HC3 HLT; have hbn := below_step HB.out hb; clear HB; have HB := Aside0.mk hbn; clear hbn; (try (have hrn := Kd.R_below HR.out hb; clear HR; have HR := Aside0.mk hrn; clear hrn)); (try (have h4n := pw_own_below HO4.out hb; clear HO4; have HO4 := Aside0.mk h4n; clear h4n)); (try (have h5n := pw_own_below HO5.out hb; clear HO5; have HO5 := Aside0.mk h5n; clear h5n)); (try (have hgn := Kd.R_below HG.out hb; clear HG; have HG := Aside0.mk hgn; clear hgn)); (try (have hqn := Kd.R_below HQ.out hb; clear HQ; have HQ := Aside0.mk hqn; clear hqn)); have HO4 := Aside0.mk ho4; clear ho4 hA4 hb)
    | (go_at_call 18; refine (rboots_any _ _ zs' _ (Kd.R_reads' HR.out).2.2 (by omega)).mono ?_; rintro e w5 ⟨v5, rfl, ho5, hb⟩; obtain ⟨A5, c5, rfl, hA5⟩ := row_form ho5; have HA5 := Aside0.mk hA5; have hbn := below_step HB.out hb; clear HB; have HB := Aside0.mk hbn; clear hbn; (try (have hrn := Kd.R_below HR.out hb; clear HR; have HR := Aside0.mk hrn; clear hrn)); (try (have h4n := pw_own_below HO4.out hb; clear HO4; have HO4 := Aside0.mk h4n; clear h4n)); (try (have h5n := pw_own_below HO5.out hb; clear HO5; have HO5 := Aside0.mk h5n; clear h5n)); (try (have hgn := Kd.R_below HG.out hb; clear HG; have HG := Aside0.mk hgn; clear hgn)); (try (have hqn := Kd.R_below HQ.out hb; clear HQ; have HQ := Aside0.mk hqn; clear hqn)); have HO5 := Aside0.mk ho5; clear ho5 hA5 hb)
    | (go_at_call 20; refine (gaps_any _ _ zs' (by omega) _ HLT.out HC3.out (recs_C HR.out _ (Nat.le_refl _))).mono ?_; rintro e w6 ⟨v6, rfl, ho6, hb⟩; rw [gaps_all zs' _ HRS.out (by omega)] at ho6; have hg6 : Kd.R (Kd.int .u64) 37 w6 _ (fun _ => True) v6 (gapK zs' (zs'.length - 1)) := Kd.R_of_own (enc := Value.int .u64) ho6 (fun _ _ => trivial); obtain ⟨A6, c6, rfl⟩ := Kd.R_slice hg6; have hbn := below_step HB.out hb; clear HB; have HB := Aside0.mk hbn; clear hbn; (try (have hrn := Kd.R_below HR.out hb; clear HR; have HR := Aside0.mk hrn; clear hrn)); (try (have h4n := pw_own_below HO4.out hb; clear HO4; have HO4 := Aside0.mk h4n; clear h4n)); (try (have h5n := pw_own_below HO5.out hb; clear HO5; have HO5 := Aside0.mk h5n; clear h5n)); (try (have hgn := Kd.R_below HG.out hb; clear HG; have HG := Aside0.mk hgn; clear hgn)); (try (have hqn := Kd.R_below HQ.out hb; clear HQ; have HQ := Aside0.mk hqn; clear hqn)); have HG := Aside0.mk hg6; clear hg6 ho6 hb)
    | (go_at_call 21; refine (rgaps_any _ _ zs' _ (Kd.R_reads' HR.out).2.2 (by omega)).mono ?_; rintro e w7 ⟨v7, rfl, hg7, hb⟩; obtain ⟨A7, c7, rfl⟩ := Kd.R_slice hg7; have hbn := below_step HB.out hb; clear HB; have HB := Aside0.mk hbn; clear hbn; (try (have hrn := Kd.R_below HR.out hb; clear HR; have HR := Aside0.mk hrn; clear hrn)); (try (have h4n := pw_own_below HO4.out hb; clear HO4; have HO4 := Aside0.mk h4n; clear h4n)); (try (have h5n := pw_own_below HO5.out hb; clear HO5; have HO5 := Aside0.mk h5n; clear h5n)); (try (have hgn := Kd.R_below HG.out hb; clear HG; have HG := Aside0.mk hgn; clear hgn)); (try (have hqn := Kd.R_below HQ.out hb; clear HQ; have HQ := Aside0.mk hqn; clear hqn)); have HQ := Aside0.mk hg7; clear hg7 hb)
    | (go_at_call 19; refine (words_any _ _ _ _ (gapK zs' (zs'.length - 1)) _ (Kd.R_reads' HG.out).2.2 (Kd.R_reads' HQ.out).2.2).mono ?_; rintro e w8 ⟨rfl, hb⟩; have hbn := below_step HB.out hb; clear HB; have HB := Aside0.mk hbn; clear hbn; (try (have hrn := Kd.R_below HR.out hb; clear HR; have HR := Aside0.mk hrn; clear hrn)); (try (have h4n := pw_own_below HO4.out hb; clear HO4; have HO4 := Aside0.mk h4n; clear h4n)); (try (have h5n := pw_own_below HO5.out hb; clear HO5; have HO5 := Aside0.mk h5n; clear h5n)); (try (have hgn := Kd.R_below HG.out hb; clear HG; have HG := Aside0.mk hgn; clear hgn)); (try (have hqn := Kd.R_below HQ.out hb; clear HQ; have HQ := Aside0.mk hqn; clear hqn)); clear hb))
  · go_ret
    exact ⟨rfl, HB.out⟩
  · obtain ⟨L, hL⟩ : ∃ L, L = bootsF zs' := ⟨_, rfl⟩
    have hLl : L.length ≤ 40 := by rw [hL]; exact Nat.le_trans (bootsF_len _) hlen
    rw [← hL] at HO4 HO5 HA4 HA5 ⊢
    clear hL HG HQ HRS HR HC HZ HRI H40
    go_loopg [5] L.length (fun g v5 wr => ∃ i : Nat, v5 = .int .i64 (i : Nat) ∧ i ≤ L.length ∧ Aside0 (g = L.length - i) ∧ Aside0 (Below w.heap.size w wr) ∧ Aside0 (∃ b, wr.ownsRow b 39 4 (.slice A4 L.length c4) L.length (cellsB L)) ∧ Aside0 (∃ b, wr.ownsRow b 40 4 (.slice A5 L.length c5) L.length (cellsB L)))
    case atStart => exact ⟨0, rfl, Nat.zero_le _, ⟨rfl⟩, HB, ⟨_, HO4.out⟩, ⟨_, HO5.out⟩⟩
    case round =>
      clear HB HO4 HO5
      obtain ⟨i, rfl, hi, hg, HB, HO4, HO5⟩ := hrel
      by_cases hlt : i < L.length
      · obtain ⟨g4, rfl⟩ := HA4.out (by omega)
        obtain ⟨g5, rfl⟩ := HA5.out (by omega)
        obtain ⟨b4, o4⟩ := HO4.out
        obtain ⟨b5, o5⟩ := HO5.out
        obtain ⟨p0, p1, p2, p3, _, _⟩ := row_cells o4 hlt
        obtain ⟨q0, q1, q2, q3, _, _⟩ := row_cells o5 hlt
        clear o4 o5
        obtain ⟨bv, hbv⟩ : ∃ b, b = L.getD i zBV := ⟨_, rfl⟩
        rw [← hbv] at p0 p1 p2 p3 q0 q1 q2 q3
        clear hbv
        go_wp2_with fail
        go_quiet (fail)
        go_wp2_with fail
        go_roundg (L.length - (i + 1))
        case measure => have := hg.out; omega
        case rel => exact ⟨i + 1, by go_num, hlt, ⟨rfl⟩, ⟨pw_below_drewN HB.out _⟩, HO4, HO5⟩
      · obtain rfl : i = L.length := by omega
        go_wp2_with (go_at_call 14; refine (awake41_any _).mono ?_; rintro e W9 ⟨rfl, hb⟩; have hbn := below_step HB.out hb; clear HB; have HB := Aside0.mk hbn; clear hbn hb)
        go_ret
        exact ⟨rfl, HB.out⟩
end Go.Proofs.Ytldiginkmmlojaa
