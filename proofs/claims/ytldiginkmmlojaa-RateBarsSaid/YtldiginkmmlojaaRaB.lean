/- The limit on one writer: Allow. -/
import Derived.Test.YtldiginkmmlojaaRaA
namespace Go.Proofs.Ytldiginkmmlojaa
set_option linter.unusedVariables false
open Go.RowKit Go.Maps Go.Proofs.YtldiginkmmlojaaW.PrintWords
attribute [local go_sem] mx2 mn2 mxTwo mnTwo

set_option maxHeartbeats 1000000 in
set_option maxRecDepth 100000 in
theorem allow_old (b g m N : Nat) (span burst most : Int) (x : WV) (now : Int) (w : World) (h : LI w b g m N span burst most (some x)) (hN : N < 100000) (h0 : 0 ≤ x.since) (h1 : x.since ≤ now) (h2 : now ≤ 1000000) (h3 : ¬ span ≤ now - x.since) (hn0 : 0 ≤ x.n) (hn1 : x.n ≤ 1000) (hr0 : 0 ≤ x.barred) (hr1 : x.barred ≤ 1000) :
    Calls Try.prog 61 #[.pointer (some ⟨g, 0, none⟩), .string sA, .int .u64 now] w fun e w' => e = .returned (.tuple #[.bool (allowW burst x).1, .int .i64 0]) ∧ LI w' b g m (N + 1) span burst most (some (allowW burst x).2) ∧ Below b w w' := by
  have hc0 := (blk_cell h.hb 0).trans (rfl : _ = some (Value.int .u64 span))
  have hc1 := (blk_cell h.hb 1).trans (rfl : _ = some (Value.int .i64 burst))
  have hc3 := (blk_cell h.hb 3).trans (rfl : _ = some (Value.map (some m)))
  have HM := Aside0.mk h.hm
  have HBG := Aside0.mk (blk_lt h.hb)
  have hkey := Go.WideMaps.keyOf_string_mk (P := Try.prog) Try.underlying9 (show sA.size ≤ maxLen by decide)
  have HK := Aside0.mk hkey
  obtain ⟨since, n, barred⟩ := x
  dsimp only at h0 h1 h3 hn0 hn1 hr0 hr1
  have hd1 : decide (now < since) = false := decide_eq_false (by omega)
  have hwr : IntKind.u64.wrap (now - since) = now - since := by show (now - since) % 18446744073709551616 = _; omega
  have hge : decide (span ≤ now - since) = false := decide_eq_false h3
  have HV := Aside0.mk (show (oneF (some ⟨since, n, barred⟩) (kStr sA)).getD (.agg #[.int .u64 0, .int .i64 0, .int .i64 0]) = .agg #[.int .u64 since, .int .i64 n, .int .i64 barred] ∧ (oneF (some ⟨since, n, barred⟩) (kStr sA)).isSome = true by rw [oneF_at]; exact ⟨rfl, rfl⟩)
  have qm : ∀ (w : World) (r : Option Nat), (binOp .eql 139 (.map r) (.map none)).run Try.prog w = .ok (.bool r.isNone) w := fun w r => run_eql_map_nil w _ _ _ r Try.underlying139
  have H := Aside0.mk h
  clear h hkey
  go_enter Try.func61, Try.ntmps61
  go_wp2_with (at_lookup; refine mv_lookup_ok rfl _ _ 139 rfl 9 146 lawSt Try.underlying139 (zeroWin _) m N (oneF (some ⟨since, n, barred⟩)) rfl HM.out _ (kStr sA) rfl HK.out _ _ HV.out.1 HV.out.2 ?_)
  obtain ⟨W1, hW1⟩ : ∃ W1, W1 = w.alloc (.cells #[.int .u64 (since), .int .i64 (n), .int .i64 (barred)] 146) := ⟨_, rfl⟩
  have hnb : W1.heap[w.heap.size]? = some (.cells #[.int .u64 (since), .int .i64 (n), .int .i64 (barred)] 146 (0, 0)) := by rw [hW1]; exact blk_new _ _
  have hb1 : Below w.heap.size w W1 := by rw [hW1]; exact below_alloc (Below.refl _ _) _
  rw [← hW1]
  obtain ⟨p, hp⟩ : ∃ p, p = w.heap.size := ⟨_, rfl⟩
  rw [← hp] at hnb ⊢
  have t0 := (blk_cell hnb 0).trans (rfl : _ = some (Value.int .u64 (since)))
  have t1 := (blk_cell hnb 1).trans (rfl : _ = some (Value.int .i64 (n)))
  have t2 := (blk_cell hnb 2).trans (rfl : _ = some (Value.int .i64 (barred)))
  have z0 := blk_frozen hnb 0
  have z1 := blk_frozen hnb 1
  have z2 := blk_frozen hnb 2
  have s0 := pw_cell_below hb1 hc0
  have s1 := pw_cell_below hb1 hc1
  have s3 := pw_cell_below hb1 hc3
  have HB1 := Aside0.mk hb1
  have HNB := Aside0.mk hnb
  have HP := Aside0.mk hp
  clear hW1 hb1 hnb hp hc0 hc1 hc3
  go_quiet (fail)
  go_wp2_with fail
  generalize hW2 : World.drewN _ _ = W2
  have HN2 := Aside0.mk (show W2.heap[p]? = some (.cells #[.int .u64 since, .int .i64 n, .int .i64 barred] 146 (0, 0)) by rw [← hW2]; exact HNB.out)
  have HL2 := Aside0.mk (show LI W2 b g m N span burst most (some ⟨since, n, barred⟩) by rw [← hW2]; exact (H.out.below HB1.out).below (pw_below_drewN (Below.refl _ _) _))
  have HBW := Aside0.mk (show Below w.heap.size w W2 by rw [← hW2]; exact pw_below_drewN HB1.out _)
  clear hW2 HNB HB1 H HM t0 t1 t2 s0 s1 s3 hd1 hwr hge z0 z1 z2
  have t0 := (blk_cell HN2.out 0).trans (rfl : _ = some (Value.int .u64 (since)))
  have t1 := (blk_cell HN2.out 1).trans (rfl : _ = some (Value.int .i64 (n)))
  have t2 := (blk_cell HN2.out 2).trans (rfl : _ = some (Value.int .i64 (barred)))
  have f1 := blk_frozen HN2.out 1
  have f2 := blk_frozen HN2.out 2
  have s1 := (blk_cell HL2.out.hb 1).trans (rfl : _ = some (Value.int .i64 burst))
  by_cases hlt : n < burst
  · have hd := decide_eq_true hlt
    go_quiet (fail)
    go_wp2_with fail
    generalize hW3 : World.setCell _ _ _ = W3
    have HN3 := Aside0.mk (show W3.heap[p]? = some (.cells #[.int .u64 (since), .int .i64 (n + 1), .int .i64 (barred)] 146 (0, 0)) by rw [← hW3]; exact blk_put (blk_drewN HN2.out _) 1 _ rfl)
    have HL3 := Aside0.mk (show LI W3 b g m N span burst most (some ⟨since, n, barred⟩) by rw [← hW3]; exact (HL2.out.below (pw_below_drewN (Below.refl _ _) _)).set (blk_drewN HN2.out _) _)
    have HB3 := Aside0.mk (show Below w.heap.size w W3 by rw [← hW3]; exact (pw_below_drewN HBW.out _).setCell (p := ⟨p, 1, none⟩) (Nat.le_of_eq HP.out.symm) _)
    clear hW3 t0 t1 t2 f1 f2 s1
    obtain ⟨w4, hrun, hm4, ht4⟩ := mv_run (MV.drew HL3.out.hm) lawSt Try.underlying139 (by unfold maxLen; omega) HK.out (.agg #[.int .u64 (since), .int .i64 (n + 1), .int .i64 (barred)])
    have hfin := (HL3.out.below (below_drew1 (Below.refl _ _))).stored (x := ⟨since, n + 1, barred⟩) hm4 ht4
    have HF := Aside0.mk hfin
    clear hfin hm4 ht4
    have t0 := (blk_cell HN3.out 0).trans (rfl : _ = some (Value.int .u64 (since)))
    have t1 := (blk_cell HN3.out 1).trans (rfl : _ = some (Value.int .i64 (n + 1)))
    have t2 := (blk_cell HN3.out 2).trans (rfl : _ = some (Value.int .i64 (barred)))
    have s3 := (blk_cell HL3.out.hb 3).trans (rfl : _ = some (Value.map (some m)))
    go_region
    all_goals
      go_wp2_with fail
      go_ret2
      have hA : allowW burst ⟨since, n, barred⟩ = (true, ⟨since, n + 1, barred⟩) := by unfold allowW; simp [hlt]
      rw [hA]
      exact ⟨rfl, HF.out.1, ((HB3.out.mono (Nat.le_trans HL3.out.hg (by have := HBG.out; omega))).trans (below_drew1 (Below.refl _ _))).trans HF.out.2⟩
  · have hd := decide_eq_false hlt
    go_quiet (fail)
    go_wp2_with fail
    generalize hW3 : World.setCell _ _ _ = W3
    have HN3 := Aside0.mk (show W3.heap[p]? = some (.cells #[.int .u64 (since), .int .i64 (n), .int .i64 (barred + 1)] 146 (0, 0)) by rw [← hW3]; exact blk_put (blk_drewN HN2.out _) 2 _ rfl)
    have HL3 := Aside0.mk (show LI W3 b g m N span burst most (some ⟨since, n, barred⟩) by rw [← hW3]; exact (HL2.out.below (pw_below_drewN (Below.refl _ _) _)).set (blk_drewN HN2.out _) _)
    have HB3 := Aside0.mk (show Below w.heap.size w W3 by rw [← hW3]; exact (pw_below_drewN HBW.out _).setCell (p := ⟨p, 2, none⟩) (Nat.le_of_eq HP.out.symm) _)
    clear hW3 t0 t1 t2 f1 f2 s1
    obtain ⟨w4, hrun, hm4, ht4⟩ := mv_run (MV.drew HL3.out.hm) lawSt Try.underlying139 (by unfold maxLen; omega) HK.out (.agg #[.int .u64 (since), .int .i64 (n), .int .i64 (barred + 1)])
    have hfin := (HL3.out.below (below_drew1 (Below.refl _ _))).stored (x := ⟨since, n, barred + 1⟩) hm4 ht4
    have HF := Aside0.mk hfin
    clear hfin hm4 ht4
    have t0 := (blk_cell HN3.out 0).trans (rfl : _ = some (Value.int .u64 (since)))
    have t1 := (blk_cell HN3.out 1).trans (rfl : _ = some (Value.int .i64 (n)))
    have t2 := (blk_cell HN3.out 2).trans (rfl : _ = some (Value.int .i64 (barred + 1)))
    have s3 := (blk_cell HL3.out.hb 3).trans (rfl : _ = some (Value.map (some m)))
    go_region
    all_goals
      go_wp2_with fail
      go_ret2
      have hA : allowW burst ⟨since, n, barred⟩ = (false, ⟨since, n, barred + 1⟩) := by unfold allowW; simp [hlt]
      rw [hA]
      exact ⟨rfl, HF.out.1, ((HB3.out.mono (Nat.le_trans HL3.out.hg (by have := HBG.out; omega))).trans (below_drew1 (Below.refl _ _))).trans HF.out.2⟩
set_option maxHeartbeats 1000000 in
set_option maxRecDepth 100000 in
theorem allow_fresh (b g m N : Nat) (span burst most : Int) (x : WV) (now : Int) (w : World) (h : LI w b g m N span burst most (some x)) (hN : N < 100000) (h0 : 0 ≤ x.since) (h1 : x.since ≤ now) (h2 : now ≤ 1000000) (h3 : span ≤ now - x.since) :
    Calls Try.prog 61 #[.pointer (some ⟨g, 0, none⟩), .string sA, .int .u64 now] w fun e w' => e = .returned (.tuple #[.bool (allowW burst ⟨now, 0, 0⟩).1, .int .i64 x.barred]) ∧ LI w' b g m (N + 1) span burst most (some (allowW burst ⟨now, 0, 0⟩).2) ∧ Below b w w' := by
  have hc0 := (blk_cell h.hb 0).trans (rfl : _ = some (Value.int .u64 span))
  have hc1 := (blk_cell h.hb 1).trans (rfl : _ = some (Value.int .i64 burst))
  have hc3 := (blk_cell h.hb 3).trans (rfl : _ = some (Value.map (some m)))
  have HM := Aside0.mk h.hm
  have HBG := Aside0.mk (blk_lt h.hb)
  have hkey := Go.WideMaps.keyOf_string_mk (P := Try.prog) Try.underlying9 (show sA.size ≤ maxLen by decide)
  have HK := Aside0.mk hkey
  obtain ⟨since, n, barred⟩ := x
  dsimp only at h0 h1 h3
  have hd1 : decide (now < since) = false := decide_eq_false (by omega)
  have hwr : IntKind.u64.wrap (now - since) = now - since := by show (now - since) % 18446744073709551616 = _; omega
  have hge : decide (span ≤ now - since) = true := decide_eq_true h3
  have HV := Aside0.mk (show (oneF (some ⟨since, n, barred⟩) (kStr sA)).getD (.agg #[.int .u64 0, .int .i64 0, .int .i64 0]) = .agg #[.int .u64 since, .int .i64 n, .int .i64 barred] ∧ (oneF (some ⟨since, n, barred⟩) (kStr sA)).isSome = true by rw [oneF_at]; exact ⟨rfl, rfl⟩)
  have qm : ∀ (w : World) (r : Option Nat), (binOp .eql 139 (.map r) (.map none)).run Try.prog w = .ok (.bool r.isNone) w := fun w r => run_eql_map_nil w _ _ _ r Try.underlying139
  have H := Aside0.mk h
  clear h hkey
  go_enter Try.func61, Try.ntmps61
  go_wp2_with (at_lookup; refine mv_lookup_ok rfl _ _ 139 rfl 9 146 lawSt Try.underlying139 (zeroWin _) m N (oneF (some ⟨since, n, barred⟩)) rfl HM.out _ (kStr sA) rfl HK.out _ _ HV.out.1 HV.out.2 ?_)
  obtain ⟨W1, hW1⟩ : ∃ W1, W1 = w.alloc (.cells #[.int .u64 (since), .int .i64 (n), .int .i64 (barred)] 146) := ⟨_, rfl⟩
  have hnb : W1.heap[w.heap.size]? = some (.cells #[.int .u64 (since), .int .i64 (n), .int .i64 (barred)] 146 (0, 0)) := by rw [hW1]; exact blk_new _ _
  have hb1 : Below w.heap.size w W1 := by rw [hW1]; exact below_alloc (Below.refl _ _) _
  rw [← hW1]
  obtain ⟨p, hp⟩ : ∃ p, p = w.heap.size := ⟨_, rfl⟩
  rw [← hp] at hnb ⊢
  have t0 := (blk_cell hnb 0).trans (rfl : _ = some (Value.int .u64 (since)))
  have t1 := (blk_cell hnb 1).trans (rfl : _ = some (Value.int .i64 (n)))
  have t2 := (blk_cell hnb 2).trans (rfl : _ = some (Value.int .i64 (barred)))
  have z0 := blk_frozen hnb 0
  have z1 := blk_frozen hnb 1
  have z2 := blk_frozen hnb 2
  have s0 := pw_cell_below hb1 hc0
  have s1 := pw_cell_below hb1 hc1
  have s3 := pw_cell_below hb1 hc3
  have HB1 := Aside0.mk hb1
  have HNB := Aside0.mk hnb
  have HP := Aside0.mk hp
  clear hW1 hb1 hnb hp hc0 hc1 hc3
  go_quiet (fail)
  go_wp2_with fail
  clear hd1 hwr hge
  generalize hW2 : World.setCell _ _ _ = W2
  have HN2 := Aside0.mk (show W2.heap[p]? = some (.cells #[.int .u64 now, .int .i64 0, .int .i64 0] 146 (0, 0)) by rw [← hW2]; exact blk_put (blk_put (blk_put (blk_drewN HNB.out _) 0 _ rfl) 1 _ rfl) 2 _ rfl)
  have HL2 := Aside0.mk (show LI W2 b g m N span burst most (some ⟨since, n, barred⟩) by rw [← hW2]; exact ((((H.out.below HB1.out).below (pw_below_drewN (Below.refl _ _) _)).set (blk_drewN HNB.out _) _).set (blk_put (blk_drewN HNB.out _) 0 _ rfl) _).set (blk_put (blk_put (blk_drewN HNB.out _) 0 _ rfl) 1 _ rfl) _)
  have HBW := Aside0.mk (show Below w.heap.size w W2 by rw [← hW2]; exact (((pw_below_drewN HB1.out _).setCell (p := ⟨p, 0, none⟩) (Nat.le_of_eq HP.out.symm) _).setCell (p := ⟨p, 1, none⟩) (Nat.le_of_eq HP.out.symm) _).setCell (p := ⟨p, 2, none⟩) (Nat.le_of_eq HP.out.symm) _)
  clear hW2 HNB HB1 H HM t0 t1 t2 s0 s1 s3 z0 z1 z2
  have t0 := (blk_cell HN2.out 0).trans (rfl : _ = some (Value.int .u64 (now)))
  have t1 := (blk_cell HN2.out 1).trans (rfl : _ = some (Value.int .i64 (0)))
  have t2 := (blk_cell HN2.out 2).trans (rfl : _ = some (Value.int .i64 (0)))
  have f1 := blk_frozen HN2.out 1
  have f2 := blk_frozen HN2.out 2
  have s1 := (blk_cell HL2.out.hb 1).trans (rfl : _ = some (Value.int .i64 burst))
  by_cases hlt : 0 < burst
  · have hd := decide_eq_true hlt
    go_quiet (fail)
    go_wp2_with fail
    generalize hW3 : World.setCell _ _ _ = W3
    have HN3 := Aside0.mk (show W3.heap[p]? = some (.cells #[.int .u64 (now), .int .i64 (1), .int .i64 (0)] 146 (0, 0)) by rw [← hW3]; exact blk_put (blk_drewN HN2.out _) 1 _ rfl)
    have HL3 := Aside0.mk (show LI W3 b g m N span burst most (some ⟨since, n, barred⟩) by rw [← hW3]; exact (HL2.out.below (pw_below_drewN (Below.refl _ _) _)).set (blk_drewN HN2.out _) _)
    have HB3 := Aside0.mk (show Below w.heap.size w W3 by rw [← hW3]; exact (pw_below_drewN HBW.out _).setCell (p := ⟨p, 1, none⟩) (Nat.le_of_eq HP.out.symm) _)
    clear hW3 t0 t1 t2 f1 f2 s1
    obtain ⟨w4, hrun, hm4, ht4⟩ := mv_run (MV.drew HL3.out.hm) lawSt Try.underlying139 (by unfold maxLen; omega) HK.out (.agg #[.int .u64 (now), .int .i64 (1), .int .i64 (0)])
    have hfin := (HL3.out.below (below_drew1 (Below.refl _ _))).stored (x := ⟨now, 1, 0⟩) hm4 ht4
    have HF := Aside0.mk hfin
    clear hfin hm4 ht4
    have t0 := (blk_cell HN3.out 0).trans (rfl : _ = some (Value.int .u64 (now)))
    have t1 := (blk_cell HN3.out 1).trans (rfl : _ = some (Value.int .i64 (1)))
    have t2 := (blk_cell HN3.out 2).trans (rfl : _ = some (Value.int .i64 (0)))
    have s3 := (blk_cell HL3.out.hb 3).trans (rfl : _ = some (Value.map (some m)))
    go_region
    all_goals
      go_wp2_with fail
      go_ret2
      have hA : allowW burst ⟨now, 0, 0⟩ = (true, ⟨now, 1, 0⟩) := by unfold allowW; simp [hlt]
      rw [hA]
      exact ⟨rfl, HF.out.1, ((HB3.out.mono (Nat.le_trans HL3.out.hg (by have := HBG.out; omega))).trans (below_drew1 (Below.refl _ _))).trans HF.out.2⟩
  · have hd := decide_eq_false hlt
    go_quiet (fail)
    go_wp2_with fail
    generalize hW3 : World.setCell _ _ _ = W3
    have HN3 := Aside0.mk (show W3.heap[p]? = some (.cells #[.int .u64 (now), .int .i64 (0), .int .i64 (1)] 146 (0, 0)) by rw [← hW3]; exact blk_put (blk_drewN HN2.out _) 2 _ rfl)
    have HL3 := Aside0.mk (show LI W3 b g m N span burst most (some ⟨since, n, barred⟩) by rw [← hW3]; exact (HL2.out.below (pw_below_drewN (Below.refl _ _) _)).set (blk_drewN HN2.out _) _)
    have HB3 := Aside0.mk (show Below w.heap.size w W3 by rw [← hW3]; exact (pw_below_drewN HBW.out _).setCell (p := ⟨p, 2, none⟩) (Nat.le_of_eq HP.out.symm) _)
    clear hW3 t0 t1 t2 f1 f2 s1
    obtain ⟨w4, hrun, hm4, ht4⟩ := mv_run (MV.drew HL3.out.hm) lawSt Try.underlying139 (by unfold maxLen; omega) HK.out (.agg #[.int .u64 (now), .int .i64 (0), .int .i64 (1)])
    have hfin := (HL3.out.below (below_drew1 (Below.refl _ _))).stored (x := ⟨now, 0, 1⟩) hm4 ht4
    have HF := Aside0.mk hfin
    clear hfin hm4 ht4
    have t0 := (blk_cell HN3.out 0).trans (rfl : _ = some (Value.int .u64 (now)))
    have t1 := (blk_cell HN3.out 1).trans (rfl : _ = some (Value.int .i64 (0)))
    have t2 := (blk_cell HN3.out 2).trans (rfl : _ = some (Value.int .i64 (1)))
    have s3 := (blk_cell HL3.out.hb 3).trans (rfl : _ = some (Value.map (some m)))
    go_region
    all_goals
      go_wp2_with fail
      go_ret2
      have hA : allowW burst ⟨now, 0, 0⟩ = (false, ⟨now, 0, 1⟩) := by unfold allowW; simp [hlt]
      rw [hA]
      exact ⟨rfl, HF.out.1, ((HB3.out.mono (Nat.le_trans HL3.out.hg (by have := HBG.out; omega))).trans (below_drew1 (Below.refl _ _))).trans HF.out.2⟩
set_option maxHeartbeats 1000000 in
set_option maxRecDepth 100000 in
theorem allow_none (b g m N : Nat) (span burst most : Int) (now : Int) (w : World) (h : LI w b g m N span burst most none) (hN : N < 100000) (hmo : 1 ≤ most) (h2 : now ≤ 1000000) (h1 : 0 ≤ now) :
    Calls Try.prog 61 #[.pointer (some ⟨g, 0, none⟩), .string sA, .int .u64 now] w fun e w' => e = .returned (.tuple #[.bool (allowW burst ⟨now, 0, 0⟩).1, .int .i64 0]) ∧ LI w' b g m (N + 1) span burst most (some (allowW burst ⟨now, 0, 0⟩).2) ∧ Below b w w' := by
  have hc0 := (blk_cell h.hb 0).trans (rfl : _ = some (Value.int .u64 span))
  have hc1 := (blk_cell h.hb 1).trans (rfl : _ = some (Value.int .i64 burst))
  have hc3 := (blk_cell h.hb 3).trans (rfl : _ = some (Value.map (some m)))
  have HM := Aside0.mk h.hm
  have HBG := Aside0.mk (blk_lt h.hb)
  have hkey := Go.WideMaps.keyOf_string_mk (P := Try.prog) Try.underlying9 (show sA.size ≤ maxLen by decide)
  have HK := Aside0.mk hkey
  have HV := Aside0.mk (show (oneF (none : Option WV) (kStr sA)).getD (.agg #[.int .u64 0, .int .i64 0, .int .i64 0]) = .agg #[.int .u64 0, .int .i64 0, .int .i64 0] ∧ (oneF (none : Option WV) (kStr sA)).isSome = false by rw [oneF_at]; exact ⟨rfl, rfl⟩)
  have qm : ∀ (w : World) (r : Option Nat), (binOp .eql 139 (.map r) (.map none)).run Try.prog w = .ok (.bool r.isNone) w := fun w r => run_eql_map_nil w _ _ _ r Try.underlying139
  have H := Aside0.mk h
  clear h hkey
  go_enter Try.func61, Try.ntmps61
  go_wp2_with (at_lookup; refine mv_lookup_ok rfl _ _ 139 rfl 9 146 lawSt Try.underlying139 (zeroWin _) m N (oneF (none : Option WV)) rfl HM.out _ (kStr sA) rfl HK.out _ _ HV.out.1 HV.out.2 ?_)
  obtain ⟨W1, hW1⟩ : ∃ W1, W1 = w.alloc (.cells #[.int .u64 (0), .int .i64 (0), .int .i64 (0)] 146) := ⟨_, rfl⟩
  have hnb : W1.heap[w.heap.size]? = some (.cells #[.int .u64 (0), .int .i64 (0), .int .i64 (0)] 146 (0, 0)) := by rw [hW1]; exact blk_new _ _
  have hb1 : Below w.heap.size w W1 := by rw [hW1]; exact below_alloc (Below.refl _ _) _
  rw [← hW1]
  obtain ⟨p, hp⟩ : ∃ p, p = w.heap.size := ⟨_, rfl⟩
  rw [← hp] at hnb ⊢
  have t0 := (blk_cell hnb 0).trans (rfl : _ = some (Value.int .u64 (0)))
  have t1 := (blk_cell hnb 1).trans (rfl : _ = some (Value.int .i64 (0)))
  have t2 := (blk_cell hnb 2).trans (rfl : _ = some (Value.int .i64 (0)))
  have z0 := blk_frozen hnb 0
  have z1 := blk_frozen hnb 1
  have z2 := blk_frozen hnb 2
  have s0 := pw_cell_below hb1 hc0
  have s1 := pw_cell_below hb1 hc1
  have s3 := pw_cell_below hb1 hc3
  have HB1 := Aside0.mk hb1
  have HNB := Aside0.mk hnb
  have HP := Aside0.mk hp
  clear hW1 hb1 hnb hp hc0 hc1 hc3
  have HRM := Aside0.mk (show ∀ k, Calls Try.prog 81 #[.pointer (some ⟨g, 0, none⟩)] (W1.drewN k) fun e w' => e = .returned (.tuple #[]) ∧ ∃ j, w' = (W1.drewN k).drewN j from fun k => by
    have hl := (H.out.below HB1.out).below (pw_below_drewN (Below.refl W1.heap.size W1) k)
    have hm := hl.hm
    rw [hl.hN rfl] at hm
    exact room_any g m span burst most _ hl.hb hm hmo)
  go_quiet (fail)
  go_wp2_with (go_at_call 81; refine (HRM.out _).mono ?_; rintro e w5 ⟨rfl, k5, rfl⟩; rw [World.drewN_drewN])
  clear HRM
  generalize hW2 : World.setCell _ _ _ = W2
  have HN2 := Aside0.mk (show W2.heap[p]? = some (.cells #[.int .u64 now, .int .i64 0, .int .i64 0] 146 (0, 0)) by rw [← hW2]; exact blk_put (blk_put (blk_put (blk_drewN HNB.out _) 0 _ rfl) 1 _ rfl) 2 _ rfl)
  have HL2 := Aside0.mk (show LI W2 b g m N span burst most none by rw [← hW2]; exact ((((H.out.below HB1.out).below (pw_below_drewN (Below.refl _ _) _)).set (blk_drewN HNB.out _) _).set (blk_put (blk_drewN HNB.out _) 0 _ rfl) _).set (blk_put (blk_put (blk_drewN HNB.out _) 0 _ rfl) 1 _ rfl) _)
  have HBW := Aside0.mk (show Below w.heap.size w W2 by rw [← hW2]; exact (((pw_below_drewN HB1.out _).setCell (p := ⟨p, 0, none⟩) (Nat.le_of_eq HP.out.symm) _).setCell (p := ⟨p, 1, none⟩) (Nat.le_of_eq HP.out.symm) _).setCell (p := ⟨p, 2, none⟩) (Nat.le_of_eq HP.out.symm) _)
  clear hW2 HNB HB1 H HM t0 t1 t2 s0 s1 s3 z0 z1 z2
  have t0 := (blk_cell HN2.out 0).trans (rfl : _ = some (Value.int .u64 (now)))
  have t1 := (blk_cell HN2.out 1).trans (rfl : _ = some (Value.int .i64 (0)))
  have t2 := (blk_cell HN2.out 2).trans (rfl : _ = some (Value.int .i64 (0)))
  have f1 := blk_frozen HN2.out 1
  have f2 := blk_frozen HN2.out 2
  have s1 := (blk_cell HL2.out.hb 1).trans (rfl : _ = some (Value.int .i64 burst))
  by_cases hlt : 0 < burst
  · have hd := decide_eq_true hlt
    go_quiet (fail)
    go_wp2_with fail
    generalize hW3 : World.setCell _ _ _ = W3
    have HN3 := Aside0.mk (show W3.heap[p]? = some (.cells #[.int .u64 (now), .int .i64 (1), .int .i64 (0)] 146 (0, 0)) by rw [← hW3]; exact blk_put (blk_drewN HN2.out _) 1 _ rfl)
    have HL3 := Aside0.mk (show LI W3 b g m N span burst most none by rw [← hW3]; exact (HL2.out.below (pw_below_drewN (Below.refl _ _) _)).set (blk_drewN HN2.out _) _)
    have HB3 := Aside0.mk (show Below w.heap.size w W3 by rw [← hW3]; exact (pw_below_drewN HBW.out _).setCell (p := ⟨p, 1, none⟩) (Nat.le_of_eq HP.out.symm) _)
    clear hW3 t0 t1 t2 f1 f2 s1
    obtain ⟨w4, hrun, hm4, ht4⟩ := mv_run (MV.drew HL3.out.hm) lawSt Try.underlying139 (by unfold maxLen; omega) HK.out (.agg #[.int .u64 (now), .int .i64 (1), .int .i64 (0)])
    have hfin := (HL3.out.below (below_drew1 (Below.refl _ _))).stored (x := ⟨now, 1, 0⟩) hm4 ht4
    have HF := Aside0.mk hfin
    clear hfin hm4 ht4
    have t0 := (blk_cell HN3.out 0).trans (rfl : _ = some (Value.int .u64 (now)))
    have t1 := (blk_cell HN3.out 1).trans (rfl : _ = some (Value.int .i64 (1)))
    have t2 := (blk_cell HN3.out 2).trans (rfl : _ = some (Value.int .i64 (0)))
    have s3 := (blk_cell HL3.out.hb 3).trans (rfl : _ = some (Value.map (some m)))
    go_region
    all_goals
      go_wp2_with fail
      go_ret2
      have hA : allowW burst ⟨now, 0, 0⟩ = (true, ⟨now, 1, 0⟩) := by unfold allowW; simp [hlt]
      rw [hA]
      exact ⟨rfl, HF.out.1, ((HB3.out.mono (Nat.le_trans HL3.out.hg (by have := HBG.out; omega))).trans (below_drew1 (Below.refl _ _))).trans HF.out.2⟩
  · have hd := decide_eq_false hlt
    go_quiet (fail)
    go_wp2_with fail
    generalize hW3 : World.setCell _ _ _ = W3
    have HN3 := Aside0.mk (show W3.heap[p]? = some (.cells #[.int .u64 (now), .int .i64 (0), .int .i64 (1)] 146 (0, 0)) by rw [← hW3]; exact blk_put (blk_drewN HN2.out _) 2 _ rfl)
    have HL3 := Aside0.mk (show LI W3 b g m N span burst most none by rw [← hW3]; exact (HL2.out.below (pw_below_drewN (Below.refl _ _) _)).set (blk_drewN HN2.out _) _)
    have HB3 := Aside0.mk (show Below w.heap.size w W3 by rw [← hW3]; exact (pw_below_drewN HBW.out _).setCell (p := ⟨p, 2, none⟩) (Nat.le_of_eq HP.out.symm) _)
    clear hW3 t0 t1 t2 f1 f2 s1
    obtain ⟨w4, hrun, hm4, ht4⟩ := mv_run (MV.drew HL3.out.hm) lawSt Try.underlying139 (by unfold maxLen; omega) HK.out (.agg #[.int .u64 (now), .int .i64 (0), .int .i64 (1)])
    have hfin := (HL3.out.below (below_drew1 (Below.refl _ _))).stored (x := ⟨now, 0, 1⟩) hm4 ht4
    have HF := Aside0.mk hfin
    clear hfin hm4 ht4
    have t0 := (blk_cell HN3.out 0).trans (rfl : _ = some (Value.int .u64 (now)))
    have t1 := (blk_cell HN3.out 1).trans (rfl : _ = some (Value.int .i64 (0)))
    have t2 := (blk_cell HN3.out 2).trans (rfl : _ = some (Value.int .i64 (1)))
    have s3 := (blk_cell HL3.out.hb 3).trans (rfl : _ = some (Value.map (some m)))
    go_region
    all_goals
      go_wp2_with fail
      go_ret2
      have hA : allowW burst ⟨now, 0, 0⟩ = (false, ⟨now, 0, 1⟩) := by unfold allowW; simp [hlt]
      rw [hA]
      exact ⟨rfl, HF.out.1, ((HB3.out.mono (Nat.le_trans HL3.out.hg (by have := HBG.out; omega))).trans (below_drew1 (Below.refl _ _))).trans HF.out.2⟩
end Go.Proofs.Ytldiginkmmlojaa
