/- The limit on many writers: Allow. -/
import Derived.Test.YtldiginkmmlojaaRbC
namespace Go.Proofs.Ytldiginkmmlojaa
set_option linter.unusedVariables false
open Go.RowKit Go.Maps Go.Proofs.YtldiginkmmlojaaW.PrintWords
attribute [local go_sem] mx2 mn2 mxTwo mnTwo

theorem LJ.set {W : World} {b g m N p j : Nat} {span burst most : Int} {l : List LW} {cs : Array Value} (h : LJ W b g m N span burst most l) (hp : W.heap[p]? = some (.cells cs 146 (0, 0))) (u : Value) : LJ (W.setCell ⟨p, j, none⟩ u) b g m N span burst most l :=
  ⟨blk_far h.hb (show g ≠ p from blk_ne h.hb hp (by decide)) u, h.hm.setCell (h.hm.ne hp) u, h.hg, h.hmb⟩
theorem LJ.stored {W W1 : World} {b g m N : Nat} {span burst most : Int} {l l' : List LW} {s : ByteArray} {x : WV} (h : LJ W b g m N span burst most l) (hm : MV W1 Try.prog 9 m (N + 1) (upd (mapW l) (kStr s) (some x.v))) (ht : W.mapTurned W1 m) (hf : upd (mapW l) (kStr s) (some x.v) = mapW l') : LJ W1 b g m (N + 1) span burst most l' ∧ Below b W W1 := by
  have hg := ht.grown
  have hne : some g ≠ some m := fun e => h.hm.ne h.hb (by injection e with e; exact e.symm)
  exact ⟨⟨blk_grown h.hb hg hne, by rw [← hf]; exact hm, h.hg, h.hmb⟩, (Below.refl b W).grown hg (Nat.le_trans h.hg (Nat.le_of_lt (blk_lt h.hb))) (fun k e => by cases e; exact h.hmb)⟩
/-- Of what lay, block m alone may have turned. -/
def FrM (w W : World) (m : Nat) : Prop := w.heap.size ≤ W.heap.size ∧ ∀ q, q < w.heap.size → q ≠ m → W.heap[q]? = w.heap[q]?
theorem FrM.of_below {w W : World} {m : Nat} (h : Below w.heap.size w W) : FrM w W m := ⟨h.size, fun q hq _ => h.block q hq⟩
theorem FrM.trans {w W W1 : World} {m : Nat} (h : FrM w W m) (k : FrM W W1 m) : FrM w W1 m := ⟨Nat.le_trans h.1 k.1, fun q hq hm => (k.2 q (Nat.lt_of_lt_of_le hq h.1) hm).trans (h.2 q hq hm)⟩
theorem FrM.set {w W : World} {m p j : Nat} (h : FrM w W m) (hp : p = w.heap.size) (u : Value) : FrM w (W.setCell ⟨p, j, none⟩ u) m :=
  ⟨by rw [show (W.setCell ⟨p, j, none⟩ u).heap.size = W.heap.size by simp]; exact h.1, fun q hq hm => (Below.heap_setCell W ⟨p, j, none⟩ u q (by show q ≠ p; omega)).trans (h.2 q hq hm)⟩
theorem FrM.turned {W W1 : World} {m : Nat} (h : W.mapTurned W1 m) : FrM W W1 m := ⟨h.grown.size, fun q hq hm => h.grown.block q hq (fun e => hm (by injection e))⟩
set_option maxHeartbeats 2000000 in
set_option maxRecDepth 100000 in
theorem lallow_old (b g m N : Nat) (span burst most : Int) (l : List LW) (s : ByteArray) (now : Int) (w : World) (h : LJ w b g m N span burst most l) (hs : s.size ≤ maxLen) (hN : N < 1000000) (hn : 0 ≤ now ∧ now < 18446744073709551616) (x : WV) (hget : getW l s = some x) (L' : WV → List LW) (hset : ∀ y : WV, upd (mapW l) (kStr s) (some y.v) = mapW (L' y)) (h0 : 0 ≤ x.since) (h1 : x.since ≤ now) (h3 : ¬ span ≤ now - x.since) (hn0 : 0 ≤ x.n) (hn1 : x.n ≤ 1000000) (hr0 : 0 ≤ x.barred) (hr1 : x.barred ≤ 1000000) :
    Calls Try.prog 61 #[.pointer (some ⟨g, 0, none⟩), .string s, .int .u64 now] w fun e w' => e = .returned (.tuple #[.bool (allowW burst x).1, .int .i64 0]) ∧ LJ w' b g m (N + 1) span burst most (L' (allowW burst x).2) ∧ Below b w w' ∧ FrM w w' m := by
  have hc0 := (blk_cell h.hb 0).trans (rfl : _ = some (Value.int .u64 span))
  have hc1 := (blk_cell h.hb 1).trans (rfl : _ = some (Value.int .i64 burst))
  have hc3 := (blk_cell h.hb 3).trans (rfl : _ = some (Value.map (some m)))
  have HM := Aside0.mk h.hm
  have HBG := Aside0.mk (Nat.le_trans h.hg (Nat.le_of_lt (blk_lt h.hb)))
  have hkey := Go.WideMaps.keyOf_string_mk (P := Try.prog) Try.underlying9 hs
  have HK := Aside0.mk hkey
  obtain ⟨since, n, barred⟩ := x
  dsimp only at h0 h1 h3 hn0 hn1 hr0 hr1
  have HSET := Aside0.mk hset
  clear hset
  obtain ⟨hnl, hnh⟩ := hn
  have hd1 : decide (now < since) = false := decide_eq_false (by omega)
  have hwr : IntKind.u64.wrap (now - since) = now - since := by show (now - since) % 18446744073709551616 = _; omega
  have hge : decide (span ≤ now - since) = false := decide_eq_false h3
  have HV := Aside0.mk (show (mapW l (kStr s)).getD (.agg #[.int .u64 0, .int .i64 0, .int .i64 0]) = .agg #[.int .u64 since, .int .i64 n, .int .i64 barred] ∧ (mapW l (kStr s)).isSome = true by rw [mapW_at, hget]; exact ⟨rfl, rfl⟩)
  have qm : ∀ (w : World) (r : Option Nat), (binOp .eql 139 (.map r) (.map none)).run Try.prog w = .ok (.bool r.isNone) w := fun w r => run_eql_map_nil w _ _ _ r Try.underlying139
  have H := Aside0.mk h
  clear h hkey hget
  go_enter Try.func61, Try.ntmps61
  go_wp2_with (at_lookup; refine mv_lookup_ok rfl _ _ 139 rfl 9 146 lawSt Try.underlying139 (zeroWin _) m N (mapW l) rfl HM.out _ (kStr s) rfl HK.out _ _ HV.out.1 HV.out.2 ?_)
  obtain ⟨W1, hW1⟩ : ∃ W1, W1 = w.alloc (.cells #[.int .u64 (since), .int .i64 (n), .int .i64 (barred)] 146) := ⟨_, rfl⟩
  have hnb : W1.heap[w.heap.size]? = some (.cells #[.int .u64 (since), .int .i64 (n), .int .i64 (barred)] 146 (0, 0)) := by rw [hW1]; exact blk_new _ _
  have hb1 : Below w.heap.size w W1 := by rw [hW1]; exact below_alloc (Below.refl _ _) _
  rw [← hW1]
  obtain ⟨p, hp⟩ : ∃ p, p = w.heap.size := ⟨_, rfl⟩
  rw [← hp] at hnb ⊢
  have t0 := (blk_cell hnb 0).trans (rfl : _ = some (Value.int .u64 (since)))
  have t1 := (blk_cell hnb 1).trans (rfl : _ = some (Value.int .i64 (n)))
  have t2 := (blk_cell hnb 2).trans (rfl : _ = some (Value.int .i64 (barred)))
  have s0 := pw_cell_below hb1 hc0
  have s1 := pw_cell_below hb1 hc1
  have s3 := pw_cell_below hb1 hc3
  have HB1 := Aside0.mk hb1
  have HNB := Aside0.mk hnb
  have HBP := Aside0.mk (show b ≤ p by rw [hp]; exact HBG.out)
  have HPW := Aside0.mk hp
  clear hW1 hb1 hnb hp hc0 hc1 hc3
  go_quiet (fail)
  generalize hW5 : World.drewN _ _ = W5
  have HN5 := Aside0.mk (show W5.heap[p]? = some (.cells #[.int .u64 (since), .int .i64 (n), .int .i64 (barred)] 146 (0, 0)) by rw [← hW5]; exact HNB.out)
  have HL5 := Aside0.mk (show LJ W5 b g m N span burst most l by rw [← hW5]; exact (H.out.below HB1.out).below (pw_below_drewN (Below.refl _ _) _))
  have HB5 := Aside0.mk (show Below b w W5 by rw [← hW5]; exact pw_below_drewN (HB1.out.mono HBG.out) _)
  have HQ5 := Aside0.mk (show FrM w W5 m by rw [← hW5]; exact FrM.of_below (pw_below_drewN HB1.out _))
  clear hW5 HNB HB1 H HM t0 t1 t2 s0 s1 s3
  have t0 := (blk_cell HN5.out 0).trans (rfl : _ = some (Value.int .u64 (since)))
  have t1 := (blk_cell HN5.out 1).trans (rfl : _ = some (Value.int .i64 (n)))
  have t2 := (blk_cell HN5.out 2).trans (rfl : _ = some (Value.int .i64 (barred)))
  have z0 := blk_frozen HN5.out 0
  have z1 := blk_frozen HN5.out 1
  have z2 := blk_frozen HN5.out 2
  have s0 := (blk_cell HL5.out.hb 0).trans (rfl : _ = some (Value.int .u64 span))
  go_wp2_with fail
  have HN2 := HN5
  have HL2 := HL5
  have HB2 := HB5
  have HQ2 := HQ5
  clear HN5 HL5 HB5 HQ5 t0 t1 t2 z0 z1 z2 s0 hd1 hwr hge
  have t0 := (blk_cell HN2.out 0).trans (rfl : _ = some (Value.int .u64 (since)))
  have t1 := (blk_cell HN2.out 1).trans (rfl : _ = some (Value.int .i64 (n)))
  have t2 := (blk_cell HN2.out 2).trans (rfl : _ = some (Value.int .i64 (barred)))
  have f1 := blk_frozen HN2.out 1
  have f2 := blk_frozen HN2.out 2
  have s1 := (blk_cell HL2.out.hb 1).trans (rfl : _ = some (Value.int .i64 burst))
  by_cases hlt : n < burst
  · have hd := decide_eq_true hlt
    go_quiet (fail)
    go_wp2_with fail
    generalize hW3 : World.setCell _ _ _ = W3
    have HN3 := Aside0.mk (show W3.heap[p]? = some (.cells #[.int .u64 (since), .int .i64 (n + 1), .int .i64 (barred)] 146 (0, 0)) by rw [← hW3]; exact blk_put (blk_drewN HN2.out _) 1 _ rfl)
    have HL3 := Aside0.mk (show LJ W3 b g m N span burst most (l) by rw [← hW3]; exact (HL2.out.below (pw_below_drewN (Below.refl _ _) _)).set (blk_drewN HN2.out _) _)
    have HB3 := Aside0.mk (show Below b w W3 by rw [← hW3]; exact (pw_below_drewN HB2.out _).setCell (p := ⟨p, 1, none⟩) HBP.out _)
    have HQ3 := Aside0.mk (show FrM w W3 m by rw [← hW3]; exact (HQ2.out.trans (FrM.of_below (pw_below_drewN (Below.refl _ _) _))).set HPW.out _)
    clear hW3 t0 t1 t2 f1 f2 s1
    obtain ⟨w4, hrun, hm4, ht4⟩ := mv_run (MV.drew HL3.out.hm) lawSt Try.underlying139 (by unfold maxLen; omega) HK.out (.agg #[.int .u64 (since), .int .i64 (n + 1), .int .i64 (barred)])
    have hfin := (HL3.out.below (below_drew1 (Below.refl _ _))).stored (x := ⟨since, n + 1, barred⟩) hm4 ht4 (HSET.out _)
    have HF := Aside0.mk hfin
    have HQ4 := Aside0.mk ((HQ3.out.trans (FrM.of_below (below_drew1 (Below.refl _ _)))).trans (FrM.turned ht4))
    clear hfin hm4 ht4
    have t0 := (blk_cell HN3.out 0).trans (rfl : _ = some (Value.int .u64 (since)))
    have t1 := (blk_cell HN3.out 1).trans (rfl : _ = some (Value.int .i64 (n + 1)))
    have t2 := (blk_cell HN3.out 2).trans (rfl : _ = some (Value.int .i64 (barred)))
    have s3 := (blk_cell HL3.out.hb 3).trans (rfl : _ = some (Value.map (some m)))
    go_region
    all_goals
      go_wp2_with fail
      go_ret2
      have hA : allowW burst ⟨since, n, barred⟩ = (true, ⟨since, n + 1, barred⟩) := by unfold allowW; simp [hlt]
      rw [hA]
      exact ⟨rfl, HF.out.1, (HB3.out.trans (below_drew1 (Below.refl _ _))).trans HF.out.2, HQ4.out⟩
  · have hd := decide_eq_false hlt
    go_quiet (fail)
    go_wp2_with fail
    generalize hW3 : World.setCell _ _ _ = W3
    have HN3 := Aside0.mk (show W3.heap[p]? = some (.cells #[.int .u64 (since), .int .i64 (n), .int .i64 (barred + 1)] 146 (0, 0)) by rw [← hW3]; exact blk_put (blk_drewN HN2.out _) 2 _ rfl)
    have HL3 := Aside0.mk (show LJ W3 b g m N span burst most (l) by rw [← hW3]; exact (HL2.out.below (pw_below_drewN (Below.refl _ _) _)).set (blk_drewN HN2.out _) _)
    have HB3 := Aside0.mk (show Below b w W3 by rw [← hW3]; exact (pw_below_drewN HB2.out _).setCell (p := ⟨p, 2, none⟩) HBP.out _)
    have HQ3 := Aside0.mk (show FrM w W3 m by rw [← hW3]; exact (HQ2.out.trans (FrM.of_below (pw_below_drewN (Below.refl _ _) _))).set HPW.out _)
    clear hW3 t0 t1 t2 f1 f2 s1
    obtain ⟨w4, hrun, hm4, ht4⟩ := mv_run (MV.drew HL3.out.hm) lawSt Try.underlying139 (by unfold maxLen; omega) HK.out (.agg #[.int .u64 (since), .int .i64 (n), .int .i64 (barred + 1)])
    have hfin := (HL3.out.below (below_drew1 (Below.refl _ _))).stored (x := ⟨since, n, barred + 1⟩) hm4 ht4 (HSET.out _)
    have HF := Aside0.mk hfin
    have HQ4 := Aside0.mk ((HQ3.out.trans (FrM.of_below (below_drew1 (Below.refl _ _)))).trans (FrM.turned ht4))
    clear hfin hm4 ht4
    have t0 := (blk_cell HN3.out 0).trans (rfl : _ = some (Value.int .u64 (since)))
    have t1 := (blk_cell HN3.out 1).trans (rfl : _ = some (Value.int .i64 (n)))
    have t2 := (blk_cell HN3.out 2).trans (rfl : _ = some (Value.int .i64 (barred + 1)))
    have s3 := (blk_cell HL3.out.hb 3).trans (rfl : _ = some (Value.map (some m)))
    go_region
    all_goals
      go_wp2_with fail
      go_ret2
      have hA : allowW burst ⟨since, n, barred⟩ = (false, ⟨since, n, barred + 1⟩) := by unfold allowW; simp [hlt]
      rw [hA]
      exact ⟨rfl, HF.out.1, (HB3.out.trans (below_drew1 (Below.refl _ _))).trans HF.out.2, HQ4.out⟩
set_option maxHeartbeats 2000000 in
set_option maxRecDepth 100000 in
theorem lallow_end (b g m N : Nat) (span burst most : Int) (l : List LW) (s : ByteArray) (now : Int) (w : World) (h : LJ w b g m N span burst most l) (hs : s.size ≤ maxLen) (hN : N < 1000000) (hn : 0 ≤ now ∧ now < 18446744073709551616) (x : WV) (hget : getW l s = some x) (L' : WV → List LW) (hset : ∀ y : WV, upd (mapW l) (kStr s) (some y.v) = mapW (L' y)) (h0 : 0 ≤ x.since) (h1 : x.since ≤ now) (h3 : span ≤ now - x.since) :
    Calls Try.prog 61 #[.pointer (some ⟨g, 0, none⟩), .string s, .int .u64 now] w fun e w' => e = .returned (.tuple #[.bool (allowW burst ⟨now, 0, 0⟩).1, .int .i64 x.barred]) ∧ LJ w' b g m (N + 1) span burst most (L' (allowW burst ⟨now, 0, 0⟩).2) ∧ Below b w w' ∧ FrM w w' m := by
  have hc0 := (blk_cell h.hb 0).trans (rfl : _ = some (Value.int .u64 span))
  have hc1 := (blk_cell h.hb 1).trans (rfl : _ = some (Value.int .i64 burst))
  have hc3 := (blk_cell h.hb 3).trans (rfl : _ = some (Value.map (some m)))
  have HM := Aside0.mk h.hm
  have HBG := Aside0.mk (Nat.le_trans h.hg (Nat.le_of_lt (blk_lt h.hb)))
  have hkey := Go.WideMaps.keyOf_string_mk (P := Try.prog) Try.underlying9 hs
  have HK := Aside0.mk hkey
  obtain ⟨since, n, barred⟩ := x
  dsimp only at h0 h1 h3
  have HSET := Aside0.mk hset
  clear hset
  obtain ⟨hnl, hnh⟩ := hn
  have hd1 : decide (now < since) = false := decide_eq_false (by omega)
  have hwr : IntKind.u64.wrap (now - since) = now - since := by show (now - since) % 18446744073709551616 = _; omega
  have hge : decide (span ≤ now - since) = true := decide_eq_true h3
  have HV := Aside0.mk (show (mapW l (kStr s)).getD (.agg #[.int .u64 0, .int .i64 0, .int .i64 0]) = .agg #[.int .u64 since, .int .i64 n, .int .i64 barred] ∧ (mapW l (kStr s)).isSome = true by rw [mapW_at, hget]; exact ⟨rfl, rfl⟩)
  have qm : ∀ (w : World) (r : Option Nat), (binOp .eql 139 (.map r) (.map none)).run Try.prog w = .ok (.bool r.isNone) w := fun w r => run_eql_map_nil w _ _ _ r Try.underlying139
  have H := Aside0.mk h
  clear h hkey hget
  go_enter Try.func61, Try.ntmps61
  go_wp2_with (at_lookup; refine mv_lookup_ok rfl _ _ 139 rfl 9 146 lawSt Try.underlying139 (zeroWin _) m N (mapW l) rfl HM.out _ (kStr s) rfl HK.out _ _ HV.out.1 HV.out.2 ?_)
  obtain ⟨W1, hW1⟩ : ∃ W1, W1 = w.alloc (.cells #[.int .u64 (since), .int .i64 (n), .int .i64 (barred)] 146) := ⟨_, rfl⟩
  have hnb : W1.heap[w.heap.size]? = some (.cells #[.int .u64 (since), .int .i64 (n), .int .i64 (barred)] 146 (0, 0)) := by rw [hW1]; exact blk_new _ _
  have hb1 : Below w.heap.size w W1 := by rw [hW1]; exact below_alloc (Below.refl _ _) _
  rw [← hW1]
  obtain ⟨p, hp⟩ : ∃ p, p = w.heap.size := ⟨_, rfl⟩
  rw [← hp] at hnb ⊢
  have t0 := (blk_cell hnb 0).trans (rfl : _ = some (Value.int .u64 (since)))
  have t1 := (blk_cell hnb 1).trans (rfl : _ = some (Value.int .i64 (n)))
  have t2 := (blk_cell hnb 2).trans (rfl : _ = some (Value.int .i64 (barred)))
  have s0 := pw_cell_below hb1 hc0
  have s1 := pw_cell_below hb1 hc1
  have s3 := pw_cell_below hb1 hc3
  have HB1 := Aside0.mk hb1
  have HNB := Aside0.mk hnb
  have HBP := Aside0.mk (show b ≤ p by rw [hp]; exact HBG.out)
  have HPW := Aside0.mk hp
  clear hW1 hb1 hnb hp hc0 hc1 hc3
  go_quiet (fail)
  generalize hW5 : World.drewN _ _ = W5
  have HN5 := Aside0.mk (show W5.heap[p]? = some (.cells #[.int .u64 (since), .int .i64 (n), .int .i64 (barred)] 146 (0, 0)) by rw [← hW5]; exact HNB.out)
  have HL5 := Aside0.mk (show LJ W5 b g m N span burst most l by rw [← hW5]; exact (H.out.below HB1.out).below (pw_below_drewN (Below.refl _ _) _))
  have HB5 := Aside0.mk (show Below b w W5 by rw [← hW5]; exact pw_below_drewN (HB1.out.mono HBG.out) _)
  have HQ5 := Aside0.mk (show FrM w W5 m by rw [← hW5]; exact FrM.of_below (pw_below_drewN HB1.out _))
  clear hW5 HNB HB1 H HM t0 t1 t2 s0 s1 s3
  have t0 := (blk_cell HN5.out 0).trans (rfl : _ = some (Value.int .u64 (since)))
  have t1 := (blk_cell HN5.out 1).trans (rfl : _ = some (Value.int .i64 (n)))
  have t2 := (blk_cell HN5.out 2).trans (rfl : _ = some (Value.int .i64 (barred)))
  have z0 := blk_frozen HN5.out 0
  have z1 := blk_frozen HN5.out 1
  have z2 := blk_frozen HN5.out 2
  go_wp2_with fail
  clear hd1 hwr hge
  generalize hW2 : World.setCell _ _ _ = W2
  have HN2 := Aside0.mk (show W2.heap[p]? = some (.cells #[.int .u64 now, .int .i64 0, .int .i64 0] 146 (0, 0)) by rw [← hW2]; exact blk_put (blk_put (blk_put HN5.out 0 _ rfl) 1 _ rfl) 2 _ rfl)
  have HL2 := Aside0.mk (show LJ W2 b g m N span burst most (l) by rw [← hW2]; exact ((HL5.out.set HN5.out _).set (blk_put HN5.out 0 _ rfl) _).set (blk_put (blk_put HN5.out 0 _ rfl) 1 _ rfl) _)
  have HB2 := Aside0.mk (show Below b w W2 by rw [← hW2]; exact ((HB5.out.setCell (p := ⟨p, 0, none⟩) HBP.out _).setCell (p := ⟨p, 1, none⟩) HBP.out _).setCell (p := ⟨p, 2, none⟩) HBP.out _)
  have HQ2 := Aside0.mk (show FrM w W2 m by rw [← hW2]; exact ((HQ5.out.set HPW.out _).set HPW.out _).set HPW.out _)
  clear hW2 HN5 HL5 HB5 HQ5 t0 t1 t2 z0 z1 z2
  have t0 := (blk_cell HN2.out 0).trans (rfl : _ = some (Value.int .u64 (now)))
  have t1 := (blk_cell HN2.out 1).trans (rfl : _ = some (Value.int .i64 (0)))
  have t2 := (blk_cell HN2.out 2).trans (rfl : _ = some (Value.int .i64 (0)))
  have f1 := blk_frozen HN2.out 1
  have f2 := blk_frozen HN2.out 2
  have s1 := (blk_cell HL2.out.hb 1).trans (rfl : _ = some (Value.int .i64 burst))
  by_cases hlt : 0 < burst
  · have hd := decide_eq_true hlt
    go_quiet (fail)
    go_wp2_with fail
    generalize hW3 : World.setCell _ _ _ = W3
    have HN3 := Aside0.mk (show W3.heap[p]? = some (.cells #[.int .u64 (now), .int .i64 (1), .int .i64 (0)] 146 (0, 0)) by rw [← hW3]; exact blk_put (blk_drewN HN2.out _) 1 _ rfl)
    have HL3 := Aside0.mk (show LJ W3 b g m N span burst most (l) by rw [← hW3]; exact (HL2.out.below (pw_below_drewN (Below.refl _ _) _)).set (blk_drewN HN2.out _) _)
    have HB3 := Aside0.mk (show Below b w W3 by rw [← hW3]; exact (pw_below_drewN HB2.out _).setCell (p := ⟨p, 1, none⟩) HBP.out _)
    have HQ3 := Aside0.mk (show FrM w W3 m by rw [← hW3]; exact (HQ2.out.trans (FrM.of_below (pw_below_drewN (Below.refl _ _) _))).set HPW.out _)
    clear hW3 t0 t1 t2 f1 f2 s1
    obtain ⟨w4, hrun, hm4, ht4⟩ := mv_run (MV.drew HL3.out.hm) lawSt Try.underlying139 (by unfold maxLen; omega) HK.out (.agg #[.int .u64 (now), .int .i64 (1), .int .i64 (0)])
    have hfin := (HL3.out.below (below_drew1 (Below.refl _ _))).stored (x := ⟨now, 1, 0⟩) hm4 ht4 (HSET.out _)
    have HF := Aside0.mk hfin
    have HQ4 := Aside0.mk ((HQ3.out.trans (FrM.of_below (below_drew1 (Below.refl _ _)))).trans (FrM.turned ht4))
    clear hfin hm4 ht4
    have t0 := (blk_cell HN3.out 0).trans (rfl : _ = some (Value.int .u64 (now)))
    have t1 := (blk_cell HN3.out 1).trans (rfl : _ = some (Value.int .i64 (1)))
    have t2 := (blk_cell HN3.out 2).trans (rfl : _ = some (Value.int .i64 (0)))
    have s3 := (blk_cell HL3.out.hb 3).trans (rfl : _ = some (Value.map (some m)))
    go_region
    all_goals
      go_wp2_with fail
      go_ret2
      have hA : allowW burst ⟨now, 0, 0⟩ = (true, ⟨now, 1, 0⟩) := by unfold allowW; simp [hlt]
      rw [hA]
      exact ⟨rfl, HF.out.1, (HB3.out.trans (below_drew1 (Below.refl _ _))).trans HF.out.2, HQ4.out⟩
  · have hd := decide_eq_false hlt
    go_quiet (fail)
    go_wp2_with fail
    generalize hW3 : World.setCell _ _ _ = W3
    have HN3 := Aside0.mk (show W3.heap[p]? = some (.cells #[.int .u64 (now), .int .i64 (0), .int .i64 (1)] 146 (0, 0)) by rw [← hW3]; exact blk_put (blk_drewN HN2.out _) 2 _ rfl)
    have HL3 := Aside0.mk (show LJ W3 b g m N span burst most (l) by rw [← hW3]; exact (HL2.out.below (pw_below_drewN (Below.refl _ _) _)).set (blk_drewN HN2.out _) _)
    have HB3 := Aside0.mk (show Below b w W3 by rw [← hW3]; exact (pw_below_drewN HB2.out _).setCell (p := ⟨p, 2, none⟩) HBP.out _)
    have HQ3 := Aside0.mk (show FrM w W3 m by rw [← hW3]; exact (HQ2.out.trans (FrM.of_below (pw_below_drewN (Below.refl _ _) _))).set HPW.out _)
    clear hW3 t0 t1 t2 f1 f2 s1
    obtain ⟨w4, hrun, hm4, ht4⟩ := mv_run (MV.drew HL3.out.hm) lawSt Try.underlying139 (by unfold maxLen; omega) HK.out (.agg #[.int .u64 (now), .int .i64 (0), .int .i64 (1)])
    have hfin := (HL3.out.below (below_drew1 (Below.refl _ _))).stored (x := ⟨now, 0, 1⟩) hm4 ht4 (HSET.out _)
    have HF := Aside0.mk hfin
    have HQ4 := Aside0.mk ((HQ3.out.trans (FrM.of_below (below_drew1 (Below.refl _ _)))).trans (FrM.turned ht4))
    clear hfin hm4 ht4
    have t0 := (blk_cell HN3.out 0).trans (rfl : _ = some (Value.int .u64 (now)))
    have t1 := (blk_cell HN3.out 1).trans (rfl : _ = some (Value.int .i64 (0)))
    have t2 := (blk_cell HN3.out 2).trans (rfl : _ = some (Value.int .i64 (1)))
    have s3 := (blk_cell HL3.out.hb 3).trans (rfl : _ = some (Value.map (some m)))
    go_region
    all_goals
      go_wp2_with fail
      go_ret2
      have hA : allowW burst ⟨now, 0, 0⟩ = (false, ⟨now, 0, 1⟩) := by unfold allowW; simp [hlt]
      rw [hA]
      exact ⟨rfl, HF.out.1, (HB3.out.trans (below_drew1 (Below.refl _ _))).trans HF.out.2, HQ4.out⟩
set_option maxHeartbeats 2000000 in
set_option maxRecDepth 100000 in
theorem lallow_back (b g m N : Nat) (span burst most : Int) (l : List LW) (s : ByteArray) (now : Int) (w : World) (h : LJ w b g m N span burst most l) (hs : s.size ≤ maxLen) (hN : N < 1000000) (hn : 0 ≤ now ∧ now < 18446744073709551616) (x : WV) (hget : getW l s = some x) (L' : WV → List LW) (hset : ∀ y : WV, upd (mapW l) (kStr s) (some y.v) = mapW (L' y)) (h1 : now < x.since) :
    Calls Try.prog 61 #[.pointer (some ⟨g, 0, none⟩), .string s, .int .u64 now] w fun e w' => e = .returned (.tuple #[.bool (allowW burst ⟨now, 0, 0⟩).1, .int .i64 x.barred]) ∧ LJ w' b g m (N + 1) span burst most (L' (allowW burst ⟨now, 0, 0⟩).2) ∧ Below b w w' ∧ FrM w w' m := by
  have hc0 := (blk_cell h.hb 0).trans (rfl : _ = some (Value.int .u64 span))
  have hc1 := (blk_cell h.hb 1).trans (rfl : _ = some (Value.int .i64 burst))
  have hc3 := (blk_cell h.hb 3).trans (rfl : _ = some (Value.map (some m)))
  have HM := Aside0.mk h.hm
  have HBG := Aside0.mk (Nat.le_trans h.hg (Nat.le_of_lt (blk_lt h.hb)))
  have hkey := Go.WideMaps.keyOf_string_mk (P := Try.prog) Try.underlying9 hs
  have HK := Aside0.mk hkey
  obtain ⟨since, n, barred⟩ := x
  dsimp only at h1
  have HSET := Aside0.mk hset
  clear hset
  obtain ⟨hnl, hnh⟩ := hn
  have hd1 : decide (now < since) = true := decide_eq_true h1
  have HV := Aside0.mk (show (mapW l (kStr s)).getD (.agg #[.int .u64 0, .int .i64 0, .int .i64 0]) = .agg #[.int .u64 since, .int .i64 n, .int .i64 barred] ∧ (mapW l (kStr s)).isSome = true by rw [mapW_at, hget]; exact ⟨rfl, rfl⟩)
  have qm : ∀ (w : World) (r : Option Nat), (binOp .eql 139 (.map r) (.map none)).run Try.prog w = .ok (.bool r.isNone) w := fun w r => run_eql_map_nil w _ _ _ r Try.underlying139
  have H := Aside0.mk h
  clear h hkey hget
  go_enter Try.func61, Try.ntmps61
  go_wp2_with (at_lookup; refine mv_lookup_ok rfl _ _ 139 rfl 9 146 lawSt Try.underlying139 (zeroWin _) m N (mapW l) rfl HM.out _ (kStr s) rfl HK.out _ _ HV.out.1 HV.out.2 ?_)
  obtain ⟨W1, hW1⟩ : ∃ W1, W1 = w.alloc (.cells #[.int .u64 (since), .int .i64 (n), .int .i64 (barred)] 146) := ⟨_, rfl⟩
  have hnb : W1.heap[w.heap.size]? = some (.cells #[.int .u64 (since), .int .i64 (n), .int .i64 (barred)] 146 (0, 0)) := by rw [hW1]; exact blk_new _ _
  have hb1 : Below w.heap.size w W1 := by rw [hW1]; exact below_alloc (Below.refl _ _) _
  rw [← hW1]
  obtain ⟨p, hp⟩ : ∃ p, p = w.heap.size := ⟨_, rfl⟩
  rw [← hp] at hnb ⊢
  have t0 := (blk_cell hnb 0).trans (rfl : _ = some (Value.int .u64 (since)))
  have t1 := (blk_cell hnb 1).trans (rfl : _ = some (Value.int .i64 (n)))
  have t2 := (blk_cell hnb 2).trans (rfl : _ = some (Value.int .i64 (barred)))
  have s0 := pw_cell_below hb1 hc0
  have s1 := pw_cell_below hb1 hc1
  have s3 := pw_cell_below hb1 hc3
  have HB1 := Aside0.mk hb1
  have HNB := Aside0.mk hnb
  have HBP := Aside0.mk (show b ≤ p by rw [hp]; exact HBG.out)
  have HPW := Aside0.mk hp
  clear hW1 hb1 hnb hp hc0 hc1 hc3
  go_quiet (fail)
  generalize hW5 : World.drewN _ _ = W5
  have HN5 := Aside0.mk (show W5.heap[p]? = some (.cells #[.int .u64 (since), .int .i64 (n), .int .i64 (barred)] 146 (0, 0)) by rw [← hW5]; exact HNB.out)
  have HL5 := Aside0.mk (show LJ W5 b g m N span burst most l by rw [← hW5]; exact (H.out.below HB1.out).below (pw_below_drewN (Below.refl _ _) _))
  have HB5 := Aside0.mk (show Below b w W5 by rw [← hW5]; exact pw_below_drewN (HB1.out.mono HBG.out) _)
  have HQ5 := Aside0.mk (show FrM w W5 m by rw [← hW5]; exact FrM.of_below (pw_below_drewN HB1.out _))
  clear hW5 HNB HB1 H HM t0 t1 t2 s0 s1 s3
  have t0 := (blk_cell HN5.out 0).trans (rfl : _ = some (Value.int .u64 (since)))
  have t1 := (blk_cell HN5.out 1).trans (rfl : _ = some (Value.int .i64 (n)))
  have t2 := (blk_cell HN5.out 2).trans (rfl : _ = some (Value.int .i64 (barred)))
  have z0 := blk_frozen HN5.out 0
  have z1 := blk_frozen HN5.out 1
  have z2 := blk_frozen HN5.out 2
  go_wp2_with fail
  clear hd1
  generalize hW2 : World.setCell _ _ _ = W2
  have HN2 := Aside0.mk (show W2.heap[p]? = some (.cells #[.int .u64 now, .int .i64 0, .int .i64 0] 146 (0, 0)) by rw [← hW2]; exact blk_put (blk_put (blk_put HN5.out 0 _ rfl) 1 _ rfl) 2 _ rfl)
  have HL2 := Aside0.mk (show LJ W2 b g m N span burst most (l) by rw [← hW2]; exact ((HL5.out.set HN5.out _).set (blk_put HN5.out 0 _ rfl) _).set (blk_put (blk_put HN5.out 0 _ rfl) 1 _ rfl) _)
  have HB2 := Aside0.mk (show Below b w W2 by rw [← hW2]; exact ((HB5.out.setCell (p := ⟨p, 0, none⟩) HBP.out _).setCell (p := ⟨p, 1, none⟩) HBP.out _).setCell (p := ⟨p, 2, none⟩) HBP.out _)
  have HQ2 := Aside0.mk (show FrM w W2 m by rw [← hW2]; exact ((HQ5.out.set HPW.out _).set HPW.out _).set HPW.out _)
  clear hW2 HN5 HL5 HB5 HQ5 t0 t1 t2 z0 z1 z2
  have t0 := (blk_cell HN2.out 0).trans (rfl : _ = some (Value.int .u64 (now)))
  have t1 := (blk_cell HN2.out 1).trans (rfl : _ = some (Value.int .i64 (0)))
  have t2 := (blk_cell HN2.out 2).trans (rfl : _ = some (Value.int .i64 (0)))
  have f1 := blk_frozen HN2.out 1
  have f2 := blk_frozen HN2.out 2
  have s1 := (blk_cell HL2.out.hb 1).trans (rfl : _ = some (Value.int .i64 burst))
  by_cases hlt : 0 < burst
  · have hd := decide_eq_true hlt
    go_quiet (fail)
    go_wp2_with fail
    generalize hW3 : World.setCell _ _ _ = W3
    have HN3 := Aside0.mk (show W3.heap[p]? = some (.cells #[.int .u64 (now), .int .i64 (1), .int .i64 (0)] 146 (0, 0)) by rw [← hW3]; exact blk_put (blk_drewN HN2.out _) 1 _ rfl)
    have HL3 := Aside0.mk (show LJ W3 b g m N span burst most (l) by rw [← hW3]; exact (HL2.out.below (pw_below_drewN (Below.refl _ _) _)).set (blk_drewN HN2.out _) _)
    have HB3 := Aside0.mk (show Below b w W3 by rw [← hW3]; exact (pw_below_drewN HB2.out _).setCell (p := ⟨p, 1, none⟩) HBP.out _)
    have HQ3 := Aside0.mk (show FrM w W3 m by rw [← hW3]; exact (HQ2.out.trans (FrM.of_below (pw_below_drewN (Below.refl _ _) _))).set HPW.out _)
    clear hW3 t0 t1 t2 f1 f2 s1
    obtain ⟨w4, hrun, hm4, ht4⟩ := mv_run (MV.drew HL3.out.hm) lawSt Try.underlying139 (by unfold maxLen; omega) HK.out (.agg #[.int .u64 (now), .int .i64 (1), .int .i64 (0)])
    have hfin := (HL3.out.below (below_drew1 (Below.refl _ _))).stored (x := ⟨now, 1, 0⟩) hm4 ht4 (HSET.out _)
    have HF := Aside0.mk hfin
    have HQ4 := Aside0.mk ((HQ3.out.trans (FrM.of_below (below_drew1 (Below.refl _ _)))).trans (FrM.turned ht4))
    clear hfin hm4 ht4
    have t0 := (blk_cell HN3.out 0).trans (rfl : _ = some (Value.int .u64 (now)))
    have t1 := (blk_cell HN3.out 1).trans (rfl : _ = some (Value.int .i64 (1)))
    have t2 := (blk_cell HN3.out 2).trans (rfl : _ = some (Value.int .i64 (0)))
    have s3 := (blk_cell HL3.out.hb 3).trans (rfl : _ = some (Value.map (some m)))
    go_region
    all_goals
      go_wp2_with fail
      go_ret2
      have hA : allowW burst ⟨now, 0, 0⟩ = (true, ⟨now, 1, 0⟩) := by unfold allowW; simp [hlt]
      rw [hA]
      exact ⟨rfl, HF.out.1, (HB3.out.trans (below_drew1 (Below.refl _ _))).trans HF.out.2, HQ4.out⟩
  · have hd := decide_eq_false hlt
    go_quiet (fail)
    go_wp2_with fail
    generalize hW3 : World.setCell _ _ _ = W3
    have HN3 := Aside0.mk (show W3.heap[p]? = some (.cells #[.int .u64 (now), .int .i64 (0), .int .i64 (1)] 146 (0, 0)) by rw [← hW3]; exact blk_put (blk_drewN HN2.out _) 2 _ rfl)
    have HL3 := Aside0.mk (show LJ W3 b g m N span burst most (l) by rw [← hW3]; exact (HL2.out.below (pw_below_drewN (Below.refl _ _) _)).set (blk_drewN HN2.out _) _)
    have HB3 := Aside0.mk (show Below b w W3 by rw [← hW3]; exact (pw_below_drewN HB2.out _).setCell (p := ⟨p, 2, none⟩) HBP.out _)
    have HQ3 := Aside0.mk (show FrM w W3 m by rw [← hW3]; exact (HQ2.out.trans (FrM.of_below (pw_below_drewN (Below.refl _ _) _))).set HPW.out _)
    clear hW3 t0 t1 t2 f1 f2 s1
    obtain ⟨w4, hrun, hm4, ht4⟩ := mv_run (MV.drew HL3.out.hm) lawSt Try.underlying139 (by unfold maxLen; omega) HK.out (.agg #[.int .u64 (now), .int .i64 (0), .int .i64 (1)])
    have hfin := (HL3.out.below (below_drew1 (Below.refl _ _))).stored (x := ⟨now, 0, 1⟩) hm4 ht4 (HSET.out _)
    have HF := Aside0.mk hfin
    have HQ4 := Aside0.mk ((HQ3.out.trans (FrM.of_below (below_drew1 (Below.refl _ _)))).trans (FrM.turned ht4))
    clear hfin hm4 ht4
    have t0 := (blk_cell HN3.out 0).trans (rfl : _ = some (Value.int .u64 (now)))
    have t1 := (blk_cell HN3.out 1).trans (rfl : _ = some (Value.int .i64 (0)))
    have t2 := (blk_cell HN3.out 2).trans (rfl : _ = some (Value.int .i64 (1)))
    have s3 := (blk_cell HL3.out.hb 3).trans (rfl : _ = some (Value.map (some m)))
    go_region
    all_goals
      go_wp2_with fail
      go_ret2
      have hA : allowW burst ⟨now, 0, 0⟩ = (false, ⟨now, 0, 1⟩) := by unfold allowW; simp [hlt]
      rw [hA]
      exact ⟨rfl, HF.out.1, (HB3.out.trans (below_drew1 (Below.refl _ _))).trans HF.out.2, HQ4.out⟩
set_option maxHeartbeats 2000000 in
set_option maxRecDepth 100000 in
theorem lallow_new (b g m N : Nat) (span burst most : Int) (l : List LW) (s : ByteArray) (now : Int) (w : World) (h : LJ w b g m N span burst most l) (hs : s.size ≤ maxLen) (hN : N < 1000000) (hn : 0 ≤ now ∧ now < 18446744073709551616) (k : Nat) (ok : OkL l k) (hk : k ≤ 1000000) (hmo : 1 ≤ most) (hget : getW l s = none) (L' : WV → List LW) (hset : ∀ y : WV, upd (mapW (roomW most l)) (kStr s) (some y.v) = mapW (L' y)) :
    Calls Try.prog 61 #[.pointer (some ⟨g, 0, none⟩), .string s, .int .u64 now] w fun e w' => e = .returned (.tuple #[.bool (allowW burst ⟨now, 0, 0⟩).1, .int .i64 0]) ∧ LJ w' b g m (N + 1) span burst most (L' (allowW burst ⟨now, 0, 0⟩).2) ∧ Below b w w' ∧ FrM w w' m := by
  have hc0 := (blk_cell h.hb 0).trans (rfl : _ = some (Value.int .u64 span))
  have hc1 := (blk_cell h.hb 1).trans (rfl : _ = some (Value.int .i64 burst))
  have hc3 := (blk_cell h.hb 3).trans (rfl : _ = some (Value.map (some m)))
  have HM := Aside0.mk h.hm
  have HBG := Aside0.mk (Nat.le_trans h.hg (Nat.le_of_lt (blk_lt h.hb)))
  have hkey := Go.WideMaps.keyOf_string_mk (P := Try.prog) Try.underlying9 hs
  have HK := Aside0.mk hkey
  have HSET := Aside0.mk hset
  have HOK := Aside0.mk ok
  clear hset ok
  obtain ⟨hnl, hnh⟩ := hn
  have HV := Aside0.mk (show (mapW l (kStr s)).getD (.agg #[.int .u64 0, .int .i64 0, .int .i64 0]) = .agg #[.int .u64 0, .int .i64 0, .int .i64 0] ∧ (mapW l (kStr s)).isSome = false by rw [mapW_at, hget]; exact ⟨rfl, rfl⟩)
  have qm : ∀ (w : World) (r : Option Nat), (binOp .eql 139 (.map r) (.map none)).run Try.prog w = .ok (.bool r.isNone) w := fun w r => run_eql_map_nil w _ _ _ r Try.underlying139
  have H := Aside0.mk h
  clear h hkey hget
  go_enter Try.func61, Try.ntmps61
  go_wp2_with (at_lookup; refine mv_lookup_ok rfl _ _ 139 rfl 9 146 lawSt Try.underlying139 (zeroWin _) m N (mapW l) rfl HM.out _ (kStr s) rfl HK.out _ _ HV.out.1 HV.out.2 ?_)
  obtain ⟨W1, hW1⟩ : ∃ W1, W1 = w.alloc (.cells #[.int .u64 (0), .int .i64 (0), .int .i64 (0)] 146) := ⟨_, rfl⟩
  have hnb : W1.heap[w.heap.size]? = some (.cells #[.int .u64 (0), .int .i64 (0), .int .i64 (0)] 146 (0, 0)) := by rw [hW1]; exact blk_new _ _
  have hb1 : Below w.heap.size w W1 := by rw [hW1]; exact below_alloc (Below.refl _ _) _
  rw [← hW1]
  obtain ⟨p, hp⟩ : ∃ p, p = w.heap.size := ⟨_, rfl⟩
  rw [← hp] at hnb ⊢
  have t0 := (blk_cell hnb 0).trans (rfl : _ = some (Value.int .u64 (0)))
  have t1 := (blk_cell hnb 1).trans (rfl : _ = some (Value.int .i64 (0)))
  have t2 := (blk_cell hnb 2).trans (rfl : _ = some (Value.int .i64 (0)))
  have s0 := pw_cell_below hb1 hc0
  have s1 := pw_cell_below hb1 hc1
  have s3 := pw_cell_below hb1 hc3
  have HB1 := Aside0.mk hb1
  have HNB := Aside0.mk hnb
  have HBP := Aside0.mk (show b ≤ p by rw [hp]; exact HBG.out)
  have HPW := Aside0.mk hp
  clear hW1 hb1 hnb hp hc0 hc1 hc3
  go_quiet (fail)
  generalize hW5 : World.drewN _ _ = W5
  have HN5 := Aside0.mk (show W5.heap[p]? = some (.cells #[.int .u64 (0), .int .i64 (0), .int .i64 (0)] 146 (0, 0)) by rw [← hW5]; exact HNB.out)
  have HL5 := Aside0.mk (show LJ W5 b g m N span burst most l by rw [← hW5]; exact (H.out.below HB1.out).below (pw_below_drewN (Below.refl _ _) _))
  have HB5 := Aside0.mk (show Below b w W5 by rw [← hW5]; exact pw_below_drewN (HB1.out.mono HBG.out) _)
  have HQ5 := Aside0.mk (show FrM w W5 m by rw [← hW5]; exact FrM.of_below (pw_below_drewN HB1.out _))
  clear hW5 HNB HB1 H HM t0 t1 t2 s0 s1 s3
  have t0 := (blk_cell HN5.out 0).trans (rfl : _ = some (Value.int .u64 (0)))
  have t1 := (blk_cell HN5.out 1).trans (rfl : _ = some (Value.int .i64 (0)))
  have t2 := (blk_cell HN5.out 2).trans (rfl : _ = some (Value.int .i64 (0)))
  have z0 := blk_frozen HN5.out 0
  have z1 := blk_frozen HN5.out 1
  have z2 := blk_frozen HN5.out 2
  have HRM := Aside0.mk (lroom_any b g m N k span burst most l W5 HL5.out HOK.out hk (by omega) hmo)
  go_wp2_with (go_at_call 81; refine HRM.out.mono ?_; rintro e w6 ⟨rfl, hl6, hb6, hk6⟩; have hn6 := (hk6 p (blk_lt HN5.out) (fun e => HL5.out.hm.ne HN5.out e.symm)).trans HN5.out; have hb6' := HB5.out.trans hb6; have hq6 := HQ5.out.trans (show FrM W5 w6 m from ⟨hb6.size, hk6⟩); clear HN5 HL5 HB5 HQ5 t0 t1 t2 z0 z1 z2 hk6 hb6; have HN5 := Aside0.mk hn6; have HL5 := Aside0.mk hl6; have HB5 := Aside0.mk hb6'; have HQ5 := Aside0.mk hq6; clear hn6 hl6 hb6' hq6; have t0 := (blk_cell HN5.out 0).trans (rfl : _ = some (Value.int .u64 0)); have t1 := (blk_cell HN5.out 1).trans (rfl : _ = some (Value.int .i64 0)); have t2 := (blk_cell HN5.out 2).trans (rfl : _ = some (Value.int .i64 0)); have z0 := blk_frozen HN5.out 0; have z1 := blk_frozen HN5.out 1; have z2 := blk_frozen HN5.out 2)
  clear HRM
  generalize hW2 : World.setCell _ _ _ = W2
  have HN2 := Aside0.mk (show W2.heap[p]? = some (.cells #[.int .u64 now, .int .i64 0, .int .i64 0] 146 (0, 0)) by rw [← hW2]; exact blk_put (blk_put (blk_put HN5.out 0 _ rfl) 1 _ rfl) 2 _ rfl)
  have HL2 := Aside0.mk (show LJ W2 b g m N span burst most ((roomW most l)) by rw [← hW2]; exact ((HL5.out.set HN5.out _).set (blk_put HN5.out 0 _ rfl) _).set (blk_put (blk_put HN5.out 0 _ rfl) 1 _ rfl) _)
  have HB2 := Aside0.mk (show Below b w W2 by rw [← hW2]; exact ((HB5.out.setCell (p := ⟨p, 0, none⟩) HBP.out _).setCell (p := ⟨p, 1, none⟩) HBP.out _).setCell (p := ⟨p, 2, none⟩) HBP.out _)
  have HQ2 := Aside0.mk (show FrM w W2 m by rw [← hW2]; exact ((HQ5.out.set HPW.out _).set HPW.out _).set HPW.out _)
  clear hW2 HN5 HL5 HB5 HQ5 t0 t1 t2 z0 z1 z2
  have t0 := (blk_cell HN2.out 0).trans (rfl : _ = some (Value.int .u64 (now)))
  have t1 := (blk_cell HN2.out 1).trans (rfl : _ = some (Value.int .i64 (0)))
  have t2 := (blk_cell HN2.out 2).trans (rfl : _ = some (Value.int .i64 (0)))
  have f1 := blk_frozen HN2.out 1
  have f2 := blk_frozen HN2.out 2
  have s1 := (blk_cell HL2.out.hb 1).trans (rfl : _ = some (Value.int .i64 burst))
  by_cases hlt : 0 < burst
  · have hd := decide_eq_true hlt
    go_quiet (fail)
    go_wp2_with fail
    generalize hW3 : World.setCell _ _ _ = W3
    have HN3 := Aside0.mk (show W3.heap[p]? = some (.cells #[.int .u64 (now), .int .i64 (1), .int .i64 (0)] 146 (0, 0)) by rw [← hW3]; exact blk_put (blk_drewN HN2.out _) 1 _ rfl)
    have HL3 := Aside0.mk (show LJ W3 b g m N span burst most ((roomW most l)) by rw [← hW3]; exact (HL2.out.below (pw_below_drewN (Below.refl _ _) _)).set (blk_drewN HN2.out _) _)
    have HB3 := Aside0.mk (show Below b w W3 by rw [← hW3]; exact (pw_below_drewN HB2.out _).setCell (p := ⟨p, 1, none⟩) HBP.out _)
    have HQ3 := Aside0.mk (show FrM w W3 m by rw [← hW3]; exact (HQ2.out.trans (FrM.of_below (pw_below_drewN (Below.refl _ _) _))).set HPW.out _)
    clear hW3 t0 t1 t2 f1 f2 s1
    obtain ⟨w4, hrun, hm4, ht4⟩ := mv_run (MV.drew HL3.out.hm) lawSt Try.underlying139 (by unfold maxLen; omega) HK.out (.agg #[.int .u64 (now), .int .i64 (1), .int .i64 (0)])
    have hfin := (HL3.out.below (below_drew1 (Below.refl _ _))).stored (x := ⟨now, 1, 0⟩) hm4 ht4 (HSET.out _)
    have HF := Aside0.mk hfin
    have HQ4 := Aside0.mk ((HQ3.out.trans (FrM.of_below (below_drew1 (Below.refl _ _)))).trans (FrM.turned ht4))
    clear hfin hm4 ht4
    have t0 := (blk_cell HN3.out 0).trans (rfl : _ = some (Value.int .u64 (now)))
    have t1 := (blk_cell HN3.out 1).trans (rfl : _ = some (Value.int .i64 (1)))
    have t2 := (blk_cell HN3.out 2).trans (rfl : _ = some (Value.int .i64 (0)))
    have s3 := (blk_cell HL3.out.hb 3).trans (rfl : _ = some (Value.map (some m)))
    go_region
    all_goals
      go_wp2_with fail
      go_ret2
      have hA : allowW burst ⟨now, 0, 0⟩ = (true, ⟨now, 1, 0⟩) := by unfold allowW; simp [hlt]
      rw [hA]
      exact ⟨rfl, HF.out.1, (HB3.out.trans (below_drew1 (Below.refl _ _))).trans HF.out.2, HQ4.out⟩
  · have hd := decide_eq_false hlt
    go_quiet (fail)
    go_wp2_with fail
    generalize hW3 : World.setCell _ _ _ = W3
    have HN3 := Aside0.mk (show W3.heap[p]? = some (.cells #[.int .u64 (now), .int .i64 (0), .int .i64 (1)] 146 (0, 0)) by rw [← hW3]; exact blk_put (blk_drewN HN2.out _) 2 _ rfl)
    have HL3 := Aside0.mk (show LJ W3 b g m N span burst most ((roomW most l)) by rw [← hW3]; exact (HL2.out.below (pw_below_drewN (Below.refl _ _) _)).set (blk_drewN HN2.out _) _)
    have HB3 := Aside0.mk (show Below b w W3 by rw [← hW3]; exact (pw_below_drewN HB2.out _).setCell (p := ⟨p, 2, none⟩) HBP.out _)
    have HQ3 := Aside0.mk (show FrM w W3 m by rw [← hW3]; exact (HQ2.out.trans (FrM.of_below (pw_below_drewN (Below.refl _ _) _))).set HPW.out _)
    clear hW3 t0 t1 t2 f1 f2 s1
    obtain ⟨w4, hrun, hm4, ht4⟩ := mv_run (MV.drew HL3.out.hm) lawSt Try.underlying139 (by unfold maxLen; omega) HK.out (.agg #[.int .u64 (now), .int .i64 (0), .int .i64 (1)])
    have hfin := (HL3.out.below (below_drew1 (Below.refl _ _))).stored (x := ⟨now, 0, 1⟩) hm4 ht4 (HSET.out _)
    have HF := Aside0.mk hfin
    have HQ4 := Aside0.mk ((HQ3.out.trans (FrM.of_below (below_drew1 (Below.refl _ _)))).trans (FrM.turned ht4))
    clear hfin hm4 ht4
    have t0 := (blk_cell HN3.out 0).trans (rfl : _ = some (Value.int .u64 (now)))
    have t1 := (blk_cell HN3.out 1).trans (rfl : _ = some (Value.int .i64 (0)))
    have t2 := (blk_cell HN3.out 2).trans (rfl : _ = some (Value.int .i64 (1)))
    have s3 := (blk_cell HL3.out.hb 3).trans (rfl : _ = some (Value.map (some m)))
    go_region
    all_goals
      go_wp2_with fail
      go_ret2
      have hA : allowW burst ⟨now, 0, 0⟩ = (false, ⟨now, 0, 1⟩) := by unfold allowW; simp [hlt]
      rw [hA]
      exact ⟨rfl, HF.out.1, (HB3.out.trans (below_drew1 (Below.refl _ _))).trans HF.out.2, HQ4.out⟩
theorem lallow_any (b g m N : Nat) (span burst most : Int) (l : List LW) (s : ByteArray) (now : Int) (w : World) (h : LJ w b g m N span burst most l) (hs : s.size ≤ maxLen) (hN : N < 1000000) (hn : 0 ≤ now ∧ now < 18446744073709551616) (k : Nat) (ok : OkL l k) (hk : k ≤ 1000000) (hmo : 1 ≤ most) :
    Calls Try.prog 61 #[.pointer (some ⟨g, 0, none⟩), .string s, .int .u64 now] w fun e w' => e = .returned (.tuple #[.bool (stepW span burst most l s now).1.1, .int .i64 (stepW span burst most l s now).1.2]) ∧ LJ w' b g m (N + 1) span burst most (stepW span burst most l s now).2 ∧ Below b w w' ∧ FrM w w' m := by
  unfold stepW
  cases hg : getW l s with
  | none => exact lallow_new b g m N span burst most l s now w h hs hN hn k ok hk hmo hg (fun y => insW (roomW most l) s y) (fun y => (mapW_ins (roomW_ris ok.ris most) (fun p hp => getW_none hg p (roomW_mem hp)) y).symm)
  | some x =>
    obtain ⟨i, hi⟩ := getW_some hg
    have hx := ok.ok _ (List.mem_of_getElem? hi)
    have hset : ∀ y : WV, upd (mapW l) (kStr s) (some y.v) = mapW (l.set (posW l s) (s, y)) := fun y => by rw [posW_at ok.ris hi]; exact (mapW_set ok.ris hi y).symm
    dsimp only at hx ⊢
    by_cases h1 : now < x.since
    · have e : endsW span now x = true := by unfold endsW; simp [h1]
      unfold begW tellW
      rw [e, if_pos rfl, if_pos rfl]
      exact lallow_back b g m N span burst most l s now w h hs hN hn x hg (fun y => l.set (posW l s) (s, y)) hset h1
    · by_cases h3 : span ≤ now - x.since
      · have e : endsW span now x = true := by unfold endsW; simp [h3]
        unfold begW tellW
        rw [e, if_pos rfl, if_pos rfl]
        exact lallow_end b g m N span burst most l s now w h hs hN hn x hg (fun y => l.set (posW l s) (s, y)) hset hx.2.1.1 (by omega) h3
      · have e : endsW span now x = false := by unfold endsW; simp [h1]; omega
        unfold begW tellW
        rw [e, if_neg (by decide), if_neg (by decide)]
        exact lallow_old b g m N span burst most l s now w h hs hN hn x hg (fun y => l.set (posW l s) (s, y)) hset hx.2.1.1 (by omega) h3 hx.2.2.1.1 (by omega) hx.2.2.2.1 (by omega)
end Go.Proofs.Ytldiginkmmlojaa
