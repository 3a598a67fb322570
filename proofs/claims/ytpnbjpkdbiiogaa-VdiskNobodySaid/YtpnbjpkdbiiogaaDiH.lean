/- The code's directory in memory: New, Get, Pending, do. -/
import Derived.Test.YtpnbjpkdbiiogaaDiG
namespace Go.Proofs.Ytpnbjpkdbiiogaa
set_option linter.unusedVariables false
open Go.RowKit Go.Maps Go.Proofs.YtpnbjpkdbiiogaaW.PrintWords
attribute [local go_sem] mx2 mn2 mxTwo mnTwo

theorem lawS : Keyed Try.prog 9 := string_keyed Try.underlying9
theorem zeroI (w : World) : (zeroValue 3).run Try.prog w = .ok (.int .i64 0) w := by kernel_rfl
/-- The code's directory. -/
structure DI (W : World) (b g mn ms : Nat) (vo : Value) (N : Nat) (now safe : List DN) (ops : List DOp) : Prop where
  hb : W.heap[g]? = some (.cells #[.map (some mn), .map (some ms), vo] 88 (0, 0))
  hn : MV W Try.prog 9 mn N (mapF now)
  hs : MV W Try.prog 9 ms N (mapF safe)
  ho : Kd.R kDop 149 W b (fun _ => True) vo ops
  hg : b ≤ g
  hmn : b ≤ mn
  hms : b ≤ ms
  ne : mn ≠ ms
theorem DI.below {W W1 : World} {b g mn ms N : Nat} {vo : Value} {now safe : List DN} {ops : List DOp} (h : DI W b g mn ms vo N now safe ops) (hb : Below W.heap.size W W1) : DI W1 b g mn ms vo N now safe ops :=
  ⟨blk_below h.hb hb, h.hn.below hb, h.hs.below hb, Kd.R_below h.ho hb, h.hg, h.hmn, h.hms, h.ne⟩
theorem mapF_nil : mapF [] = fun _ => none := rfl
theorem dnew_any (b : Nat) (w : World) (hb : b ≤ w.heap.size) : Calls Try.prog 43 #[] w fun e w' => ∃ g mn ms, e = .returned (.pointer (some ⟨g, 0, none⟩)) ∧ w.heap.size ≤ g ∧ w.heap.size ≤ mn ∧ w.heap.size ≤ ms ∧ DI w' b g mn ms (.slice none 0 0) 0 [] [] [] ∧ Below w.heap.size w w' := by
  have hmm := @run_makeMap Try.prog
  go_enter Try.func43, Try.ntmps43
  go_wp2
  go_ret
  have h1 := MV.made w Try.prog 9
  have h2 := MV.made (w.alloc (.map #[] 0)) Try.prog 9
  have hz : (w.alloc (.map #[] 0)).heap.size = w.heap.size + 1 := World.size_alloc ..
  rw [hz] at h2
  have hz2 : ((w.alloc (.map #[] 0)).alloc (.map #[] 0)).heap.size = w.heap.size + 2 := by rw [World.size_alloc, hz]
  refine ⟨_, _, _, rfl, ?_, Nat.le_refl _, ?_, ⟨?_, (h1.below (below_alloc (Below.refl _ _) _)).below (below_alloc (Below.refl _ _) _), h2.below (below_alloc (Below.refl _ _) _), Kd.R_nil _ _ _ _ _, ?_, hb, ?_, ?_⟩, below_alloc (below_alloc (below_alloc (Below.refl _ _) _) _) _⟩
  all_goals first | (have := blk_new ((w.alloc (.map #[] 0)).alloc (.map #[] 0)) (.cells #[.map (some w.heap.size), .map (some (w.heap.size + 1)), .slice none 0 0] 88); rw [hz2] at this; exact this) | omega
theorem dget_any (b g mn ms N : Nat) (vo : Value) (now safe : List DN) (ops : List DOp) (s : ByteArray) (w : World) (h : DI w b g mn ms vo N now safe ops) (hs : s.size ≤ maxLen) : Calls Try.prog 59 #[.pointer (some ⟨g, 0, none⟩), .string s] w fun e w' => e = .returned (.tuple #[.int .i64 ((getN now s).getD 0), .bool (getN now s).isSome]) ∧ w = w' := by
  have hc0 := (blk_cell h.hb 0).trans (rfl : _ = some (Value.map (some mn)))
  have HM := Aside0.mk h.hn
  have hkey := Go.WideMaps.keyOf_string_mk (P := Try.prog) Try.underlying9 hs
  have HK := Aside0.mk hkey
  have HV := Aside0.mk (show (mapF now (kS s)).getD (Value.int .i64 0) = .int .i64 ((getN now s).getD 0) ∧ (mapF now (kS s)).isSome = (getN now s).isSome by rw [mapF_at]; cases getN now s <;> exact ⟨rfl, rfl⟩)
  clear h hkey
  go_enter Try.func59, Try.ntmps59
  go_wp2_with (at_lookup; refine mv_lookup_ok rfl _ _ 85 rfl 9 3 lawS Try.underlying85 (zeroI _) mn N (mapF now) rfl HM.out _ (kS s) rfl HK.out _ _ HV.out.1 HV.out.2 ?_)
  go_ret2
  exact ⟨rfl, rfl⟩
theorem dget_nil (s : ByteArray) (w : World) : Calls Try.prog 59 #[.pointer none, .string s] w fun e w' => e = .returned (.tuple #[.int .i64 0, .bool false]) ∧ w = w' := by
  go_enter Try.func59, Try.ntmps59
  go_wp2
  go_ret2
  exact ⟨rfl, rfl⟩
theorem dpending_any (b g mn ms N : Nat) (vo : Value) (now safe : List DN) (ops : List DOp) (w : World) (h : DI w b g mn ms vo N now safe ops) : Calls Try.prog 52 #[.pointer (some ⟨g, 0, none⟩)] w fun e w' => e = .returned (.int .i64 (ops.length : Int)) ∧ w = w' := by
  obtain ⟨A, c, rfl⟩ := Kd.R_slice h.ho
  have hc0 := (blk_cell h.hb 2).trans (rfl : _ = some (Value.slice A ops.length c))
  clear h
  go_enter Try.func52, Try.ntmps52
  go_wp2
  go_ret
  exact ⟨rfl, rfl⟩
theorem dpending_nil (w : World) : Calls Try.prog 52 #[.pointer none] w fun e w' => e = .returned (.int .i64 0) ∧ w = w' := by
  go_enter Try.func52, Try.ntmps52
  go_wp2
  go_ret
  exact ⟨rfl, rfl⟩
/-- A map is turned, no other block. -/
structure Turn (w w' : World) (m : Nat) : Prop where
  k : KeepBut w w' m none
  l : ∀ b, b ≤ m → b ≤ w.heap.size → Below b w w'
theorem Turn.of_below {w w' : World} {m : Nat} (h : Below w.heap.size w w') : Turn w w' m := ⟨KeepBut.of_below h _ _, fun b _ hb => h.mono hb⟩
theorem Turn.step {w W W' : World} {m : Nat} (h : Turn w W m) (ht : W.mapTurned W' m) : Turn w W' m := by
  have hg := ht.grown
  refine ⟨⟨Nat.le_trans h.k.1 hg.size, fun i hi hne _ => (hg.block i (Nat.lt_of_lt_of_le hi h.k.1) (fun e => hne (by injection e))).trans (h.k.2 i hi hne (by simp))⟩, fun b hm hb => ?_⟩
  have h1 := h.l b hm hb
  exact ⟨hg.os.trans h1.os, hg.tape.trans h1.tape, hg.output.trans h1.output, Nat.le_trans h1.size hg.size, fun i hi => (hg.block i (by have := h1.size; omega) (fun e => by injection e; omega)).trans (h1.block i hi)⟩
theorem upd_none (l : List DN) (s : ByteArray) (h : getN l s = none) : upd (mapF l) (kS s) none = mapF l := by
  funext q
  by_cases e : q = kS s
  · subst e
    rw [upd_same, mapF_at, h]
    rfl
  · rw [upd_other _ _ e]
set_option maxHeartbeats 1000000 in
set_option maxRecDepth 100000 in
theorem ddo_any (m N : Nat) (l : List DN) (kd : Int) (sa sb : ByteArray) (id : Int) (w : World) (h : MV w Try.prog 9 m N (mapF l)) (hN : N < 1000000) (hsa : sa.size ≤ maxLen) (hsb : sb.size ≤ maxLen) :
    Calls Try.prog 98 #[.map (some m), (.agg #[.int .i64 kd, .string sa, .string sb, .int .i64 id])] w fun e w' => e = .returned (.tuple #[]) ∧ MV w' Try.prog 9 m (N + 1) (mapF (didL l ⟨kd, sa, sb, id⟩)) ∧ Turn w w' m := by
  by_cases h0 : kd = 0
  · subst h0
    have HD := Aside0.mk (show mapF (didL l ⟨0, sa, sb, id⟩) = upd (mapF l) (kS sa) (some (.int .i64 id)) by rw [show didL l ⟨0, sa, sb, id⟩ = withL l sa id from rfl, mapF_with])
    have HKA := Aside0.mk (Go.WideMaps.keyOf_string_mk (P := Try.prog) Try.underlying9 hsa)
    have HKB := Aside0.mk (Go.WideMaps.keyOf_string_mk (P := Try.prog) Try.underlying9 hsb)
    have HT := Aside0.mk (Turn.of_below (m := m) (below_alloc (Below.refl w.heap.size w) (.cells #[.int .i64 0, .string sa, .string sb, .int .i64 id] 149)))
    have hnb := blk_new w (.cells #[.int .i64 0, .string sa, .string sb, .int .i64 id] 149)
    have HNB := Aside0.mk hnb
    have HM := Aside0.mk (MV.below h (below_alloc (Below.refl w.heap.size w) (.cells #[.int .i64 0, .string sa, .string sb, .int .i64 id] 149)))
    have hmw := h.lt
    clear h hsa hsb hnb
    go_enter Try.func98, Try.ntmps98
    go_wp2_with (at_mapUpdate; refine mv_store rfl _ _ _ 85 rfl 9 3 lawS Try.underlying85 m N (mapF l) rfl HM.out (by unfold maxLen; omega) _ _ (kS sa) rfl rfl HKA.out ?_; intro w1 hm1 ht1; have HM1 := Aside0.mk hm1; have HT1 := Aside0.mk (HT.out.step ht1); clear hm1 ht1)
    first | go_end0 | ((try simp only [Exit.inBlock, Exit.then]); refine bodyPost_ret (results_none rfl _ _ _) rfl ?_)
    exact ⟨rfl, by rw [HD.out]; exact HM1.out, HT1.out⟩
  · have q0 : (kd == 0) = false := beq_eq_false_iff_ne.mpr h0
    by_cases h1 : kd = 1
    · subst h1
      cases hg : getN l sa with
      | none =>
        have HD := Aside0.mk (show didL l ⟨1, sa, sb, id⟩ = l by unfold didL; rw [if_neg h0]; simp [hg])
        have HV := Aside0.mk (show (mapF l (kS sa)).getD (Value.int .i64 0) = .int .i64 0 ∧ (mapF l (kS sa)).isSome = false by rw [mapF_at, hg]; exact ⟨rfl, rfl⟩)
        clear hg h0
        have HKA := Aside0.mk (Go.WideMaps.keyOf_string_mk (P := Try.prog) Try.underlying9 hsa)
        have HKB := Aside0.mk (Go.WideMaps.keyOf_string_mk (P := Try.prog) Try.underlying9 hsb)
        have HT := Aside0.mk (Turn.of_below (m := m) (below_alloc (Below.refl w.heap.size w) (.cells #[.int .i64 1, .string sa, .string sb, .int .i64 id] 149)))
        have hnb := blk_new w (.cells #[.int .i64 1, .string sa, .string sb, .int .i64 id] 149)
        have HNB := Aside0.mk hnb
        have HM := Aside0.mk (MV.below h (below_alloc (Below.refl w.heap.size w) (.cells #[.int .i64 1, .string sa, .string sb, .int .i64 id] 149)))
        have hmw := h.lt
        clear h hsa hsb hnb
        go_enter Try.func98, Try.ntmps98
        go_wp2_with (at_lookup; refine mv_lookup_ok rfl _ _ 85 rfl 9 3 lawS Try.underlying85 (zeroI _) m N (mapF l) rfl HM.out _ (kS sa) rfl HKA.out _ _ HV.out.1 HV.out.2 ?_)
        first | go_end0 | ((try simp only [Exit.inBlock, Exit.then]); refine bodyPost_ret (results_none rfl _ _ _) rfl ?_)
        exact ⟨rfl, by rw [HD.out]; exact HM.out.mono (Nat.le_succ _), HT.out⟩
      | some y =>
        have HD := Aside0.mk (show mapF (didL l ⟨1, sa, sb, id⟩) = upd (upd (mapF l) (kS sa) none) (kS sb) (some (.int .i64 y)) by
          have e : didL l ⟨1, sa, sb, id⟩ = withL (withoutL l sa) sb y := by unfold didL; rw [if_neg h0]; simp [hg]
          rw [e, mapF_with, mapF_without])
        have HV := Aside0.mk (show (mapF l (kS sa)).getD (Value.int .i64 0) = .int .i64 y ∧ (mapF l (kS sa)).isSome = true by rw [mapF_at, hg]; exact ⟨rfl, rfl⟩)
        clear hg h0
        have HKA := Aside0.mk (Go.WideMaps.keyOf_string_mk (P := Try.prog) Try.underlying9 hsa)
        have HKB := Aside0.mk (Go.WideMaps.keyOf_string_mk (P := Try.prog) Try.underlying9 hsb)
        have HT := Aside0.mk (Turn.of_below (m := m) (below_alloc (Below.refl w.heap.size w) (.cells #[.int .i64 1, .string sa, .string sb, .int .i64 id] 149)))
        have hnb := blk_new w (.cells #[.int .i64 1, .string sa, .string sb, .int .i64 id] 149)
        have HNB := Aside0.mk hnb
        have HM := Aside0.mk (MV.below h (below_alloc (Below.refl w.heap.size w) (.cells #[.int .i64 1, .string sa, .string sb, .int .i64 id] 149)))
        have hmw := h.lt
        clear h hsa hsb hnb
        go_enter Try.func98, Try.ntmps98
        go_wp2_with (first
          | (at_lookup; refine mv_lookup_ok rfl _ _ 85 rfl 9 3 lawS Try.underlying85 (zeroI _) m N (mapF l) rfl HM.out _ (kS sa) rfl HKA.out _ _ HV.out.1 HV.out.2 ?_)
          | (at_delete; refine mv_delete rfl _ _ 85 9 rfl 3 lawS Try.underlying85 m N (mapF l) rfl HM.out _ (kS sa) rfl HKA.out ?_; intro w1 hm1 ht1; have hn1 := (ht1.grown.block w.heap.size (blk_lt HNB.out) (fun e => by injection e; omega)).trans HNB.out; have t2 := (blk_cell hn1 2).trans (rfl : _ = some (Value.string sb)); have HM1 := Aside0.mk hm1; have HT1 := Aside0.mk (HT.out.step ht1); clear hm1 ht1 hn1)
          | (at_mapUpdate; refine mv_store rfl _ _ _ 85 rfl 9 3 lawS Try.underlying85 m N _ rfl HM1.out (by unfold maxLen; omega) _ _ (kS sb) rfl rfl HKB.out ?_; intro w2 hm2 ht2; have HM2 := Aside0.mk hm2; have HT2 := Aside0.mk (HT1.out.step ht2); clear hm2 ht2))
        first | go_end0 | ((try simp only [Exit.inBlock, Exit.then]); refine bodyPost_ret (results_none rfl _ _ _) rfl ?_)
        exact ⟨rfl, by rw [HD.out]; exact HM2.out, HT2.out⟩
    · have HD := Aside0.mk (show mapF (didL l ⟨kd, sa, sb, id⟩) = upd (mapF l) (kS sa) none by
        cases hg : getN l sa with
        | none =>
          have e : didL l ⟨kd, sa, sb, id⟩ = l := by unfold didL; rw [if_neg h0]; simp [hg]
          rw [e, upd_none l sa hg]
        | some y =>
          have e : didL l ⟨kd, sa, sb, id⟩ = withoutL l sa := by unfold didL; rw [if_neg h0]; simp [hg, h1]
          rw [e, mapF_without])
      have q1 : (kd == 1) = false := beq_eq_false_iff_ne.mpr h1
      clear h0 h1
      have HKA := Aside0.mk (Go.WideMaps.keyOf_string_mk (P := Try.prog) Try.underlying9 hsa)
      have HKB := Aside0.mk (Go.WideMaps.keyOf_string_mk (P := Try.prog) Try.underlying9 hsb)
      have HT := Aside0.mk (Turn.of_below (m := m) (below_alloc (Below.refl w.heap.size w) (.cells #[.int .i64 kd, .string sa, .string sb, .int .i64 id] 149)))
      have hnb := blk_new w (.cells #[.int .i64 kd, .string sa, .string sb, .int .i64 id] 149)
      have HNB := Aside0.mk hnb
      have HM := Aside0.mk (MV.below h (below_alloc (Below.refl w.heap.size w) (.cells #[.int .i64 kd, .string sa, .string sb, .int .i64 id] 149)))
      have hmw := h.lt
      clear h hsa hsb hnb
      go_enter Try.func98, Try.ntmps98
      go_wp2_with (at_delete; refine mv_delete rfl _ _ 85 9 rfl 3 lawS Try.underlying85 m N (mapF l) rfl HM.out _ (kS sa) rfl HKA.out ?_; intro w1 hm1 ht1; have HM1 := Aside0.mk hm1; have HT1 := Aside0.mk (HT.out.step ht1); clear hm1 ht1)
      first | go_end0 | ((try simp only [Exit.inBlock, Exit.then]); refine bodyPost_ret (results_none rfl _ _ _) rfl ?_)
      exact ⟨rfl, by rw [HD.out]; exact HM1.out.mono (Nat.le_succ _), HT1.out⟩
end Go.Proofs.Ytpnbjpkdbiiogaa
