/- The code's directory: Create, Rename, Unlink. -/
import Derived.Test.YtpnbjpkdbiiogaaDiI
import Derived.WalkSpells
namespace Go.Proofs.Ytpnbjpkdbiiogaa
set_option linter.unusedVariables false
open Go.RowKit Go.Maps Go.Proofs.YtpnbjpkdbiiogaaW.PrintWords
attribute [local go_sem] mx2 mn2 mxTwo mnTwo


def doOpsI (now : List DN) (ops : List DOp) (o : DOp) : List DOp := if doCode now o = 0 then ops ++ [nrm o] else ops
theorem DI.mono {W : World} {b g mn ms N : Nat} {vo : Value} {now safe : List DN} {ops : List DOp} (h : DI W b g mn ms vo N now safe ops) : DI W b g mn ms vo (N + 1) now safe ops := ⟨h.hb, h.hn.mono (Nat.le_succ _), h.hs.mono (Nat.le_succ _), h.ho, h.hg, h.hmn, h.hms, h.ne⟩
set_option maxHeartbeats 400000 in
set_option maxRecDepth 100000 in
theorem dcreate_any (b g mn ms N : Nat) (vo : Value) (now safe : List DN) (ops : List DOp) (w : World) (h : DI w b g mn ms vo N now safe ops) (hN : N < 1000000) (hlo : ops.length ≤ 100000) (sa sb : ByteArray) (id : Int) (hsa : sa.size ≤ maxLen) : Calls Try.prog 56 #[.pointer (some ⟨g, 0, none⟩), .string sa, .int .i64 id] w (fun e w' => e = .returned (.int .i64 (doCode now ⟨0, sa, sb, id⟩)) ∧ ∃ vo', DI w' b g mn ms vo' (N + 1) (doNow now ⟨0, sa, sb, id⟩) safe (doOpsI now ops ⟨0, sa, sb, id⟩) ∧ (vo'.ownBlock = vo.ownBlock ∨ ∃ k, vo'.ownBlock = some k ∧ w.heap.size ≤ k) ∧ Keep3 w w' g (some mn) vo.ownBlock ∧ Below b w w') := by
  have HSA := Aside0.mk hsa
  unfold doNow doOpsI doCode
  dsimp only
  cases hg : getN now sa with
  | some y =>
    rw [if_pos ⟨rfl, rfl⟩]
    have HV := Aside0.mk (show (mapF now (kS sa)).getD (Value.int .i64 0) = .int .i64 y ∧ (mapF now (kS sa)).isSome = true by rw [mapF_at, hg]; exact ⟨rfl, rfl⟩)
    have hbw : b ≤ w.heap.size := Nat.le_trans h.hg (Nat.le_of_lt (blk_lt h.hb))
    have s0 := (blk_cell h.hb 0).trans (rfl : _ = some (Value.map (some mn)))
    have H := Aside0.mk h
    have HM := Aside0.mk h.hn
    have HKA := Aside0.mk (Go.WideMaps.keyOf_string_mk (P := Try.prog) Try.underlying9 hsa)
    have qn : ∀ (w : World) (r : Option Nat), (binOp .eql 85 (.map r) (.map none)).run Try.prog w = .ok (.bool r.isNone) w := fun w r => run_eql_map_nil w 85 9 3 r Try.underlying85
    clear h
    clear hg hsa
    go_enter Try.func56, Try.ntmps56
    go_wp2_with (at_lookup; refine mv_lookup_ok rfl _ _ 85 rfl 9 3 lawS Try.underlying85 (zeroI _) mn N (mapF now) rfl HM.out _ (kS sa) rfl HKA.out (.int .i64 y) (true) HV.out.1 HV.out.2 ?_)
    go_ret
    first
    | exact ⟨rfl, _, H.out.mono, .inl rfl, Keep3.refl _ _ _ _, Below.refl _ _⟩
    | exact ⟨rfl, _, HD5.out.mono, .inl rfl, (Keep3.refl _ _ _ _).step (q1 := none) (q2 := none) HB5.out.size (fun i hi _ _ _ => HB5.out.block i hi) (.inr (.inl rfl)) (.inr (.inl rfl)), HB5.out.mono hbw⟩
  | none =>
    have HV := Aside0.mk (show (mapF now (kS sa)).getD (Value.int .i64 0) = .int .i64 0 ∧ (mapF now (kS sa)).isSome = false by rw [mapF_at, hg]; exact ⟨rfl, rfl⟩)
    cases hr : rightB sa with
    | false =>
      have HRA := Aside0.mk hr
      have hbw : b ≤ w.heap.size := Nat.le_trans h.hg (Nat.le_of_lt (blk_lt h.hb))
      have s0 := (blk_cell h.hb 0).trans (rfl : _ = some (Value.map (some mn)))
      have H := Aside0.mk h
      have HM := Aside0.mk h.hn
      have HKA := Aside0.mk (Go.WideMaps.keyOf_string_mk (P := Try.prog) Try.underlying9 hsa)
      have qn : ∀ (w : World) (r : Option Nat), (binOp .eql 85 (.map r) (.map none)).run Try.prog w = .ok (.bool r.isNone) w := fun w r => run_eql_map_nil w 85 9 3 r Try.underlying85
      clear h
      clear hg hsa hr
      simp only [Option.isSome_none, Bool.false_eq_true, and_false, if_false, ne_eq, not_true_eq_false, false_and, true_and, true_or, if_true]
      go_enter Try.func56, Try.ntmps56
      go_wp2_with (first
        | (at_lookup; refine mv_lookup_ok rfl _ _ 85 rfl 9 3 lawS Try.underlying85 (zeroI _) mn N (mapF now) rfl HM.out _ (kS sa) rfl HKA.out (.int .i64 0) (false) HV.out.1 HV.out.2 ?_)
        | (go_at_call 54; refine (right_any sa _ HSA.out).mono ?_; rw [HRA.out]; rintro e w5 ⟨rfl, hb⟩; have hd := H.out.below hb; have HD5 := Aside0.mk hd; have HB5 := Aside0.mk hb; clear hd hb))
      go_ret
      first
      | exact ⟨rfl, _, H.out.mono, .inl rfl, Keep3.refl _ _ _ _, Below.refl _ _⟩
      | exact ⟨rfl, _, HD5.out.mono, .inl rfl, (Keep3.refl _ _ _ _).step (q1 := none) (q2 := none) HB5.out.size (fun i hi _ _ _ => HB5.out.block i hi) (.inr (.inl rfl)) (.inr (.inl rfl)), HB5.out.mono hbw⟩
    | true =>
      have HRA := Aside0.mk hr
      have hbw : b ≤ w.heap.size := Nat.le_trans h.hg (Nat.le_of_lt (blk_lt h.hb))
      have s0 := (blk_cell h.hb 0).trans (rfl : _ = some (Value.map (some mn)))
      have H := Aside0.mk h
      have HM := Aside0.mk h.hn
      have HKA := Aside0.mk (Go.WideMaps.keyOf_string_mk (P := Try.prog) Try.underlying9 hsa)
      have qn : ∀ (w : World) (r : Option Nat), (binOp .eql 85 (.map r) (.map none)).run Try.prog w = .ok (.bool r.isNone) w := fun w r => run_eql_map_nil w 85 9 3 r Try.underlying85
      clear h
      clear hg hsa hr
      simp
      go_enter Try.func56, Try.ntmps56
      go_wp2_with (first
        | (at_lookup; refine mv_lookup_ok rfl _ _ 85 rfl 9 3 lawS Try.underlying85 (zeroI _) mn N (mapF now) rfl HM.out _ (kS sa) rfl HKA.out (.int .i64 0) (false) HV.out.1 HV.out.2 ?_)
        | (go_at_call 54; refine (right_any sa _ HSA.out).mono ?_; rw [HRA.out]; rintro e w5 ⟨rfl, hb⟩; have hd := H.out.below hb; have HD5 := Aside0.mk hd; have HB5 := Aside0.mk hb; clear hd hb)
        | (go_at_call 102; refine (ddone_any b g mn ms N vo now safe ops 0 sa ⟨#[]⟩ id _ HD5.out hN hlo HSA.out empty_ok).mono ?_; rintro e w6 ⟨rfl, hx⟩; have HX := Aside0.mk hx; clear hx))
      go_ret
      obtain ⟨vo', hd, hv, hk, hl⟩ := HX.out
      exact ⟨rfl, vo', hd, hv.imp (fun h => h) (fun ⟨k, e, hk⟩ => ⟨k, e, Nat.le_trans HB5.out.size hk⟩), ((Keep3.refl w g (some mn) vo.ownBlock).step (q1 := none) (q2 := none) HB5.out.size (fun i hi _ _ _ => HB5.out.block i hi) (.inr (.inl rfl)) (.inr (.inl rfl))).step (q1 := some mn) (q2 := vo.ownBlock) hk.1 hk.2 (.inl rfl) (.inl rfl), (HB5.out.mono hbw).trans hl⟩
set_option maxHeartbeats 400000 in
set_option maxRecDepth 100000 in
theorem drename_any (b g mn ms N : Nat) (vo : Value) (now safe : List DN) (ops : List DOp) (w : World) (h : DI w b g mn ms vo N now safe ops) (hN : N < 1000000) (hlo : ops.length ≤ 100000) (sa sb : ByteArray) (id : Int) (hsa : sa.size ≤ maxLen) (hsb : sb.size ≤ maxLen) : Calls Try.prog 57 #[.pointer (some ⟨g, 0, none⟩), .string sa, .string sb] w (fun e w' => e = .returned (.int .i64 (doCode now ⟨1, sa, sb, id⟩)) ∧ ∃ vo', DI w' b g mn ms vo' (N + 1) (doNow now ⟨1, sa, sb, id⟩) safe (doOpsI now ops ⟨1, sa, sb, id⟩) ∧ (vo'.ownBlock = vo.ownBlock ∨ ∃ k, vo'.ownBlock = some k ∧ w.heap.size ≤ k) ∧ Keep3 w w' g (some mn) vo.ownBlock ∧ Below b w w') := by
  have HSA := Aside0.mk hsa
  have HSB := Aside0.mk hsb
  have e9 : ∀ l : List DN, didL l ⟨1, sa, sb, id⟩ = didL l ⟨1, sa, sb, 0⟩ := fun l => rfl
  unfold doNow doOpsI doCode
  dsimp only
  cases hg : getN now sa with
  | none =>
    have HV := Aside0.mk (show (mapF now (kS sa)).getD (Value.int .i64 0) = .int .i64 0 ∧ (mapF now (kS sa)).isSome = false by rw [mapF_at, hg]; exact ⟨rfl, rfl⟩)
    have hbw : b ≤ w.heap.size := Nat.le_trans h.hg (Nat.le_of_lt (blk_lt h.hb))
    have s0 := (blk_cell h.hb 0).trans (rfl : _ = some (Value.map (some mn)))
    have H := Aside0.mk h
    have HM := Aside0.mk h.hn
    have HKA := Aside0.mk (Go.WideMaps.keyOf_string_mk (P := Try.prog) Try.underlying9 hsa)
    have qn : ∀ (w : World) (r : Option Nat), (binOp .eql 85 (.map r) (.map none)).run Try.prog w = .ok (.bool r.isNone) w := fun w r => run_eql_map_nil w 85 9 3 r Try.underlying85
    clear h
    clear hg hsa hsb e9
    simp
    go_enter Try.func57, Try.ntmps57
    go_wp2_with (at_lookup; refine mv_lookup_ok rfl _ _ 85 rfl 9 3 lawS Try.underlying85 (zeroI _) mn N (mapF now) rfl HM.out _ (kS sa) rfl HKA.out (.int .i64 0) (false) HV.out.1 HV.out.2 ?_)
    go_ret
    first
    | exact ⟨rfl, _, H.out.mono, .inl rfl, Keep3.refl _ _ _ _, Below.refl _ _⟩
    | exact ⟨rfl, _, HD5.out.mono, .inl rfl, (Keep3.refl _ _ _ _).step (q1 := none) (q2 := none) HB5.out.size (fun i hi _ _ _ => HB5.out.block i hi) (.inr (.inl rfl)) (.inr (.inl rfl)), HB5.out.mono hbw⟩
  | some y =>
    have HV := Aside0.mk (show (mapF now (kS sa)).getD (Value.int .i64 0) = .int .i64 y ∧ (mapF now (kS sa)).isSome = true by rw [mapF_at, hg]; exact ⟨rfl, rfl⟩)
    cases hr : rightB sb with
    | false =>
      have HRA := Aside0.mk hr
      have hbw : b ≤ w.heap.size := Nat.le_trans h.hg (Nat.le_of_lt (blk_lt h.hb))
      have s0 := (blk_cell h.hb 0).trans (rfl : _ = some (Value.map (some mn)))
      have H := Aside0.mk h
      have HM := Aside0.mk h.hn
      have HKA := Aside0.mk (Go.WideMaps.keyOf_string_mk (P := Try.prog) Try.underlying9 hsa)
      have qn : ∀ (w : World) (r : Option Nat), (binOp .eql 85 (.map r) (.map none)).run Try.prog w = .ok (.bool r.isNone) w := fun w r => run_eql_map_nil w 85 9 3 r Try.underlying85
      clear h
      clear hg hsa hr hsb e9
      simp
      go_enter Try.func57, Try.ntmps57
      go_wp2_with (first
        | (at_lookup; refine mv_lookup_ok rfl _ _ 85 rfl 9 3 lawS Try.underlying85 (zeroI _) mn N (mapF now) rfl HM.out _ (kS sa) rfl HKA.out (.int .i64 y) (true) HV.out.1 HV.out.2 ?_)
        | (go_at_call 54; refine (right_any sb _ HSB.out).mono ?_; rw [HRA.out]; rintro e w5 ⟨rfl, hb⟩; have hd := H.out.below hb; have HD5 := Aside0.mk hd; have HB5 := Aside0.mk hb; clear hd hb))
      go_ret
      first
      | exact ⟨rfl, _, H.out.mono, .inl rfl, Keep3.refl _ _ _ _, Below.refl _ _⟩
      | exact ⟨rfl, _, HD5.out.mono, .inl rfl, (Keep3.refl _ _ _ _).step (q1 := none) (q2 := none) HB5.out.size (fun i hi _ _ _ => HB5.out.block i hi) (.inr (.inl rfl)) (.inr (.inl rfl)), HB5.out.mono hbw⟩
    | true =>
      have HRA := Aside0.mk hr
      have hbw : b ≤ w.heap.size := Nat.le_trans h.hg (Nat.le_of_lt (blk_lt h.hb))
      have s0 := (blk_cell h.hb 0).trans (rfl : _ = some (Value.map (some mn)))
      have H := Aside0.mk h
      have HM := Aside0.mk h.hn
      have HKA := Aside0.mk (Go.WideMaps.keyOf_string_mk (P := Try.prog) Try.underlying9 hsa)
      have qn : ∀ (w : World) (r : Option Nat), (binOp .eql 85 (.map r) (.map none)).run Try.prog w = .ok (.bool r.isNone) w := fun w r => run_eql_map_nil w 85 9 3 r Try.underlying85
      clear h
      clear hg hsa hr hsb
      simp
      rw [e9]
      clear e9
      go_enter Try.func57, Try.ntmps57
      go_wp2_with (first
        | (at_lookup; refine mv_lookup_ok rfl _ _ 85 rfl 9 3 lawS Try.underlying85 (zeroI _) mn N (mapF now) rfl HM.out _ (kS sa) rfl HKA.out (.int .i64 y) (true) HV.out.1 HV.out.2 ?_)
        | (go_at_call 54; refine (right_any sb _ HSB.out).mono ?_; rw [HRA.out]; rintro e w5 ⟨rfl, hb⟩; have hd := H.out.below hb; have HD5 := Aside0.mk hd; have HB5 := Aside0.mk hb; clear hd hb)
        | (go_at_call 102; refine (ddone_any b g mn ms N vo now safe ops 1 sa sb 0 _ HD5.out hN hlo HSA.out HSB.out).mono ?_; rintro e w6 ⟨rfl, hx⟩; have HX := Aside0.mk hx; clear hx))
      go_ret
      obtain ⟨vo', hd, hv, hk, hl⟩ := HX.out
      exact ⟨rfl, vo', hd, hv.imp (fun h => h) (fun ⟨k, e, hk⟩ => ⟨k, e, Nat.le_trans HB5.out.size hk⟩), ((Keep3.refl w g (some mn) vo.ownBlock).step (q1 := none) (q2 := none) HB5.out.size (fun i hi _ _ _ => HB5.out.block i hi) (.inr (.inl rfl)) (.inr (.inl rfl))).step (q1 := some mn) (q2 := vo.ownBlock) hk.1 hk.2 (.inl rfl) (.inl rfl), (HB5.out.mono hbw).trans hl⟩
set_option maxHeartbeats 400000 in
set_option maxRecDepth 100000 in
theorem dunlink_any (b g mn ms N : Nat) (vo : Value) (now safe : List DN) (ops : List DOp) (w : World) (h : DI w b g mn ms vo N now safe ops) (hN : N < 1000000) (hlo : ops.length ≤ 100000) (kd : Int) (hk0 : kd ≠ 0) (hk1 : kd ≠ 1) (sa sb : ByteArray) (id : Int) (hsa : sa.size ≤ maxLen) : Calls Try.prog 58 #[.pointer (some ⟨g, 0, none⟩), .string sa] w (fun e w' => e = .returned (.int .i64 (doCode now ⟨kd, sa, sb, id⟩)) ∧ ∃ vo', DI w' b g mn ms vo' (N + 1) (doNow now ⟨kd, sa, sb, id⟩) safe (doOpsI now ops ⟨kd, sa, sb, id⟩) ∧ (vo'.ownBlock = vo.ownBlock ∨ ∃ k, vo'.ownBlock = some k ∧ w.heap.size ≤ k) ∧ Keep3 w w' g (some mn) vo.ownBlock ∧ Below b w w') := by
  have HSA := Aside0.mk hsa
  have e9 : ∀ l : List DN, didL l ⟨kd, sa, sb, id⟩ = didL l ⟨2, sa, ⟨#[]⟩, 0⟩ := fun l => by unfold didL; simp [hk0, hk1]
  have e8 : nrm ⟨kd, sa, sb, id⟩ = ⟨2, sa, ⟨#[]⟩, 0⟩ := by unfold nrm; simp [hk0, hk1]
  unfold doNow doOpsI doCode
  dsimp only
  cases hg : getN now sa with
  | none =>
    have HV := Aside0.mk (show (mapF now (kS sa)).getD (Value.int .i64 0) = .int .i64 0 ∧ (mapF now (kS sa)).isSome = false by rw [mapF_at, hg]; exact ⟨rfl, rfl⟩)
    have hbw : b ≤ w.heap.size := Nat.le_trans h.hg (Nat.le_of_lt (blk_lt h.hb))
    have s0 := (blk_cell h.hb 0).trans (rfl : _ = some (Value.map (some mn)))
    have H := Aside0.mk h
    have HM := Aside0.mk h.hn
    have HKA := Aside0.mk (Go.WideMaps.keyOf_string_mk (P := Try.prog) Try.underlying9 hsa)
    have qn : ∀ (w : World) (r : Option Nat), (binOp .eql 85 (.map r) (.map none)).run Try.prog w = .ok (.bool r.isNone) w := fun w r => run_eql_map_nil w 85 9 3 r Try.underlying85
    clear h
    clear hg hsa e9 e8
    simp [hk0]
    clear hk0 hk1
    go_enter Try.func58, Try.ntmps58
    go_wp2_with (at_lookup; refine mv_lookup_ok rfl _ _ 85 rfl 9 3 lawS Try.underlying85 (zeroI _) mn N (mapF now) rfl HM.out _ (kS sa) rfl HKA.out (.int .i64 0) (false) HV.out.1 HV.out.2 ?_)
    go_ret
    first
    | exact ⟨rfl, _, H.out.mono, .inl rfl, Keep3.refl _ _ _ _, Below.refl _ _⟩
    | exact ⟨rfl, _, HD5.out.mono, .inl rfl, (Keep3.refl _ _ _ _).step (q1 := none) (q2 := none) HB5.out.size (fun i hi _ _ _ => HB5.out.block i hi) (.inr (.inl rfl)) (.inr (.inl rfl)), HB5.out.mono hbw⟩
  | some y =>
    have HV := Aside0.mk (show (mapF now (kS sa)).getD (Value.int .i64 0) = .int .i64 y ∧ (mapF now (kS sa)).isSome = true by rw [mapF_at, hg]; exact ⟨rfl, rfl⟩)
    have hbw : b ≤ w.heap.size := Nat.le_trans h.hg (Nat.le_of_lt (blk_lt h.hb))
    have s0 := (blk_cell h.hb 0).trans (rfl : _ = some (Value.map (some mn)))
    have H := Aside0.mk h
    have HM := Aside0.mk h.hn
    have HKA := Aside0.mk (Go.WideMaps.keyOf_string_mk (P := Try.prog) Try.underlying9 hsa)
    have qn : ∀ (w : World) (r : Option Nat), (binOp .eql 85 (.map r) (.map none)).run Try.prog w = .ok (.bool r.isNone) w := fun w r => run_eql_map_nil w 85 9 3 r Try.underlying85
    clear h
    have HD5 := H
    have HB5 := Aside0.mk (Below.refl w.heap.size w)
    clear hg hsa
    rw [e9, e8]
    simp [hk0, hk1]
    clear e9 e8 hk0 hk1
    go_enter Try.func58, Try.ntmps58
    go_wp2_with (first
      | (at_lookup; refine mv_lookup_ok rfl _ _ 85 rfl 9 3 lawS Try.underlying85 (zeroI _) mn N (mapF now) rfl HM.out _ (kS sa) rfl HKA.out (.int .i64 y) (true) HV.out.1 HV.out.2 ?_)
      | (go_at_call 102; refine (ddone_any b g mn ms N vo now safe ops 2 sa ⟨#[]⟩ 0 _ HD5.out hN hlo HSA.out empty_ok).mono ?_; rintro e w6 ⟨rfl, hx⟩; have HX := Aside0.mk hx; clear hx))
    go_ret
    obtain ⟨vo', hd, hv, hk, hl⟩ := HX.out
    exact ⟨rfl, vo', hd, hv.imp (fun h => h) (fun ⟨k, e, hk⟩ => ⟨k, e, Nat.le_trans HB5.out.size hk⟩), ((Keep3.refl w g (some mn) vo.ownBlock).step (q1 := none) (q2 := none) HB5.out.size (fun i hi _ _ _ => HB5.out.block i hi) (.inr (.inl rfl)) (.inr (.inl rfl))).step (q1 := some mn) (q2 := vo.ownBlock) hk.1 hk.2 (.inl rfl) (.inl rfl), (HB5.out.mono hbw).trans hl⟩
end Go.Proofs.Ytpnbjpkdbiiogaa
