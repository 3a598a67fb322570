/- Files: Copy. -/
import Derived.Test.YtpnbjpkdbiiogaaFiF
namespace Go.Proofs.Ytpnbjpkdbiiogaa
set_option linter.unusedVariables false
open Go.RowKit Go.Proofs.YtpnbjpkdbiiogaaW.PrintWords
attribute [local go_sem] mx2 mn2 mxTwo mnTwo

theorem copy_ops (b : Nat) (x : Nat → Prop) (A : Option Addr) (n c : Nat) (l : List FOp) (w : World) (hr : Kd.R kOp 141 w b x (.slice A n c) l) (hx : ∀ k, w.heap.size ≤ k → x k) (hbw : b ≤ w.heap.size) (hb : n ≤ 2000000) :
    Calls Try.prog 92 #[.slice A n c] w fun e w' => ∃ A' c', e = .returned (.slice A' n c') ∧ Kd.R kOp 141 w' b (fun k => x k ∧ some k ≠ (Value.slice A n c).ownBlock) (.slice A' n c') l ∧ Below w.heap.size w w' := by
  have q22 : ∀ (w : World) (a : Option Addr) (n c n' c' : Nat), (binOp .eql 135 (.slice a n c) (.slice none n' c')).run Try.prog w = .ok (.bool a.isNone) w := fun w a n c n' c' => Lib.run_eql_slice_nil w _ _ a n c n' c' Try.underlying135
  obtain ⟨hl, _, hC⟩ := Kd.R_reads' hr
  subst hl
  rcases A with _ | ad
  · have hn : l = [] := by
      by_cases h0 : 0 < l.length
      · obtain ⟨ad, e, _⟩ := hC.2.2 h0
        cases e
      · exact List.eq_nil_of_length_eq_zero (by omega)
    subst hn
    clear hr hC
    go_enter Try.func92, Try.ntmps92
    go_wp2
    go_ret
    first | exact ⟨_, _, rfl, Kd.R_nil _ _ _ _ _, Below.refl _ _⟩ | exact ⟨none, ⟨0, rfl⟩, Kd.R_nil _ _ _ _ _, Below.refl _ _⟩
  · obtain ⟨A9, c9, e9, hc9, hM⟩ := hr.2.reads
    cases e9
    have hlt := (Kd.R_bound hr).1
    have HM := Aside0.mk hM
    have HX := Aside0.mk hx
    have HO := Aside0.mk (show ∀ k, w.heap.size ≤ k → some k ≠ (Value.slice (some ad) l.length c).ownBlock from fun k hk e => by have := (hlt k e.symm).2.2.1; omega)
    clear hr hM hC hx hlt
    go_enter Try.func92, Try.ntmps92
    go_wp2_with (at_builtin; refine Kd.R_append_rows kOp (Rr := kOp.M (w.alloc (.cells #[] 141)) b (fun k => (x k ∧ some k ≠ (Value.slice (some ad) l.length c).ownBlock) ∧ k < w.heap.size)) (w0 := w) b rfl (.tmp 5) (.tmp 6) 135 141 (.agg #[(.bool false), (.int .i64 0), (.slice none 0 0)]) 40 rfl Try.underlying135 infoOp rfl (by decide) (by omega) (.slice (some ⟨w.heap.size, 0, none⟩) 0 0) [] l (some ad) l.length c (fun k => x k ∧ some k ≠ (Value.slice (some ad) l.length c).ownBlock) (fun k => (x k ∧ some k ≠ (Value.slice (some ad) l.length c).ownBlock) ∧ k < w.heap.size) rfl rfl (R_empty _ _ _ _ _ ⟨HX.out _ (Nat.le_refl _), HO.out _ (Nat.le_refl _)⟩) (ReadsRow.imp_ HM.out (below_alloc (Below.refl _ _) _) (fun y cs hy => kOp.M_mono (fun k hk => ⟨hk.1, hk.2.2.1⟩) (kOp.M_bound hy |> fun h => Kd.M_below h (below_alloc (Below.refl _ _) _)))) (fun _ _ h => h) (fun k hk => ⟨hk.1, fun e => by simp [Value.ownBlock] at e; omega⟩) (fun k hk => ⟨HX.out k (by simp at hk; omega), HO.out k (by simp at hk; omega)⟩) ?c6 ?c7 ?c8 ?_)
    case c6 => exact (below_alloc (Below.refl _ _) _).mono hbw
    case c7 => simp; omega
    case c8 => simp; omega
    intro v1 w1 ho hb1 hg1 _
    obtain ⟨A2, c2, rfl, hc2, _⟩ := Kd.R_reads ho
    have hb2 : Below w.heap.size w w1 := ⟨hb1.os, hb1.tape, hb1.output, hb1.size, fun i hi => (hg1.block i (Nat.lt_of_lt_of_le hi (below_alloc (Below.refl w.heap.size w) _).size) (fun e => by simp [Value.ownBlock] at e; omega)).trans ((below_alloc (Below.refl w.heap.size w) _).block i hi)⟩
    have HF := Aside0.mk ho
    have HB := Aside0.mk hb2
    clear ho hb1 hg1 hb2 HM HX HO
    go_wp2
    go_ret
    first | exact ⟨_, _, rfl, HF.out, HB.out⟩ | exact ⟨_, ⟨_, rfl⟩, HF.out, HB.out⟩
set_option maxHeartbeats 1000000 in
set_option maxRecDepth 100000 in
theorem fcopy_any (b g : Nat) (x : Nat → Prop) (vn vs vo : Value) (now safe : List Int) (ops : List FOp) (w : World) (h : FI w b g x vn vs vo now safe ops) (hx : ∀ k, w.heap.size ≤ k → x k) (hl1 : now.length ≤ 1048576) (hl2 : safe.length ≤ 1048576) (hl3 : ops.length ≤ 2000000) :
    Calls Try.prog 39 #[.pointer (some ⟨g, 0, none⟩)] w fun e w' => ∃ g2 va vb vc, e = .returned (.pointer (some ⟨g2, 0, none⟩)) ∧ w.heap.size ≤ g2 ∧ FI w' b g2 (fun k => x k ∧ some k ≠ vo.ownBlock) va vb vc now safe ops ∧ Below w.heap.size w w' := by
  obtain ⟨A1, c1, hv1, _, hC1⟩ := Kd.R_reads h.hn
  obtain ⟨A2, c2, hv2, _, hC2⟩ := Kd.R_reads h.hs
  obtain ⟨A3, c3, hv3⟩ := Kd.R_slice h.ho
  subst hv1
  subst hv2
  subst hv3
  have s0 := (blk_cell h.hb 0).trans (rfl : _ = some (Value.slice A1 now.length c1))
  have s1 := (blk_cell h.hb 1).trans (rfl : _ = some (Value.slice A2 safe.length c2))
  have s2 := (blk_cell h.hb 2).trans (rfl : _ = some (Value.slice A3 ops.length c3))
  have hbw : b ≤ w.heap.size := Nat.le_trans h.hg (Nat.le_of_lt (blk_lt h.hb))
  have HX := Aside0.mk (show ∀ k, w.heap.size ≤ k → x k ∧ some k ≠ (Value.slice A3 ops.length c3).ownBlock from fun k hk => ⟨hx k hk, fun e => by have := ((Kd.R_bound h.ho).1 k e.symm).2.2.1; omega⟩)
  have HO := Aside0.mk h.ho
  have HC1 := Aside0.mk hC1
  have HC2 := Aside0.mk hC2
  have HB := Aside0.mk (Below.refl w.heap.size w)
  have T1 := Aside0.mk trivial
  clear h hx hC1 hC2
  go_enter Try.func39, Try.ntmps39
  go_wp2_with fail
  go_region_held3 (fun w' => w'.cell? ⟨g, 0, none⟩ = some (.slice A1 now.length c1) ∧ w'.cell? ⟨g, 1, none⟩ = some (.slice A2 safe.length c2) ∧ w'.cell? ⟨g, 2, none⟩ = some (.slice A3 ops.length c3)) (first | with_reducible exact ⟨s0, s1, s2⟩ | with_reducible exact ⟨cell_al _ s0, cell_al _ s1, cell_al _ s2⟩ | exact ⟨s0, s1, s2⟩) (first
    | (go_at_call 86; have gate := T1.out; refine (clone_bytes A1 now.length c1 now _ (Kd.C_drew HC1.out) (by omega)).mono ?_; rintro e w1 ⟨A4, c4, rfl, hc4, hv, hb⟩; replace s0 := pw_cell_below hb s0; replace s1 := pw_cell_below hb s1; replace s2 := pw_cell_below hb s2; have hc2n := Kd.C_below (Kd.C_drew HC2.out) hb; have hon := Kd.R_below (Kd.R_drew HO.out) hb; have hbn := below_step (below_drew1 HB.out) hb; have HV1 := Aside0.mk (freshU hv hbw (x := fun k => x k ∧ some k ≠ (Value.slice A3 ops.length c3).ownBlock) (fun k hk => HX.out k hk)); clear HC1 HC2 HO HB T1; have HC2 := Aside0.mk hc2n; have HO := Aside0.mk hon; have HB := Aside0.mk hbn; clear hv hb hc2n hon hbn gate)
    | (go_at_call 86; refine (clone_bytes A2 safe.length c2 safe _ HC2.out (by omega)).mono ?_; rintro e w2 ⟨A5, c5, rfl, hc5, hv, hb⟩; replace s0 := pw_cell_below hb s0; replace s1 := pw_cell_below hb s1; replace s2 := pw_cell_below hb s2; have hon := Kd.R_below HO.out hb; have h1n := Kd.R_below HV1.out hb; have HV2 := Aside0.mk (freshU hv (Nat.le_trans hbw (below_size HB.out)) (x := fun k => x k ∧ some k ≠ (Value.slice A3 ops.length c3).ownBlock) (fun k hk => HX.out k (Nat.le_trans (below_size HB.out) hk))); have hbn := below_step HB.out hb; clear HC2 HO HB HV1; have HO := Aside0.mk hon; have HB := Aside0.mk hbn; have HV1 := Aside0.mk h1n; clear hv hb hon hbn h1n)
    | (go_at_call 92; refine (copy_ops b x A3 ops.length c3 ops _ HO.out (fun k hk => (HX.out k (Nat.le_trans (below_size HB.out) hk)).1) (Nat.le_trans hbw (below_size HB.out)) (by omega)).mono ?_; rintro e w3 ⟨A6, c6, rfl, hv, hb⟩; replace s0 := pw_cell_below hb s0; replace s1 := pw_cell_below hb s1; replace s2 := pw_cell_below hb s2; have h1n := Kd.R_below HV1.out hb; have h2n := Kd.R_below HV2.out hb; have HV3 := Aside0.mk hv; have hbn := below_step HB.out hb; clear HB HV1 HV2; have HB := Aside0.mk hbn; have HV1 := Aside0.mk h1n; have HV2 := Aside0.mk h2n; clear hv hb hbn h1n h2n))
  all_goals
    go_wp2_with fail
    go_ret
    exact ⟨_, _, _, _, rfl, below_size HB.out, ⟨blk_new _ _, Kd.R_alloc HV1.out _, Kd.R_alloc HV2.out _, Kd.R_alloc HV3.out _, Nat.le_trans hbw (below_size HB.out)⟩, below_alloc HB.out _⟩
end Go.Proofs.Ytpnbjpkdbiiogaa
