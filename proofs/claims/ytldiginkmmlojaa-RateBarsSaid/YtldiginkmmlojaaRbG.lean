/- The reference's limit: Allow. -/
import Derived.Test.YtldiginkmmlojaaRbF
namespace Go.Proofs.Ytldiginkmmlojaa
set_option linter.unusedVariables false
open Go.RowKit Go.Maps Go.Proofs.YtldiginkmmlojaaW.PrintWords
attribute [local go_sem] mx2 mn2 mxTwo mnTwo

theorem cRw_of {w : World} {base : Nat} {ok : Nat → Prop} {x : LW} {c : List Value} (h : kRw.M w base ok x c) : c = cRw x := by
  obtain ⟨_, _, rfl, rfl, ⟨_, _, rfl, rfl, ⟨_, _, rfl, rfl, rfl⟩⟩⟩ := h
  rfl
section
variable {W : World} {b g gr n c : Nat} {span burst most : Int} {l : List LW}
theorem rw_cells {ok : Nat → Prop} (h : Kd.R kRw 151 W b ok (.slice (some ⟨gr, 0, none⟩) l.length c) l) {i : Nat} (hi : i < l.length) :
    W.cell? ⟨gr, i * 4, none⟩ = some (.string (l.getD i zLW).1) ∧ W.cell? ⟨gr, i * 4 + 1, none⟩ = some (.int .u64 (l.getD i zLW).2.since) ∧ W.cell? ⟨gr, i * 4 + 2, none⟩ = some (.int .i64 (l.getD i zLW).2.n) ∧ W.cell? ⟨gr, i * 4 + 3, none⟩ = some (.int .i64 (l.getD i zLW).2.barred) ∧ W.frozen? ⟨gr, i * 4, none⟩ = false ∧ W.frozen? ⟨gr, i * 4 + 1, none⟩ = false ∧ W.frozen? ⟨gr, i * 4 + 2, none⟩ = false ∧ W.frozen? ⟨gr, i * 4 + 3, none⟩ = false := by
  obtain ⟨cs, _, hM, hc, hf⟩ := Kd.R_elem h zLW (i : Int) (by omega) (by omega)
  have e := cRw_of hM
  subst e
  simp only [Int.toNat_natCast] at hc hf
  exact ⟨hc 0 _ rfl, hc 1 _ rfl, hc 2 _ rfl, hc 3 _ rfl, hf 0, hf 1, hf 2, hf 3⟩
theorem rw_set {ok : Nat → Prop} (h : Kd.R kRw 151 W b ok (.slice (some ⟨gr, 0, none⟩) l.length c) l) {i j : Nat} (hi : i < l.length) (hj : j < 4) (u : Value) (p : LW) (hp : (cRw (l.getD i zLW)).set j u = cRw p) : Kd.R kRw 151 (W.setCell ⟨gr, i * 4 + j, none⟩ u) b ok (.slice (some ⟨gr, 0, none⟩) (l.set i p).length c) (l.set i p) := by
  obtain ⟨cs, hcl, hM, hc, hf⟩ := Kd.R_elem h zLW (i : Int) (by omega) (by omega)
  have e := cRw_of hM
  subst e
  have hl4 : (cRw (l.getD i zLW)).length = 4 := rfl
  have h1 := (Kd.R_seg (okp := fun k => ok k ∧ k ≠ gr) h (i : Int) (by omega) (by omega) (seg := [u]) (j := j) hcl hc (by show j + 1 ≤ 4; omega) (x' := p) (by
    have e2 : (cRw (l.getD (i : Int).toNat zLW)).take j ++ [u] ++ (cRw (l.getD (i : Int).toNat zLW)).drop (j + [u].length) = cRw p := by
      rw [Int.toNat_natCast, ← hp, List.set_eq_take_append_cons_drop, if_pos (by rw [hl4]; exact hj)]
      simp
    rw [e2]
    exact kRw_mkM _ _ _ p) (fun k hk => hk)).1
  rw [Int.toNat_natCast] at h1
  rw [List.length_set]
  exact h1
/-- The reference's limit, its row laid open. -/
structure RX (W : World) (b g gr c : Nat) (span burst most : Int) (l : List LW) : Prop where
  hb : W.heap[g]? = some (.cells #[.int .u64 span, .int .i64 burst, .int .i64 most, .slice (some ⟨gr, 0, none⟩) l.length c] 144 (0, 0))
  hr : Kd.R kRw 151 W b (fun _ => True) (.slice (some ⟨gr, 0, none⟩) l.length c) l
  hg : b ≤ g
theorem RX.rj (h : RX W b g gr c span burst most l) : RJ W b g span burst most l := ⟨⟨_, h.hb, h.hr⟩, h.hg⟩
theorem RJ.rx (h : RJ W b g span burst most l) (hl : 0 < l.length) : ∃ gr c, RX W b g gr c span burst most l := by
  obtain ⟨⟨v, h1, h2⟩, h3⟩ := h
  obtain ⟨gr, c, rfl, _⟩ := Kd.R_form h2 hl
  exact ⟨gr, c, h1, h2, h3⟩
theorem RX.below {W1 : World} (h : RX W b g gr c span burst most l) (hb : Below W.heap.size W W1) : RX W1 b g gr c span burst most l := ⟨blk_below h.hb hb, Kd.R_below h.hr hb, h.hg⟩
theorem RX.bgr (h : RX W b g gr c span burst most l) : b ≤ gr := Kd.R_base h.hr gr rfl
theorem RX.set (h : RX W b g gr c span burst most l) {i j : Nat} (hi : i < l.length) (hj : j < 4) (u : Value) (p : LW) (hp : (cRw (l.getD i zLW)).set j u = cRw p) : RX (W.setCell ⟨gr, i * 4 + j, none⟩ u) b g gr c span burst most (l.set i p) := by
  refine ⟨?_, rw_set h.hr hi hj u p hp, h.hg⟩
  rw [List.length_set]
  exact blk_far h.hb (fun e => Kd.R_ne h.hr h.hb (by decide) (by rw [show g = gr from e]; rfl)) u
end
theorem getD_set_self {l : List LW} {i : Nat} (hi : i < l.length) (p : LW) : (l.set i p).getD i zLW = p := by
  rw [List.getD_eq_getElem?_getD, List.getElem?_set_self hi]
  rfl
theorem rfind_at (b g : Nat) (span burst most : Int) (l : List LW) (w : World) (h : RJ w b g span burst most l) (hl : l.length ≤ 1000001) (hr : RisW l) (s : ByteArray) (i : Nat) (x : WV) (hi : l[i]? = some (s, x)) :
    Calls Try.prog 82 #[.pointer (some ⟨g, 0, none⟩), .string s] w fun e w' => e = .returned (.int .i64 (i : Int)) ∧ w' = w := by
  have hiL : i < l.length := (List.getElem?_eq_some_iff.1 hi).1
  exact rfind_any b g span burst most l w h hl s i (i : Int) (by omega) (fun j hj e => by
    have hj2 : l[j]? = some (l.getD j zLW) := by rw [List.getD_eq_getElem?_getD, List.getElem?_eq_getElem (by omega)]; rfl
    have := risW_inj hr hj2 hi (by rw [e])
    omega) (.inl ⟨hiL, by rw [List.getD_eq_getElem?_getD, hi]; rfl, rfl⟩)
theorem rfind_no (b g : Nat) (span burst most : Int) (l : List LW) (w : World) (h : RJ w b g span burst most l) (hl : l.length ≤ 1000001) (s : ByteArray) (hno : ∀ p ∈ l, p.1 ≠ s) :
    Calls Try.prog 82 #[.pointer (some ⟨g, 0, none⟩), .string s] w fun e w' => e = .returned (.int .i64 (-1)) ∧ w' = w :=
  rfind_any b g span burst most l w h hl s l.length (-1) (Nat.le_refl _) (fun j hj => hno _ (List.mem_of_getElem? (show l[j]? = some (l.getD j zLW) by rw [List.getD_eq_getElem?_getD, List.getElem?_eq_getElem hj]; rfl))) (.inr ⟨rfl, rfl⟩)
set_option maxHeartbeats 2000000 in
set_option maxRecDepth 100000 in
theorem rallow_old (b g : Nat) (span burst most : Int) (l : List LW) (s : ByteArray) (now : Int) (w : World) (h : RJ w b g span burst most l) (hl : l.length ≤ 1000000) (hn : 0 ≤ now ∧ now < 18446744073709551616) (HRIS : Aside0 (RisW l)) (i : Nat) (x : WV) (hi : l[i]? = some (s, x)) (h0 : 0 ≤ x.since) (h1 : x.since ≤ now) (h3 : ¬ span ≤ now - x.since) (hn0 : 0 ≤ x.n) (hn1 : x.n ≤ 1000000) (hr0 : 0 ≤ x.barred) (hr1 : x.barred ≤ 1000000) :
    Calls Try.prog 62 #[.pointer (some ⟨g, 0, none⟩), .string s, .int .u64 now] w fun e w' => e = .returned (.tuple #[.bool (allowW burst x).1, .int .i64 0]) ∧ RJ w' b g span burst most (l.set i (s, (allowW burst x).2)) ∧ Below b w w' := by
  have hd1 : decide (now < x.since) = false := decide_eq_false (by omega)
  have hwr : IntKind.u64.wrap (now - x.since) = now - x.since := by show (now - x.since) % 18446744073709551616 = _; omega
  have hge : decide (span ≤ now - x.since) = false := decide_eq_false h3
  obtain ⟨hnl, hnh⟩ := hn
  obtain ⟨since, n, barred⟩ := x
  dsimp only at *
  have hiL : i < l.length := (List.getElem?_eq_some_iff.1 hi).1
  have HI := Aside0.mk hi
  have hid : l.getD i zLW = (s, ⟨since, n, barred⟩) := by rw [List.getD_eq_getElem?_getD, hi]; rfl
  have HFI := Aside0.mk (rfind_at b g span burst most l w h (by omega) HRIS.out s i _ hi)
  obtain ⟨gr, c, hx⟩ := h.rx (by omega)
  obtain ⟨q0, q1, q2, q3, y0, y1, y2, y3⟩ := rw_cells hx.hr (i := i) hiL
  rw [hid] at q0 q1 q2 q3
  dsimp only at q0 q1 q2 q3
  have s0 := (blk_cell hx.hb 0).trans (rfl : _ = some (Value.int .u64 span))
  have s3 := (blk_cell hx.hb 3).trans (rfl : _ = some (Value.slice (some ⟨gr, 0, none⟩) l.length c))
  have HLI := Aside0.mk hid
  have HX0 := Aside0.mk hx
  obtain ⟨nL, hnL⟩ : ∃ nL, nL = l.length := ⟨_, rfl⟩
  have HNL := Aside0.mk hnL
  have hinL : i < nL := by omega
  have hnM : nL ≤ 1000000 := by omega
  rw [← hnL] at s3
  have HIL := Aside0.mk hiL
  clear h hx hi hid hnL hl hiL
  go_enter Try.func62, Try.ntmps62
  go_wp2_with (go_at_call 82; refine HFI.out.mono ?_; rintro e w1 ⟨rfl, rfl⟩)
  go_quiet (fail)
  go_wp2_with fail
  generalize hW2 : World.drewN _ _ = W2
  have HX := Aside0.mk (show RX W2 b g gr c span burst most l by rw [← hW2]; exact HX0.out.below (pw_below_drewN (Below.refl _ _) _))
  have HB2 := Aside0.mk (show Below b w1 W2 by rw [← hW2]; exact pw_below_drewN (Below.refl _ _) _)
  have HLN := Aside0.mk (show l.length = nL from HNL.out.symm)
  clear hW2 q0 q1 q2 q3 y0 y1 y2 y3 s0 s3 hd1 hwr hge
  have hiL := HIL.out
  obtain ⟨q0, q1, q2, q3, y0, y1, y2, y3⟩ := rw_cells HX.out.hr (i := i) hiL
  rw [HLI.out] at q2 q3
  dsimp only at q2 q3
  have s1 := (blk_cell HX.out.hb 1).trans (rfl : _ = some (Value.int .i64 burst))
  have s3 := (blk_cell HX.out.hb 3).trans (rfl : _ = some (Value.slice (some ⟨gr, 0, none⟩) _ c))
  rw [HLN.out] at s3
  clear q0 q1 y0 y1
  by_cases hlt : n < burst
  · have hd := decide_eq_true hlt
    go_quiet (fail)
    go_wp2_with fail
    go_ret2
    have hA : allowW burst ⟨since, n, barred⟩ = (true, ⟨since, n + 1, barred⟩) := by unfold allowW; simp [hlt]
    rw [hA]
    refine ⟨rfl, ?_, (pw_below_drewN HB2.out _).setCell (p := ⟨gr, i * 4 + 2, none⟩) HX.out.bgr _⟩
    skip
    exact ((HX.out.below (pw_below_drewN (Below.refl _ _) _)).set (i := i) (j := 2) hiL (by omega) (.int .i64 (n + 1)) (s, ⟨since, n + 1, barred⟩) (by rw [HLI.out]; rfl)).rj
  · have hd := decide_eq_false hlt
    go_quiet (fail)
    go_wp2_with fail
    go_ret2
    have hA : allowW burst ⟨since, n, barred⟩ = (false, ⟨since, n, barred + 1⟩) := by unfold allowW; simp [hlt]
    rw [hA]
    refine ⟨rfl, ?_, (pw_below_drewN HB2.out _).setCell (p := ⟨gr, i * 4 + 3, none⟩) HX.out.bgr _⟩
    skip
    exact ((HX.out.below (pw_below_drewN (Below.refl _ _) _)).set (i := i) (j := 3) hiL (by omega) (.int .i64 (barred + 1)) (s, ⟨since, n, barred + 1⟩) (by rw [HLI.out]; rfl)).rj
set_option maxHeartbeats 2000000 in
set_option maxRecDepth 100000 in
theorem rallow_end (b g : Nat) (span burst most : Int) (l : List LW) (s : ByteArray) (now : Int) (w : World) (h : RJ w b g span burst most l) (hl : l.length ≤ 1000000) (hn : 0 ≤ now ∧ now < 18446744073709551616) (HRIS : Aside0 (RisW l)) (i : Nat) (x : WV) (hi : l[i]? = some (s, x)) (h0 : 0 ≤ x.since) (h1 : x.since ≤ now) (h3 : span ≤ now - x.since) :
    Calls Try.prog 62 #[.pointer (some ⟨g, 0, none⟩), .string s, .int .u64 now] w fun e w' => e = .returned (.tuple #[.bool (allowW burst ⟨now, 0, 0⟩).1, .int .i64 x.barred]) ∧ RJ w' b g span burst most (l.set i (s, (allowW burst ⟨now, 0, 0⟩).2)) ∧ Below b w w' := by
  have hd1 : decide (now < x.since) = false := decide_eq_false (by omega)
  have hwr : IntKind.u64.wrap (now - x.since) = now - x.since := by show (now - x.since) % 18446744073709551616 = _; omega
  have hge : decide (span ≤ now - x.since) = true := decide_eq_true h3
  obtain ⟨hnl, hnh⟩ := hn
  obtain ⟨since, n, barred⟩ := x
  dsimp only at *
  have hiL : i < l.length := (List.getElem?_eq_some_iff.1 hi).1
  have HI := Aside0.mk hi
  have hid : l.getD i zLW = (s, ⟨since, n, barred⟩) := by rw [List.getD_eq_getElem?_getD, hi]; rfl
  have HFI := Aside0.mk (rfind_at b g span burst most l w h (by omega) HRIS.out s i _ hi)
  obtain ⟨gr, c, hx⟩ := h.rx (by omega)
  obtain ⟨q0, q1, q2, q3, y0, y1, y2, y3⟩ := rw_cells hx.hr (i := i) hiL
  rw [hid] at q0 q1 q2 q3
  dsimp only at q0 q1 q2 q3
  have s0 := (blk_cell hx.hb 0).trans (rfl : _ = some (Value.int .u64 span))
  have s3 := (blk_cell hx.hb 3).trans (rfl : _ = some (Value.slice (some ⟨gr, 0, none⟩) l.length c))
  have HLI := Aside0.mk hid
  have HX0 := Aside0.mk hx
  obtain ⟨nL, hnL⟩ : ∃ nL, nL = l.length := ⟨_, rfl⟩
  have HNL := Aside0.mk hnL
  have hinL : i < nL := by omega
  have hnM : nL ≤ 1000000 := by omega
  rw [← hnL] at s3
  have HIL := Aside0.mk hiL
  clear h hx hi hid hnL hl hiL
  go_enter Try.func62, Try.ntmps62
  go_wp2_with (go_at_call 82; refine HFI.out.mono ?_; rintro e w1 ⟨rfl, rfl⟩)
  go_quiet (fail)
  generalize hW5 : World.drewN _ _ = W5
  have HX5 := Aside0.mk (show RX W5 b g gr c span burst most l by rw [← hW5]; exact HX0.out.below (pw_below_drewN (Below.refl _ _) _))
  have HB5 := Aside0.mk (show Below b w1 W5 by rw [← hW5]; exact pw_below_drewN (Below.refl _ _) _)
  clear hW5 q0 q1 q2 q3 y0 y1 y2 y3 s0 s3
  obtain ⟨q0, q1, q2, q3, y0, y1, y2, y3⟩ := rw_cells HX5.out.hr (i := i) HIL.out
  rw [HLI.out] at q0 q1 q2 q3
  dsimp only at q0 q1 q2 q3
  have s3 := (blk_cell HX5.out.hb 3).trans (rfl : _ = some (Value.slice (some ⟨gr, 0, none⟩) _ c))
  rw [← HNL.out] at s3
  go_wp2_with fail
  generalize hW2 : World.setCell _ _ _ = W2
  have HX := Aside0.mk (show RX W2 b g gr c span burst most (l.set i (s, ⟨now, 0, 0⟩)) by
    rw [← hW2]
    have h1 := HX5.out.set (i := i) (j := 0) HIL.out (by omega) (.string s) (s, ⟨since, n, barred⟩) (by rw [HLI.out]; rfl)
    have h2 := h1.set (i := i) (j := 1) (by rw [List.length_set]; exact HIL.out) (by omega) (.int .u64 now) (s, ⟨now, n, barred⟩) (by rw [getD_set_self HIL.out]; rfl)
    rw [List.set_set] at h2
    have h3 := h2.set (i := i) (j := 2) (by rw [List.length_set]; exact HIL.out) (by omega) (.int .i64 0) (s, ⟨now, 0, barred⟩) (by rw [getD_set_self HIL.out]; rfl)
    rw [List.set_set] at h3
    have h4 := h3.set (i := i) (j := 3) (by rw [List.length_set]; exact HIL.out) (by omega) (.int .i64 0) (s, ⟨now, 0, 0⟩) (by rw [getD_set_self HIL.out]; rfl)
    rw [List.set_set] at h4
    exact h4)
  have HB2 := Aside0.mk (show Below b w1 W2 by
    rw [← hW2]
    exact (((HB5.out.setCell (p := ⟨gr, i * 4, none⟩) HX5.out.bgr _).setCell (p := ⟨gr, i * 4 + 1, none⟩) HX5.out.bgr _).setCell (p := ⟨gr, i * 4 + 2, none⟩) HX5.out.bgr _).setCell (p := ⟨gr, i * 4 + 3, none⟩) HX5.out.bgr _)
  have HSL := Aside0.mk (show ∀ y : WV, (l.set i (s, ⟨now, 0, 0⟩)).set i (s, y) = l.set i (s, y) from fun y => List.set_set ..)
  have HLN := Aside0.mk (show (l.set i (s, ⟨now, 0, 0⟩)).length = nL by rw [List.length_set]; exact HNL.out.symm)
  have hiL : i < (l.set i (s, (⟨now, 0, 0⟩ : WV))).length := by rw [List.length_set]; exact HIL.out
  have hli : (l.set i (s, (⟨now, 0, 0⟩ : WV))).getD i zLW = (s, ⟨now, 0, 0⟩) := getD_set_self HIL.out _
  clear hW2 q0 q1 q2 q3 y0 y1 y2 y3 s3 HLI
  have HLI := Aside0.mk hli
  clear hli
  clear hd1 hwr hge
  obtain ⟨q0, q1, q2, q3, y0, y1, y2, y3⟩ := rw_cells HX.out.hr (i := i) hiL
  rw [HLI.out] at q2 q3
  dsimp only at q2 q3
  have s1 := (blk_cell HX.out.hb 1).trans (rfl : _ = some (Value.int .i64 burst))
  have s3 := (blk_cell HX.out.hb 3).trans (rfl : _ = some (Value.slice (some ⟨gr, 0, none⟩) _ c))
  rw [HLN.out] at s3
  clear q0 q1 y0 y1
  by_cases hlt : 0 < burst
  · have hd := decide_eq_true hlt
    go_quiet (fail)
    go_wp2_with fail
    go_ret2
    have hA : allowW burst ⟨now, 0, 0⟩ = (true, ⟨now, 1, 0⟩) := by unfold allowW; simp [hlt]
    rw [hA]
    refine ⟨rfl, ?_, (pw_below_drewN HB2.out _).setCell (p := ⟨gr, i * 4 + 2, none⟩) HX.out.bgr _⟩
    rw [← HSL.out]
    exact ((HX.out.below (pw_below_drewN (Below.refl _ _) _)).set (i := i) (j := 2) hiL (by omega) (.int .i64 (1)) (s, ⟨now, 1, 0⟩) (by rw [HLI.out]; rfl)).rj
  · have hd := decide_eq_false hlt
    go_quiet (fail)
    go_wp2_with fail
    go_ret2
    have hA : allowW burst ⟨now, 0, 0⟩ = (false, ⟨now, 0, 1⟩) := by unfold allowW; simp [hlt]
    rw [hA]
    refine ⟨rfl, ?_, (pw_below_drewN HB2.out _).setCell (p := ⟨gr, i * 4 + 3, none⟩) HX.out.bgr _⟩
    rw [← HSL.out]
    exact ((HX.out.below (pw_below_drewN (Below.refl _ _) _)).set (i := i) (j := 3) hiL (by omega) (.int .i64 (1)) (s, ⟨now, 0, 1⟩) (by rw [HLI.out]; rfl)).rj
set_option maxHeartbeats 2000000 in
set_option maxRecDepth 100000 in
theorem rallow_back (b g : Nat) (span burst most : Int) (l : List LW) (s : ByteArray) (now : Int) (w : World) (h : RJ w b g span burst most l) (hl : l.length ≤ 1000000) (hn : 0 ≤ now ∧ now < 18446744073709551616) (HRIS : Aside0 (RisW l)) (i : Nat) (x : WV) (hi : l[i]? = some (s, x)) (h1 : now < x.since) :
    Calls Try.prog 62 #[.pointer (some ⟨g, 0, none⟩), .string s, .int .u64 now] w fun e w' => e = .returned (.tuple #[.bool (allowW burst ⟨now, 0, 0⟩).1, .int .i64 x.barred]) ∧ RJ w' b g span burst most (l.set i (s, (allowW burst ⟨now, 0, 0⟩).2)) ∧ Below b w w' := by
  have hd1 : decide (now < x.since) = true := decide_eq_true h1
  obtain ⟨hnl, hnh⟩ := hn
  obtain ⟨since, n, barred⟩ := x
  dsimp only at *
  have hiL : i < l.length := (List.getElem?_eq_some_iff.1 hi).1
  have HI := Aside0.mk hi
  have hid : l.getD i zLW = (s, ⟨since, n, barred⟩) := by rw [List.getD_eq_getElem?_getD, hi]; rfl
  have HFI := Aside0.mk (rfind_at b g span burst most l w h (by omega) HRIS.out s i _ hi)
  obtain ⟨gr, c, hx⟩ := h.rx (by omega)
  obtain ⟨q0, q1, q2, q3, y0, y1, y2, y3⟩ := rw_cells hx.hr (i := i) hiL
  rw [hid] at q0 q1 q2 q3
  dsimp only at q0 q1 q2 q3
  have s0 := (blk_cell hx.hb 0).trans (rfl : _ = some (Value.int .u64 span))
  have s3 := (blk_cell hx.hb 3).trans (rfl : _ = some (Value.slice (some ⟨gr, 0, none⟩) l.length c))
  have HLI := Aside0.mk hid
  have HX0 := Aside0.mk hx
  obtain ⟨nL, hnL⟩ : ∃ nL, nL = l.length := ⟨_, rfl⟩
  have HNL := Aside0.mk hnL
  have hinL : i < nL := by omega
  have hnM : nL ≤ 1000000 := by omega
  rw [← hnL] at s3
  have HIL := Aside0.mk hiL
  clear h hx hi hid hnL hl hiL
  go_enter Try.func62, Try.ntmps62
  go_wp2_with (go_at_call 82; refine HFI.out.mono ?_; rintro e w1 ⟨rfl, rfl⟩)
  go_quiet (fail)
  generalize hW5 : World.drewN _ _ = W5
  have HX5 := Aside0.mk (show RX W5 b g gr c span burst most l by rw [← hW5]; exact HX0.out.below (pw_below_drewN (Below.refl _ _) _))
  have HB5 := Aside0.mk (show Below b w1 W5 by rw [← hW5]; exact pw_below_drewN (Below.refl _ _) _)
  clear hW5 q0 q1 q2 q3 y0 y1 y2 y3 s0 s3
  obtain ⟨q0, q1, q2, q3, y0, y1, y2, y3⟩ := rw_cells HX5.out.hr (i := i) HIL.out
  rw [HLI.out] at q0 q1 q2 q3
  dsimp only at q0 q1 q2 q3
  have s3 := (blk_cell HX5.out.hb 3).trans (rfl : _ = some (Value.slice (some ⟨gr, 0, none⟩) _ c))
  rw [← HNL.out] at s3
  go_wp2_with fail
  generalize hW2 : World.setCell _ _ _ = W2
  have HX := Aside0.mk (show RX W2 b g gr c span burst most (l.set i (s, ⟨now, 0, 0⟩)) by
    rw [← hW2]
    have h1 := HX5.out.set (i := i) (j := 0) HIL.out (by omega) (.string s) (s, ⟨since, n, barred⟩) (by rw [HLI.out]; rfl)
    have h2 := h1.set (i := i) (j := 1) (by rw [List.length_set]; exact HIL.out) (by omega) (.int .u64 now) (s, ⟨now, n, barred⟩) (by rw [getD_set_self HIL.out]; rfl)
    rw [List.set_set] at h2
    have h3 := h2.set (i := i) (j := 2) (by rw [List.length_set]; exact HIL.out) (by omega) (.int .i64 0) (s, ⟨now, 0, barred⟩) (by rw [getD_set_self HIL.out]; rfl)
    rw [List.set_set] at h3
    have h4 := h3.set (i := i) (j := 3) (by rw [List.length_set]; exact HIL.out) (by omega) (.int .i64 0) (s, ⟨now, 0, 0⟩) (by rw [getD_set_self HIL.out]; rfl)
    rw [List.set_set] at h4
    exact h4)
  have HB2 := Aside0.mk (show Below b w1 W2 by
    rw [← hW2]
    exact (((HB5.out.setCell (p := ⟨gr, i * 4, none⟩) HX5.out.bgr _).setCell (p := ⟨gr, i * 4 + 1, none⟩) HX5.out.bgr _).setCell (p := ⟨gr, i * 4 + 2, none⟩) HX5.out.bgr _).setCell (p := ⟨gr, i * 4 + 3, none⟩) HX5.out.bgr _)
  have HSL := Aside0.mk (show ∀ y : WV, (l.set i (s, ⟨now, 0, 0⟩)).set i (s, y) = l.set i (s, y) from fun y => List.set_set ..)
  have HLN := Aside0.mk (show (l.set i (s, ⟨now, 0, 0⟩)).length = nL by rw [List.length_set]; exact HNL.out.symm)
  have hiL : i < (l.set i (s, (⟨now, 0, 0⟩ : WV))).length := by rw [List.length_set]; exact HIL.out
  have hli : (l.set i (s, (⟨now, 0, 0⟩ : WV))).getD i zLW = (s, ⟨now, 0, 0⟩) := getD_set_self HIL.out _
  clear hW2 q0 q1 q2 q3 y0 y1 y2 y3 s3 HLI
  have HLI := Aside0.mk hli
  clear hli
  clear hd1
  obtain ⟨q0, q1, q2, q3, y0, y1, y2, y3⟩ := rw_cells HX.out.hr (i := i) hiL
  rw [HLI.out] at q2 q3
  dsimp only at q2 q3
  have s1 := (blk_cell HX.out.hb 1).trans (rfl : _ = some (Value.int .i64 burst))
  have s3 := (blk_cell HX.out.hb 3).trans (rfl : _ = some (Value.slice (some ⟨gr, 0, none⟩) _ c))
  rw [HLN.out] at s3
  clear q0 q1 y0 y1
  by_cases hlt : 0 < burst
  · have hd := decide_eq_true hlt
    go_quiet (fail)
    go_wp2_with fail
    go_ret2
    have hA : allowW burst ⟨now, 0, 0⟩ = (true, ⟨now, 1, 0⟩) := by unfold allowW; simp [hlt]
    rw [hA]
    refine ⟨rfl, ?_, (pw_below_drewN HB2.out _).setCell (p := ⟨gr, i * 4 + 2, none⟩) HX.out.bgr _⟩
    rw [← HSL.out]
    exact ((HX.out.below (pw_below_drewN (Below.refl _ _) _)).set (i := i) (j := 2) hiL (by omega) (.int .i64 (1)) (s, ⟨now, 1, 0⟩) (by rw [HLI.out]; rfl)).rj
  · have hd := decide_eq_false hlt
    go_quiet (fail)
    go_wp2_with fail
    go_ret2
    have hA : allowW burst ⟨now, 0, 0⟩ = (false, ⟨now, 0, 1⟩) := by unfold allowW; simp [hlt]
    rw [hA]
    refine ⟨rfl, ?_, (pw_below_drewN HB2.out _).setCell (p := ⟨gr, i * 4 + 3, none⟩) HX.out.bgr _⟩
    rw [← HSL.out]
    exact ((HX.out.below (pw_below_drewN (Below.refl _ _) _)).set (i := i) (j := 3) hiL (by omega) (.int .i64 (1)) (s, ⟨now, 0, 1⟩) (by rw [HLI.out]; rfl)).rj
set_option maxHeartbeats 2000000 in
set_option maxRecDepth 100000 in
theorem rallow_new (b g : Nat) (span burst most : Int) (l : List LW) (s : ByteArray) (now : Int) (w : World) (h : RJ w b g span burst most l) (hl : l.length ≤ 1000000) (hn : 0 ≤ now ∧ now < 18446744073709551616) (hr : RisW l) (hno : ∀ p ∈ l, p.1 ≠ s) (hmo : 1 ≤ most) :
    Calls Try.prog 62 #[.pointer (some ⟨g, 0, none⟩), .string s, .int .u64 now] w fun e w' => e = .returned (.tuple #[.bool (allowW burst ⟨now, 0, 0⟩).1, .int .i64 0]) ∧ RJ w' b g span burst most (insW (roomW most l) s (allowW burst ⟨now, 0, 0⟩).2) ∧ Below b w w' := by
  obtain ⟨hnl, hnh⟩ := hn
  have HNO := Aside0.mk hno
  have HFI := Aside0.mk (rfind_no b g span burst most l w h (by omega) s hno)
  have HRI := Aside0.mk (risW_ins (s := s) (roomW_ris hr most) (fun p hp => hno p (roomW_mem hp)) ⟨now, 0, 0⟩)
  obtain ⟨i, hip⟩ : ∃ i, i = posW (roomW most l) s := ⟨_, rfl⟩
  have HIP := Aside0.mk hip
  have HIN := Aside0.mk (show (insW (roomW most l) s ⟨now, 0, 0⟩)[i]? = some (s, ⟨now, 0, 0⟩) by rw [hip]; exact insW_get _ _)
  have HH := Aside0.mk h
  obtain ⟨⟨v, hb, hv⟩, hg⟩ := h
  obtain ⟨A0, c0, rfl⟩ := Kd.R_slice hv
  have s2 := (blk_cell hb 2).trans (rfl : _ = some (Value.int .i64 most))
  have s3 := (blk_cell hb 3).trans (rfl : _ = some (Value.slice A0 l.length c0))
  clear hip hno hr hb hv
  by_cases hge : most ≤ (l.length : Int)
  · have d1 := decide_eq_true hge
    have hl0 : 0 < l.length := by omega
    have hrm : roomW most l = forgetW l := by unfold roomW; rw [if_pos hge]
    rw [hrm] at HRI HIP HIN ⊢
    have HLL := Aside0.mk (show (forgetW l).length ≤ 1000000 from Nat.le_trans (List.length_eraseIdx_le ..) hl)
    clear hrm hge
    go_enter Try.func62, Try.ntmps62
    go_wp2_with (go_at_call 82; refine HFI.out.mono ?_; rintro e w1 ⟨rfl, rfl⟩)
    go_quiet (fail)
    generalize hW5 : World.drewN _ _ = W5
    have HFG := Aside0.mk (rforget_any b g span burst most l W5 (by rw [← hW5]; exact HH.out.below (pw_below_drewN (Below.refl _ _) _)) hl hl0)
    have HB5 := Aside0.mk (show Below b w1 W5 by rw [← hW5]; exact pw_below_drewN (Below.refl _ _) _)
    clear hW5 s2 s3 HH d1
    go_wp2_with (first
      | (go_at_call 83; refine HFG.out.mono ?_; rintro e w6 ⟨rfl, hj6, hb6⟩; have HJ6 := Aside0.mk hj6; have HB6 := Aside0.mk (HB5.out.trans hb6); clear hj6 hb6 HFG HB5)
      | (go_at_call 84; refine (rput_any b g span burst most (forgetW l) _ HJ6.out HLL.out (s, ⟨now, 0, 0⟩)).mono ?_; rintro e w7 ⟨rfl, hj7, hb7⟩; have HJ7 := Aside0.mk hj7; have HB7 := Aside0.mk (HB6.out.trans hb7); clear hj7 hb7 HJ6 HB6) | (go_at_call 82; refine (rfind_at b g span burst most (insW (forgetW l) s ⟨now, 0, 0⟩) _ HJ7.out (by rw [insW_len]; have := HLL.out; omega) HRI.out s i ⟨now, 0, 0⟩ HIN.out).mono ?_; rintro e w8 ⟨rfl, rfl⟩))
    obtain ⟨gr, c, hx⟩ := HJ7.out.rx (by rw [insW_len]; omega)
    have HX := Aside0.mk hx
    have HB2 := HB7
    have hiL : i < (insW (forgetW l) s (⟨now, 0, 0⟩ : WV)).length := (List.getElem?_eq_some_iff.1 HIN.out).1
    have HLI := Aside0.mk (show (insW (forgetW l) s (⟨now, 0, 0⟩ : WV)).getD i zLW = (s, ⟨now, 0, 0⟩) by rw [List.getD_eq_getElem?_getD, HIN.out]; rfl)
    have HSL := Aside0.mk (show ∀ y : WV, (insW (forgetW l) s (⟨now, 0, 0⟩ : WV)).set i (s, y) = insW (forgetW l) s y from fun y => by rw [HIP.out]; exact insW_set _ _ _ _)
    obtain ⟨nL, hnL⟩ : ∃ nL, nL = (insW (forgetW l) s (⟨now, 0, 0⟩ : WV)).length := ⟨_, rfl⟩
    have hinL : i < nL := by omega
    have hnM : nL ≤ 1000001 := by rw [hnL, insW_len]; have := HLL.out; omega
    have HLN := Aside0.mk hnL.symm
    clear hx hnL
    obtain ⟨q0, q1, q2, q3, y0, y1, y2, y3⟩ := rw_cells HX.out.hr (i := i) hiL
    rw [HLI.out] at q2 q3
    dsimp only at q2 q3
    have s1 := (blk_cell HX.out.hb 1).trans (rfl : _ = some (Value.int .i64 burst))
    have s3 := (blk_cell HX.out.hb 3).trans (rfl : _ = some (Value.slice (some ⟨gr, 0, none⟩) _ c))
    rw [HLN.out] at s3
    clear q0 q1 y0 y1
    by_cases hlt : 0 < burst
    · have hd := decide_eq_true hlt
      go_quiet (fail)
      go_wp2_with fail
      go_ret2
      have hA : allowW burst ⟨now, 0, 0⟩ = (true, ⟨now, 1, 0⟩) := by unfold allowW; simp [hlt]
      rw [hA]
      refine ⟨rfl, ?_, (pw_below_drewN HB2.out _).setCell (p := ⟨gr, i * 4 + 2, none⟩) HX.out.bgr _⟩
      rw [← HSL.out]
      exact ((HX.out.below (pw_below_drewN (Below.refl _ _) _)).set (i := i) (j := 2) hiL (by omega) (.int .i64 (1)) (s, ⟨now, 1, 0⟩) (by rw [HLI.out]; rfl)).rj
    · have hd := decide_eq_false hlt
      go_quiet (fail)
      go_wp2_with fail
      go_ret2
      have hA : allowW burst ⟨now, 0, 0⟩ = (false, ⟨now, 0, 1⟩) := by unfold allowW; simp [hlt]
      rw [hA]
      refine ⟨rfl, ?_, (pw_below_drewN HB2.out _).setCell (p := ⟨gr, i * 4 + 3, none⟩) HX.out.bgr _⟩
      rw [← HSL.out]
      exact ((HX.out.below (pw_below_drewN (Below.refl _ _) _)).set (i := i) (j := 3) hiL (by omega) (.int .i64 (1)) (s, ⟨now, 0, 1⟩) (by rw [HLI.out]; rfl)).rj
  · have d1 := decide_eq_false hge
    have hrm : roomW most l = l := by unfold roomW; rw [if_neg hge]
    rw [hrm] at HRI HIP HIN ⊢
    have HLL := Aside0.mk hl
    clear hrm hge
    go_enter Try.func62, Try.ntmps62
    go_wp2_with (go_at_call 82; refine HFI.out.mono ?_; rintro e w1 ⟨rfl, rfl⟩)
    go_quiet (fail)
    generalize hW5 : World.drewN _ _ = W5
    have HJ6 := Aside0.mk (show RJ W5 b g span burst most l by rw [← hW5]; exact HH.out.below (pw_below_drewN (Below.refl _ _) _))
    have HB6 := Aside0.mk (show Below b w1 W5 by rw [← hW5]; exact pw_below_drewN (Below.refl _ _) _)
    clear hW5 s2 s3 HH d1
    go_wp2_with (first
      | (go_at_call 84; refine (rput_any b g span burst most (l) _ HJ6.out HLL.out (s, ⟨now, 0, 0⟩)).mono ?_; rintro e w7 ⟨rfl, hj7, hb7⟩; have HJ7 := Aside0.mk hj7; have HB7 := Aside0.mk (HB6.out.trans hb7); clear hj7 hb7 HJ6 HB6) | (go_at_call 82; refine (rfind_at b g span burst most (insW (l) s ⟨now, 0, 0⟩) _ HJ7.out (by rw [insW_len]; have := HLL.out; omega) HRI.out s i ⟨now, 0, 0⟩ HIN.out).mono ?_; rintro e w8 ⟨rfl, rfl⟩))
    obtain ⟨gr, c, hx⟩ := HJ7.out.rx (by rw [insW_len]; omega)
    have HX := Aside0.mk hx
    have HB2 := HB7
    have hiL : i < (insW (l) s (⟨now, 0, 0⟩ : WV)).length := (List.getElem?_eq_some_iff.1 HIN.out).1
    have HLI := Aside0.mk (show (insW (l) s (⟨now, 0, 0⟩ : WV)).getD i zLW = (s, ⟨now, 0, 0⟩) by rw [List.getD_eq_getElem?_getD, HIN.out]; rfl)
    have HSL := Aside0.mk (show ∀ y : WV, (insW (l) s (⟨now, 0, 0⟩ : WV)).set i (s, y) = insW (l) s y from fun y => by rw [HIP.out]; exact insW_set _ _ _ _)
    obtain ⟨nL, hnL⟩ : ∃ nL, nL = (insW (l) s (⟨now, 0, 0⟩ : WV)).length := ⟨_, rfl⟩
    have hinL : i < nL := by omega
    have hnM : nL ≤ 1000001 := by rw [hnL, insW_len]; have := HLL.out; omega
    have HLN := Aside0.mk hnL.symm
    clear hx hnL
    obtain ⟨q0, q1, q2, q3, y0, y1, y2, y3⟩ := rw_cells HX.out.hr (i := i) hiL
    rw [HLI.out] at q2 q3
    dsimp only at q2 q3
    have s1 := (blk_cell HX.out.hb 1).trans (rfl : _ = some (Value.int .i64 burst))
    have s3 := (blk_cell HX.out.hb 3).trans (rfl : _ = some (Value.slice (some ⟨gr, 0, none⟩) _ c))
    rw [HLN.out] at s3
    clear q0 q1 y0 y1
    by_cases hlt : 0 < burst
    · have hd := decide_eq_true hlt
      go_quiet (fail)
      go_wp2_with fail
      go_ret2
      have hA : allowW burst ⟨now, 0, 0⟩ = (true, ⟨now, 1, 0⟩) := by unfold allowW; simp [hlt]
      rw [hA]
      refine ⟨rfl, ?_, (pw_below_drewN HB2.out _).setCell (p := ⟨gr, i * 4 + 2, none⟩) HX.out.bgr _⟩
      rw [← HSL.out]
      exact ((HX.out.below (pw_below_drewN (Below.refl _ _) _)).set (i := i) (j := 2) hiL (by omega) (.int .i64 (1)) (s, ⟨now, 1, 0⟩) (by rw [HLI.out]; rfl)).rj
    · have hd := decide_eq_false hlt
      go_quiet (fail)
      go_wp2_with fail
      go_ret2
      have hA : allowW burst ⟨now, 0, 0⟩ = (false, ⟨now, 0, 1⟩) := by unfold allowW; simp [hlt]
      rw [hA]
      refine ⟨rfl, ?_, (pw_below_drewN HB2.out _).setCell (p := ⟨gr, i * 4 + 3, none⟩) HX.out.bgr _⟩
      rw [← HSL.out]
      exact ((HX.out.below (pw_below_drewN (Below.refl _ _) _)).set (i := i) (j := 3) hiL (by omega) (.int .i64 (1)) (s, ⟨now, 0, 1⟩) (by rw [HLI.out]; rfl)).rj
theorem rallow_any (b g : Nat) (span burst most : Int) (l : List LW) (s : ByteArray) (now : Int) (w : World) (h : RJ w b g span burst most l) (hl : l.length ≤ 1000000) (hn : 0 ≤ now ∧ now < 18446744073709551616) (k : Nat) (ok : OkL l k) (hk : k ≤ 1000000) (hmo : 1 ≤ most) :
    Calls Try.prog 62 #[.pointer (some ⟨g, 0, none⟩), .string s, .int .u64 now] w fun e w' => e = .returned (.tuple #[.bool (stepW span burst most l s now).1.1, .int .i64 (stepW span burst most l s now).1.2]) ∧ RJ w' b g span burst most (stepW span burst most l s now).2 ∧ Below b w w' := by
  unfold stepW
  cases hg : getW l s with
  | none => exact rallow_new b g span burst most l s now w h hl hn ok.ris (getW_none hg) hmo
  | some x =>
    obtain ⟨i, hi⟩ := getW_some hg
    have hx := ok.ok _ (List.mem_of_getElem? hi)
    dsimp only at hx ⊢
    rw [posW_at ok.ris hi]
    by_cases h1 : now < x.since
    · have e : endsW span now x = true := by unfold endsW; simp [h1]
      unfold begW tellW
      rw [e, if_pos rfl, if_pos rfl]
      exact rallow_back b g span burst most l s now w h hl hn ⟨ok.ris⟩ i x hi h1
    · by_cases h3 : span ≤ now - x.since
      · have e : endsW span now x = true := by unfold endsW; simp [h3]
        unfold begW tellW
        rw [e, if_pos rfl, if_pos rfl]
        exact rallow_end b g span burst most l s now w h hl hn ⟨ok.ris⟩ i x hi hx.2.1.1 (by omega) h3
      · have e : endsW span now x = false := by unfold endsW; simp [h1]; omega
        unfold begW tellW
        rw [e, if_neg (by decide), if_neg (by decide)]
        exact rallow_old b g span burst most l s now w h hl hn ⟨ok.ris⟩ i x hi hx.2.1.1 (by omega) h3 hx.2.2.1.1 (by omega) hx.2.2.2.1 (by omega)
end Go.Proofs.Ytldiginkmmlojaa
