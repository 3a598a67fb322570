/- The disk: Create. -/
import Derived.Test.YtpnbjpkdbiiogaaVkC
namespace Go.Proofs.Ytpnbjpkdbiiogaa
set_option linter.unusedVariables false
open Go.RowKit Go.Maps Go.Proofs.YtpnbjpkdbiiogaaW.PrintWords
attribute [local go_sem] mx2 mn2 mxTwo mnTwo

theorem mv_run {w : World} {P : Program} {k e t : TypeId} {b n : Nat} {f : Lit → Option Value} (h : MV w P k b n f) (K : Keyed P k) (ht : P.underlying t = some (.map k e)) (hn : n < maxLen) {key : Value} {kl : Lit} (hkey : keyOf P k key = some kl) (val : Value) :
    ∃ w', (Instr.mapUpdate t (.map (some b)) key val).run P w = .ok () w' ∧ MV w' P k b (n + 1) (upd f kl (some val)) ∧ w.mapTurned w' b := by
  obtain ⟨D, h1, h2⟩ := h
  obtain ⟨w', hrun, r1, r2⟩ := h1.store K ht hn (val := val) (d := .held val) (ps := []) hkey rfl
  exact ⟨w', hrun, ⟨_, r1, h2.put h1.isMap (key_lit hkey) val⟩, r2⟩
section
variable {W W1 : World} {b g gd mn ms N N' mf M : Nat} {vo vo' : Value} {now now' safe : List DN} {ops ops' : List DOp} {fl : List FR} {next room fuse : Int} {armed dead : Bool}
/-- The directory is turned. -/
theorem DK.dir (h : DK W b g gd mn ms vo N now safe ops mf M fl next room fuse armed dead) (hd : DI W1 b gd mn ms vo' N' now' safe ops') (hk : Keep3 W W1 gd (some mn) vo.ownBlock) : DK W1 b g gd mn ms vo' N' now' safe ops' mf M fl next room fuse armed dead := by
  have hvo : ∀ k, vo.ownBlock = some k → ∃ cells, W.heap[k]? = some (.cells cells 149 (0, 0)) := fun k hk => own_typed h.hd.ho.2.choose_spec.1 k hk
  have hty : ∀ (k : Nat) (cs : Array Value) (T : TypeId), T ≠ 88 → T ≠ 149 → W.heap[k]? = some (.cells cs T (0, 0)) → W1.heap[k]? = W.heap[k]? := fun k cs T h1 h2 hkk =>
    hk.2 k (blk_lt hkk) (blk_ne hkk h.hd.hb h1) (fun e => h.hd.hn.ne hkk (by injection e with e; exact e.symm)) (fun e => by
      obtain ⟨c2, hc2⟩ := hvo k e.symm
      rw [hkk] at hc2
      injection hc2 with hc2
      injection hc2 with _ hc3
      exact h2 hc3)
  refine ⟨(hty g _ _ (by decide) (by decide) h.hb).trans h.hb, hd, h.hm.move (hk.2 mf h.hm.lt (h.hm.ne h.hd.hb) (fun e => h.n1 (by injection e)) (fun e => ?_)), ⟨fun p hp => ?_, h.hf.ap⟩, h.hg, h.hmf, h.n1, h.n2⟩
  · obtain ⟨c2, hc2⟩ := hvo mf e.symm
    exact h.hm.ne hc2 rfl
  · have hp1 := h.hf.hf p hp
    exact hp1.move (hty p.g _ _ (by decide) (by decide) hp1.hb) (fun k hx _ ⟨cs, T, hT, hc⟩ => ⟨hty k cs T (by rcases hT with rfl | rfl <;> decide) (by rcases hT with rfl | rfl <;> decide) hc, hx⟩)
/-- A new file is laid into the map. -/
theorem DK.addFile {W8 : World} (h : DK W b g gd mn ms vo N now safe ops mf M fl next room fuse armed dead) (hb : Below W.heap.size W W8) (hfi : FI W8 b W.heap.size (fun _ => True) (.slice none 0 0) (.slice none 0 0) (.slice none 0 0) [] [] []) (hnx : ∀ p ∈ fl, p.id < next)
    (hm : MV W1 Try.prog 3 mf (M + 1) (upd (filesF fl) (.int .i64 next) (some (.pointer (some ⟨W.heap.size, 0, none⟩))))) (ht : W8.mapTurned W1 mf) :
    DK W1 b g gd mn ms vo N now safe ops mf (M + 1) (fl ++ [⟨next, W.heap.size, .slice none 0 0, .slice none 0 0, .slice none 0 0, [], [], []⟩]) next room fuse armed dead ∧ Below b W W1 := by
  have h8 := h.below hb
  have hg := ht.grown
  have hne : ∀ (k : Nat) (cs : Array Value) (T : TypeId), W8.heap[k]? = some (.cells cs T (0, 0)) → W1.heap[k]? = W8.heap[k]? := fun k cs T hk => hg.block k (blk_lt hk) (fun e => h8.hm.ne hk (by injection e with e; exact e.symm))
  have hno : fileAt fl next = none := by
    unfold fileAt
    rw [List.find?_eq_none]
    intro p hp
    have := hnx p hp
    simp
    omega
  have hbw : b ≤ W.heap.size := Nat.le_trans h.hg (Nat.le_of_lt (blk_lt h.hb))
  refine ⟨⟨(hne g _ _ h8.hb).trans h8.hb, ?_, ?_, ⟨fun p hp => ?_, ?_⟩, h.hg, h.hmf, h.n1, h.n2⟩, (hb.mono hbw).trans ((Below.refl b W8).grown hg (Nat.le_trans hbw hb.size) (fun k e => by cases e; exact h.hmf))⟩
  · exact h8.hd.move (hne gd _ _ h8.hd.hb) (hg.block mn h8.hd.hn.lt (fun e => h.n1 (by injection e with e; exact e.symm))) (hg.block ms h8.hd.hs.lt (fun e => h.n2 (by injection e with e; exact e.symm))) (fun k _ ⟨cs, hc⟩ => hne k cs _ hc)
  · rw [filesF_snoc fl _ hno]
    exact hm
  · rcases List.mem_append.1 hp with hp | hp
    · have hp1 := h8.hf.hf p hp
      refine hp1.move (hne p.g _ _ hp1.hb) (fun k hx _ ⟨cs, T, hT, hc⟩ => ⟨hne k cs T hc, fun q hq hqg => ?_⟩)
      rcases List.mem_append.1 hq with hq | hq
      · exact hx q hq hqg
      · rw [List.mem_singleton] at hq
        subst hq
        simp [Value.ownBlock]
    · rw [List.mem_singleton] at hp
      subst hp
      exact ⟨(hne _ _ _ hfi.hb).trans hfi.hb, Kd.R_nil _ _ _ _ _, Kd.R_nil _ _ _ _ _, Kd.R_nil _ _ _ _ _, hfi.hg⟩
  · rw [List.pairwise_append]
    refine ⟨h.hf.ap, by simp, fun p hp q hq => ?_⟩
    rw [List.mem_singleton] at hq
    subst hq
    have h1 := hnx p hp
    have h2 := blk_lt (h.hf.hf p hp).hb
    exact ⟨by show p.id ≠ next; omega, by show p.g ≠ W.heap.size; omega⟩
end
set_option maxHeartbeats 1000000 in
set_option maxRecDepth 100000 in
theorem kcreate_ok (b g gd mn ms : Nat) (vo : Value) (N : Nat) (now safe : List DN) (ops : List DOp) (mf M : Nat) (fl : List FR) (next room fuse : Int) (armed dead : Bool) (w : World) (h : DK w b g gd mn ms vo N now safe ops mf M fl next room fuse armed dead) (h0 : 0 ≤ fuse) (h1 : fuse ≤ 1099511627776) (hN : N < 1000000) (hM : M < 1000000) (hlo : ops.length ≤ 100000) (hn0 : 0 ≤ next) (hn1 : next ≤ 1000000) (hnx : ∀ p ∈ fl, p.id < next)
    (s sb : ByteArray) (hs : s.size ≤ maxLen) (hc : (chg fuse armed dead).1 = 0) (hd : doCode now ⟨0, s, sb, next⟩ = 0) :
    Calls Try.prog 62 #[.pointer (some ⟨g, 0, none⟩), .string s] w fun e w' => e = .returned (.int .i64 0) ∧ ∃ vo' g', DK w' b g gd mn ms vo' (N + 1) (didL now ⟨0, s, sb, next⟩) safe (ops ++ [nrm ⟨0, s, sb, next⟩]) mf (M + 1) (fl ++ [⟨next, g', .slice none 0 0, .slice none 0 0, .slice none 0 0, [], [], []⟩]) (next + 1) room (chg fuse armed dead).2.1 armed (chg fuse armed dead).2.2 ∧ Below b w w' := by
  have hbw : b ≤ w.heap.size := Nat.le_trans h.hg (Nat.le_of_lt (blk_lt h.hb))
  obtain ⟨fu, hfu⟩ : ∃ x, x = (chg fuse armed dead).2.1 := ⟨_, rfl⟩
  obtain ⟨de, hde⟩ : ∃ x, x = (chg fuse armed dead).2.2 := ⟨_, rfl⟩
  have HCH := Aside0.mk (change_any b g gd mn ms vo N now safe ops mf M fl next room fuse armed dead w h h0 h1)
  rw [hc, ← hfu, ← hde] at HCH
  rw [← hfu, ← hde]
  have HNX := Aside0.mk hnx
  have HNOW := Aside0.mk (show doNow now ⟨0, s, sb, next⟩ = didL now ⟨0, s, sb, next⟩ ∧ doOpsI now ops ⟨0, s, sb, next⟩ = ops ++ [nrm ⟨0, s, sb, next⟩] by unfold doNow doOpsI; rw [if_pos hd, if_pos hd]; exact ⟨rfl, rfl⟩)
  have HD := Aside0.mk hd
  have HKN := Aside0.mk (keyOf_int_mk (P := Try.prog) Try.underlying3 (WalkArith.wf_i64 (by omega) : (Lit.int .i64 next).wf = true))
  clear h hnx hd hfu hde hc
  go_enter Try.func62, Try.ntmps62
  go_wp2_with (go_at_call 103; refine HCH.out.mono ?_; rintro e w1 ⟨rfl, hk1, hb1, hl1⟩; have H := Aside0.mk hk1; have HL := Aside0.mk hl1; clear hk1 hb1 hl1)
  have s0 := (blk_cell H.out.hb 0).trans (rfl : _ = some (Value.pointer (some ⟨gd, 0, none⟩)))
  have s2 := (blk_cell H.out.hb 2).trans (rfl : _ = some (Value.int .i64 next))
  clear HCH
  go_region_held3 (fun w' => w'.cell? ⟨g, 0, none⟩ = some (.pointer (some ⟨gd, 0, none⟩)) ∧ w'.cell? ⟨g, 2, none⟩ = some (.int .i64 next)) (first | with_reducible exact ⟨s0, s2⟩ | exact ⟨s0, s2⟩) (first | (go_at_call 56; refine (dcreate_any b gd mn ms N vo now safe ops _ (H.out.below (below_drew1 (Below.refl _ _))).hd hN hlo s sb next hs).mono ?_; rw [HD.out, HNOW.out.1, HNOW.out.2]; rintro e w2 ⟨rfl, vo', hd2, hv2, hk2, hl2⟩; have h2 := (H.out.below (below_drew1 (Below.refl _ _))).dir hd2 hk2; replace s0 := (blk_cell h2.hb 0).trans (rfl : _ = some (Value.pointer (some ⟨gd, 0, none⟩))); replace s2 := (blk_cell h2.hb 2).trans (rfl : _ = some (Value.int .i64 next)); have hl3 := (HL.out.trans (below_drew1 (Below.refl _ _))).trans hl2; clear H HL; have H := Aside0.mk h2; have HL := Aside0.mk hl3; clear hd2 hv2 hk2 hl2 h2 hl3))
  all_goals
    go_wp2_with fail
    have s1 := (blk_cell H.out.hb 1).trans (rfl : _ = some (Value.map (some mf)))
    go_region_held3 (fun w' => w'.cell? ⟨g, 1, none⟩ = some (.map (some mf)) ∧ w'.cell? ⟨g, 2, none⟩ = some (.int .i64 next)) (first | with_reducible exact ⟨s1, s2⟩ | with_reducible exact ⟨s1b, s2b⟩ | exact ⟨s1, s2⟩) (first | (go_at_call 30; refine (fnew_any b (fun _ => True) _ (Nat.le_trans (H.out.below (below_drew1 (Below.refl _ _))).hg (Nat.le_of_lt (blk_lt (H.out.below (below_drew1 (Below.refl _ _))).hb)))).mono ?_; rintro e w3 ⟨rfl, hf3, hb3⟩; have h3 := (H.out.below (below_drew1 (Below.refl _ _))).below hb3; replace s1 := (blk_cell h3.hb 1).trans (rfl : _ = some (Value.map (some mf))); replace s2 := (blk_cell h3.hb 2).trans (rfl : _ = some (Value.int .i64 next)); obtain ⟨w4, hrun, hm4, ht4⟩ := mv_run h3.hm lawI Try.underlying159 (by unfold maxLen; omega) HKN.out (.pointer (some ⟨w2.heap.size, 0, none⟩)); have hfin := (H.out.below (below_drew1 (Below.refl _ _))).addFile hb3 hf3 HNX.out hm4 ht4; have s1b := (blk_cell hfin.1.hb 1).trans (rfl : _ = some (Value.map (some mf))); have s2b := (blk_cell hfin.1.hb 2).trans (rfl : _ = some (Value.int .i64 next)); have f2b := blk_frozen hfin.1.hb 2; have HF := Aside0.mk hfin; clear hfin hm4 ht4 hf3 hb3 h3))
    all_goals
      go_wp2_with fail
      go_ret
      have hd := HF.out.1
      exact ⟨rfl, _, _, hd.own (blk_put hd.hb 2 _ rfl) (fun k hk => Below.heap_setCell _ _ _ k hk), ((HL.out.trans (below_drew1 (Below.refl _ _))).trans HF.out.2).setCell (p := ⟨g, 2, none⟩) hd.hg _⟩
end Go.Proofs.Ytpnbjpkdbiiogaa
