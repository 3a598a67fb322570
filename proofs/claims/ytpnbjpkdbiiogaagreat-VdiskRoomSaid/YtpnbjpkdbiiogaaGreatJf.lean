/- The disk: Create. -/
import Derived.Test.YtpnbjpkdbiiogaaGreatJe
namespace Go.Proofs.YtpnbjpkdbiiogaaGreat
set_option linter.unusedVariables false
open Go.RowKit Go.Maps Go.Proofs.YtpnbjpkdbiiogaaGreatW.PrintWords
attribute [local go_sem] mx2 mn2 mxTwo mnTwo

theorem mv_run {w : World} {P : Program} {k e t : TypeId} {b n : Nat} {f : Lit → Option Value} (h : MV w P k b n f) (K : Keyed P k) (ht : P.underlying t = some (.map k e)) (hn : n < maxLen) {key : Value} {kl : Lit} (hkey : keyOf P k key = some kl) (val : Value) :
    ∃ w', (Instr.mapUpdate t (.map (some b)) key val).run P w = .ok () w' ∧ MV w' P k b (n + 1) (upd f kl (some val)) ∧ w.mapTurned w' b := by
  obtain ⟨D, h1, h2⟩ := h
  obtain ⟨w', hrun, r1, r2⟩ := h1.store K ht hn (val := val) (d := .held val) (ps := []) hkey rfl
  exact ⟨w', hrun, ⟨_, r1, h2.put h1.isMap (key_lit hkey) val⟩, r2⟩
section
variable {W W1 : World} {b g gd mn ms N N' mf M : Nat} {y : Nat → Prop} {vo vo' : Value} {now now' safe : List DN} {ops ops' : List DOp} {fl : List FR} {next room fuse : Int} {armed dead : Bool}
/-- The directory is turned. -/
theorem DK.dir (h : DK W b y g gd mn ms vo N now safe ops mf M fl next room fuse armed dead) (hd : DI W1 b gd mn ms vo' N' now' safe ops') (hk : Keep3 W W1 gd (some mn) vo.ownBlock) : DK W1 b y g gd mn ms vo' N' now' safe ops' mf M fl next room fuse armed dead := by
  have hvo : ∀ k, vo.ownBlock = some k → ∃ cells, W.heap[k]? = some (.cells cells 122 (0, 0)) := fun k hk => own_typed h.hd.ho.2.choose_spec.1 k hk
  have hty : ∀ (k : Nat) (cs : Array Value) (T : TypeId), T ≠ 99 → T ≠ 122 → W.heap[k]? = some (.cells cs T (0, 0)) → W1.heap[k]? = W.heap[k]? := fun k cs T h1 h2 hkk =>
    hk.2 k (blk_lt hkk) (blk_ne hkk h.hd.hb h1) (fun e => h.hd.hn.ne hkk (by injection e with e; exact e.symm)) (fun e => by
      obtain ⟨c2, hc2⟩ := hvo k e.symm
      rw [hkk] at hc2
      injection hc2 with hc2
      injection hc2 with _ hc3
      exact h2 hc3)
  refine ⟨(hty g _ _ (by decide) (by decide) h.hb).trans h.hb, hd, h.hm.move (hk.2 mf h.hm.lt (h.hm.ne h.hd.hb) (fun e => h.n1 (by injection e)) (fun e => ?_)), ⟨fun p hp => ?_, h.hf.ap, fun k hkk => h.hf.hy k (Nat.le_trans hk.1 hkk)⟩, h.hg, h.hmf, h.n1, h.n2⟩
  · obtain ⟨c2, hc2⟩ := hvo mf e.symm
    exact h.hm.ne hc2 rfl
  · have hp1 := h.hf.hf p hp
    exact hp1.move (hty p.g _ _ (by decide) (by decide) hp1.hb) (fun k hx _ ⟨cs, T, hT, hc⟩ => ⟨hty k cs T (by rcases hT with rfl | rfl <;> decide) (by rcases hT with rfl | rfl <;> decide) hc, hx⟩)
/-- A new file is laid into the map. -/
theorem DK.addFile {W8 : World} (h : DK W b y g gd mn ms vo N now safe ops mf M fl next room fuse armed dead) (hb : Below W.heap.size W W8) (hfi : FI W8 b W.heap.size (fun _ => True) (.slice none 0 0) (.slice none 0 0) (.slice none 0 0) [] [] []) (hnx : ∀ p ∈ fl, p.id < next)
    (hm : MV W1 Tryz.prog 3 mf (M + 1) (upd (filesF fl) (.int .i64 next) (some (.pointer (some ⟨W.heap.size, 0, none⟩))))) (ht : W8.mapTurned W1 mf) :
    DK W1 b y g gd mn ms vo N now safe ops mf (M + 1) (fl ++ [⟨next, W.heap.size, .slice none 0 0, .slice none 0 0, .slice none 0 0, [], [], []⟩]) next room fuse armed dead ∧ Below b W W1 := by
  have h8 := h.below hb
  have hg := ht.grown
  have hne : ∀ (k : Nat) (cs : Array Value) (T : TypeId), W8.heap[k]? = some (.cells cs T (0, 0)) → W1.heap[k]? = W8.heap[k]? := fun k cs T hk => hg.block k (blk_lt hk) (fun e => h8.hm.ne hk (by injection e with e; exact e.symm))
  have hno : fileAt fl next = none := by
    unfold fileAt
    rw [List.find?_eq_none]
    intro p hp
    have := hnx p hp
    simp
    omega
  have hbw : b ≤ W.heap.size := Nat.le_trans h.hg (Nat.le_of_lt (blk_lt h.hb))
  refine ⟨⟨(hne g _ _ h8.hb).trans h8.hb, ?_, ?_, ⟨fun p hp => ?_, ?_, fun k hkk => h.hf.hy k (Nat.le_trans (Nat.le_trans hb.size hg.size) hkk)⟩, h.hg, h.hmf, h.n1, h.n2⟩, (hb.mono hbw).trans ((Below.refl b W8).grown hg (Nat.le_trans hbw hb.size) (fun k e => by cases e; exact h.hmf))⟩
  · exact h8.hd.move (hne gd _ _ h8.hd.hb) (hg.block mn h8.hd.hn.lt (fun e => h.n1 (by injection e with e; exact e.symm))) (hg.block ms h8.hd.hs.lt (fun e => h.n2 (by injection e with e; exact e.symm))) (fun k _ ⟨cs, hc⟩ => hne k cs _ hc)
  · rw [filesF_snoc fl _ hno]
    exact hm
  · rcases List.mem_append.1 hp with hp | hp
    · have hp1 := h8.hf.hf p hp
      refine hp1.move (hne p.g _ _ hp1.hb) (fun k hx _ ⟨cs, T, hT, hc⟩ => ⟨hne k cs T hc, apx.mk hx.1 (fun q hq hqg => ?_)⟩)
      rcases List.mem_append.1 hq with hq | hq
      · exact hx.2 q hq hqg
      · rw [List.mem_singleton] at hq
        subst hq
        simp [Value.ownBlock]
    · rw [List.mem_singleton] at hp
      subst hp
      exact ⟨(hne _ _ _ hfi.hb).trans hfi.hb, Kd.R_nil _ _ _ _ _, Kd.R_nil _ _ _ _ _, Kd.R_nil _ _ _ _ _, hfi.hg⟩
  · rw [List.pairwise_append]
    refine ⟨h.hf.ap, by simp, fun p hp q hq => ?_⟩
    rw [List.mem_singleton] at hq
    subst hq
    have h1 := hnx p hp
    have h2 := blk_lt (h.hf.hf p hp).hb
    exact ⟨by show p.id ≠ next; omega, by show p.g ≠ W.heap.size; omega⟩
end
set_option maxHeartbeats 1000000 in
set_option maxRecDepth 100000 in
theorem kcreate_ok (b : Nat) (y : Nat → Prop) (g gd mn ms : Nat) (vo : Value) (N : Nat) (now safe : List DN) (ops : List DOp) (mf M : Nat) (fl : List FR) (next room fuse : Int) (armed dead : Bool) (w : World) (h : DK w b y g gd mn ms vo N now safe ops mf M fl next room fuse armed dead) (h0 : 0 ≤ fuse) (h1 : fuse ≤ 9223372036854775807) (hN : N < 1000000) (hM : M < 1000000) (hlo : ops.length ≤ 100000) (hn0 : 0 ≤ next) (hn1 : next ≤ 1000000) (hnx : ∀ p ∈ fl, p.id < next)
    (s sb : ByteArray) (hs : s.size ≤ maxLen) (hc : (chg fuse armed dead).1 = 0) (hd : doCode now ⟨0, s, sb, next⟩ = 0) :
    Calls Tryz.prog 24 #[.pointer (some ⟨g, 0, none⟩), .string s] w fun e w' => e = .returned (.int .i64 0) ∧ ∃ vo' g', DK w' b y g gd mn ms vo' (N + 1) (didL now ⟨0, s, sb, next⟩) safe (ops ++ [nrm ⟨0, s, sb, next⟩]) mf (M + 1) (fl ++ [⟨next, g', .slice none 0 0, .slice none 0 0, .slice none 0 0, [], [], []⟩]) (next + 1) room (chg fuse armed dead).2.1 armed (chg fuse armed dead).2.2 ∧ Below b w w' := by
  have hbw : b ≤ w.heap.size := Nat.le_trans h.hg (Nat.le_of_lt (blk_lt h.hb))
  obtain ⟨fu, hfu⟩ : ∃ x, x = (chg fuse armed dead).2.1 := ⟨_, rfl⟩
  obtain ⟨de, hde⟩ : ∃ x, x = (chg fuse armed dead).2.2 := ⟨_, rfl⟩
  have HCH := Aside0.mk (change_any b y g gd mn ms vo N now safe ops mf M fl next room fuse armed dead w h h0 h1)
  rw [hc, ← hfu, ← hde] at HCH
  rw [← hfu, ← hde]
  have HNX := Aside0.mk hnx
  have HNOW := Aside0.mk (show doNow now ⟨0, s, sb, next⟩ = didL now ⟨0, s, sb, next⟩ ∧ doOpsI now ops ⟨0, s, sb, next⟩ = ops ++ [nrm ⟨0, s, sb, next⟩] by unfold doNow doOpsI; rw [if_pos hd, if_pos hd]; exact ⟨rfl, rfl⟩)
  have HD := Aside0.mk hd
  have HKN := Aside0.mk (keyOf_int_mk (P := Tryz.prog) Tryz.underlying3 (WalkArith.wf_i64 (by omega) : (Lit.int .i64 next).wf = true))
  clear h hnx hd hfu hde hc
  go_enter Tryz.func24, Tryz.ntmps24
  go_wp2_with (go_at_call 39; refine HCH.out.mono ?_; rintro e w1 ⟨rfl, hk1, hb1, hl1⟩; have H := Aside0.mk hk1; have HL := Aside0.mk hl1; clear hk1 hb1 hl1)
  have s0 := (blk_cell H.out.hb 0).trans (rfl : _ = some (Value.pointer (some ⟨gd, 0, none⟩)))
  have s2 := (blk_cell H.out.hb 2).trans (rfl : _ = some (Value.int .i64 next))
  clear HCH
  go_region_held3 (fun w' => w'.cell? ⟨g, 0, none⟩ = some (.pointer (some ⟨gd, 0, none⟩)) ∧ w'.cell? ⟨g, 2, none⟩ = some (.int .i64 next)) (first | with_reducible exact ⟨s0, s2⟩ | exact ⟨s0, s2⟩) (first | (go_at_call 58; refine (dcreate_any b gd mn ms N vo now safe ops _ (H.out.below (below_drew1 (Below.refl _ _))).hd hN hlo s sb next hs).mono ?_; rw [HD.out, HNOW.out.1, HNOW.out.2]; rintro e w2 ⟨rfl, vo', hd2, hv2, hk2, hl2⟩; have h2 := (H.out.below (below_drew1 (Below.refl _ _))).dir hd2 hk2; replace s0 := (blk_cell h2.hb 0).trans (rfl : _ = some (Value.pointer (some ⟨gd, 0, none⟩))); replace s2 := (blk_cell h2.hb 2).trans (rfl : _ = some (Value.int .i64 next)); have hl3 := (HL.out.trans (below_drew1 (Below.refl _ _))).trans hl2; clear H HL; have H := Aside0.mk h2; have HL := Aside0.mk hl3; clear hd2 hv2 hk2 hl2 h2 hl3))
  all_goals
    go_wp2_with fail
    have s1 := (blk_cell H.out.hb 1).trans (rfl : _ = some (Value.map (some mf)))
    go_region_held3 (fun w' => w'.cell? ⟨g, 1, none⟩ = some (.map (some mf)) ∧ w'.cell? ⟨g, 2, none⟩ = some (.int .i64 next)) (first | with_reducible exact ⟨s1, s2⟩ | with_reducible exact ⟨s1b, s2b⟩ | exact ⟨s1, s2⟩) (first | (go_at_call 59; refine (fnew_any b (fun _ => True) _ (Nat.le_trans (H.out.below (below_drew1 (Below.refl _ _))).hg (Nat.le_of_lt (blk_lt (H.out.below (below_drew1 (Below.refl _ _))).hb)))).mono ?_; rintro e w3 ⟨rfl, hf3, hb3⟩; have h3 := (H.out.below (below_drew1 (Below.refl _ _))).below hb3; replace s1 := (blk_cell h3.hb 1).trans (rfl : _ = some (Value.map (some mf))); replace s2 := (blk_cell h3.hb 2).trans (rfl : _ = some (Value.int .i64 next)); obtain ⟨w4, hrun, hm4, ht4⟩ := mv_run h3.hm lawI Tryz.underlying52 (by unfold maxLen; omega) HKN.out (.pointer (some ⟨w2.heap.size, 0, none⟩)); have hfin := (H.out.below (below_drew1 (Below.refl _ _))).addFile hb3 hf3 HNX.out hm4 ht4; have s1b := (blk_cell hfin.1.hb 1).trans (rfl : _ = some (Value.map (some mf))); have s2b := (blk_cell hfin.1.hb 2).trans (rfl : _ = some (Value.int .i64 next)); have f2b := blk_frozen hfin.1.hb 2; have HF := Aside0.mk hfin; clear hfin hm4 ht4 hf3 hb3 h3))
    all_goals
      go_wp2_with fail
      go_ret
      have hd := HF.out.1
      exact ⟨rfl, _, _, hd.own (blk_put hd.hb 2 _ rfl) (fun k hk => Below.heap_setCell _ _ _ k hk), ((HL.out.trans (below_drew1 (Below.refl _ _))).trans HF.out.2).setCell (p := ⟨g, 2, none⟩) hd.hg _⟩
end Go.Proofs.YtpnbjpkdbiiogaaGreat
/- The disk: Write. -/
namespace Go.Proofs.YtpnbjpkdbiiogaaGreat
set_option linter.unusedVariables false
open Go.RowKit Go.Maps Go.Proofs.YtpnbjpkdbiiogaaGreatW.PrintWords
attribute [local go_sem] mx2 mn2 mxTwo mnTwo

theorem fl_uniq : ∀ {fl : List FR}, fl.Pairwise (fun p q => p.id ≠ q.id ∧ p.g ≠ q.g) → ∀ {p q : FR}, p ∈ fl → q ∈ fl → (p.id = q.id ∨ p.g = q.g) → p = q
  | [], _, p, q, hp, _, _ => by simp at hp
  | a :: t, h, p, q, hp, hq, he => by
    rw [List.pairwise_cons] at h
    rcases List.mem_cons.1 hp with e1 | hp'
    · rcases List.mem_cons.1 hq with e2 | hq'
      · rw [e1, e2]
      · have := h.1 q hq'
        rw [← e1] at this
        rcases he with he | he
        · exact absurd he this.1
        · exact absurd he this.2
    · rcases List.mem_cons.1 hq with e2 | hq'
      · have := h.1 p hp'
        rw [← e2] at this
        rcases he with he | he
        · exact absurd he.symm this.1
        · exact absurd he.symm this.2
      · exact fl_uniq h.2 hp' hq' he
theorem mem_set {fl : List FR} {p' q' : FR} (h : q' ∈ setFile fl p') : q' = p' ∨ (q' ∈ fl ∧ q'.id ≠ p'.id) := by
  unfold setFile at h
  obtain ⟨q, hq, rfl⟩ := List.mem_map.1 h
  by_cases e : q.id = p'.id
  · rw [if_pos e]
    exact .inl rfl
  · rw [if_neg e]
    exact .inr ⟨hq, e⟩
section
variable {W W1 : World} {b g gd mn ms N mf M : Nat} {y : Nat → Prop} {vo : Value} {now safe : List DN} {ops : List DOp} {fl : List FR} {next room fuse : Int} {armed dead : Bool}
theorem fvo_typed (h : FsI W b y fl) {p : FR} (hp : p ∈ fl) : ∀ k, p.vo.ownBlock = some k → ∃ cells, W.heap[k]? = some (.cells cells 129 (0, 0)) := fun k hk => own_typed (h.hf p hp).ho.2.choose_spec.1 k hk
theorem apx_fresh (h : FsI W b y fl) {p : FR} : ∀ k, W.heap.size ≤ k → apx y fl p k := fun k hk => apx.mk (h.hy k hk) fun q hq _ e => by
  obtain ⟨cs, hc⟩ := fvo_typed h hq k e.symm
  have := blk_lt hc
  omega
/-- A file is turned. -/
theorem DK.file (h : DK W b y g gd mn ms vo N now safe ops mf M fl next room fuse armed dead) {p : FR} (hp : p ∈ fl) (hk : KeepBut W W1 p.g p.vo.ownBlock) {vn' vs' vo' : Value} {now' safe' : List Int} {ops' : List FOp} (hfi : FI W1 b p.g (apx y fl p) vn' vs' vo' now' safe' ops') (hv : vo'.ownBlock = p.vo.ownBlock ∨ vo'.ownBlock = none ∨ ∃ k, vo'.ownBlock = some k ∧ W.heap.size ≤ k) :
    DK W1 b y g gd mn ms vo N now safe ops mf M (setFile fl ⟨p.id, p.g, vn', vs', vo', now', safe', ops'⟩) next room fuse armed dead := by
  have hpf := h.hf.hf p hp
  have hty : ∀ (k : Nat) (cs : Array Value) (T : TypeId), T ≠ 119 → T ≠ 129 → W.heap[k]? = some (.cells cs T (0, 0)) → W1.heap[k]? = W.heap[k]? := fun k cs T h1 h2 hkk =>
    hk.2 k (blk_lt hkk) (blk_ne hkk hpf.hb h1) (fun e => by
      obtain ⟨c2, hc2⟩ := fvo_typed h.hf hp k e.symm
      rw [hkk] at hc2
      injection hc2 with hc2
      injection hc2 with _ hc3
      exact h2 hc3)
  have hmp : ∀ {P : Program} {kt : TypeId} {m n : Nat} {f : Lit → Option Value}, MV W P kt m n f → W1.heap[m]? = W.heap[m]? := fun {P kt m n f} hm => hk.2 m hm.lt (hm.ne hpf.hb) (fun e => by
    obtain ⟨c2, hc2⟩ := fvo_typed h.hf hp m e.symm
    exact hm.ne hc2 rfl)
  have hid : ∀ q ∈ fl, q.id = p.id → q.g = p.g := fun q hq e => by rw [fl_uniq h.hf.ap hq hp (.inl e)]
  refine ⟨(hty g _ _ (by decide) (by decide) h.hb).trans h.hb, h.hd.move (hty gd _ _ (by decide) (by decide) h.hd.hb) (hmp h.hd.hn) (hmp h.hd.hs) (fun k _ ⟨cs, hc⟩ => hty k cs _ (by decide) (by decide) hc), ?_, ⟨fun q' hq' => ?_, ?_, fun k hkk => h.hf.hy k (Nat.le_trans hk.1 hkk)⟩, h.hg, h.hmf, h.n1, h.n2⟩
  · rw [filesF_set fl ⟨p.id, p.g, vn', vs', vo', now', safe', ops'⟩ hid]
    exact h.hm.move (hmp h.hm)
  · rcases mem_set hq' with rfl | ⟨hq, hne⟩
    · refine hfi.move rfl (fun k hx _ _ => ⟨rfl, apx.mk hx.1 (fun q'' hq'' hg'' => ?_)⟩)
      rcases mem_set hq'' with rfl | ⟨hq2, _⟩
      · exact absurd rfl hg''
      · exact hx.2 q'' hq2 hg''
    · have hqg : q'.g ≠ p.g := fun e => hne (by rw [fl_uniq h.hf.ap hq hp (.inr e)])
      have hqf := h.hf.hf q' hq
      refine hqf.move (hk.2 q'.g (blk_lt hqf.hb) hqg (fun e => ?_)) (fun k hx hlt ⟨cs, T, hT, hc⟩ => ⟨hk.2 k hlt (blk_ne hc hpf.hb (by rcases hT with rfl | rfl <;> decide)) (hx.2 p hp (Ne.symm hqg)), apx.mk hx.1 (fun q'' hq'' hg'' => ?_)⟩)
      · obtain ⟨c2, hc2⟩ := fvo_typed h.hf hp q'.g e.symm
        have h3 := hqf.hb.symm.trans hc2
        simp at h3
      · rcases mem_set hq'' with rfl | ⟨hq2, _⟩
        · rcases hv with e | e | ⟨j, e, hj⟩
          · show some k ≠ vo'.ownBlock
            rw [e]
            exact hx.2 p hp (Ne.symm hqg)
          · show some k ≠ vo'.ownBlock
            rw [e]
            simp
          · show some k ≠ vo'.ownBlock
            rw [e]
            intro e2
            injection e2 with e2
            omega
        · exact hx.2 q'' hq2 hg''
  · unfold setFile
    rw [List.pairwise_map]
    refine h.hf.ap.imp_of_mem (fun {a c} ha hc hac => ?_)
    have e1 : ∀ q ∈ fl, (if q.id = p.id then (⟨p.id, p.g, vn', vs', vo', now', safe', ops'⟩ : FR) else q).id = q.id ∧ (if q.id = p.id then (⟨p.id, p.g, vn', vs', vo', now', safe', ops'⟩ : FR) else q).g = q.g := fun q hq => by
      by_cases e : q.id = p.id
      · rw [if_pos e]
        exact ⟨e.symm, (hid q hq e).symm⟩
      · rw [if_neg e]
        exact ⟨rfl, rfl⟩
    obtain ⟨a1, a2⟩ := e1 a ha
    obtain ⟨c1, c2⟩ := e1 c hc
    exact ⟨by rw [a1, c1]; exact hac.1, by rw [a2, c2]; exact hac.2⟩
end
set_option maxHeartbeats 1000000 in
set_option maxRecDepth 100000 in
theorem kwrite_space (b : Nat) (y : Nat → Prop) (g gd mn ms : Nat) (vo : Value) (N : Nat) (now safe : List DN) (ops : List DOp) (mf M : Nat) (fl : List FR) (next room fuse : Int) (armed dead : Bool) (w : World) (h : DK w b y g gd mn ms vo N now safe ops mf M fl next room fuse armed dead) (hk : KG now fl) (hr : Rising now) (hN : N ≤ 1000000) (hln : now.length ≤ 100000) (hsz : ∀ p ∈ now, p.1.size ≤ maxLen) (h0 : 0 ≤ fuse) (h1 : fuse ≤ 9223372036854775807) (hro : 0 ≤ room) (hc : (chg fuse armed dead).1 = 0) (s : ByteArray) (hs : s.size ≤ maxLen) (id : Int) (p : FR) (hn : getN now s = some id) (hp : fileAt fl id = some p) (k : Nat) (A : Option Addr) (n c : Nat) (hk1 : k ≤ 1048576) (hk2 : n + k ≤ 1048576) (hn0 : 0 < n) (hh : hasF fl now room p.now.length ((k + n : Nat) : Int) = false) :
    Calls Tryz.prog 25 #[.pointer (some ⟨g, 0, none⟩), .string s, .int .i64 (k : Int), .slice A n c] w fun e w' => e = .returned (.int .i64 20) ∧ DK w' b y g gd mn ms vo N now safe ops mf M fl next room (chg fuse armed dead).2.1 armed (chg fuse armed dead).2.2 ∧ Below b w w' := by
  have HH := Aside0.mk hh
  clear hh
  obtain ⟨hi0, hi1, _⟩ := hk.id _ (getN_mem hn)
  have hpm := (fileAt_mem hp).1
  obtain ⟨hpl, hpo⟩ := hk.len p hpm
  obtain ⟨fu, hfu⟩ : ∃ x, x = (chg fuse armed dead).2.1 := ⟨_, rfl⟩
  obtain ⟨de, hde⟩ : ∃ x, x = (chg fuse armed dead).2.2 := ⟨_, rfl⟩
  have HCH := Aside0.mk (change_any b y g gd mn ms vo N now safe ops mf M fl next room fuse armed dead w h h0 h1)
  rw [hc, ← hfu, ← hde] at HCH
  rw [← hfu, ← hde]
  have HOF := Aside0.mk (fun W (hW : DK W b y g gd mn ms vo N now safe ops mf M fl next room fu armed de) => of_some b y g gd mn ms vo N now safe ops mf M fl next room fu armed de W hW s hs id hi0 hi1 p hn hp)
  have HHAS := Aside0.mk (fun W (hW : DK W b y g gd mn ms vo N now safe ops mf M fl next room fu armed de) => has_any b y g gd mn ms vo N now safe ops mf M fl next room fu armed de W hW hk hr hN hln hsz p hpm)
  have HPM := Aside0.mk hpm
  have hbw : b ≤ w.heap.size := Nat.le_trans h.hg (Nat.le_of_lt (blk_lt h.hb))
  clear h hk hr hsz hn hp hpm hfu hde hc
  go_enter Tryz.func25, Tryz.ntmps25
  go_wp2_with (first | (go_at_call 39; refine HCH.out.mono ?_; rintro e w1 ⟨rfl, hk1', hb1, hl1⟩; have H := Aside0.mk hk1'; have HL := Aside0.mk hl1; have HKG := Aside0.mk (show ∀ j, j < w.heap.size → j ≠ g → w1.heap[j]? = w.heap[j]? from fun j _ hj => hb1 j hj); clear hk1' hb1 hl1 HCH) | (go_at_call 40; refine (HOF.out _ H.out).mono ?_; rintro e w2 ⟨rfl, rfl⟩; clear HOF) | (go_at_call 60; refine (HHAS.out _ H.out ((k + n : Nat) : Int) (by omega) hro).mono ?_; rw [HH.out]; rintro e w3 ⟨rfl, hb⟩; have h3 := H.out.below hb; have hl3 := HL.out.trans (hb.mono (Nat.le_trans hbw HL.out.size)); clear H HL; have H := Aside0.mk h3; have HL := Aside0.mk hl3; clear h3 hl3 hb))
  go_ret
  exact ⟨rfl, H.out, HL.out⟩
set_option maxHeartbeats 1000000 in
set_option maxRecDepth 100000 in
theorem kwrite_ok (b : Nat) (y : Nat → Prop) (g gd mn ms : Nat) (vo : Value) (N : Nat) (now safe : List DN) (ops : List DOp) (mf M : Nat) (fl : List FR) (next room fuse : Int) (armed dead : Bool) (w : World) (h : DK w b y g gd mn ms vo N now safe ops mf M fl next room fuse armed dead) (hk : KG now fl) (hr : Rising now) (hN : N ≤ 1000000) (hln : now.length ≤ 100000) (hsz : ∀ p ∈ now, p.1.size ≤ maxLen) (h0 : 0 ≤ fuse) (h1 : fuse ≤ 9223372036854775807) (hro : 0 ≤ room) (hc : (chg fuse armed dead).1 = 0) (s : ByteArray) (hs : s.size ≤ maxLen) (id : Int) (p : FR) (hn : getN now s = some id) (hp : fileAt fl id = some p) (k : Nat) (A : Option Addr) (n c : Nat) (hk1 : k ≤ 1048576) (hk2 : n + k ≤ 1048576) (l : List Int) (hll : l.length = n) (hnc : n ≤ c) (hst : ∀ W', (∀ j, j < w.heap.size → j ≠ g → j ≠ p.g → some j ≠ p.vo.ownBlock → W'.heap[j]? = w.heap[j]?) → Below b w W' → Kd.C (Kd.int .u8) W' A n l) (hh : n = 0 ∨ hasF fl now room p.now.length ((k + n : Nat) : Int) = true) :
    Calls Tryz.prog 25 #[.pointer (some ⟨g, 0, none⟩), .string s, .int .i64 (k : Int), .slice A n c] w fun e w' => e = .returned (.int .i64 0) ∧ ∃ vn' vo', DK w' b y g gd mn ms vo N now safe ops mf M (setFile fl ⟨p.id, p.g, vn', p.vs, vo', (writeF (p.now, p.ops) k l).1, p.safe, (writeF (p.now, p.ops) k l).2⟩) next room (chg fuse armed dead).2.1 armed (chg fuse armed dead).2.2 ∧ (∀ j, j < w.heap.size → j ≠ g → j ≠ p.g → some j ≠ p.vo.ownBlock → w'.heap[j]? = w.heap[j]?) ∧ Below b w w' := by
  have HST := Aside0.mk hst
  clear hst
  by_cases hn0 : n = 0
  · clear hh
    obtain ⟨hi0, hi1, _⟩ := hk.id _ (getN_mem hn)
    have hpm := (fileAt_mem hp).1
    obtain ⟨hpl, hpo⟩ := hk.len p hpm
    obtain ⟨fu, hfu⟩ : ∃ x, x = (chg fuse armed dead).2.1 := ⟨_, rfl⟩
    obtain ⟨de, hde⟩ : ∃ x, x = (chg fuse armed dead).2.2 := ⟨_, rfl⟩
    have HCH := Aside0.mk (change_any b y g gd mn ms vo N now safe ops mf M fl next room fuse armed dead w h h0 h1)
    rw [hc, ← hfu, ← hde] at HCH
    rw [← hfu, ← hde]
    have HOF := Aside0.mk (fun W (hW : DK W b y g gd mn ms vo N now safe ops mf M fl next room fu armed de) => of_some b y g gd mn ms vo N now safe ops mf M fl next room fu armed de W hW s hs id hi0 hi1 p hn hp)
    have HHAS := Aside0.mk (fun W (hW : DK W b y g gd mn ms vo N now safe ops mf M fl next room fu armed de) => has_any b y g gd mn ms vo N now safe ops mf M fl next room fu armed de W hW hk hr hN hln hsz p hpm)
    have HPM := Aside0.mk hpm
    have hbw : b ≤ w.heap.size := Nat.le_trans h.hg (Nat.le_of_lt (blk_lt h.hb))
    clear h hk hr hsz hn hp hpm hfu hde hc
    go_enter Tryz.func25, Tryz.ntmps25
    subst hn0
    go_wp2_with (first | (go_at_call 39; refine HCH.out.mono ?_; rintro e w1 ⟨rfl, hk1', hb1, hl1⟩; have H := Aside0.mk hk1'; have HL := Aside0.mk hl1; have HKG := Aside0.mk (show ∀ j, j < w.heap.size → j ≠ g → w1.heap[j]? = w.heap[j]? from fun j _ hj => hb1 j hj); clear hk1' hb1 hl1 HCH) | (go_at_call 40; refine (HOF.out _ H.out).mono ?_; rintro e w2 ⟨rfl, rfl⟩; clear HOF) | (go_at_call 61; refine (fwrite_any b p.g (apx y fl p) p.vn p.vs p.vo p.now p.safe p.ops k A _ c l _ (H.out.hf.hf p HPM.out) (apx_fresh H.out.hf) hll hnc (fun W' hk' hb' => HST.out W' (fun j hj hjg hjp hjv => (hk'.2 j (Nat.lt_of_lt_of_le hj HL.out.size) hjp hjv).trans (HKG.out j hj hjg)) (HL.out.trans hb')) hk1 hk2 hpl hpo).mono ?_; rintro e w5 ⟨rfl, vn', vo', hf5, hv5, hk5, hl5⟩; have hfin := H.out.file HPM.out hk5 hf5 (by rcases hv5 with e | ⟨j, e, hj⟩; exact .inl e; exact .inr (.inr ⟨j, e, hj⟩)); have HF := Aside0.mk hfin; have HKF := Aside0.mk hk5; have HLF := Aside0.mk hl5; clear hfin hf5 hv5 hk5 hl5))
    go_ret
    exact ⟨rfl, _, _, HF.out, fun j hj hjg hjp hjv => (HKF.out.2 j (Nat.lt_of_lt_of_le hj HL.out.size) hjp hjv).trans (HKG.out j hj hjg), HL.out.trans HLF.out⟩
  · have HH := Aside0.mk (hh.resolve_left hn0)
    clear hh
    have hnp : 0 < n := by omega
    obtain ⟨hi0, hi1, _⟩ := hk.id _ (getN_mem hn)
    have hpm := (fileAt_mem hp).1
    obtain ⟨hpl, hpo⟩ := hk.len p hpm
    obtain ⟨fu, hfu⟩ : ∃ x, x = (chg fuse armed dead).2.1 := ⟨_, rfl⟩
    obtain ⟨de, hde⟩ : ∃ x, x = (chg fuse armed dead).2.2 := ⟨_, rfl⟩
    have HCH := Aside0.mk (change_any b y g gd mn ms vo N now safe ops mf M fl next room fuse armed dead w h h0 h1)
    rw [hc, ← hfu, ← hde] at HCH
    rw [← hfu, ← hde]
    have HOF := Aside0.mk (fun W (hW : DK W b y g gd mn ms vo N now safe ops mf M fl next room fu armed de) => of_some b y g gd mn ms vo N now safe ops mf M fl next room fu armed de W hW s hs id hi0 hi1 p hn hp)
    have HHAS := Aside0.mk (fun W (hW : DK W b y g gd mn ms vo N now safe ops mf M fl next room fu armed de) => has_any b y g gd mn ms vo N now safe ops mf M fl next room fu armed de W hW hk hr hN hln hsz p hpm)
    have HPM := Aside0.mk hpm
    have hbw : b ≤ w.heap.size := Nat.le_trans h.hg (Nat.le_of_lt (blk_lt h.hb))
    clear h hk hr hsz hn hp hpm hfu hde hc
    go_enter Tryz.func25, Tryz.ntmps25
    go_wp2_with (first | (go_at_call 39; refine HCH.out.mono ?_; rintro e w1 ⟨rfl, hk1', hb1, hl1⟩; have H := Aside0.mk hk1'; have HL := Aside0.mk hl1; have HKG := Aside0.mk (show ∀ j, j < w.heap.size → j ≠ g → w1.heap[j]? = w.heap[j]? from fun j _ hj => hb1 j hj); clear hk1' hb1 hl1 HCH) | (go_at_call 40; refine (HOF.out _ H.out).mono ?_; rintro e w2 ⟨rfl, rfl⟩; clear HOF) | (go_at_call 60; refine (HHAS.out _ H.out ((k + n : Nat) : Int) (by omega) hro).mono ?_; rw [HH.out]; rintro e w3 ⟨rfl, hb⟩; have h3 := H.out.below hb; have hl3 := HL.out.trans (hb.mono (Nat.le_trans hbw HL.out.size)); have hkg : ∀ j, j < w.heap.size → j ≠ g → w3.heap[j]? = w.heap[j]? := (fun j hj hjg => (hb.block j (Nat.lt_of_lt_of_le hj HL.out.size)).trans (HKG.out j hj hjg)); clear H HL HKG; have H := Aside0.mk h3; have HL := Aside0.mk hl3; have HKG := Aside0.mk hkg; clear h3 hl3 hb hkg) | (go_at_call 61; refine (fwrite_any b p.g (apx y fl p) p.vn p.vs p.vo p.now p.safe p.ops k A _ c l _ (H.out.hf.hf p HPM.out) (apx_fresh H.out.hf) hll hnc (fun W' hk' hb' => HST.out W' (fun j hj hjg hjp hjv => (hk'.2 j (Nat.lt_of_lt_of_le hj HL.out.size) hjp hjv).trans (HKG.out j hj hjg)) (HL.out.trans hb')) hk1 hk2 hpl hpo).mono ?_; rintro e w5 ⟨rfl, vn', vo', hf5, hv5, hk5, hl5⟩; have hfin := H.out.file HPM.out hk5 hf5 (by rcases hv5 with e | ⟨j, e, hj⟩; exact .inl e; exact .inr (.inr ⟨j, e, hj⟩)); have HF := Aside0.mk hfin; have HKF := Aside0.mk hk5; have HLF := Aside0.mk hl5; clear hfin hf5 hv5 hk5 hl5))
    go_ret
    exact ⟨rfl, _, _, HF.out, fun j hj hjg hjp hjv => (HKF.out.2 j (Nat.lt_of_lt_of_le hj HL.out.size) hjp hjv).trans (HKG.out j hj hjg), HL.out.trans HLF.out⟩
end Go.Proofs.YtpnbjpkdbiiogaaGreat
/- The disk: what its calls leave alone; Arm, Dead, SyncDir, Rename, Unlink. -/
namespace Go.Proofs.YtpnbjpkdbiiogaaGreat
set_option linter.unusedVariables false
open Go.RowKit Go.Maps Go.Proofs.YtpnbjpkdbiiogaaGreatW.PrintWords
attribute [local go_sem] mx2 mn2 mxTwo mnTwo

/-- The types whose cells the disk's calls may turn. -/
def kTypes : List TypeId := [54, 99, 122, 119, 129]
/-- Cells of other types stay. -/
structure KT (W W' : World) : Prop where
  size : W.heap.size ≤ W'.heap.size
  keep : ∀ (k : Nat) (cs : Array Value) (T : TypeId), W.heap[k]? = some (Obj.cells cs T (0, 0)) → T ∉ kTypes → W'.heap[k]? = W.heap[k]?
theorem KT.refl (W : World) : KT W W := ⟨Nat.le_refl _, fun _ _ _ _ _ => rfl⟩
theorem KT.trans {W W1 W2 : World} (h : KT W W1) (k : KT W1 W2) : KT W W2 := ⟨Nat.le_trans h.size k.size, fun i cs T hi hT => (k.keep i cs T ((h.keep i cs T hi hT).trans hi) hT).trans (h.keep i cs T hi hT)⟩
theorem KT.of_below {W W1 : World} (h : Below W.heap.size W W1) : KT W W1 := ⟨h.size, fun k cs T hk _ => h.block k (blk_lt hk)⟩
theorem KT.drewN (W : World) (n : Nat) : KT W (W.drewN n) := KT.of_below (pw_below_drewN (Below.refl _ _) _)
section
variable {W W1 : World} {b g gd mn ms N mf M : Nat} {y : Nat → Prop} {vo : Value} {now safe : List DN} {ops : List DOp} {fl : List FR} {next room fuse : Int} {armed dead : Bool}
theorem DK.mono (h : DK W b y g gd mn ms vo N now safe ops mf M fl next room fuse armed dead) : DK W b y g gd mn ms vo (N + 1) now safe ops mf M fl next room fuse armed dead := ⟨h.hb, h.hd.mono, h.hm, h.hf, h.hg, h.hmf, h.n1, h.n2⟩
theorem DK.monoM (h : DK W b y g gd mn ms vo N now safe ops mf M fl next room fuse armed dead) : DK W b y g gd mn ms vo N now safe ops mf (M + 1) fl next room fuse armed dead := ⟨h.hb, h.hd, h.hm.mono (Nat.le_succ _), h.hf, h.hg, h.hmf, h.n1, h.n2⟩
theorem KT.own (h : DK W b y g gd mn ms vo N now safe ops mf M fl next room fuse armed dead) (hs : W.heap.size ≤ W1.heap.size) (hk : ∀ k, k ≠ g → W1.heap[k]? = W.heap[k]?) : KT W W1 :=
  ⟨hs, fun k cs T hkk hT => hk k (blk_ne hkk h.hb (fun e => hT (by rw [e]; decide)))⟩
theorem KT.dir (h : DK W b y g gd mn ms vo N now safe ops mf M fl next room fuse armed dead) (hk : Keep3 W W1 gd (some mn) vo.ownBlock) : KT W W1 := by
  refine ⟨hk.1, fun k cs T hkk hT => hk.2 k (blk_lt hkk) (blk_ne hkk h.hd.hb (fun e => hT (by rw [e]; decide))) (fun e => h.hd.hn.ne hkk (by injection e with e; exact e.symm)) (fun e => ?_)⟩
  obtain ⟨c2, hc2⟩ := own_typed h.hd.ho.2.choose_spec.1 k e.symm
  rw [hkk] at hc2
  injection hc2 with hc2
  injection hc2 with _ hc3
  exact hT (by rw [hc3]; decide)
theorem KT.file (h : DK W b y g gd mn ms vo N now safe ops mf M fl next room fuse armed dead) {p : FR} (hp : p ∈ fl) (hk : KeepBut W W1 p.g p.vo.ownBlock) : KT W W1 := by
  refine ⟨hk.1, fun k cs T hkk hT => hk.2 k (blk_lt hkk) (blk_ne hkk (h.hf.hf p hp).hb (fun e => hT (by rw [e]; decide))) (fun e => ?_)⟩
  obtain ⟨c2, hc2⟩ := fvo_typed h.hf hp k e.symm
  rw [hkk] at hc2
  injection hc2 with hc2
  injection hc2 with _ hc3
  exact hT (by rw [hc3]; decide)
theorem KT.map (hm : ∃ (P : Program) (k : TypeId) (n : Nat) (f : Lit → Option Value), MV W P k mf n f) (ht : W.mapTurned W1 mf) : KT W W1 := by
  obtain ⟨P, kt, n, f, hm⟩ := hm
  have hg := ht.grown
  exact ⟨hg.size, fun k cs T hkk _ => hg.block k (blk_lt hkk) (fun e => hm.ne hkk (by injection e with e; exact e.symm))⟩
end
theorem dead_any (b : Nat) (y : Nat → Prop) (g gd mn ms : Nat) (vo : Value) (N : Nat) (now safe : List DN) (ops : List DOp) (mf M : Nat) (fl : List FR) (next room fuse : Int) (armed dead : Bool) (w : World) (h : DK w b y g gd mn ms vo N now safe ops mf M fl next room fuse armed dead) : Calls Tryz.prog 54 #[.pointer (some ⟨g, 0, none⟩)] w fun e w' => e = .returned (.bool dead) ∧ w = w' := by
  have c6 := (blk_cell h.hb 6).trans (rfl : _ = some (Value.bool dead))
  clear h
  go_enter Tryz.func54, Tryz.ntmps54
  go_wp2
  go_ret
  exact ⟨rfl, rfl⟩
theorem arm_any (b : Nat) (y : Nat → Prop) (g gd mn ms : Nat) (vo : Value) (N : Nat) (now safe : List DN) (ops : List DOp) (mf M : Nat) (fl : List FR) (next room fuse : Int) (armed dead : Bool) (w : World) (h : DK w b y g gd mn ms vo N now safe ops mf M fl next room fuse armed dead) (n : Int) : Calls Tryz.prog 36 #[.pointer (some ⟨g, 0, none⟩), .int .i64 n] w fun e w' => e = .returned (.tuple #[]) ∧ DK w' b y g gd mn ms vo N now safe ops mf M fl next room (if n < 0 then 0 else n) true dead ∧ KT w w' ∧ Below b w w' := by
  have c4 := (blk_cell h.hb 4).trans (rfl : _ = some (Value.int .i64 fuse))
  have c5 := (blk_cell h.hb 5).trans (rfl : _ = some (Value.bool armed))
  have f4 := blk_frozen h.hb 4
  have f5 := blk_frozen h.hb 5
  have H := Aside0.mk h
  clear h
  have fin : ∀ m : Int, DK ((w.setCell ⟨g, 4, none⟩ (.int .i64 m)).setCell ⟨g, 5, none⟩ (.bool true)) b y g gd mn ms vo N now safe ops mf M fl next room m true dead ∧ KT w ((w.setCell ⟨g, 4, none⟩ (.int .i64 m)).setCell ⟨g, 5, none⟩ (.bool true)) ∧ Below b w ((w.setCell ⟨g, 4, none⟩ (.int .i64 m)).setCell ⟨g, 5, none⟩ (.bool true)) := fun m => by
    have hk : ∀ k, k ≠ g → ((w.setCell ⟨g, 4, none⟩ (.int .i64 m)).setCell ⟨g, 5, none⟩ (.bool true)).heap[k]? = w.heap[k]? := fun k hk => (Below.heap_setCell _ _ _ k hk).trans (Below.heap_setCell w _ _ k hk)
    exact ⟨H.out.own (blk_put (blk_put H.out.hb 4 _ rfl) 5 _ rfl) hk, KT.own H.out (by rw [setsz, setsz]; exact Nat.le_refl _) hk, ((Below.refl _ _).setCell (p := ⟨g, 4, none⟩) H.out.hg _).setCell (p := ⟨g, 5, none⟩) H.out.hg _⟩
  have FIN := Aside0.mk fin
  clear fin
  by_cases hn : n < 0
  all_goals
    go_enter Tryz.func36, Tryz.ntmps36
    go_wp2
    first | go_end0 | ((try simp only [Exit.inBlock, Exit.then]); refine bodyPost_ret (results_none rfl _ _ _) rfl ?_)
    first
    | (obtain ⟨h1, h2, h3⟩ := FIN.out 0; exact ⟨rfl, by simpa [hn] using h1, h2, h3⟩)
    | (obtain ⟨h1, h2, h3⟩ := FIN.out n; exact ⟨rfl, by simpa [hn] using h1, h2, h3⟩)
    | (obtain ⟨h1, h2, h3⟩ := FIN.out n; exact ⟨rfl, by rw [if_neg (by omega)]; exact h1, h2, h3⟩)
theorem Keep3.of_but {w w' : World} {g : Nat} {r1 r2 : Option Nat} (h : KeepBut w w' g none) : Keep3 w w' g r1 r2 := ⟨h.1, fun i hi hg _ _ => h.2 i hi hg (by simp)⟩
/-- A change that is told. -/
theorem change_kt (b : Nat) (y : Nat → Prop) (g gd mn ms : Nat) (vo : Value) (N : Nat) (now safe : List DN) (ops : List DOp) (mf M : Nat) (fl : List FR) (next room fuse : Int) (armed dead : Bool) (w : World) (h : DK w b y g gd mn ms vo N now safe ops mf M fl next room fuse armed dead) (h0 : 0 ≤ fuse) (h1 : fuse ≤ 9223372036854775807) : Calls Tryz.prog 39 #[.pointer (some ⟨g, 0, none⟩)] w fun e w' => e = .returned (.int .i64 (chg fuse armed dead).1) ∧ DK w' b y g gd mn ms vo N now safe ops mf M fl next room (chg fuse armed dead).2.1 armed (chg fuse armed dead).2.2 ∧ KT w w' ∧ Below b w w' := by
  refine (change_any b y g gd mn ms vo N now safe ops mf M fl next room fuse armed dead w h h0 h1).mono ?_
  rintro e w' ⟨rfl, hd, hk, hb⟩
  exact ⟨rfl, hd, KT.own h hb.size hk, hb⟩
set_option maxHeartbeats 1000000 in
theorem krename_any (b : Nat) (y : Nat → Prop) (g gd mn ms : Nat) (vo : Value) (N : Nat) (now safe : List DN) (ops : List DOp) (mf M : Nat) (fl : List FR) (next room fuse : Int) (armed dead : Bool) (w : World) (h : DK w b y g gd mn ms vo N now safe ops mf M fl next room fuse armed dead) (h0 : 0 ≤ fuse) (h1 : fuse ≤ 9223372036854775807) (hN : N < 1000000) (hlo : ops.length ≤ 100000) (sa sb : ByteArray) (id : Int) (hsa : sa.size ≤ maxLen) (hsb : sb.size ≤ maxLen) :
    Calls Tryz.prog 32 #[.pointer (some ⟨g, 0, none⟩), .string sa, .string sb] w fun e w' => e = .returned (.int .i64 (if (chg fuse armed dead).1 = 0 then doCode now ⟨1, sa, sb, id⟩ else (chg fuse armed dead).1)) ∧ (∃ vo', DK w' b y g gd mn ms vo' (N + 1) (if (chg fuse armed dead).1 = 0 then doNow now ⟨1, sa, sb, id⟩ else now) safe (if (chg fuse armed dead).1 = 0 then doOpsI now ops ⟨1, sa, sb, id⟩ else ops) mf M fl next room (chg fuse armed dead).2.1 armed (chg fuse armed dead).2.2) ∧ KT w w' ∧ Below b w w' := by
  obtain ⟨cd, hcd⟩ : ∃ x, x = (chg fuse armed dead).1 := ⟨_, rfl⟩
  obtain ⟨fu, hfu⟩ : ∃ x, x = (chg fuse armed dead).2.1 := ⟨_, rfl⟩
  obtain ⟨de, hde⟩ : ∃ x, x = (chg fuse armed dead).2.2 := ⟨_, rfl⟩
  have HCH := Aside0.mk (change_kt b y g gd mn ms vo N now safe ops mf M fl next room fuse armed dead w h h0 h1)
  rw [← hcd, ← hfu, ← hde] at HCH
  rw [← hcd, ← hfu, ← hde]
  clear h hcd hfu hde
  by_cases hc : cd = 0
  · subst hc
    simp only [if_true]
    go_enter Tryz.func32, Tryz.ntmps32
    go_wp2_with (first | (go_at_call 39; refine HCH.out.mono ?_; rintro e w1 ⟨rfl, hk1, ht1, hl1⟩; have H := Aside0.mk hk1; have HT := Aside0.mk ht1; have HL := Aside0.mk hl1; have s0 := (blk_cell hk1.hb 0).trans (rfl : _ = some (Value.pointer (some ⟨gd, 0, none⟩))); clear hk1 ht1 hl1 HCH) | (go_at_call 70; refine (drename_any b gd mn ms N vo now safe ops _ H.out.hd hN hlo sa sb id hsa hsb).mono ?_; rintro e w2 ⟨rfl, vo', hd2, hv2, hk2, hl2⟩; have HF := Aside0.mk (H.out.dir hd2 hk2); have HTF := Aside0.mk (HT.out.trans (KT.dir H.out hk2)); have HLF := Aside0.mk (HL.out.trans hl2); clear hd2 hv2 hk2 hl2))
    go_ret
    exact ⟨rfl, ⟨_, HF.out⟩, HTF.out, HLF.out⟩
  · go_enter Tryz.func32, Tryz.ntmps32
    go_wp2_with (first | (go_at_call 39; refine HCH.out.mono ?_; rintro e w1 ⟨rfl, hk1, ht1, hl1⟩; have H := Aside0.mk hk1; have HT := Aside0.mk ht1; have HL := Aside0.mk hl1; have s0 := (blk_cell hk1.hb 0).trans (rfl : _ = some (Value.pointer (some ⟨gd, 0, none⟩))); clear hk1 ht1 hl1 HCH))
    go_ret
    exact ⟨rfl, ⟨_, H.out.mono⟩, HT.out, HL.out⟩
set_option maxHeartbeats 1000000 in
theorem kunlink_any (b : Nat) (y : Nat → Prop) (g gd mn ms : Nat) (vo : Value) (N : Nat) (now safe : List DN) (ops : List DOp) (mf M : Nat) (fl : List FR) (next room fuse : Int) (armed dead : Bool) (w : World) (h : DK w b y g gd mn ms vo N now safe ops mf M fl next room fuse armed dead) (h0 : 0 ≤ fuse) (h1 : fuse ≤ 9223372036854775807) (hN : N < 1000000) (hlo : ops.length ≤ 100000) (sa sb : ByteArray) (id : Int) (hsa : sa.size ≤ maxLen) :
    Calls Tryz.prog 34 #[.pointer (some ⟨g, 0, none⟩), .string sa] w fun e w' => e = .returned (.int .i64 (if (chg fuse armed dead).1 = 0 then doCode now ⟨2, sa, sb, id⟩ else (chg fuse armed dead).1)) ∧ (∃ vo', DK w' b y g gd mn ms vo' (N + 1) (if (chg fuse armed dead).1 = 0 then doNow now ⟨2, sa, sb, id⟩ else now) safe (if (chg fuse armed dead).1 = 0 then doOpsI now ops ⟨2, sa, sb, id⟩ else ops) mf M fl next room (chg fuse armed dead).2.1 armed (chg fuse armed dead).2.2) ∧ KT w w' ∧ Below b w w' := by
  obtain ⟨cd, hcd⟩ : ∃ x, x = (chg fuse armed dead).1 := ⟨_, rfl⟩
  obtain ⟨fu, hfu⟩ : ∃ x, x = (chg fuse armed dead).2.1 := ⟨_, rfl⟩
  obtain ⟨de, hde⟩ : ∃ x, x = (chg fuse armed dead).2.2 := ⟨_, rfl⟩
  have HCH := Aside0.mk (change_kt b y g gd mn ms vo N now safe ops mf M fl next room fuse armed dead w h h0 h1)
  rw [← hcd, ← hfu, ← hde] at HCH
  rw [← hcd, ← hfu, ← hde]
  clear h hcd hfu hde
  by_cases hc : cd = 0
  · subst hc
    simp only [if_true]
    go_enter Tryz.func34, Tryz.ntmps34
    go_wp2_with (first | (go_at_call 39; refine HCH.out.mono ?_; rintro e w1 ⟨rfl, hk1, ht1, hl1⟩; have H := Aside0.mk hk1; have HT := Aside0.mk ht1; have HL := Aside0.mk hl1; have s0 := (blk_cell hk1.hb 0).trans (rfl : _ = some (Value.pointer (some ⟨gd, 0, none⟩))); clear hk1 ht1 hl1 HCH) | (go_at_call 71; refine (dunlink_any b gd mn ms N vo now safe ops _ H.out.hd hN hlo 2 (by decide) (by decide) sa sb id hsa).mono ?_; rintro e w2 ⟨rfl, vo', hd2, hv2, hk2, hl2⟩; have HF := Aside0.mk (H.out.dir hd2 hk2); have HTF := Aside0.mk (HT.out.trans (KT.dir H.out hk2)); have HLF := Aside0.mk (HL.out.trans hl2); clear hd2 hv2 hk2 hl2))
    go_ret
    exact ⟨rfl, ⟨_, HF.out⟩, HTF.out, HLF.out⟩
  · go_enter Tryz.func34, Tryz.ntmps34
    go_wp2_with (first | (go_at_call 39; refine HCH.out.mono ?_; rintro e w1 ⟨rfl, hk1, ht1, hl1⟩; have H := Aside0.mk hk1; have HT := Aside0.mk ht1; have HL := Aside0.mk hl1; have s0 := (blk_cell hk1.hb 0).trans (rfl : _ = some (Value.pointer (some ⟨gd, 0, none⟩))); clear hk1 ht1 hl1 HCH))
    go_ret
    exact ⟨rfl, ⟨_, H.out.mono⟩, HT.out, HL.out⟩
/-- The safe names are turned too. -/
theorem DK.dirS {W W1 : World} {b g gd mn ms ms' N N' mf M : Nat} {y : Nat → Prop} {vo vo' : Value} {now now' safe safe' : List DN} {ops ops' : List DOp} {fl : List FR} {next room fuse : Int} {armed dead : Bool} (h : DK W b y g gd mn ms vo N now safe ops mf M fl next room fuse armed dead) (hd : DI W1 b gd mn ms' vo' N' now' safe' ops') (hk : KeepBut W W1 gd none) (hne : mf ≠ ms') : DK W1 b y g gd mn ms' vo' N' now' safe' ops' mf M fl next room fuse armed dead := by
  have hty : ∀ (k : Nat) (cs : Array Value) (T : TypeId), T ≠ 99 → W.heap[k]? = some (.cells cs T (0, 0)) → W1.heap[k]? = W.heap[k]? := fun k cs T h1 hkk => hk.2 k (blk_lt hkk) (blk_ne hkk h.hd.hb h1) (by simp)
  refine ⟨(hty g _ _ (by decide) h.hb).trans h.hb, hd, h.hm.move (hk.2 mf h.hm.lt (h.hm.ne h.hd.hb) (by simp)), ⟨fun p hp => ?_, h.hf.ap, fun k hkk => h.hf.hy k (Nat.le_trans hk.1 hkk)⟩, h.hg, h.hmf, h.n1, hne⟩
  have hp1 := h.hf.hf p hp
  exact hp1.move (hty p.g _ _ (by decide) hp1.hb) (fun k hx _ ⟨cs, T, hT, hc⟩ => ⟨hty k cs T (by rcases hT with rfl | rfl <;> decide) hc, hx⟩)
set_option maxHeartbeats 1000000 in
theorem ksyncdir_any (b : Nat) (y : Nat → Prop) (g gd mn ms : Nat) (vo : Value) (N : Nat) (now safe : List DN) (ops : List DOp) (mf M : Nat) (fl : List FR) (next room fuse : Int) (armed dead : Bool) (w : World) (h : DK w b y g gd mn ms vo N now safe ops mf M fl next room fuse armed dead) (h0 : 0 ≤ fuse) (h1 : fuse ≤ 9223372036854775807) :
    Calls Tryz.prog 13 #[.pointer (some ⟨g, 0, none⟩)] w fun e w' => e = .returned (.int .i64 (chg fuse armed dead).1) ∧ (∃ ms' vo', DK w' b y g gd mn ms' vo' N now (if (chg fuse armed dead).1 = 0 then now else safe) (if (chg fuse armed dead).1 = 0 then [] else ops) mf M fl next room (chg fuse armed dead).2.1 armed (chg fuse armed dead).2.2) ∧ KT w w' ∧ Below b w w' := by
  obtain ⟨cd, hcd⟩ : ∃ x, x = (chg fuse armed dead).1 := ⟨_, rfl⟩
  obtain ⟨fu, hfu⟩ : ∃ x, x = (chg fuse armed dead).2.1 := ⟨_, rfl⟩
  obtain ⟨de, hde⟩ : ∃ x, x = (chg fuse armed dead).2.2 := ⟨_, rfl⟩
  have HCH := Aside0.mk (change_kt b y g gd mn ms vo N now safe ops mf M fl next room fuse armed dead w h h0 h1)
  rw [← hcd, ← hfu, ← hde] at HCH
  rw [← hcd, ← hfu, ← hde]
  clear h hcd hfu hde
  by_cases hc : cd = 0
  · subst hc
    simp only [if_true]
    go_enter Tryz.func13, Tryz.ntmps13
    go_wp2_with (first | (go_at_call 39; refine HCH.out.mono ?_; rintro e w1 ⟨rfl, hk1, ht1, hl1⟩; have H := Aside0.mk hk1; have HT := Aside0.mk ht1; have HL := Aside0.mk hl1; have s0 := (blk_cell hk1.hb 0).trans (rfl : _ = some (Value.pointer (some ⟨gd, 0, none⟩))); clear hk1 ht1 hl1 HCH) | (go_at_call 42; refine (dsync_any b gd mn ms N vo now safe ops _ H.out.hd).mono ?_; rintro e w2 ⟨rfl, hd2, hk2, hl2⟩; have HF := Aside0.mk (H.out.dirS hd2 hk2 (Nat.ne_of_lt H.out.hm.lt)); have HTF := Aside0.mk (HT.out.trans (KT.dir H.out (Keep3.of_but hk2))); have HLF := Aside0.mk (HL.out.trans hl2); clear hd2 hk2 hl2))
    go_ret
    exact ⟨rfl, ⟨_, _, HF.out⟩, HTF.out, HLF.out⟩
  · go_enter Tryz.func13, Tryz.ntmps13
    go_wp2_with (first | (go_at_call 39; refine HCH.out.mono ?_; rintro e w1 ⟨rfl, hk1, ht1, hl1⟩; have H := Aside0.mk hk1; have HT := Aside0.mk ht1; have HL := Aside0.mk hl1; have s0 := (blk_cell hk1.hb 0).trans (rfl : _ = some (Value.pointer (some ⟨gd, 0, none⟩))); clear hk1 ht1 hl1 HCH))
    go_ret
    exact ⟨rfl, ⟨_, _, H.out⟩, HT.out, HL.out⟩
end Go.Proofs.YtpnbjpkdbiiogaaGreat
/- The disk: Size, Read, Truncate, Sync, Write, Create: all that they may tell. -/
namespace Go.Proofs.YtpnbjpkdbiiogaaGreat
set_option linter.unusedVariables false
open Go.RowKit Go.Maps Go.Proofs.YtpnbjpkdbiiogaaGreatW.PrintWords
attribute [local go_sem] mx2 mn2 mxTwo mnTwo

theorem kcreate_dead (b : Nat) (y : Nat → Prop) (g gd mn ms : Nat) (vo : Value) (N : Nat) (now safe : List DN) (ops : List DOp) (mf M : Nat) (fl : List FR) (next room fuse : Int) (armed dead : Bool) (w : World) (h : DK w b y g gd mn ms vo N now safe ops mf M fl next room fuse armed dead) (h0 : 0 ≤ fuse) (h1 : fuse ≤ 9223372036854775807) (hc : (chg fuse armed dead).1 ≠ 0) (s : ByteArray) : Calls Tryz.prog 24 #[.pointer (some ⟨g, 0, none⟩), .string s] w fun e w' => e = .returned (.int .i64 (chg fuse armed dead).1) ∧ DK w' b y g gd mn ms vo N now safe ops mf M fl next room (chg fuse armed dead).2.1 armed (chg fuse armed dead).2.2 ∧ KT w w' ∧ Below b w w' := by
  obtain ⟨cd, hcd⟩ : ∃ x, x = (chg fuse armed dead).1 := ⟨_, rfl⟩
  rw [← hcd]
  obtain ⟨fu, hfu⟩ : ∃ x, x = (chg fuse armed dead).2.1 := ⟨_, rfl⟩
  obtain ⟨de, hde⟩ : ∃ x, x = (chg fuse armed dead).2.2 := ⟨_, rfl⟩
  have HCH := Aside0.mk (change_kt b y g gd mn ms vo N now safe ops mf M fl next room fuse armed dead w h h0 h1)
  rw [← hcd, ← hfu, ← hde] at HCH
  rw [← hfu, ← hde]
  rw [← hcd] at hc
  clear hcd hfu hde
  clear h
  go_enter Tryz.func24, Tryz.ntmps24
  go_wp2_with (first | (go_at_call 39; refine HCH.out.mono ?_; rintro e w1 ⟨rfl, hk1, ht1, hl1⟩; have H := Aside0.mk hk1; have HT := Aside0.mk ht1; have HL := Aside0.mk hl1; have s0 := (blk_cell hk1.hb 0).trans (rfl : _ = some (Value.pointer (some ⟨gd, 0, none⟩))); clear hk1 ht1 hl1 HCH))
  go_ret
  exact ⟨rfl, H.out, HT.out, HL.out⟩
theorem kwrite_dead (b : Nat) (y : Nat → Prop) (g gd mn ms : Nat) (vo : Value) (N : Nat) (now safe : List DN) (ops : List DOp) (mf M : Nat) (fl : List FR) (next room fuse : Int) (armed dead : Bool) (w : World) (h : DK w b y g gd mn ms vo N now safe ops mf M fl next room fuse armed dead) (h0 : 0 ≤ fuse) (h1 : fuse ≤ 9223372036854775807) (hc : (chg fuse armed dead).1 ≠ 0) (s : ByteArray) (k : Int) (A : Option Addr) (n c : Nat) : Calls Tryz.prog 25 #[.pointer (some ⟨g, 0, none⟩), .string s, .int .i64 k, .slice A n c] w fun e w' => e = .returned (.int .i64 (chg fuse armed dead).1) ∧ DK w' b y g gd mn ms vo N now safe ops mf M fl next room (chg fuse armed dead).2.1 armed (chg fuse armed dead).2.2 ∧ KT w w' ∧ Below b w w' := by
  obtain ⟨cd, hcd⟩ : ∃ x, x = (chg fuse armed dead).1 := ⟨_, rfl⟩
  rw [← hcd]
  obtain ⟨fu, hfu⟩ : ∃ x, x = (chg fuse armed dead).2.1 := ⟨_, rfl⟩
  obtain ⟨de, hde⟩ : ∃ x, x = (chg fuse armed dead).2.2 := ⟨_, rfl⟩
  have HCH := Aside0.mk (change_kt b y g gd mn ms vo N now safe ops mf M fl next room fuse armed dead w h h0 h1)
  rw [← hcd, ← hfu, ← hde] at HCH
  rw [← hfu, ← hde]
  rw [← hcd] at hc
  clear hcd hfu hde
  clear h
  go_enter Tryz.func25, Tryz.ntmps25
  go_wp2_with (first | (go_at_call 39; refine HCH.out.mono ?_; rintro e w1 ⟨rfl, hk1, ht1, hl1⟩; have H := Aside0.mk hk1; have HT := Aside0.mk ht1; have HL := Aside0.mk hl1; have s0 := (blk_cell hk1.hb 0).trans (rfl : _ = some (Value.pointer (some ⟨gd, 0, none⟩))); clear hk1 ht1 hl1 HCH))
  go_ret
  exact ⟨rfl, H.out, HT.out, HL.out⟩
theorem ktrunc_dead (b : Nat) (y : Nat → Prop) (g gd mn ms : Nat) (vo : Value) (N : Nat) (now safe : List DN) (ops : List DOp) (mf M : Nat) (fl : List FR) (next room fuse : Int) (armed dead : Bool) (w : World) (h : DK w b y g gd mn ms vo N now safe ops mf M fl next room fuse armed dead) (h0 : 0 ≤ fuse) (h1 : fuse ≤ 9223372036854775807) (hc : (chg fuse armed dead).1 ≠ 0) (s : ByteArray) (k : Int) : Calls Tryz.prog 29 #[.pointer (some ⟨g, 0, none⟩), .string s, .int .i64 k] w fun e w' => e = .returned (.int .i64 (chg fuse armed dead).1) ∧ DK w' b y g gd mn ms vo N now safe ops mf M fl next room (chg fuse armed dead).2.1 armed (chg fuse armed dead).2.2 ∧ KT w w' ∧ Below b w w' := by
  obtain ⟨cd, hcd⟩ : ∃ x, x = (chg fuse armed dead).1 := ⟨_, rfl⟩
  rw [← hcd]
  obtain ⟨fu, hfu⟩ : ∃ x, x = (chg fuse armed dead).2.1 := ⟨_, rfl⟩
  obtain ⟨de, hde⟩ : ∃ x, x = (chg fuse armed dead).2.2 := ⟨_, rfl⟩
  have HCH := Aside0.mk (change_kt b y g gd mn ms vo N now safe ops mf M fl next room fuse armed dead w h h0 h1)
  rw [← hcd, ← hfu, ← hde] at HCH
  rw [← hfu, ← hde]
  rw [← hcd] at hc
  clear hcd hfu hde
  clear h
  go_enter Tryz.func29, Tryz.ntmps29
  go_wp2_with (first | (go_at_call 39; refine HCH.out.mono ?_; rintro e w1 ⟨rfl, hk1, ht1, hl1⟩; have H := Aside0.mk hk1; have HT := Aside0.mk ht1; have HL := Aside0.mk hl1; have s0 := (blk_cell hk1.hb 0).trans (rfl : _ = some (Value.pointer (some ⟨gd, 0, none⟩))); clear hk1 ht1 hl1 HCH))
  go_ret
  exact ⟨rfl, H.out, HT.out, HL.out⟩
theorem ksync_dead (b : Nat) (y : Nat → Prop) (g gd mn ms : Nat) (vo : Value) (N : Nat) (now safe : List DN) (ops : List DOp) (mf M : Nat) (fl : List FR) (next room fuse : Int) (armed dead : Bool) (w : World) (h : DK w b y g gd mn ms vo N now safe ops mf M fl next room fuse armed dead) (h0 : 0 ≤ fuse) (h1 : fuse ≤ 9223372036854775807) (hc : (chg fuse armed dead).1 ≠ 0) (s : ByteArray) : Calls Tryz.prog 12 #[.pointer (some ⟨g, 0, none⟩), .string s] w fun e w' => e = .returned (.int .i64 (chg fuse armed dead).1) ∧ DK w' b y g gd mn ms vo N now safe ops mf M fl next room (chg fuse armed dead).2.1 armed (chg fuse armed dead).2.2 ∧ KT w w' ∧ Below b w w' := by
  obtain ⟨cd, hcd⟩ : ∃ x, x = (chg fuse armed dead).1 := ⟨_, rfl⟩
  rw [← hcd]
  obtain ⟨fu, hfu⟩ : ∃ x, x = (chg fuse armed dead).2.1 := ⟨_, rfl⟩
  obtain ⟨de, hde⟩ : ∃ x, x = (chg fuse armed dead).2.2 := ⟨_, rfl⟩
  have HCH := Aside0.mk (change_kt b y g gd mn ms vo N now safe ops mf M fl next room fuse armed dead w h h0 h1)
  rw [← hcd, ← hfu, ← hde] at HCH
  rw [← hfu, ← hde]
  rw [← hcd] at hc
  clear hcd hfu hde
  clear h
  go_enter Tryz.func12, Tryz.ntmps12
  go_wp2_with (first | (go_at_call 39; refine HCH.out.mono ?_; rintro e w1 ⟨rfl, hk1, ht1, hl1⟩; have H := Aside0.mk hk1; have HT := Aside0.mk ht1; have HL := Aside0.mk hl1; have s0 := (blk_cell hk1.hb 0).trans (rfl : _ = some (Value.pointer (some ⟨gd, 0, none⟩))); clear hk1 ht1 hl1 HCH))
  go_ret
  exact ⟨rfl, H.out, HT.out, HL.out⟩
theorem kwrite_none (b : Nat) (y : Nat → Prop) (g gd mn ms : Nat) (vo : Value) (N : Nat) (now safe : List DN) (ops : List DOp) (mf M : Nat) (fl : List FR) (next room fuse : Int) (armed dead : Bool) (w : World) (h : DK w b y g gd mn ms vo N now safe ops mf M fl next room fuse armed dead) (h0 : 0 ≤ fuse) (h1 : fuse ≤ 9223372036854775807) (hc : (chg fuse armed dead).1 = 0) (s : ByteArray) (hs : s.size ≤ maxLen) (hn : getN now s = none) (k : Int) (A : Option Addr) (n c : Nat) : Calls Tryz.prog 25 #[.pointer (some ⟨g, 0, none⟩), .string s, .int .i64 k, .slice A n c] w fun e w' => e = .returned (.int .i64 6) ∧ DK w' b y g gd mn ms vo N now safe ops mf M fl next room (chg fuse armed dead).2.1 armed (chg fuse armed dead).2.2 ∧ KT w w' ∧ Below b w w' := by
  have HOF := Aside0.mk (fun W (fuse : Int) (armed dead : Bool) (hW : DK W b y g gd mn ms vo N now safe ops mf M fl next room fuse armed dead) => of_none b y g gd mn ms vo N now safe ops mf M fl next room fuse armed dead W hW s hs hn)
  obtain ⟨cd, hcd⟩ : ∃ x, x = (chg fuse armed dead).1 := ⟨_, rfl⟩
  obtain ⟨fu, hfu⟩ : ∃ x, x = (chg fuse armed dead).2.1 := ⟨_, rfl⟩
  obtain ⟨de, hde⟩ : ∃ x, x = (chg fuse armed dead).2.2 := ⟨_, rfl⟩
  have HCH := Aside0.mk (change_kt b y g gd mn ms vo N now safe ops mf M fl next room fuse armed dead w h h0 h1)
  rw [← hcd, ← hfu, ← hde] at HCH
  rw [← hfu, ← hde]
  rw [← hcd] at hc
  clear hcd hfu hde
  subst hc
  clear h hn
  go_enter Tryz.func25, Tryz.ntmps25
  go_wp2_with (first | (go_at_call 39; refine HCH.out.mono ?_; rintro e w1 ⟨rfl, hk1, ht1, hl1⟩; have H := Aside0.mk hk1; have HT := Aside0.mk ht1; have HL := Aside0.mk hl1; have s0 := (blk_cell hk1.hb 0).trans (rfl : _ = some (Value.pointer (some ⟨gd, 0, none⟩))); clear hk1 ht1 hl1 HCH) | (go_at_call 40; refine (HOF.out _ _ _ _ H.out).mono ?_; rintro e w2 ⟨rfl, rfl⟩; clear HOF))
  go_ret
  exact ⟨rfl, H.out, HT.out, HL.out⟩
theorem ktrunc_none (b : Nat) (y : Nat → Prop) (g gd mn ms : Nat) (vo : Value) (N : Nat) (now safe : List DN) (ops : List DOp) (mf M : Nat) (fl : List FR) (next room fuse : Int) (armed dead : Bool) (w : World) (h : DK w b y g gd mn ms vo N now safe ops mf M fl next room fuse armed dead) (h0 : 0 ≤ fuse) (h1 : fuse ≤ 9223372036854775807) (hc : (chg fuse armed dead).1 = 0) (s : ByteArray) (hs : s.size ≤ maxLen) (hn : getN now s = none) (k : Int) : Calls Tryz.prog 29 #[.pointer (some ⟨g, 0, none⟩), .string s, .int .i64 k] w fun e w' => e = .returned (.int .i64 6) ∧ DK w' b y g gd mn ms vo N now safe ops mf M fl next room (chg fuse armed dead).2.1 armed (chg fuse armed dead).2.2 ∧ KT w w' ∧ Below b w w' := by
  have HOF := Aside0.mk (fun W (fuse : Int) (armed dead : Bool) (hW : DK W b y g gd mn ms vo N now safe ops mf M fl next room fuse armed dead) => of_none b y g gd mn ms vo N now safe ops mf M fl next room fuse armed dead W hW s hs hn)
  obtain ⟨cd, hcd⟩ : ∃ x, x = (chg fuse armed dead).1 := ⟨_, rfl⟩
  obtain ⟨fu, hfu⟩ : ∃ x, x = (chg fuse armed dead).2.1 := ⟨_, rfl⟩
  obtain ⟨de, hde⟩ : ∃ x, x = (chg fuse armed dead).2.2 := ⟨_, rfl⟩
  have HCH := Aside0.mk (change_kt b y g gd mn ms vo N now safe ops mf M fl next room fuse armed dead w h h0 h1)
  rw [← hcd, ← hfu, ← hde] at HCH
  rw [← hfu, ← hde]
  rw [← hcd] at hc
  clear hcd hfu hde
  subst hc
  clear h hn
  go_enter Tryz.func29, Tryz.ntmps29
  go_wp2_with (first | (go_at_call 39; refine HCH.out.mono ?_; rintro e w1 ⟨rfl, hk1, ht1, hl1⟩; have H := Aside0.mk hk1; have HT := Aside0.mk ht1; have HL := Aside0.mk hl1; have s0 := (blk_cell hk1.hb 0).trans (rfl : _ = some (Value.pointer (some ⟨gd, 0, none⟩))); clear hk1 ht1 hl1 HCH) | (go_at_call 40; refine (HOF.out _ _ _ _ H.out).mono ?_; rintro e w2 ⟨rfl, rfl⟩; clear HOF))
  go_ret
  exact ⟨rfl, H.out, HT.out, HL.out⟩
theorem ksync_none (b : Nat) (y : Nat → Prop) (g gd mn ms : Nat) (vo : Value) (N : Nat) (now safe : List DN) (ops : List DOp) (mf M : Nat) (fl : List FR) (next room fuse : Int) (armed dead : Bool) (w : World) (h : DK w b y g gd mn ms vo N now safe ops mf M fl next room fuse armed dead) (h0 : 0 ≤ fuse) (h1 : fuse ≤ 9223372036854775807) (hc : (chg fuse armed dead).1 = 0) (s : ByteArray) (hs : s.size ≤ maxLen) (hn : getN now s = none) : Calls Tryz.prog 12 #[.pointer (some ⟨g, 0, none⟩), .string s] w fun e w' => e = .returned (.int .i64 6) ∧ DK w' b y g gd mn ms vo N now safe ops mf M fl next room (chg fuse armed dead).2.1 armed (chg fuse armed dead).2.2 ∧ KT w w' ∧ Below b w w' := by
  have HOF := Aside0.mk (fun W (fuse : Int) (armed dead : Bool) (hW : DK W b y g gd mn ms vo N now safe ops mf M fl next room fuse armed dead) => of_none b y g gd mn ms vo N now safe ops mf M fl next room fuse armed dead W hW s hs hn)
  obtain ⟨cd, hcd⟩ : ∃ x, x = (chg fuse armed dead).1 := ⟨_, rfl⟩
  obtain ⟨fu, hfu⟩ : ∃ x, x = (chg fuse armed dead).2.1 := ⟨_, rfl⟩
  obtain ⟨de, hde⟩ : ∃ x, x = (chg fuse armed dead).2.2 := ⟨_, rfl⟩
  have HCH := Aside0.mk (change_kt b y g gd mn ms vo N now safe ops mf M fl next room fuse armed dead w h h0 h1)
  rw [← hcd, ← hfu, ← hde] at HCH
  rw [← hfu, ← hde]
  rw [← hcd] at hc
  clear hcd hfu hde
  subst hc
  clear h hn
  go_enter Tryz.func12, Tryz.ntmps12
  go_wp2_with (first | (go_at_call 39; refine HCH.out.mono ?_; rintro e w1 ⟨rfl, hk1, ht1, hl1⟩; have H := Aside0.mk hk1; have HT := Aside0.mk ht1; have HL := Aside0.mk hl1; have s0 := (blk_cell hk1.hb 0).trans (rfl : _ = some (Value.pointer (some ⟨gd, 0, none⟩))); clear hk1 ht1 hl1 HCH) | (go_at_call 40; refine (HOF.out _ _ _ _ H.out).mono ?_; rintro e w2 ⟨rfl, rfl⟩; clear HOF))
  go_ret
  exact ⟨rfl, H.out, HT.out, HL.out⟩
/-! A file is there. -/
theorem kwrite_bad (b : Nat) (y : Nat → Prop) (g gd mn ms : Nat) (vo : Value) (N : Nat) (now safe : List DN) (ops : List DOp) (mf M : Nat) (fl : List FR) (next room fuse : Int) (armed dead : Bool) (w : World) (h : DK w b y g gd mn ms vo N now safe ops mf M fl next room fuse armed dead) (h0 : 0 ≤ fuse) (h1 : fuse ≤ 9223372036854775807) (hc : (chg fuse armed dead).1 = 0) (s : ByteArray) (hs : s.size ≤ maxLen) (id : Int) (hi0 : 0 ≤ id) (hi1 : id ≤ 1000000) (p : FR) (hn : getN now s = some id) (hp : fileAt fl id = some p) (k : Int) (A : Option Addr) (n c : Nat) (hn63 : n ≤ 9223372036854775807) (hbad : k < 0 ∨ 0 ≤ k ∧ 1048576 < k ∨ 0 ≤ k ∧ k ≤ 1048576 ∧ 1048576 - k < n) : Calls Tryz.prog 25 #[.pointer (some ⟨g, 0, none⟩), .string s, .int .i64 k, .slice A n c] w fun e w' => e = .returned (.int .i64 1) ∧ DK w' b y g gd mn ms vo N now safe ops mf M fl next room (chg fuse armed dead).2.1 armed (chg fuse armed dead).2.2 ∧ KT w w' ∧ Below b w w' := by
  have hpm := (fileAt_mem hp).1
  have HPM := Aside0.mk hpm
  have HOF := Aside0.mk (fun W (fuse : Int) (armed dead : Bool) (hW : DK W b y g gd mn ms vo N now safe ops mf M fl next room fuse armed dead) => of_some b y g gd mn ms vo N now safe ops mf M fl next room fuse armed dead W hW s hs id hi0 hi1 p hn hp)
  obtain ⟨cd, hcd⟩ : ∃ x, x = (chg fuse armed dead).1 := ⟨_, rfl⟩
  obtain ⟨fu, hfu⟩ : ∃ x, x = (chg fuse armed dead).2.1 := ⟨_, rfl⟩
  obtain ⟨de, hde⟩ : ∃ x, x = (chg fuse armed dead).2.2 := ⟨_, rfl⟩
  have HCH := Aside0.mk (change_kt b y g gd mn ms vo N now safe ops mf M fl next room fuse armed dead w h h0 h1)
  rw [← hcd, ← hfu, ← hde] at HCH
  rw [← hfu, ← hde]
  rw [← hcd] at hc
  clear hcd hfu hde
  subst hc
  have hbw : b ≤ w.heap.size := Nat.le_trans h.hg (Nat.le_of_lt (blk_lt h.hb))
  clear h hn hp hpm
  rcases hbad with hb | ⟨hb1, hb2⟩ | ⟨hb1, hb2, hb3⟩
  all_goals
    go_enter Tryz.func25, Tryz.ntmps25
    go_wp2_with (first | (go_at_call 39; refine HCH.out.mono ?_; rintro e w1 ⟨rfl, hk1, ht1, hl1⟩; have H := Aside0.mk hk1; have HT := Aside0.mk ht1; have HL := Aside0.mk hl1; have s0 := (blk_cell hk1.hb 0).trans (rfl : _ = some (Value.pointer (some ⟨gd, 0, none⟩))); clear hk1 ht1 hl1 HCH) | (go_at_call 40; refine (HOF.out _ _ _ _ H.out).mono ?_; rintro e w2 ⟨rfl, rfl⟩; clear HOF))
    go_ret
    exact ⟨rfl, H.out, HT.out, HL.out⟩
theorem ktrunc_bad (b : Nat) (y : Nat → Prop) (g gd mn ms : Nat) (vo : Value) (N : Nat) (now safe : List DN) (ops : List DOp) (mf M : Nat) (fl : List FR) (next room fuse : Int) (armed dead : Bool) (w : World) (h : DK w b y g gd mn ms vo N now safe ops mf M fl next room fuse armed dead) (h0 : 0 ≤ fuse) (h1 : fuse ≤ 9223372036854775807) (hc : (chg fuse armed dead).1 = 0) (s : ByteArray) (hs : s.size ≤ maxLen) (id : Int) (hi0 : 0 ≤ id) (hi1 : id ≤ 1000000) (p : FR) (hn : getN now s = some id) (hp : fileAt fl id = some p) (k : Int) (hbad : k < 0 ∨ 0 ≤ k ∧ 1048576 < k) : Calls Tryz.prog 29 #[.pointer (some ⟨g, 0, none⟩), .string s, .int .i64 k] w fun e w' => e = .returned (.int .i64 1) ∧ DK w' b y g gd mn ms vo N now safe ops mf M fl next room (chg fuse armed dead).2.1 armed (chg fuse armed dead).2.2 ∧ KT w w' ∧ Below b w w' := by
  have hpm := (fileAt_mem hp).1
  have HPM := Aside0.mk hpm
  have HOF := Aside0.mk (fun W (fuse : Int) (armed dead : Bool) (hW : DK W b y g gd mn ms vo N now safe ops mf M fl next room fuse armed dead) => of_some b y g gd mn ms vo N now safe ops mf M fl next room fuse armed dead W hW s hs id hi0 hi1 p hn hp)
  obtain ⟨cd, hcd⟩ : ∃ x, x = (chg fuse armed dead).1 := ⟨_, rfl⟩
  obtain ⟨fu, hfu⟩ : ∃ x, x = (chg fuse armed dead).2.1 := ⟨_, rfl⟩
  obtain ⟨de, hde⟩ : ∃ x, x = (chg fuse armed dead).2.2 := ⟨_, rfl⟩
  have HCH := Aside0.mk (change_kt b y g gd mn ms vo N now safe ops mf M fl next room fuse armed dead w h h0 h1)
  rw [← hcd, ← hfu, ← hde] at HCH
  rw [← hfu, ← hde]
  rw [← hcd] at hc
  clear hcd hfu hde
  subst hc
  have hbw : b ≤ w.heap.size := Nat.le_trans h.hg (Nat.le_of_lt (blk_lt h.hb))
  clear h hn hp hpm
  rcases hbad with hb | ⟨hb1, hb2⟩
  all_goals
    go_enter Tryz.func29, Tryz.ntmps29
    go_wp2_with (first | (go_at_call 39; refine HCH.out.mono ?_; rintro e w1 ⟨rfl, hk1, ht1, hl1⟩; have H := Aside0.mk hk1; have HT := Aside0.mk ht1; have HL := Aside0.mk hl1; have s0 := (blk_cell hk1.hb 0).trans (rfl : _ = some (Value.pointer (some ⟨gd, 0, none⟩))); clear hk1 ht1 hl1 HCH) | (go_at_call 40; refine (HOF.out _ _ _ _ H.out).mono ?_; rintro e w2 ⟨rfl, rfl⟩; clear HOF))
    go_ret
    exact ⟨rfl, H.out, HT.out, HL.out⟩
set_option maxHeartbeats 1000000 in
theorem ksync_ok (b : Nat) (y : Nat → Prop) (g gd mn ms : Nat) (vo : Value) (N : Nat) (now safe : List DN) (ops : List DOp) (mf M : Nat) (fl : List FR) (next room fuse : Int) (armed dead : Bool) (w : World) (h : DK w b y g gd mn ms vo N now safe ops mf M fl next room fuse armed dead) (h0 : 0 ≤ fuse) (h1 : fuse ≤ 9223372036854775807) (hc : (chg fuse armed dead).1 = 0) (s : ByteArray) (hs : s.size ≤ maxLen) (id : Int) (hi0 : 0 ≤ id) (hi1 : id ≤ 1000000) (p : FR) (hn : getN now s = some id) (hp : fileAt fl id = some p) (hl : p.now.length ≤ 1048576) : Calls Tryz.prog 12 #[.pointer (some ⟨g, 0, none⟩), .string s] w fun e w' => e = .returned (.int .i64 0) ∧ (∃ vs', DK w' b y g gd mn ms vo N now safe ops mf M (setFile fl ⟨p.id, p.g, p.vn, vs', .slice none 0 0, p.now, p.now, []⟩) next room (chg fuse armed dead).2.1 armed (chg fuse armed dead).2.2) ∧ KT w w' ∧ Below b w w' := by
  have hpm := (fileAt_mem hp).1
  have HPM := Aside0.mk hpm
  have HOF := Aside0.mk (fun W (fuse : Int) (armed dead : Bool) (hW : DK W b y g gd mn ms vo N now safe ops mf M fl next room fuse armed dead) => of_some b y g gd mn ms vo N now safe ops mf M fl next room fuse armed dead W hW s hs id hi0 hi1 p hn hp)
  obtain ⟨cd, hcd⟩ : ∃ x, x = (chg fuse armed dead).1 := ⟨_, rfl⟩
  obtain ⟨fu, hfu⟩ : ∃ x, x = (chg fuse armed dead).2.1 := ⟨_, rfl⟩
  obtain ⟨de, hde⟩ : ∃ x, x = (chg fuse armed dead).2.2 := ⟨_, rfl⟩
  have HCH := Aside0.mk (change_kt b y g gd mn ms vo N now safe ops mf M fl next room fuse armed dead w h h0 h1)
  rw [← hcd, ← hfu, ← hde] at HCH
  rw [← hfu, ← hde]
  rw [← hcd] at hc
  clear hcd hfu hde
  subst hc
  have hbw : b ≤ w.heap.size := Nat.le_trans h.hg (Nat.le_of_lt (blk_lt h.hb))
  clear h hn hp hpm
  go_enter Tryz.func12, Tryz.ntmps12
  go_wp2_with (first | (go_at_call 39; refine HCH.out.mono ?_; rintro e w1 ⟨rfl, hk1, ht1, hl1⟩; have H := Aside0.mk hk1; have HT := Aside0.mk ht1; have HL := Aside0.mk hl1; have s0 := (blk_cell hk1.hb 0).trans (rfl : _ = some (Value.pointer (some ⟨gd, 0, none⟩))); clear hk1 ht1 hl1 HCH) | (go_at_call 40; refine (HOF.out _ _ _ _ H.out).mono ?_; rintro e w2 ⟨rfl, rfl⟩; clear HOF) | (go_at_call 41; refine (fsync_any b p.g (apx y fl p) p.vn p.vs p.vo p.now p.safe p.ops _ (H.out.hf.hf p HPM.out) (apx_fresh H.out.hf) (by omega)).mono ?_; rintro e w5 ⟨rfl, ⟨vs', hf5⟩, hk5', hl5⟩; have hk5 : KeepBut _ w5 p.g p.vo.ownBlock := ⟨hk5'.1, fun i hi hg _ => hk5'.2 i hi hg (by simp)⟩; have hfin := H.out.file HPM.out hk5 hf5 (by first | exact .inr (.inl rfl) | (rcases hv5 with e | ⟨j, e, hj⟩; exact .inl e; exact .inr (.inr ⟨j, e, hj⟩))); have HF := Aside0.mk hfin; have HTF := Aside0.mk (HT.out.trans (KT.file H.out HPM.out hk5)); have HLF := Aside0.mk (HL.out.trans hl5); clear hfin hf5 hk5 hk5' hl5))
  go_ret
  exact ⟨rfl, ⟨_, HF.out⟩, HTF.out, HLF.out⟩
end Go.Proofs.YtpnbjpkdbiiogaaGreat
/- The disk: Size, Read; Truncate, Write, Create as they go well or find no room. -/
namespace Go.Proofs.YtpnbjpkdbiiogaaGreat
set_option linter.unusedVariables false
open Go.RowKit Go.Maps Go.Proofs.YtpnbjpkdbiiogaaGreatW.PrintWords
attribute [local go_sem] mx2 mn2 mxTwo mnTwo

/-- What Size tells. -/
def sizeK (now : List DN) (fl : List FR) (dead : Bool) (s : ByteArray) : Int × Int := if dead then (0, 26) else match getN now s with
  | none => (0, 6)
  | some id => (lenA fl id, 0)
theorem ksize_any (b : Nat) (y : Nat → Prop) (g gd mn ms : Nat) (vo : Value) (N : Nat) (now safe : List DN) (ops : List DOp) (mf M : Nat) (fl : List FR) (next room fuse : Int) (armed dead : Bool) (w : World) (h : DK w b y g gd mn ms vo N now safe ops mf M fl next room fuse armed dead) (hk : KG now fl) (s : ByteArray) (hs : s.size ≤ maxLen) : Calls Tryz.prog 56 #[.pointer (some ⟨g, 0, none⟩), .string s] w fun e w' => e = .returned (.tuple #[.int .i64 (sizeK now fl dead s).1, .int .i64 (sizeK now fl dead s).2]) ∧ w = w' := by
  have c6 := (blk_cell h.hb 6).trans (rfl : _ = some (Value.bool dead))
  have H := Aside0.mk h
  cases dead
  · cases hn : getN now s with
    | none =>
      have HK := Aside0.mk (show sizeK now fl false s = (0, 6) by unfold sizeK; rw [hn]; rfl)
      have HN := Aside0.mk hn
      clear h hk hn
      go_enter Tryz.func56, Tryz.ntmps56
      go_wp2_with (first
        | (go_at_call 40; refine (of_none b y g gd mn ms vo N now safe ops mf M fl next room fuse armed false _ H.out s hs HN.out).mono ?_; rintro e w2 ⟨rfl, rfl⟩)
        | (go_at_call 85; refine (flen_nil _).mono ?_; rintro e w3 ⟨rfl, hw⟩; subst hw))
      go_ret2
      rw [HK.out]
      exact ⟨rfl, rfl⟩
    | some id =>
      obtain ⟨hi0, hi1, p, hp⟩ := hk.id _ (getN_mem hn)
      have HK := Aside0.mk (show sizeK now fl false s = ((p.now.length : Int), 0) by unfold sizeK; rw [hn]; simp [lenA_some hp])
      have HN := Aside0.mk hn
      have HP := Aside0.mk hp
      have HF := Aside0.mk (h.hf.hf p (fileAt_mem hp).1)
      clear h hk hn hp
      go_enter Tryz.func56, Tryz.ntmps56
      go_wp2_with (first
        | (go_at_call 40; refine (of_some b y g gd mn ms vo N now safe ops mf M fl next room fuse armed false _ H.out s hs id hi0 hi1 p HN.out HP.out).mono ?_; rintro e w2 ⟨rfl, rfl⟩)
        | (go_at_call 85; refine (flen_any b p.g _ _ _ _ _ _ _ _ HF.out).mono ?_; rintro e w3 ⟨rfl, hw⟩; subst hw))
      go_ret2
      rw [HK.out]
      exact ⟨rfl, rfl⟩
  · have HK := Aside0.mk (show sizeK now fl true s = (0, 26) from rfl)
    clear h hk
    go_enter Tryz.func56, Tryz.ntmps56
    go_wp2
    go_ret2
    rw [HK.out]
    exact ⟨rfl, rfl⟩
/-- What Read tells. -/
def readK (now : List DN) (fl : List FR) (dead : Bool) (s : ByteArray) (k n : Int) : List Int × Int := if dead then ([], 26) else match getN now s with
  | none => ([], 6)
  | some id => (readL (((fileAt fl id).map (·.now)).getD []) k n, 0)
set_option maxHeartbeats 1000000 in
theorem kread_any (b : Nat) (y : Nat → Prop) (g gd mn ms : Nat) (vo : Value) (N : Nat) (now safe : List DN) (ops : List DOp) (mf M : Nat) (fl : List FR) (next room fuse : Int) (armed dead : Bool) (w : World) (h : DK w b y g gd mn ms vo N now safe ops mf M fl next room fuse armed dead) (hk : KG now fl) (s : ByteArray) (hs : s.size ≤ maxLen) (k n : Int) : Calls Tryz.prog 17 #[.pointer (some ⟨g, 0, none⟩), .string s, .int .i64 k, .int .i64 n] w fun e w' => ∃ A c, e = .returned (.tuple #[.slice A (readK now fl dead s k n).1.length c, .int .i64 (readK now fl dead s k n).2]) ∧ Kd.C (Kd.int .u8) w' A (readK now fl dead s k n).1.length (readK now fl dead s k n).1 ∧ Below w.heap.size w w' := by
  have c6 := (blk_cell h.hb 6).trans (rfl : _ = some (Value.bool dead))
  have H := Aside0.mk h
  cases dead
  · cases hn : getN now s with
    | none =>
      have HK := Aside0.mk (show readK now fl false s k n = ([], 6) by unfold readK; rw [hn]; rfl)
      have HN := Aside0.mk hn
      clear h hk hn
      go_enter Tryz.func17, Tryz.ntmps17
      go_wp2_with (first
        | (go_at_call 40; refine (of_none b y g gd mn ms vo N now safe ops mf M fl next room fuse armed false _ H.out s hs HN.out).mono ?_; rintro e w2 ⟨rfl, rfl⟩)
        | (go_at_call 52; refine (fread_nil _ _ _).mono ?_; rintro e w3 ⟨rfl, hw⟩; subst hw))
      go_ret2
      rw [HK.out]
      exact ⟨_, _, rfl, Kd.C_nil _ _, Below.refl _ _⟩
    | some id =>
      obtain ⟨hi0, hi1, p, hp⟩ := hk.id _ (getN_mem hn)
      have hpl := (hk.len p (fileAt_mem hp).1).1
      have HK := Aside0.mk (show readK now fl false s k n = (readL p.now k n, 0) by unfold readK; rw [hn]; simp [hp])
      have HN := Aside0.mk hn
      have HP := Aside0.mk hp
      have HF := Aside0.mk (h.hf.hf p (fileAt_mem hp).1)
      clear h hk hn hp
      go_enter Tryz.func17, Tryz.ntmps17
      go_wp2_with (first
        | (go_at_call 40; refine (of_some b y g gd mn ms vo N now safe ops mf M fl next room fuse armed false _ H.out s hs id hi0 hi1 p HN.out HP.out).mono ?_; rintro e w2 ⟨rfl, rfl⟩)
        | (go_at_call 52; refine (fread_any b p.g _ _ _ _ _ _ _ k n _ HF.out (by omega)).mono ?_; rintro e w3 ⟨A', c', rfl, hc, hb⟩; have HC := Aside0.mk hc; have HB := Aside0.mk hb; clear hc hb))
      go_ret2
      rw [HK.out]
      exact ⟨_, _, rfl, HC.out, HB.out⟩
  · have HK := Aside0.mk (show readK now fl true s k n = ([], 26) from rfl)
    clear h hk
    go_enter Tryz.func17, Tryz.ntmps17
    go_wp2
    go_ret2
    rw [HK.out]
    exact ⟨_, _, rfl, Kd.C_nil _ _, Below.refl _ _⟩
set_option maxHeartbeats 1000000 in
theorem ktrunc_space (b : Nat) (y : Nat → Prop) (g gd mn ms : Nat) (vo : Value) (N : Nat) (now safe : List DN) (ops : List DOp) (mf M : Nat) (fl : List FR) (next room fuse : Int) (armed dead : Bool) (w : World) (h : DK w b y g gd mn ms vo N now safe ops mf M fl next room fuse armed dead) (h0 : 0 ≤ fuse) (h1 : fuse ≤ 9223372036854775807) (hc : (chg fuse armed dead).1 = 0) (s : ByteArray) (hs : s.size ≤ maxLen) (id : Int) (hi0 : 0 ≤ id) (hi1 : id ≤ 1000000) (p : FR) (hn : getN now s = some id) (hp : fileAt fl id = some p) (hk : KG now fl) (hr : Rising now) (hN : N ≤ 1000000) (hln : now.length ≤ 100000) (hsz : ∀ p ∈ now, p.1.size ≤ maxLen) (hro : 0 ≤ room) (k : Nat) (hk1 : k ≤ 1048576) (hh : hasF fl now room p.now.length (k : Int) = false) : Calls Tryz.prog 29 #[.pointer (some ⟨g, 0, none⟩), .string s, .int .i64 (k : Int)] w fun e w' => e = .returned (.int .i64 20) ∧ DK w' b y g gd mn ms vo N now safe ops mf M fl next room (chg fuse armed dead).2.1 armed (chg fuse armed dead).2.2 ∧ KT w w' ∧ Below b w w' := by
  have HH := Aside0.mk hh
  clear hh
  have hpm0 := (fileAt_mem hp).1
  obtain ⟨hpl, hpo⟩ := hk.len p hpm0
  have HHAS := Aside0.mk (fun W (fuse : Int) (armed dead : Bool) (hW : DK W b y g gd mn ms vo N now safe ops mf M fl next room fuse armed dead) => has_any b y g gd mn ms vo N now safe ops mf M fl next room fuse armed dead W hW hk hr hN hln hsz p hpm0)
  clear hk hr hsz hpm0
  have hpm := (fileAt_mem hp).1
  have HPM := Aside0.mk hpm
  have HOF := Aside0.mk (fun W (fuse : Int) (armed dead : Bool) (hW : DK W b y g gd mn ms vo N now safe ops mf M fl next room fuse armed dead) => of_some b y g gd mn ms vo N now safe ops mf M fl next room fuse armed dead W hW s hs id hi0 hi1 p hn hp)
  obtain ⟨cd, hcd⟩ : ∃ x, x = (chg fuse armed dead).1 := ⟨_, rfl⟩
  obtain ⟨fu, hfu⟩ : ∃ x, x = (chg fuse armed dead).2.1 := ⟨_, rfl⟩
  obtain ⟨de, hde⟩ : ∃ x, x = (chg fuse armed dead).2.2 := ⟨_, rfl⟩
  have HCH := Aside0.mk (change_kt b y g gd mn ms vo N now safe ops mf M fl next room fuse armed dead w h h0 h1)
  rw [← hcd, ← hfu, ← hde] at HCH
  rw [← hfu, ← hde]
  rw [← hcd] at hc
  clear hcd hfu hde
  subst hc
  have hbw : b ≤ w.heap.size := Nat.le_trans h.hg (Nat.le_of_lt (blk_lt h.hb))
  clear h hn hp hpm
  go_enter Tryz.func29, Tryz.ntmps29
  go_wp2_with (first | (go_at_call 39; refine HCH.out.mono ?_; rintro e w1 ⟨rfl, hk1, ht1, hl1⟩; have H := Aside0.mk hk1; have HT := Aside0.mk ht1; have HL := Aside0.mk hl1; have s0 := (blk_cell hk1.hb 0).trans (rfl : _ = some (Value.pointer (some ⟨gd, 0, none⟩))); clear hk1 ht1 hl1 HCH) | (go_at_call 40; refine (HOF.out _ _ _ _ H.out).mono ?_; rintro e w2 ⟨rfl, rfl⟩; clear HOF) | (go_at_call 60; refine (HHAS.out _ _ _ _ H.out ((k : Int)) (by omega) hro).mono ?_; rw [HH.out]; rintro e w3 ⟨rfl, hb⟩; have h3 := H.out.below hb; have ht3 := HT.out.trans (KT.of_below hb); have hl3 := HL.out.trans (hb.mono (Nat.le_trans hbw HL.out.size)); clear H HL HT; have H := Aside0.mk h3; have HL := Aside0.mk hl3; have HT := Aside0.mk ht3; clear h3 hl3 ht3 hb))
  go_ret
  exact ⟨rfl, H.out, HT.out, HL.out⟩
set_option maxHeartbeats 1000000 in
theorem ktrunc_ok (b : Nat) (y : Nat → Prop) (g gd mn ms : Nat) (vo : Value) (N : Nat) (now safe : List DN) (ops : List DOp) (mf M : Nat) (fl : List FR) (next room fuse : Int) (armed dead : Bool) (w : World) (h : DK w b y g gd mn ms vo N now safe ops mf M fl next room fuse armed dead) (h0 : 0 ≤ fuse) (h1 : fuse ≤ 9223372036854775807) (hc : (chg fuse armed dead).1 = 0) (s : ByteArray) (hs : s.size ≤ maxLen) (id : Int) (hi0 : 0 ≤ id) (hi1 : id ≤ 1000000) (p : FR) (hn : getN now s = some id) (hp : fileAt fl id = some p) (hk : KG now fl) (hr : Rising now) (hN : N ≤ 1000000) (hln : now.length ≤ 100000) (hsz : ∀ p ∈ now, p.1.size ≤ maxLen) (hro : 0 ≤ room) (k : Nat) (hk1 : k ≤ 1048576) (hh : hasF fl now room p.now.length (k : Int) = true) : Calls Tryz.prog 29 #[.pointer (some ⟨g, 0, none⟩), .string s, .int .i64 (k : Int)] w fun e w' => e = .returned (.int .i64 0) ∧ (∃ vn' vo', DK w' b y g gd mn ms vo N now safe ops mf M (setFile fl ⟨p.id, p.g, vn', p.vs, vo', (sizeF (p.now, p.ops) (k : Int)).1, p.safe, (sizeF (p.now, p.ops) (k : Int)).2⟩) next room (chg fuse armed dead).2.1 armed (chg fuse armed dead).2.2) ∧ KT w w' ∧ Below b w w' := by
  have HH := Aside0.mk hh
  clear hh
  have hpm0 := (fileAt_mem hp).1
  obtain ⟨hpl, hpo⟩ := hk.len p hpm0
  have HHAS := Aside0.mk (fun W (fuse : Int) (armed dead : Bool) (hW : DK W b y g gd mn ms vo N now safe ops mf M fl next room fuse armed dead) => has_any b y g gd mn ms vo N now safe ops mf M fl next room fuse armed dead W hW hk hr hN hln hsz p hpm0)
  clear hk hr hsz hpm0
  have hpm := (fileAt_mem hp).1
  have HPM := Aside0.mk hpm
  have HOF := Aside0.mk (fun W (fuse : Int) (armed dead : Bool) (hW : DK W b y g gd mn ms vo N now safe ops mf M fl next room fuse armed dead) => of_some b y g gd mn ms vo N now safe ops mf M fl next room fuse armed dead W hW s hs id hi0 hi1 p hn hp)
  obtain ⟨cd, hcd⟩ : ∃ x, x = (chg fuse armed dead).1 := ⟨_, rfl⟩
  obtain ⟨fu, hfu⟩ : ∃ x, x = (chg fuse armed dead).2.1 := ⟨_, rfl⟩
  obtain ⟨de, hde⟩ : ∃ x, x = (chg fuse armed dead).2.2 := ⟨_, rfl⟩
  have HCH := Aside0.mk (change_kt b y g gd mn ms vo N now safe ops mf M fl next room fuse armed dead w h h0 h1)
  rw [← hcd, ← hfu, ← hde] at HCH
  rw [← hfu, ← hde]
  rw [← hcd] at hc
  clear hcd hfu hde
  subst hc
  have hbw : b ≤ w.heap.size := Nat.le_trans h.hg (Nat.le_of_lt (blk_lt h.hb))
  clear h hn hp hpm
  go_enter Tryz.func29, Tryz.ntmps29
  go_wp2_with (first | (go_at_call 39; refine HCH.out.mono ?_; rintro e w1 ⟨rfl, hk1, ht1, hl1⟩; have H := Aside0.mk hk1; have HT := Aside0.mk ht1; have HL := Aside0.mk hl1; have s0 := (blk_cell hk1.hb 0).trans (rfl : _ = some (Value.pointer (some ⟨gd, 0, none⟩))); clear hk1 ht1 hl1 HCH) | (go_at_call 40; refine (HOF.out _ _ _ _ H.out).mono ?_; rintro e w2 ⟨rfl, rfl⟩; clear HOF) | (go_at_call 60; refine (HHAS.out _ _ _ _ H.out ((k : Int)) (by omega) hro).mono ?_; rw [HH.out]; rintro e w3 ⟨rfl, hb⟩; have h3 := H.out.below hb; have ht3 := HT.out.trans (KT.of_below hb); have hl3 := HL.out.trans (hb.mono (Nat.le_trans hbw HL.out.size)); clear H HL HT; have H := Aside0.mk h3; have HL := Aside0.mk hl3; have HT := Aside0.mk ht3; clear h3 hl3 ht3 hb) | (go_at_call 66; refine (ftrunc_any b p.g (apx y fl p) p.vn p.vs p.vo p.now p.safe p.ops k _ (H.out.hf.hf p HPM.out) (apx_fresh H.out.hf) (by omega) hk1 (by omega)).mono ?_; rintro e w5 ⟨rfl, ⟨vn', vo', hf5, hv5⟩, hk5, hl5⟩; have hfin := H.out.file HPM.out hk5 hf5 (by first | exact .inr (.inl rfl) | (rcases hv5 with e | ⟨j, e, hj⟩; exact .inl e; exact .inr (.inr ⟨j, e, hj⟩))); have HF := Aside0.mk hfin; have HTF := Aside0.mk (HT.out.trans (KT.file H.out HPM.out hk5)); have HLF := Aside0.mk (HL.out.trans hl5); clear hfin hf5 hv5 hk5 hl5))
  go_ret
  exact ⟨rfl, ⟨_, _, HF.out⟩, HTF.out, HLF.out⟩
set_option maxHeartbeats 1000000 in
theorem kwrite_full (b : Nat) (y : Nat → Prop) (g gd mn ms : Nat) (vo : Value) (N : Nat) (now safe : List DN) (ops : List DOp) (mf M : Nat) (fl : List FR) (next room fuse : Int) (armed dead : Bool) (w : World) (h : DK w b y g gd mn ms vo N now safe ops mf M fl next room fuse armed dead) (h0 : 0 ≤ fuse) (h1 : fuse ≤ 9223372036854775807) (hc : (chg fuse armed dead).1 = 0) (s : ByteArray) (hs : s.size ≤ maxLen) (id : Int) (hi0 : 0 ≤ id) (hi1 : id ≤ 1000000) (p : FR) (hn : getN now s = some id) (hp : fileAt fl id = some p) (hk : KG now fl) (hr : Rising now) (hN : N ≤ 1000000) (hln : now.length ≤ 100000) (hsz : ∀ p ∈ now, p.1.size ≤ maxLen) (hro : 0 ≤ room) (k : Nat) (A : Option Addr) (n c : Nat) (hk1 : k ≤ 1048576) (hk2 : n + k ≤ 1048576) (hn0 : 0 < n) (hh : hasF fl now room p.now.length ((k + n : Nat) : Int) = false) : Calls Tryz.prog 25 #[.pointer (some ⟨g, 0, none⟩), .string s, .int .i64 (k : Int), .slice A n c] w fun e w' => e = .returned (.int .i64 20) ∧ DK w' b y g gd mn ms vo N now safe ops mf M fl next room (chg fuse armed dead).2.1 armed (chg fuse armed dead).2.2 ∧ KT w w' ∧ Below b w w' := by
  have HH := Aside0.mk hh
  clear hh
  have hpm0 := (fileAt_mem hp).1
  obtain ⟨hpl, hpo⟩ := hk.len p hpm0
  have HHAS := Aside0.mk (fun W (fuse : Int) (armed dead : Bool) (hW : DK W b y g gd mn ms vo N now safe ops mf M fl next room fuse armed dead) => has_any b y g gd mn ms vo N now safe ops mf M fl next room fuse armed dead W hW hk hr hN hln hsz p hpm0)
  clear hk hr hsz hpm0
  have hpm := (fileAt_mem hp).1
  have HPM := Aside0.mk hpm
  have HOF := Aside0.mk (fun W (fuse : Int) (armed dead : Bool) (hW : DK W b y g gd mn ms vo N now safe ops mf M fl next room fuse armed dead) => of_some b y g gd mn ms vo N now safe ops mf M fl next room fuse armed dead W hW s hs id hi0 hi1 p hn hp)
  obtain ⟨cd, hcd⟩ : ∃ x, x = (chg fuse armed dead).1 := ⟨_, rfl⟩
  obtain ⟨fu, hfu⟩ : ∃ x, x = (chg fuse armed dead).2.1 := ⟨_, rfl⟩
  obtain ⟨de, hde⟩ : ∃ x, x = (chg fuse armed dead).2.2 := ⟨_, rfl⟩
  have HCH := Aside0.mk (change_kt b y g gd mn ms vo N now safe ops mf M fl next room fuse armed dead w h h0 h1)
  rw [← hcd, ← hfu, ← hde] at HCH
  rw [← hfu, ← hde]
  rw [← hcd] at hc
  clear hcd hfu hde
  subst hc
  have hbw : b ≤ w.heap.size := Nat.le_trans h.hg (Nat.le_of_lt (blk_lt h.hb))
  clear h hn hp hpm
  go_enter Tryz.func25, Tryz.ntmps25
  go_wp2_with (first | (go_at_call 39; refine HCH.out.mono ?_; rintro e w1 ⟨rfl, hk1, ht1, hl1⟩; have H := Aside0.mk hk1; have HT := Aside0.mk ht1; have HL := Aside0.mk hl1; have s0 := (blk_cell hk1.hb 0).trans (rfl : _ = some (Value.pointer (some ⟨gd, 0, none⟩))); clear hk1 ht1 hl1 HCH) | (go_at_call 40; refine (HOF.out _ _ _ _ H.out).mono ?_; rintro e w2 ⟨rfl, rfl⟩; clear HOF) | (go_at_call 60; refine (HHAS.out _ _ _ _ H.out (((k + n : Nat) : Int)) (by omega) hro).mono ?_; rw [HH.out]; rintro e w3 ⟨rfl, hb⟩; have h3 := H.out.below hb; have ht3 := HT.out.trans (KT.of_below hb); have hl3 := HL.out.trans (hb.mono (Nat.le_trans hbw HL.out.size)); clear H HL HT; have H := Aside0.mk h3; have HL := Aside0.mk hl3; have HT := Aside0.mk ht3; clear h3 hl3 ht3 hb))
  go_ret
  exact ⟨rfl, H.out, HT.out, HL.out⟩
set_option maxHeartbeats 1000000 in
theorem kwrite_done (b : Nat) (y : Nat → Prop) (g gd mn ms : Nat) (vo : Value) (N : Nat) (now safe : List DN) (ops : List DOp) (mf M : Nat) (fl : List FR) (next room fuse : Int) (armed dead : Bool) (w : World) (h : DK w b y g gd mn ms vo N now safe ops mf M fl next room fuse armed dead) (h0 : 0 ≤ fuse) (h1 : fuse ≤ 9223372036854775807) (hc : (chg fuse armed dead).1 = 0) (s : ByteArray) (hs : s.size ≤ maxLen) (id : Int) (hi0 : 0 ≤ id) (hi1 : id ≤ 1000000) (p : FR) (hn : getN now s = some id) (hp : fileAt fl id = some p) (hk : KG now fl) (hr : Rising now) (hN : N ≤ 1000000) (hln : now.length ≤ 100000) (hsz : ∀ p ∈ now, p.1.size ≤ maxLen) (hro : 0 ≤ room) (k : Nat) (A : Option Addr) (n c : Nat) (hk1 : k ≤ 1048576) (hk2 : n + k ≤ 1048576) (l : List Int) (hll : l.length = n) (hnc : n ≤ c) (hst : ∀ W', Below b w W' → Kd.C (Kd.int .u8) W' A n l) (hh : n = 0 ∨ hasF fl now room p.now.length ((k + n : Nat) : Int) = true) : Calls Tryz.prog 25 #[.pointer (some ⟨g, 0, none⟩), .string s, .int .i64 (k : Int), .slice A n c] w fun e w' => e = .returned (.int .i64 0) ∧ (∃ vn' vo', DK w' b y g gd mn ms vo N now safe ops mf M (setFile fl ⟨p.id, p.g, vn', p.vs, vo', (writeF (p.now, p.ops) k l).1, p.safe, (writeF (p.now, p.ops) k l).2⟩) next room (chg fuse armed dead).2.1 armed (chg fuse armed dead).2.2) ∧ KT w w' ∧ Below b w w' := by
  have HST := Aside0.mk hst
  clear hst
  have hpm0 := (fileAt_mem hp).1
  obtain ⟨hpl, hpo⟩ := hk.len p hpm0
  have HHAS := Aside0.mk (fun W (fuse : Int) (armed dead : Bool) (hW : DK W b y g gd mn ms vo N now safe ops mf M fl next room fuse armed dead) => has_any b y g gd mn ms vo N now safe ops mf M fl next room fuse armed dead W hW hk hr hN hln hsz p hpm0)
  clear hk hr hsz hpm0
  have hpm := (fileAt_mem hp).1
  have HPM := Aside0.mk hpm
  have HOF := Aside0.mk (fun W (fuse : Int) (armed dead : Bool) (hW : DK W b y g gd mn ms vo N now safe ops mf M fl next room fuse armed dead) => of_some b y g gd mn ms vo N now safe ops mf M fl next room fuse armed dead W hW s hs id hi0 hi1 p hn hp)
  obtain ⟨cd, hcd⟩ : ∃ x, x = (chg fuse armed dead).1 := ⟨_, rfl⟩
  obtain ⟨fu, hfu⟩ : ∃ x, x = (chg fuse armed dead).2.1 := ⟨_, rfl⟩
  obtain ⟨de, hde⟩ : ∃ x, x = (chg fuse armed dead).2.2 := ⟨_, rfl⟩
  have HCH := Aside0.mk (change_kt b y g gd mn ms vo N now safe ops mf M fl next room fuse armed dead w h h0 h1)
  rw [← hcd, ← hfu, ← hde] at HCH
  rw [← hfu, ← hde]
  rw [← hcd] at hc
  clear hcd hfu hde
  subst hc
  have hbw : b ≤ w.heap.size := Nat.le_trans h.hg (Nat.le_of_lt (blk_lt h.hb))
  clear h hn hp hpm
  by_cases hn0 : n = 0
  · clear hh
    subst hn0
    go_enter Tryz.func25, Tryz.ntmps25
    go_wp2_with (first | (go_at_call 39; refine HCH.out.mono ?_; rintro e w1 ⟨rfl, hk1, ht1, hl1⟩; have H := Aside0.mk hk1; have HT := Aside0.mk ht1; have HL := Aside0.mk hl1; have s0 := (blk_cell hk1.hb 0).trans (rfl : _ = some (Value.pointer (some ⟨gd, 0, none⟩))); clear hk1 ht1 hl1 HCH) | (go_at_call 40; refine (HOF.out _ _ _ _ H.out).mono ?_; rintro e w2 ⟨rfl, rfl⟩; clear HOF) | (go_at_call 61; refine (fwrite_any b p.g (apx y fl p) p.vn p.vs p.vo p.now p.safe p.ops k A _ c l _ (H.out.hf.hf p HPM.out) (apx_fresh H.out.hf) hll hnc (fun W' _ hb' => HST.out W' (HL.out.trans hb')) hk1 hk2 hpl hpo).mono ?_; rintro e w5 ⟨rfl, vn', vo', hf5, hv5, hk5, hl5⟩; have hfin := H.out.file HPM.out hk5 hf5 (by first | exact .inr (.inl rfl) | (rcases hv5 with e | ⟨j, e, hj⟩; exact .inl e; exact .inr (.inr ⟨j, e, hj⟩))); have HF := Aside0.mk hfin; have HTF := Aside0.mk (HT.out.trans (KT.file H.out HPM.out hk5)); have HLF := Aside0.mk (HL.out.trans hl5); clear hfin hf5 hv5 hk5 hl5))
    go_ret
    exact ⟨rfl, ⟨_, _, HF.out⟩, HTF.out, HLF.out⟩
  · have HH := Aside0.mk (hh.resolve_left hn0)
    have hnp : 0 < n := by omega
    clear hh
    go_enter Tryz.func25, Tryz.ntmps25
    go_wp2_with (first | (go_at_call 39; refine HCH.out.mono ?_; rintro e w1 ⟨rfl, hk1, ht1, hl1⟩; have H := Aside0.mk hk1; have HT := Aside0.mk ht1; have HL := Aside0.mk hl1; have s0 := (blk_cell hk1.hb 0).trans (rfl : _ = some (Value.pointer (some ⟨gd, 0, none⟩))); clear hk1 ht1 hl1 HCH) | (go_at_call 40; refine (HOF.out _ _ _ _ H.out).mono ?_; rintro e w2 ⟨rfl, rfl⟩; clear HOF) | (go_at_call 60; refine (HHAS.out _ _ _ _ H.out (((k + n : Nat) : Int)) (by omega) hro).mono ?_; rw [HH.out]; rintro e w3 ⟨rfl, hb⟩; have h3 := H.out.below hb; have ht3 := HT.out.trans (KT.of_below hb); have hl3 := HL.out.trans (hb.mono (Nat.le_trans hbw HL.out.size)); clear H HL HT; have H := Aside0.mk h3; have HL := Aside0.mk hl3; have HT := Aside0.mk ht3; clear h3 hl3 ht3 hb) | (go_at_call 61; refine (fwrite_any b p.g (apx y fl p) p.vn p.vs p.vo p.now p.safe p.ops k A _ c l _ (H.out.hf.hf p HPM.out) (apx_fresh H.out.hf) hll hnc (fun W' _ hb' => HST.out W' (HL.out.trans hb')) hk1 hk2 hpl hpo).mono ?_; rintro e w5 ⟨rfl, vn', vo', hf5, hv5, hk5, hl5⟩; have hfin := H.out.file HPM.out hk5 hf5 (by first | exact .inr (.inl rfl) | (rcases hv5 with e | ⟨j, e, hj⟩; exact .inl e; exact .inr (.inr ⟨j, e, hj⟩))); have HF := Aside0.mk hfin; have HTF := Aside0.mk (HT.out.trans (KT.file H.out HPM.out hk5)); have HLF := Aside0.mk (HL.out.trans hl5); clear hfin hf5 hv5 hk5 hl5))
    go_ret
    exact ⟨rfl, ⟨_, _, HF.out⟩, HTF.out, HLF.out⟩
end Go.Proofs.YtpnbjpkdbiiogaaGreat
