/- The disk: what its calls leave alone; Arm, Dead, SyncDir, Rename, Unlink. -/
import Derived.Test.YtpnbjpkdbiiogaaTg
import Derived.Test.YtpnbjpkdbiiogaaTe
namespace Go.Proofs.Ytpnbjpkdbiiogaa
set_option linter.unusedVariables false
open Go.RowKit Go.Maps Go.Proofs.YtpnbjpkdbiiogaaW.PrintWords
attribute [local go_sem] mx2 mn2 mxTwo mnTwo

/-- The types whose cells the disk's calls may turn. -/
def kTypes : List TypeId := [161, 88, 149, 137, 141]
/-- Cells of other types stay. -/
structure KT (W W' : World) : Prop where
  size : W.heap.size ≤ W'.heap.size
  keep : ∀ (k : Nat) (cs : Array Value) (T : TypeId), W.heap[k]? = some (Obj.cells cs T (0, 0)) → T ∉ kTypes → W'.heap[k]? = W.heap[k]?
theorem KT.refl (W : World) : KT W W := ⟨Nat.le_refl _, fun _ _ _ _ _ => rfl⟩
theorem KT.trans {W W1 W2 : World} (h : KT W W1) (k : KT W1 W2) : KT W W2 := ⟨Nat.le_trans h.size k.size, fun i cs T hi hT => (k.keep i cs T ((h.keep i cs T hi hT).trans hi) hT).trans (h.keep i cs T hi hT)⟩
theorem KT.of_below {W W1 : World} (h : Below W.heap.size W W1) : KT W W1 := ⟨h.size, fun k cs T hk _ => h.block k (blk_lt hk)⟩
theorem KT.drewN (W : World) (n : Nat) : KT W (W.drewN n) := KT.of_below (pw_below_drewN (Below.refl _ _) _)
section
variable {W W1 : World} {b g gd mn ms N mf M : Nat} {y : Nat → Prop} {vo : Value} {now safe : List DN} {ops : List DOp} {fl : List FR} {next room fuse : Int} {armed dead : Bool}
theorem DK.mono (h : DK W b y g gd mn ms vo N now safe ops mf M fl next room fuse armed dead) : DK W b y g gd mn ms vo (N + 1) now safe ops mf M fl next room fuse armed dead := ⟨h.hb, h.hd.mono, h.hm, h.hf, h.hg, h.hmf, h.n1, h.n2⟩
theorem DK.monoM (h : DK W b y g gd mn ms vo N now safe ops mf M fl next room fuse armed dead) : DK W b y g gd mn ms vo N now safe ops mf (M + 1) fl next room fuse armed dead := ⟨h.hb, h.hd, h.hm.mono (Nat.le_succ _), h.hf, h.hg, h.hmf, h.n1, h.n2⟩
theorem KT.own (h : DK W b y g gd mn ms vo N now safe ops mf M fl next room fuse armed dead) (hs : W.heap.size ≤ W1.heap.size) (hk : ∀ k, k ≠ g → W1.heap[k]? = W.heap[k]?) : KT W W1 :=
  ⟨hs, fun k cs T hkk hT => hk k (blk_ne hkk h.hb (fun e => hT (by rw [e]; decide)))⟩
theorem KT.dir (h : DK W b y g gd mn ms vo N now safe ops mf M fl next room fuse armed dead) (hk : Keep3 W W1 gd (some mn) vo.ownBlock) : KT W W1 := by
  refine ⟨hk.1, fun k cs T hkk hT => hk.2 k (blk_lt hkk) (blk_ne hkk h.hd.hb (fun e => hT (by rw [e]; decide))) (fun e => h.hd.hn.ne hkk (by injection e with e; exact e.symm)) (fun e => ?_)⟩
  obtain ⟨c2, hc2⟩ := own_typed h.hd.ho.2.choose_spec.1 k e.symm
  rw [hkk] at hc2
  injection hc2 with hc2
  injection hc2 with _ hc3
  exact hT (by rw [hc3]; decide)
theorem KT.file (h : DK W b y g gd mn ms vo N now safe ops mf M fl next room fuse armed dead) {p : FR} (hp : p ∈ fl) (hk : KeepBut W W1 p.g p.vo.ownBlock) : KT W W1 := by
  refine ⟨hk.1, fun k cs T hkk hT => hk.2 k (blk_lt hkk) (blk_ne hkk (h.hf.hf p hp).hb (fun e => hT (by rw [e]; decide))) (fun e => ?_)⟩
  obtain ⟨c2, hc2⟩ := fvo_typed h.hf hp k e.symm
  rw [hkk] at hc2
  injection hc2 with hc2
  injection hc2 with _ hc3
  exact hT (by rw [hc3]; decide)
theorem KT.map (hm : ∃ (P : Program) (k : TypeId) (n : Nat) (f : Lit → Option Value), MV W P k mf n f) (ht : W.mapTurned W1 mf) : KT W W1 := by
  obtain ⟨P, kt, n, f, hm⟩ := hm
  have hg := ht.grown
  exact ⟨hg.size, fun k cs T hkk _ => hg.block k (blk_lt hkk) (fun e => hm.ne hkk (by injection e with e; exact e.symm))⟩
end
theorem dead_any (b : Nat) (y : Nat → Prop) (g gd mn ms : Nat) (vo : Value) (N : Nat) (now safe : List DN) (ops : List DOp) (mf M : Nat) (fl : List FR) (next room fuse : Int) (armed dead : Bool) (w : World) (h : DK w b y g gd mn ms vo N now safe ops mf M fl next room fuse armed dead) : Calls Try.prog 82 #[.pointer (some ⟨g, 0, none⟩)] w fun e w' => e = .returned (.bool dead) ∧ w = w' := by
  have c6 := (blk_cell h.hb 6).trans (rfl : _ = some (Value.bool dead))
  clear h
  go_enter Try.func82, Try.ntmps82
  go_wp2
  go_ret
  exact ⟨rfl, rfl⟩
theorem arm_any (b : Nat) (y : Nat → Prop) (g gd mn ms : Nat) (vo : Value) (N : Nat) (now safe : List DN) (ops : List DOp) (mf M : Nat) (fl : List FR) (next room fuse : Int) (armed dead : Bool) (w : World) (h : DK w b y g gd mn ms vo N now safe ops mf M fl next room fuse armed dead) (n : Int) : Calls Try.prog 75 #[.pointer (some ⟨g, 0, none⟩), .int .i64 n] w fun e w' => e = .returned (.tuple #[]) ∧ DK w' b y g gd mn ms vo N now safe ops mf M fl next room (if n < 0 then 0 else n) true dead ∧ KT w w' ∧ Below b w w' := by
  have c4 := (blk_cell h.hb 4).trans (rfl : _ = some (Value.int .i64 fuse))
  have c5 := (blk_cell h.hb 5).trans (rfl : _ = some (Value.bool armed))
  have f4 := blk_frozen h.hb 4
  have f5 := blk_frozen h.hb 5
  have H := Aside0.mk h
  clear h
  have fin : ∀ m : Int, DK ((w.setCell ⟨g, 4, none⟩ (.int .i64 m)).setCell ⟨g, 5, none⟩ (.bool true)) b y g gd mn ms vo N now safe ops mf M fl next room m true dead ∧ KT w ((w.setCell ⟨g, 4, none⟩ (.int .i64 m)).setCell ⟨g, 5, none⟩ (.bool true)) ∧ Below b w ((w.setCell ⟨g, 4, none⟩ (.int .i64 m)).setCell ⟨g, 5, none⟩ (.bool true)) := fun m => by
    have hk : ∀ k, k ≠ g → ((w.setCell ⟨g, 4, none⟩ (.int .i64 m)).setCell ⟨g, 5, none⟩ (.bool true)).heap[k]? = w.heap[k]? := fun k hk => (Below.heap_setCell _ _ _ k hk).trans (Below.heap_setCell w _ _ k hk)
    exact ⟨H.out.own (blk_put (blk_put H.out.hb 4 _ rfl) 5 _ rfl) hk, KT.own H.out (by rw [setsz, setsz]; exact Nat.le_refl _) hk, ((Below.refl _ _).setCell (p := ⟨g, 4, none⟩) H.out.hg _).setCell (p := ⟨g, 5, none⟩) H.out.hg _⟩
  have FIN := Aside0.mk fin
  clear fin
  by_cases hn : n < 0
  all_goals
    go_enter Try.func75, Try.ntmps75
    go_wp2
    first | go_end0 | ((try simp only [Exit.inBlock, Exit.then]); refine bodyPost_ret (results_none rfl _ _ _) rfl ?_)
    first
    | (obtain ⟨h1, h2, h3⟩ := FIN.out 0; exact ⟨rfl, by simpa [hn] using h1, h2, h3⟩)
    | (obtain ⟨h1, h2, h3⟩ := FIN.out n; exact ⟨rfl, by simpa [hn] using h1, h2, h3⟩)
    | (obtain ⟨h1, h2, h3⟩ := FIN.out n; exact ⟨rfl, by rw [if_neg (by omega)]; exact h1, h2, h3⟩)
theorem Keep3.of_but {w w' : World} {g : Nat} {r1 r2 : Option Nat} (h : KeepBut w w' g none) : Keep3 w w' g r1 r2 := ⟨h.1, fun i hi hg _ _ => h.2 i hi hg (by simp)⟩
/-- A change that is told. -/
theorem change_kt (b : Nat) (y : Nat → Prop) (g gd mn ms : Nat) (vo : Value) (N : Nat) (now safe : List DN) (ops : List DOp) (mf M : Nat) (fl : List FR) (next room fuse : Int) (armed dead : Bool) (w : World) (h : DK w b y g gd mn ms vo N now safe ops mf M fl next room fuse armed dead) (h0 : 0 ≤ fuse) (h1 : fuse ≤ 9223372036854775807) : Calls Try.prog 103 #[.pointer (some ⟨g, 0, none⟩)] w fun e w' => e = .returned (.int .i64 (chg fuse armed dead).1) ∧ DK w' b y g gd mn ms vo N now safe ops mf M fl next room (chg fuse armed dead).2.1 armed (chg fuse armed dead).2.2 ∧ KT w w' ∧ Below b w w' := by
  refine (change_any b y g gd mn ms vo N now safe ops mf M fl next room fuse armed dead w h h0 h1).mono ?_
  rintro e w' ⟨rfl, hd, hk, hb⟩
  exact ⟨rfl, hd, KT.own h hb.size hk, hb⟩
set_option maxHeartbeats 1000000 in
theorem krename_any (b : Nat) (y : Nat → Prop) (g gd mn ms : Nat) (vo : Value) (N : Nat) (now safe : List DN) (ops : List DOp) (mf M : Nat) (fl : List FR) (next room fuse : Int) (armed dead : Bool) (w : World) (h : DK w b y g gd mn ms vo N now safe ops mf M fl next room fuse armed dead) (h0 : 0 ≤ fuse) (h1 : fuse ≤ 9223372036854775807) (hN : N < 1000000) (hlo : ops.length ≤ 100000) (sa sb : ByteArray) (id : Int) (hsa : sa.size ≤ maxLen) (hsb : sb.size ≤ maxLen) :
    Calls Try.prog 80 #[.pointer (some ⟨g, 0, none⟩), .string sa, .string sb] w fun e w' => e = .returned (.int .i64 (if (chg fuse armed dead).1 = 0 then doCode now ⟨1, sa, sb, id⟩ else (chg fuse armed dead).1)) ∧ (∃ vo', DK w' b y g gd mn ms vo' (N + 1) (if (chg fuse armed dead).1 = 0 then doNow now ⟨1, sa, sb, id⟩ else now) safe (if (chg fuse armed dead).1 = 0 then doOpsI now ops ⟨1, sa, sb, id⟩ else ops) mf M fl next room (chg fuse armed dead).2.1 armed (chg fuse armed dead).2.2) ∧ KT w w' ∧ Below b w w' := by
  obtain ⟨cd, hcd⟩ : ∃ x, x = (chg fuse armed dead).1 := ⟨_, rfl⟩
  obtain ⟨fu, hfu⟩ : ∃ x, x = (chg fuse armed dead).2.1 := ⟨_, rfl⟩
  obtain ⟨de, hde⟩ : ∃ x, x = (chg fuse armed dead).2.2 := ⟨_, rfl⟩
  have HCH := Aside0.mk (change_kt b y g gd mn ms vo N now safe ops mf M fl next room fuse armed dead w h h0 h1)
  rw [← hcd, ← hfu, ← hde] at HCH
  rw [← hcd, ← hfu, ← hde]
  clear h hcd hfu hde
  by_cases hc : cd = 0
  · subst hc
    simp only [if_true]
    go_enter Try.func80, Try.ntmps80
    go_wp2_with (first | (go_at_call 103; refine HCH.out.mono ?_; rintro e w1 ⟨rfl, hk1, ht1, hl1⟩; have H := Aside0.mk hk1; have HT := Aside0.mk ht1; have HL := Aside0.mk hl1; have s0 := (blk_cell hk1.hb 0).trans (rfl : _ = some (Value.pointer (some ⟨gd, 0, none⟩))); clear hk1 ht1 hl1 HCH) | (go_at_call 57; refine (drename_any b gd mn ms N vo now safe ops _ H.out.hd hN hlo sa sb id hsa hsb).mono ?_; rintro e w2 ⟨rfl, vo', hd2, hv2, hk2, hl2⟩; have HF := Aside0.mk (H.out.dir hd2 hk2); have HTF := Aside0.mk (HT.out.trans (KT.dir H.out hk2)); have HLF := Aside0.mk (HL.out.trans hl2); clear hd2 hv2 hk2 hl2))
    go_ret
    exact ⟨rfl, ⟨_, HF.out⟩, HTF.out, HLF.out⟩
  · go_enter Try.func80, Try.ntmps80
    go_wp2_with (first | (go_at_call 103; refine HCH.out.mono ?_; rintro e w1 ⟨rfl, hk1, ht1, hl1⟩; have H := Aside0.mk hk1; have HT := Aside0.mk ht1; have HL := Aside0.mk hl1; have s0 := (blk_cell hk1.hb 0).trans (rfl : _ = some (Value.pointer (some ⟨gd, 0, none⟩))); clear hk1 ht1 hl1 HCH))
    go_ret
    exact ⟨rfl, ⟨_, H.out.mono⟩, HT.out, HL.out⟩
set_option maxHeartbeats 1000000 in
theorem kunlink_any (b : Nat) (y : Nat → Prop) (g gd mn ms : Nat) (vo : Value) (N : Nat) (now safe : List DN) (ops : List DOp) (mf M : Nat) (fl : List FR) (next room fuse : Int) (armed dead : Bool) (w : World) (h : DK w b y g gd mn ms vo N now safe ops mf M fl next room fuse armed dead) (h0 : 0 ≤ fuse) (h1 : fuse ≤ 9223372036854775807) (hN : N < 1000000) (hlo : ops.length ≤ 100000) (sa sb : ByteArray) (id : Int) (hsa : sa.size ≤ maxLen) :
    Calls Try.prog 81 #[.pointer (some ⟨g, 0, none⟩), .string sa] w fun e w' => e = .returned (.int .i64 (if (chg fuse armed dead).1 = 0 then doCode now ⟨2, sa, sb, id⟩ else (chg fuse armed dead).1)) ∧ (∃ vo', DK w' b y g gd mn ms vo' (N + 1) (if (chg fuse armed dead).1 = 0 then doNow now ⟨2, sa, sb, id⟩ else now) safe (if (chg fuse armed dead).1 = 0 then doOpsI now ops ⟨2, sa, sb, id⟩ else ops) mf M fl next room (chg fuse armed dead).2.1 armed (chg fuse armed dead).2.2) ∧ KT w w' ∧ Below b w w' := by
  obtain ⟨cd, hcd⟩ : ∃ x, x = (chg fuse armed dead).1 := ⟨_, rfl⟩
  obtain ⟨fu, hfu⟩ : ∃ x, x = (chg fuse armed dead).2.1 := ⟨_, rfl⟩
  obtain ⟨de, hde⟩ : ∃ x, x = (chg fuse armed dead).2.2 := ⟨_, rfl⟩
  have HCH := Aside0.mk (change_kt b y g gd mn ms vo N now safe ops mf M fl next room fuse armed dead w h h0 h1)
  rw [← hcd, ← hfu, ← hde] at HCH
  rw [← hcd, ← hfu, ← hde]
  clear h hcd hfu hde
  by_cases hc : cd = 0
  · subst hc
    simp only [if_true]
    go_enter Try.func81, Try.ntmps81
    go_wp2_with (first | (go_at_call 103; refine HCH.out.mono ?_; rintro e w1 ⟨rfl, hk1, ht1, hl1⟩; have H := Aside0.mk hk1; have HT := Aside0.mk ht1; have HL := Aside0.mk hl1; have s0 := (blk_cell hk1.hb 0).trans (rfl : _ = some (Value.pointer (some ⟨gd, 0, none⟩))); clear hk1 ht1 hl1 HCH) | (go_at_call 58; refine (dunlink_any b gd mn ms N vo now safe ops _ H.out.hd hN hlo 2 (by decide) (by decide) sa sb id hsa).mono ?_; rintro e w2 ⟨rfl, vo', hd2, hv2, hk2, hl2⟩; have HF := Aside0.mk (H.out.dir hd2 hk2); have HTF := Aside0.mk (HT.out.trans (KT.dir H.out hk2)); have HLF := Aside0.mk (HL.out.trans hl2); clear hd2 hv2 hk2 hl2))
    go_ret
    exact ⟨rfl, ⟨_, HF.out⟩, HTF.out, HLF.out⟩
  · go_enter Try.func81, Try.ntmps81
    go_wp2_with (first | (go_at_call 103; refine HCH.out.mono ?_; rintro e w1 ⟨rfl, hk1, ht1, hl1⟩; have H := Aside0.mk hk1; have HT := Aside0.mk ht1; have HL := Aside0.mk hl1; have s0 := (blk_cell hk1.hb 0).trans (rfl : _ = some (Value.pointer (some ⟨gd, 0, none⟩))); clear hk1 ht1 hl1 HCH))
    go_ret
    exact ⟨rfl, ⟨_, H.out.mono⟩, HT.out, HL.out⟩
/-- The safe names are turned too. -/
theorem DK.dirS {W W1 : World} {b g gd mn ms ms' N N' mf M : Nat} {y : Nat → Prop} {vo vo' : Value} {now now' safe safe' : List DN} {ops ops' : List DOp} {fl : List FR} {next room fuse : Int} {armed dead : Bool} (h : DK W b y g gd mn ms vo N now safe ops mf M fl next room fuse armed dead) (hd : DI W1 b gd mn ms' vo' N' now' safe' ops') (hk : KeepBut W W1 gd none) (hne : mf ≠ ms') : DK W1 b y g gd mn ms' vo' N' now' safe' ops' mf M fl next room fuse armed dead := by
  have hty : ∀ (k : Nat) (cs : Array Value) (T : TypeId), T ≠ 88 → W.heap[k]? = some (.cells cs T (0, 0)) → W1.heap[k]? = W.heap[k]? := fun k cs T h1 hkk => hk.2 k (blk_lt hkk) (blk_ne hkk h.hd.hb h1) (by simp)
  refine ⟨(hty g _ _ (by decide) h.hb).trans h.hb, hd, h.hm.move (hk.2 mf h.hm.lt (h.hm.ne h.hd.hb) (by simp)), ⟨fun p hp => ?_, h.hf.ap, fun k hkk => h.hf.hy k (Nat.le_trans hk.1 hkk)⟩, h.hg, h.hmf, h.n1, hne⟩
  have hp1 := h.hf.hf p hp
  exact hp1.move (hty p.g _ _ (by decide) hp1.hb) (fun k hx _ ⟨cs, T, hT, hc⟩ => ⟨hty k cs T (by rcases hT with rfl | rfl <;> decide) hc, hx⟩)
set_option maxHeartbeats 1000000 in
theorem ksyncdir_any (b : Nat) (y : Nat → Prop) (g gd mn ms : Nat) (vo : Value) (N : Nat) (now safe : List DN) (ops : List DOp) (mf M : Nat) (fl : List FR) (next room fuse : Int) (armed dead : Bool) (w : World) (h : DK w b y g gd mn ms vo N now safe ops mf M fl next room fuse armed dead) (h0 : 0 ≤ fuse) (h1 : fuse ≤ 9223372036854775807) :
    Calls Try.prog 79 #[.pointer (some ⟨g, 0, none⟩)] w fun e w' => e = .returned (.int .i64 (chg fuse armed dead).1) ∧ (∃ ms' vo', DK w' b y g gd mn ms' vo' N now (if (chg fuse armed dead).1 = 0 then now else safe) (if (chg fuse armed dead).1 = 0 then [] else ops) mf M fl next room (chg fuse armed dead).2.1 armed (chg fuse armed dead).2.2) ∧ KT w w' ∧ Below b w w' := by
  obtain ⟨cd, hcd⟩ : ∃ x, x = (chg fuse armed dead).1 := ⟨_, rfl⟩
  obtain ⟨fu, hfu⟩ : ∃ x, x = (chg fuse armed dead).2.1 := ⟨_, rfl⟩
  obtain ⟨de, hde⟩ : ∃ x, x = (chg fuse armed dead).2.2 := ⟨_, rfl⟩
  have HCH := Aside0.mk (change_kt b y g gd mn ms vo N now safe ops mf M fl next room fuse armed dead w h h0 h1)
  rw [← hcd, ← hfu, ← hde] at HCH
  rw [← hcd, ← hfu, ← hde]
  clear h hcd hfu hde
  by_cases hc : cd = 0
  · subst hc
    simp only [if_true]
    go_enter Try.func79, Try.ntmps79
    go_wp2_with (first | (go_at_call 103; refine HCH.out.mono ?_; rintro e w1 ⟨rfl, hk1, ht1, hl1⟩; have H := Aside0.mk hk1; have HT := Aside0.mk ht1; have HL := Aside0.mk hl1; have s0 := (blk_cell hk1.hb 0).trans (rfl : _ = some (Value.pointer (some ⟨gd, 0, none⟩))); clear hk1 ht1 hl1 HCH) | (go_at_call 47; refine (dsync_any b gd mn ms N vo now safe ops _ H.out.hd).mono ?_; rintro e w2 ⟨rfl, hd2, hk2, hl2⟩; have HF := Aside0.mk (H.out.dirS hd2 hk2 (Nat.ne_of_lt H.out.hm.lt)); have HTF := Aside0.mk (HT.out.trans (KT.dir H.out (Keep3.of_but hk2))); have HLF := Aside0.mk (HL.out.trans hl2); clear hd2 hk2 hl2))
    go_ret
    exact ⟨rfl, ⟨_, _, HF.out⟩, HTF.out, HLF.out⟩
  · go_enter Try.func79, Try.ntmps79
    go_wp2_with (first | (go_at_call 103; refine HCH.out.mono ?_; rintro e w1 ⟨rfl, hk1, ht1, hl1⟩; have H := Aside0.mk hk1; have HT := Aside0.mk ht1; have HL := Aside0.mk hl1; have s0 := (blk_cell hk1.hb 0).trans (rfl : _ = some (Value.pointer (some ⟨gd, 0, none⟩))); clear hk1 ht1 hl1 HCH))
    go_ret
    exact ⟨rfl, ⟨_, _, H.out⟩, HT.out, HL.out⟩
end Go.Proofs.Ytpnbjpkdbiiogaa
/- The disk: Size, Read, Truncate, Sync, Write, Create: all that they may tell. -/
namespace Go.Proofs.Ytpnbjpkdbiiogaa
set_option linter.unusedVariables false
open Go.RowKit Go.Maps Go.Proofs.YtpnbjpkdbiiogaaW.PrintWords
attribute [local go_sem] mx2 mn2 mxTwo mnTwo

theorem kcreate_dead (b : Nat) (y : Nat → Prop) (g gd mn ms : Nat) (vo : Value) (N : Nat) (now safe : List DN) (ops : List DOp) (mf M : Nat) (fl : List FR) (next room fuse : Int) (armed dead : Bool) (w : World) (h : DK w b y g gd mn ms vo N now safe ops mf M fl next room fuse armed dead) (h0 : 0 ≤ fuse) (h1 : fuse ≤ 9223372036854775807) (hc : (chg fuse armed dead).1 ≠ 0) (s : ByteArray) : Calls Try.prog 62 #[.pointer (some ⟨g, 0, none⟩), .string s] w fun e w' => e = .returned (.int .i64 (chg fuse armed dead).1) ∧ DK w' b y g gd mn ms vo N now safe ops mf M fl next room (chg fuse armed dead).2.1 armed (chg fuse armed dead).2.2 ∧ KT w w' ∧ Below b w w' := by
  obtain ⟨cd, hcd⟩ : ∃ x, x = (chg fuse armed dead).1 := ⟨_, rfl⟩
  rw [← hcd]
  obtain ⟨fu, hfu⟩ : ∃ x, x = (chg fuse armed dead).2.1 := ⟨_, rfl⟩
  obtain ⟨de, hde⟩ : ∃ x, x = (chg fuse armed dead).2.2 := ⟨_, rfl⟩
  have HCH := Aside0.mk (change_kt b y g gd mn ms vo N now safe ops mf M fl next room fuse armed dead w h h0 h1)
  rw [← hcd, ← hfu, ← hde] at HCH
  rw [← hfu, ← hde]
  rw [← hcd] at hc
  clear hcd hfu hde
  clear h
  go_enter Try.func62, Try.ntmps62
  go_wp2_with (first | (go_at_call 103; refine HCH.out.mono ?_; rintro e w1 ⟨rfl, hk1, ht1, hl1⟩; have H := Aside0.mk hk1; have HT := Aside0.mk ht1; have HL := Aside0.mk hl1; have s0 := (blk_cell hk1.hb 0).trans (rfl : _ = some (Value.pointer (some ⟨gd, 0, none⟩))); clear hk1 ht1 hl1 HCH))
  go_ret
  exact ⟨rfl, H.out, HT.out, HL.out⟩
theorem kwrite_dead (b : Nat) (y : Nat → Prop) (g gd mn ms : Nat) (vo : Value) (N : Nat) (now safe : List DN) (ops : List DOp) (mf M : Nat) (fl : List FR) (next room fuse : Int) (armed dead : Bool) (w : World) (h : DK w b y g gd mn ms vo N now safe ops mf M fl next room fuse armed dead) (h0 : 0 ≤ fuse) (h1 : fuse ≤ 9223372036854775807) (hc : (chg fuse armed dead).1 ≠ 0) (s : ByteArray) (k : Int) (A : Option Addr) (n c : Nat) : Calls Try.prog 68 #[.pointer (some ⟨g, 0, none⟩), .string s, .int .i64 k, .slice A n c] w fun e w' => e = .returned (.int .i64 (chg fuse armed dead).1) ∧ DK w' b y g gd mn ms vo N now safe ops mf M fl next room (chg fuse armed dead).2.1 armed (chg fuse armed dead).2.2 ∧ KT w w' ∧ Below b w w' := by
  obtain ⟨cd, hcd⟩ : ∃ x, x = (chg fuse armed dead).1 := ⟨_, rfl⟩
  rw [← hcd]
  obtain ⟨fu, hfu⟩ : ∃ x, x = (chg fuse armed dead).2.1 := ⟨_, rfl⟩
  obtain ⟨de, hde⟩ : ∃ x, x = (chg fuse armed dead).2.2 := ⟨_, rfl⟩
  have HCH := Aside0.mk (change_kt b y g gd mn ms vo N now safe ops mf M fl next room fuse armed dead w h h0 h1)
  rw [← hcd, ← hfu, ← hde] at HCH
  rw [← hfu, ← hde]
  rw [← hcd] at hc
  clear hcd hfu hde
  clear h
  go_enter Try.func68, Try.ntmps68
  go_wp2_with (first | (go_at_call 103; refine HCH.out.mono ?_; rintro e w1 ⟨rfl, hk1, ht1, hl1⟩; have H := Aside0.mk hk1; have HT := Aside0.mk ht1; have HL := Aside0.mk hl1; have s0 := (blk_cell hk1.hb 0).trans (rfl : _ = some (Value.pointer (some ⟨gd, 0, none⟩))); clear hk1 ht1 hl1 HCH))
  go_ret
  exact ⟨rfl, H.out, HT.out, HL.out⟩
theorem ktrunc_dead (b : Nat) (y : Nat → Prop) (g gd mn ms : Nat) (vo : Value) (N : Nat) (now safe : List DN) (ops : List DOp) (mf M : Nat) (fl : List FR) (next room fuse : Int) (armed dead : Bool) (w : World) (h : DK w b y g gd mn ms vo N now safe ops mf M fl next room fuse armed dead) (h0 : 0 ≤ fuse) (h1 : fuse ≤ 9223372036854775807) (hc : (chg fuse armed dead).1 ≠ 0) (s : ByteArray) (k : Int) : Calls Try.prog 77 #[.pointer (some ⟨g, 0, none⟩), .string s, .int .i64 k] w fun e w' => e = .returned (.int .i64 (chg fuse armed dead).1) ∧ DK w' b y g gd mn ms vo N now safe ops mf M fl next room (chg fuse armed dead).2.1 armed (chg fuse armed dead).2.2 ∧ KT w w' ∧ Below b w w' := by
  obtain ⟨cd, hcd⟩ : ∃ x, x = (chg fuse armed dead).1 := ⟨_, rfl⟩
  rw [← hcd]
  obtain ⟨fu, hfu⟩ : ∃ x, x = (chg fuse armed dead).2.1 := ⟨_, rfl⟩
  obtain ⟨de, hde⟩ : ∃ x, x = (chg fuse armed dead).2.2 := ⟨_, rfl⟩
  have HCH := Aside0.mk (change_kt b y g gd mn ms vo N now safe ops mf M fl next room fuse armed dead w h h0 h1)
  rw [← hcd, ← hfu, ← hde] at HCH
  rw [← hfu, ← hde]
  rw [← hcd] at hc
  clear hcd hfu hde
  clear h
  go_enter Try.func77, Try.ntmps77
  go_wp2_with (first | (go_at_call 103; refine HCH.out.mono ?_; rintro e w1 ⟨rfl, hk1, ht1, hl1⟩; have H := Aside0.mk hk1; have HT := Aside0.mk ht1; have HL := Aside0.mk hl1; have s0 := (blk_cell hk1.hb 0).trans (rfl : _ = some (Value.pointer (some ⟨gd, 0, none⟩))); clear hk1 ht1 hl1 HCH))
  go_ret
  exact ⟨rfl, H.out, HT.out, HL.out⟩
theorem ksync_dead (b : Nat) (y : Nat → Prop) (g gd mn ms : Nat) (vo : Value) (N : Nat) (now safe : List DN) (ops : List DOp) (mf M : Nat) (fl : List FR) (next room fuse : Int) (armed dead : Bool) (w : World) (h : DK w b y g gd mn ms vo N now safe ops mf M fl next room fuse armed dead) (h0 : 0 ≤ fuse) (h1 : fuse ≤ 9223372036854775807) (hc : (chg fuse armed dead).1 ≠ 0) (s : ByteArray) : Calls Try.prog 78 #[.pointer (some ⟨g, 0, none⟩), .string s] w fun e w' => e = .returned (.int .i64 (chg fuse armed dead).1) ∧ DK w' b y g gd mn ms vo N now safe ops mf M fl next room (chg fuse armed dead).2.1 armed (chg fuse armed dead).2.2 ∧ KT w w' ∧ Below b w w' := by
  obtain ⟨cd, hcd⟩ : ∃ x, x = (chg fuse armed dead).1 := ⟨_, rfl⟩
  rw [← hcd]
  obtain ⟨fu, hfu⟩ : ∃ x, x = (chg fuse armed dead).2.1 := ⟨_, rfl⟩
  obtain ⟨de, hde⟩ : ∃ x, x = (chg fuse armed dead).2.2 := ⟨_, rfl⟩
  have HCH := Aside0.mk (change_kt b y g gd mn ms vo N now safe ops mf M fl next room fuse armed dead w h h0 h1)
  rw [← hcd, ← hfu, ← hde] at HCH
  rw [← hfu, ← hde]
  rw [← hcd] at hc
  clear hcd hfu hde
  clear h
  go_enter Try.func78, Try.ntmps78
  go_wp2_with (first | (go_at_call 103; refine HCH.out.mono ?_; rintro e w1 ⟨rfl, hk1, ht1, hl1⟩; have H := Aside0.mk hk1; have HT := Aside0.mk ht1; have HL := Aside0.mk hl1; have s0 := (blk_cell hk1.hb 0).trans (rfl : _ = some (Value.pointer (some ⟨gd, 0, none⟩))); clear hk1 ht1 hl1 HCH))
  go_ret
  exact ⟨rfl, H.out, HT.out, HL.out⟩
theorem kwrite_none (b : Nat) (y : Nat → Prop) (g gd mn ms : Nat) (vo : Value) (N : Nat) (now safe : List DN) (ops : List DOp) (mf M : Nat) (fl : List FR) (next room fuse : Int) (armed dead : Bool) (w : World) (h : DK w b y g gd mn ms vo N now safe ops mf M fl next room fuse armed dead) (h0 : 0 ≤ fuse) (h1 : fuse ≤ 9223372036854775807) (hc : (chg fuse armed dead).1 = 0) (s : ByteArray) (hs : s.size ≤ maxLen) (hn : getN now s = none) (k : Int) (A : Option Addr) (n c : Nat) : Calls Try.prog 68 #[.pointer (some ⟨g, 0, none⟩), .string s, .int .i64 k, .slice A n c] w fun e w' => e = .returned (.int .i64 6) ∧ DK w' b y g gd mn ms vo N now safe ops mf M fl next room (chg fuse armed dead).2.1 armed (chg fuse armed dead).2.2 ∧ KT w w' ∧ Below b w w' := by
  have HOF := Aside0.mk (fun W (fuse : Int) (armed dead : Bool) (hW : DK W b y g gd mn ms vo N now safe ops mf M fl next room fuse armed dead) => of_none b y g gd mn ms vo N now safe ops mf M fl next room fuse armed dead W hW s hs hn)
  obtain ⟨cd, hcd⟩ : ∃ x, x = (chg fuse armed dead).1 := ⟨_, rfl⟩
  obtain ⟨fu, hfu⟩ : ∃ x, x = (chg fuse armed dead).2.1 := ⟨_, rfl⟩
  obtain ⟨de, hde⟩ : ∃ x, x = (chg fuse armed dead).2.2 := ⟨_, rfl⟩
  have HCH := Aside0.mk (change_kt b y g gd mn ms vo N now safe ops mf M fl next room fuse armed dead w h h0 h1)
  rw [← hcd, ← hfu, ← hde] at HCH
  rw [← hfu, ← hde]
  rw [← hcd] at hc
  clear hcd hfu hde
  subst hc
  clear h hn
  go_enter Try.func68, Try.ntmps68
  go_wp2_with (first | (go_at_call 103; refine HCH.out.mono ?_; rintro e w1 ⟨rfl, hk1, ht1, hl1⟩; have H := Aside0.mk hk1; have HT := Aside0.mk ht1; have HL := Aside0.mk hl1; have s0 := (blk_cell hk1.hb 0).trans (rfl : _ = some (Value.pointer (some ⟨gd, 0, none⟩))); clear hk1 ht1 hl1 HCH) | (go_at_call 105; refine (HOF.out _ _ _ _ H.out).mono ?_; rintro e w2 ⟨rfl, rfl⟩; clear HOF))
  go_ret
  exact ⟨rfl, H.out, HT.out, HL.out⟩
theorem ktrunc_none (b : Nat) (y : Nat → Prop) (g gd mn ms : Nat) (vo : Value) (N : Nat) (now safe : List DN) (ops : List DOp) (mf M : Nat) (fl : List FR) (next room fuse : Int) (armed dead : Bool) (w : World) (h : DK w b y g gd mn ms vo N now safe ops mf M fl next room fuse armed dead) (h0 : 0 ≤ fuse) (h1 : fuse ≤ 9223372036854775807) (hc : (chg fuse armed dead).1 = 0) (s : ByteArray) (hs : s.size ≤ maxLen) (hn : getN now s = none) (k : Int) : Calls Try.prog 77 #[.pointer (some ⟨g, 0, none⟩), .string s, .int .i64 k] w fun e w' => e = .returned (.int .i64 6) ∧ DK w' b y g gd mn ms vo N now safe ops mf M fl next room (chg fuse armed dead).2.1 armed (chg fuse armed dead).2.2 ∧ KT w w' ∧ Below b w w' := by
  have HOF := Aside0.mk (fun W (fuse : Int) (armed dead : Bool) (hW : DK W b y g gd mn ms vo N now safe ops mf M fl next room fuse armed dead) => of_none b y g gd mn ms vo N now safe ops mf M fl next room fuse armed dead W hW s hs hn)
  obtain ⟨cd, hcd⟩ : ∃ x, x = (chg fuse armed dead).1 := ⟨_, rfl⟩
  obtain ⟨fu, hfu⟩ : ∃ x, x = (chg fuse armed dead).2.1 := ⟨_, rfl⟩
  obtain ⟨de, hde⟩ : ∃ x, x = (chg fuse armed dead).2.2 := ⟨_, rfl⟩
  have HCH := Aside0.mk (change_kt b y g gd mn ms vo N now safe ops mf M fl next room fuse armed dead w h h0 h1)
  rw [← hcd, ← hfu, ← hde] at HCH
  rw [← hfu, ← hde]
  rw [← hcd] at hc
  clear hcd hfu hde
  subst hc
  clear h hn
  go_enter Try.func77, Try.ntmps77
  go_wp2_with (first | (go_at_call 103; refine HCH.out.mono ?_; rintro e w1 ⟨rfl, hk1, ht1, hl1⟩; have H := Aside0.mk hk1; have HT := Aside0.mk ht1; have HL := Aside0.mk hl1; have s0 := (blk_cell hk1.hb 0).trans (rfl : _ = some (Value.pointer (some ⟨gd, 0, none⟩))); clear hk1 ht1 hl1 HCH) | (go_at_call 105; refine (HOF.out _ _ _ _ H.out).mono ?_; rintro e w2 ⟨rfl, rfl⟩; clear HOF))
  go_ret
  exact ⟨rfl, H.out, HT.out, HL.out⟩
theorem ksync_none (b : Nat) (y : Nat → Prop) (g gd mn ms : Nat) (vo : Value) (N : Nat) (now safe : List DN) (ops : List DOp) (mf M : Nat) (fl : List FR) (next room fuse : Int) (armed dead : Bool) (w : World) (h : DK w b y g gd mn ms vo N now safe ops mf M fl next room fuse armed dead) (h0 : 0 ≤ fuse) (h1 : fuse ≤ 9223372036854775807) (hc : (chg fuse armed dead).1 = 0) (s : ByteArray) (hs : s.size ≤ maxLen) (hn : getN now s = none) : Calls Try.prog 78 #[.pointer (some ⟨g, 0, none⟩), .string s] w fun e w' => e = .returned (.int .i64 6) ∧ DK w' b y g gd mn ms vo N now safe ops mf M fl next room (chg fuse armed dead).2.1 armed (chg fuse armed dead).2.2 ∧ KT w w' ∧ Below b w w' := by
  have HOF := Aside0.mk (fun W (fuse : Int) (armed dead : Bool) (hW : DK W b y g gd mn ms vo N now safe ops mf M fl next room fuse armed dead) => of_none b y g gd mn ms vo N now safe ops mf M fl next room fuse armed dead W hW s hs hn)
  obtain ⟨cd, hcd⟩ : ∃ x, x = (chg fuse armed dead).1 := ⟨_, rfl⟩
  obtain ⟨fu, hfu⟩ : ∃ x, x = (chg fuse armed dead).2.1 := ⟨_, rfl⟩
  obtain ⟨de, hde⟩ : ∃ x, x = (chg fuse armed dead).2.2 := ⟨_, rfl⟩
  have HCH := Aside0.mk (change_kt b y g gd mn ms vo N now safe ops mf M fl next room fuse armed dead w h h0 h1)
  rw [← hcd, ← hfu, ← hde] at HCH
  rw [← hfu, ← hde]
  rw [← hcd] at hc
  clear hcd hfu hde
  subst hc
  clear h hn
  go_enter Try.func78, Try.ntmps78
  go_wp2_with (first | (go_at_call 103; refine HCH.out.mono ?_; rintro e w1 ⟨rfl, hk1, ht1, hl1⟩; have H := Aside0.mk hk1; have HT := Aside0.mk ht1; have HL := Aside0.mk hl1; have s0 := (blk_cell hk1.hb 0).trans (rfl : _ = some (Value.pointer (some ⟨gd, 0, none⟩))); clear hk1 ht1 hl1 HCH) | (go_at_call 105; refine (HOF.out _ _ _ _ H.out).mono ?_; rintro e w2 ⟨rfl, rfl⟩; clear HOF))
  go_ret
  exact ⟨rfl, H.out, HT.out, HL.out⟩
/-! A file is there. -/
theorem kwrite_bad (b : Nat) (y : Nat → Prop) (g gd mn ms : Nat) (vo : Value) (N : Nat) (now safe : List DN) (ops : List DOp) (mf M : Nat) (fl : List FR) (next room fuse : Int) (armed dead : Bool) (w : World) (h : DK w b y g gd mn ms vo N now safe ops mf M fl next room fuse armed dead) (h0 : 0 ≤ fuse) (h1 : fuse ≤ 9223372036854775807) (hc : (chg fuse armed dead).1 = 0) (s : ByteArray) (hs : s.size ≤ maxLen) (id : Int) (hi0 : 0 ≤ id) (hi1 : id ≤ 1000000) (p : FR) (hn : getN now s = some id) (hp : fileAt fl id = some p) (k : Int) (A : Option Addr) (n c : Nat) (hn63 : n ≤ 9223372036854775807) (hbad : k < 0 ∨ 0 ≤ k ∧ 1048576 < k ∨ 0 ≤ k ∧ k ≤ 1048576 ∧ 1048576 - k < n) : Calls Try.prog 68 #[.pointer (some ⟨g, 0, none⟩), .string s, .int .i64 k, .slice A n c] w fun e w' => e = .returned (.int .i64 1) ∧ DK w' b y g gd mn ms vo N now safe ops mf M fl next room (chg fuse armed dead).2.1 armed (chg fuse armed dead).2.2 ∧ KT w w' ∧ Below b w w' := by
  have hpm := (fileAt_mem hp).1
  have HPM := Aside0.mk hpm
  have HOF := Aside0.mk (fun W (fuse : Int) (armed dead : Bool) (hW : DK W b y g gd mn ms vo N now safe ops mf M fl next room fuse armed dead) => of_some b y g gd mn ms vo N now safe ops mf M fl next room fuse armed dead W hW s hs id hi0 hi1 p hn hp)
  obtain ⟨cd, hcd⟩ : ∃ x, x = (chg fuse armed dead).1 := ⟨_, rfl⟩
  obtain ⟨fu, hfu⟩ : ∃ x, x = (chg fuse armed dead).2.1 := ⟨_, rfl⟩
  obtain ⟨de, hde⟩ : ∃ x, x = (chg fuse armed dead).2.2 := ⟨_, rfl⟩
  have HCH := Aside0.mk (change_kt b y g gd mn ms vo N now safe ops mf M fl next room fuse armed dead w h h0 h1)
  rw [← hcd, ← hfu, ← hde] at HCH
  rw [← hfu, ← hde]
  rw [← hcd] at hc
  clear hcd hfu hde
  subst hc
  have hbw : b ≤ w.heap.size := Nat.le_trans h.hg (Nat.le_of_lt (blk_lt h.hb))
  clear h hn hp hpm
  rcases hbad with hb | ⟨hb1, hb2⟩ | ⟨hb1, hb2, hb3⟩
  all_goals
    go_enter Try.func68, Try.ntmps68
    go_wp2_with (first | (go_at_call 103; refine HCH.out.mono ?_; rintro e w1 ⟨rfl, hk1, ht1, hl1⟩; have H := Aside0.mk hk1; have HT := Aside0.mk ht1; have HL := Aside0.mk hl1; have s0 := (blk_cell hk1.hb 0).trans (rfl : _ = some (Value.pointer (some ⟨gd, 0, none⟩))); clear hk1 ht1 hl1 HCH) | (go_at_call 105; refine (HOF.out _ _ _ _ H.out).mono ?_; rintro e w2 ⟨rfl, rfl⟩; clear HOF))
    go_ret
    exact ⟨rfl, H.out, HT.out, HL.out⟩
theorem ktrunc_bad (b : Nat) (y : Nat → Prop) (g gd mn ms : Nat) (vo : Value) (N : Nat) (now safe : List DN) (ops : List DOp) (mf M : Nat) (fl : List FR) (next room fuse : Int) (armed dead : Bool) (w : World) (h : DK w b y g gd mn ms vo N now safe ops mf M fl next room fuse armed dead) (h0 : 0 ≤ fuse) (h1 : fuse ≤ 9223372036854775807) (hc : (chg fuse armed dead).1 = 0) (s : ByteArray) (hs : s.size ≤ maxLen) (id : Int) (hi0 : 0 ≤ id) (hi1 : id ≤ 1000000) (p : FR) (hn : getN now s = some id) (hp : fileAt fl id = some p) (k : Int) (hbad : k < 0 ∨ 0 ≤ k ∧ 1048576 < k) : Calls Try.prog 77 #[.pointer (some ⟨g, 0, none⟩), .string s, .int .i64 k] w fun e w' => e = .returned (.int .i64 1) ∧ DK w' b y g gd mn ms vo N now safe ops mf M fl next room (chg fuse armed dead).2.1 armed (chg fuse armed dead).2.2 ∧ KT w w' ∧ Below b w w' := by
  have hpm := (fileAt_mem hp).1
  have HPM := Aside0.mk hpm
  have HOF := Aside0.mk (fun W (fuse : Int) (armed dead : Bool) (hW : DK W b y g gd mn ms vo N now safe ops mf M fl next room fuse armed dead) => of_some b y g gd mn ms vo N now safe ops mf M fl next room fuse armed dead W hW s hs id hi0 hi1 p hn hp)
  obtain ⟨cd, hcd⟩ : ∃ x, x = (chg fuse armed dead).1 := ⟨_, rfl⟩
  obtain ⟨fu, hfu⟩ : ∃ x, x = (chg fuse armed dead).2.1 := ⟨_, rfl⟩
  obtain ⟨de, hde⟩ : ∃ x, x = (chg fuse armed dead).2.2 := ⟨_, rfl⟩
  have HCH := Aside0.mk (change_kt b y g gd mn ms vo N now safe ops mf M fl next room fuse armed dead w h h0 h1)
  rw [← hcd, ← hfu, ← hde] at HCH
  rw [← hfu, ← hde]
  rw [← hcd] at hc
  clear hcd hfu hde
  subst hc
  have hbw : b ≤ w.heap.size := Nat.le_trans h.hg (Nat.le_of_lt (blk_lt h.hb))
  clear h hn hp hpm
  rcases hbad with hb | ⟨hb1, hb2⟩
  all_goals
    go_enter Try.func77, Try.ntmps77
    go_wp2_with (first | (go_at_call 103; refine HCH.out.mono ?_; rintro e w1 ⟨rfl, hk1, ht1, hl1⟩; have H := Aside0.mk hk1; have HT := Aside0.mk ht1; have HL := Aside0.mk hl1; have s0 := (blk_cell hk1.hb 0).trans (rfl : _ = some (Value.pointer (some ⟨gd, 0, none⟩))); clear hk1 ht1 hl1 HCH) | (go_at_call 105; refine (HOF.out _ _ _ _ H.out).mono ?_; rintro e w2 ⟨rfl, rfl⟩; clear HOF))
    go_ret
    exact ⟨rfl, H.out, HT.out, HL.out⟩
set_option maxHeartbeats 1000000 in
theorem ksync_ok (b : Nat) (y : Nat → Prop) (g gd mn ms : Nat) (vo : Value) (N : Nat) (now safe : List DN) (ops : List DOp) (mf M : Nat) (fl : List FR) (next room fuse : Int) (armed dead : Bool) (w : World) (h : DK w b y g gd mn ms vo N now safe ops mf M fl next room fuse armed dead) (h0 : 0 ≤ fuse) (h1 : fuse ≤ 9223372036854775807) (hc : (chg fuse armed dead).1 = 0) (s : ByteArray) (hs : s.size ≤ maxLen) (id : Int) (hi0 : 0 ≤ id) (hi1 : id ≤ 1000000) (p : FR) (hn : getN now s = some id) (hp : fileAt fl id = some p) (hl : p.now.length ≤ 1048576) : Calls Try.prog 78 #[.pointer (some ⟨g, 0, none⟩), .string s] w fun e w' => e = .returned (.int .i64 0) ∧ (∃ vs', DK w' b y g gd mn ms vo N now safe ops mf M (setFile fl ⟨p.id, p.g, p.vn, vs', .slice none 0 0, p.now, p.now, []⟩) next room (chg fuse armed dead).2.1 armed (chg fuse armed dead).2.2) ∧ KT w w' ∧ Below b w w' := by
  have hpm := (fileAt_mem hp).1
  have HPM := Aside0.mk hpm
  have HOF := Aside0.mk (fun W (fuse : Int) (armed dead : Bool) (hW : DK W b y g gd mn ms vo N now safe ops mf M fl next room fuse armed dead) => of_some b y g gd mn ms vo N now safe ops mf M fl next room fuse armed dead W hW s hs id hi0 hi1 p hn hp)
  obtain ⟨cd, hcd⟩ : ∃ x, x = (chg fuse armed dead).1 := ⟨_, rfl⟩
  obtain ⟨fu, hfu⟩ : ∃ x, x = (chg fuse armed dead).2.1 := ⟨_, rfl⟩
  obtain ⟨de, hde⟩ : ∃ x, x = (chg fuse armed dead).2.2 := ⟨_, rfl⟩
  have HCH := Aside0.mk (change_kt b y g gd mn ms vo N now safe ops mf M fl next room fuse armed dead w h h0 h1)
  rw [← hcd, ← hfu, ← hde] at HCH
  rw [← hfu, ← hde]
  rw [← hcd] at hc
  clear hcd hfu hde
  subst hc
  have hbw : b ≤ w.heap.size := Nat.le_trans h.hg (Nat.le_of_lt (blk_lt h.hb))
  clear h hn hp hpm
  go_enter Try.func78, Try.ntmps78
  go_wp2_with (first | (go_at_call 103; refine HCH.out.mono ?_; rintro e w1 ⟨rfl, hk1, ht1, hl1⟩; have H := Aside0.mk hk1; have HT := Aside0.mk ht1; have HL := Aside0.mk hl1; have s0 := (blk_cell hk1.hb 0).trans (rfl : _ = some (Value.pointer (some ⟨gd, 0, none⟩))); clear hk1 ht1 hl1 HCH) | (go_at_call 105; refine (HOF.out _ _ _ _ H.out).mono ?_; rintro e w2 ⟨rfl, rfl⟩; clear HOF) | (go_at_call 38; refine (fsync_any b p.g (apx y fl p) p.vn p.vs p.vo p.now p.safe p.ops _ (H.out.hf.hf p HPM.out) (apx_fresh H.out.hf) (by omega)).mono ?_; rintro e w5 ⟨rfl, ⟨vs', hf5⟩, hk5', hl5⟩; have hk5 : KeepBut _ w5 p.g p.vo.ownBlock := ⟨hk5'.1, fun i hi hg _ => hk5'.2 i hi hg (by simp)⟩; have hfin := H.out.file HPM.out hk5 hf5 (by first | exact .inr (.inl rfl) | (rcases hv5 with e | ⟨j, e, hj⟩; exact .inl e; exact .inr (.inr ⟨j, e, hj⟩))); have HF := Aside0.mk hfin; have HTF := Aside0.mk (HT.out.trans (KT.file H.out HPM.out hk5)); have HLF := Aside0.mk (HL.out.trans hl5); clear hfin hf5 hk5 hk5' hl5))
  go_ret
  exact ⟨rfl, ⟨_, HF.out⟩, HTF.out, HLF.out⟩
end Go.Proofs.Ytpnbjpkdbiiogaa
/- The disk: Size, Read; Truncate, Write, Create as they go well or find no room. -/
namespace Go.Proofs.Ytpnbjpkdbiiogaa
set_option linter.unusedVariables false
open Go.RowKit Go.Maps Go.Proofs.YtpnbjpkdbiiogaaW.PrintWords
attribute [local go_sem] mx2 mn2 mxTwo mnTwo

/-- What Size tells. -/
def sizeK (now : List DN) (fl : List FR) (dead : Bool) (s : ByteArray) : Int × Int := if dead then (0, 26) else match getN now s with
  | none => (0, 6)
  | some id => (lenA fl id, 0)
theorem ksize_any (b : Nat) (y : Nat → Prop) (g gd mn ms : Nat) (vo : Value) (N : Nat) (now safe : List DN) (ops : List DOp) (mf M : Nat) (fl : List FR) (next room fuse : Int) (armed dead : Bool) (w : World) (h : DK w b y g gd mn ms vo N now safe ops mf M fl next room fuse armed dead) (hk : KG now fl) (s : ByteArray) (hs : s.size ≤ maxLen) : Calls Try.prog 76 #[.pointer (some ⟨g, 0, none⟩), .string s] w fun e w' => e = .returned (.tuple #[.int .i64 (sizeK now fl dead s).1, .int .i64 (sizeK now fl dead s).2]) ∧ w = w' := by
  have c6 := (blk_cell h.hb 6).trans (rfl : _ = some (Value.bool dead))
  have H := Aside0.mk h
  cases dead
  · cases hn : getN now s with
    | none =>
      have HK := Aside0.mk (show sizeK now fl false s = (0, 6) by unfold sizeK; rw [hn]; rfl)
      have HN := Aside0.mk hn
      clear h hk hn
      go_enter Try.func76, Try.ntmps76
      go_wp2_with (first
        | (go_at_call 105; refine (of_none b y g gd mn ms vo N now safe ops mf M fl next room fuse armed false _ H.out s hs HN.out).mono ?_; rintro e w2 ⟨rfl, rfl⟩)
        | (go_at_call 40; refine (flen_nil _).mono ?_; rintro e w3 ⟨rfl, hw⟩; subst hw))
      go_ret2
      rw [HK.out]
      exact ⟨rfl, rfl⟩
    | some id =>
      obtain ⟨hi0, hi1, p, hp⟩ := hk.id _ (getN_mem hn)
      have HK := Aside0.mk (show sizeK now fl false s = ((p.now.length : Int), 0) by unfold sizeK; rw [hn]; simp [lenA_some hp])
      have HN := Aside0.mk hn
      have HP := Aside0.mk hp
      have HF := Aside0.mk (h.hf.hf p (fileAt_mem hp).1)
      clear h hk hn hp
      go_enter Try.func76, Try.ntmps76
      go_wp2_with (first
        | (go_at_call 105; refine (of_some b y g gd mn ms vo N now safe ops mf M fl next room fuse armed false _ H.out s hs id hi0 hi1 p HN.out HP.out).mono ?_; rintro e w2 ⟨rfl, rfl⟩)
        | (go_at_call 40; refine (flen_any b p.g _ _ _ _ _ _ _ _ HF.out).mono ?_; rintro e w3 ⟨rfl, hw⟩; subst hw))
      go_ret2
      rw [HK.out]
      exact ⟨rfl, rfl⟩
  · have HK := Aside0.mk (show sizeK now fl true s = (0, 26) from rfl)
    clear h hk
    go_enter Try.func76, Try.ntmps76
    go_wp2
    go_ret2
    rw [HK.out]
    exact ⟨rfl, rfl⟩
/-- What Read tells. -/
def readK (now : List DN) (fl : List FR) (dead : Bool) (s : ByteArray) (k n : Int) : List Int × Int := if dead then ([], 26) else match getN now s with
  | none => ([], 6)
  | some id => (readL (((fileAt fl id).map (·.now)).getD []) k n, 0)
set_option maxHeartbeats 1000000 in
theorem kread_any (b : Nat) (y : Nat → Prop) (g gd mn ms : Nat) (vo : Value) (N : Nat) (now safe : List DN) (ops : List DOp) (mf M : Nat) (fl : List FR) (next room fuse : Int) (armed dead : Bool) (w : World) (h : DK w b y g gd mn ms vo N now safe ops mf M fl next room fuse armed dead) (hk : KG now fl) (s : ByteArray) (hs : s.size ≤ maxLen) (k n : Int) : Calls Try.prog 70 #[.pointer (some ⟨g, 0, none⟩), .string s, .int .i64 k, .int .i64 n] w fun e w' => ∃ A c, e = .returned (.tuple #[.slice A (readK now fl dead s k n).1.length c, .int .i64 (readK now fl dead s k n).2]) ∧ Kd.C (Kd.int .u8) w' A (readK now fl dead s k n).1.length (readK now fl dead s k n).1 ∧ Below w.heap.size w w' := by
  have c6 := (blk_cell h.hb 6).trans (rfl : _ = some (Value.bool dead))
  have H := Aside0.mk h
  cases dead
  · cases hn : getN now s with
    | none =>
      have HK := Aside0.mk (show readK now fl false s k n = ([], 6) by unfold readK; rw [hn]; rfl)
      have HN := Aside0.mk hn
      clear h hk hn
      go_enter Try.func70, Try.ntmps70
      go_wp2_with (first
        | (go_at_call 105; refine (of_none b y g gd mn ms vo N now safe ops mf M fl next room fuse armed false _ H.out s hs HN.out).mono ?_; rintro e w2 ⟨rfl, rfl⟩)
        | (go_at_call 37; refine (fread_nil _ _ _).mono ?_; rintro e w3 ⟨rfl, hw⟩; subst hw))
      go_ret2
      rw [HK.out]
      exact ⟨_, _, rfl, Kd.C_nil _ _, Below.refl _ _⟩
    | some id =>
      obtain ⟨hi0, hi1, p, hp⟩ := hk.id _ (getN_mem hn)
      have hpl := (hk.len p (fileAt_mem hp).1).1
      have HK := Aside0.mk (show readK now fl false s k n = (readL p.now k n, 0) by unfold readK; rw [hn]; simp [hp])
      have HN := Aside0.mk hn
      have HP := Aside0.mk hp
      have HF := Aside0.mk (h.hf.hf p (fileAt_mem hp).1)
      clear h hk hn hp
      go_enter Try.func70, Try.ntmps70
      go_wp2_with (first
        | (go_at_call 105; refine (of_some b y g gd mn ms vo N now safe ops mf M fl next room fuse armed false _ H.out s hs id hi0 hi1 p HN.out HP.out).mono ?_; rintro e w2 ⟨rfl, rfl⟩)
        | (go_at_call 37; refine (fread_any b p.g _ _ _ _ _ _ _ k n _ HF.out (by omega)).mono ?_; rintro e w3 ⟨A', c', rfl, hc, hb⟩; have HC := Aside0.mk hc; have HB := Aside0.mk hb; clear hc hb))
      go_ret2
      rw [HK.out]
      exact ⟨_, _, rfl, HC.out, HB.out⟩
  · have HK := Aside0.mk (show readK now fl true s k n = ([], 26) from rfl)
    clear h hk
    go_enter Try.func70, Try.ntmps70
    go_wp2
    go_ret2
    rw [HK.out]
    exact ⟨_, _, rfl, Kd.C_nil _ _, Below.refl _ _⟩
set_option maxHeartbeats 1000000 in
theorem ktrunc_space (b : Nat) (y : Nat → Prop) (g gd mn ms : Nat) (vo : Value) (N : Nat) (now safe : List DN) (ops : List DOp) (mf M : Nat) (fl : List FR) (next room fuse : Int) (armed dead : Bool) (w : World) (h : DK w b y g gd mn ms vo N now safe ops mf M fl next room fuse armed dead) (h0 : 0 ≤ fuse) (h1 : fuse ≤ 9223372036854775807) (hc : (chg fuse armed dead).1 = 0) (s : ByteArray) (hs : s.size ≤ maxLen) (id : Int) (hi0 : 0 ≤ id) (hi1 : id ≤ 1000000) (p : FR) (hn : getN now s = some id) (hp : fileAt fl id = some p) (hk : KG now fl) (hr : Rising now) (hN : N ≤ 1000000) (hln : now.length ≤ 100000) (hsz : ∀ p ∈ now, p.1.size ≤ maxLen) (hro : 0 ≤ room) (k : Nat) (hk1 : k ≤ 1048576) (hh : hasF fl now room p.now.length (k : Int) = false) : Calls Try.prog 77 #[.pointer (some ⟨g, 0, none⟩), .string s, .int .i64 (k : Int)] w fun e w' => e = .returned (.int .i64 20) ∧ DK w' b y g gd mn ms vo N now safe ops mf M fl next room (chg fuse armed dead).2.1 armed (chg fuse armed dead).2.2 ∧ KT w w' ∧ Below b w w' := by
  have HH := Aside0.mk hh
  clear hh
  have hpm0 := (fileAt_mem hp).1
  obtain ⟨hpl, hpo⟩ := hk.len p hpm0
  have HHAS := Aside0.mk (fun W (fuse : Int) (armed dead : Bool) (hW : DK W b y g gd mn ms vo N now safe ops mf M fl next room fuse armed dead) => has_any b y g gd mn ms vo N now safe ops mf M fl next room fuse armed dead W hW hk hr hN hln hsz p hpm0)
  clear hk hr hsz hpm0
  have hpm := (fileAt_mem hp).1
  have HPM := Aside0.mk hpm
  have HOF := Aside0.mk (fun W (fuse : Int) (armed dead : Bool) (hW : DK W b y g gd mn ms vo N now safe ops mf M fl next room fuse armed dead) => of_some b y g gd mn ms vo N now safe ops mf M fl next room fuse armed dead W hW s hs id hi0 hi1 p hn hp)
  obtain ⟨cd, hcd⟩ : ∃ x, x = (chg fuse armed dead).1 := ⟨_, rfl⟩
  obtain ⟨fu, hfu⟩ : ∃ x, x = (chg fuse armed dead).2.1 := ⟨_, rfl⟩
  obtain ⟨de, hde⟩ : ∃ x, x = (chg fuse armed dead).2.2 := ⟨_, rfl⟩
  have HCH := Aside0.mk (change_kt b y g gd mn ms vo N now safe ops mf M fl next room fuse armed dead w h h0 h1)
  rw [← hcd, ← hfu, ← hde] at HCH
  rw [← hfu, ← hde]
  rw [← hcd] at hc
  clear hcd hfu hde
  subst hc
  have hbw : b ≤ w.heap.size := Nat.le_trans h.hg (Nat.le_of_lt (blk_lt h.hb))
  clear h hn hp hpm
  go_enter Try.func77, Try.ntmps77
  go_wp2_with (first | (go_at_call 103; refine HCH.out.mono ?_; rintro e w1 ⟨rfl, hk1, ht1, hl1⟩; have H := Aside0.mk hk1; have HT := Aside0.mk ht1; have HL := Aside0.mk hl1; have s0 := (blk_cell hk1.hb 0).trans (rfl : _ = some (Value.pointer (some ⟨gd, 0, none⟩))); clear hk1 ht1 hl1 HCH) | (go_at_call 105; refine (HOF.out _ _ _ _ H.out).mono ?_; rintro e w2 ⟨rfl, rfl⟩; clear HOF) | (go_at_call 106; refine (HHAS.out _ _ _ _ H.out ((k : Int)) (by omega) hro).mono ?_; rw [HH.out]; rintro e w3 ⟨rfl, hb⟩; have h3 := H.out.below hb; have ht3 := HT.out.trans (KT.of_below hb); have hl3 := HL.out.trans (hb.mono (Nat.le_trans hbw HL.out.size)); clear H HL HT; have H := Aside0.mk h3; have HL := Aside0.mk hl3; have HT := Aside0.mk ht3; clear h3 hl3 ht3 hb))
  go_ret
  exact ⟨rfl, H.out, HT.out, HL.out⟩
set_option maxHeartbeats 1000000 in
theorem ktrunc_ok (b : Nat) (y : Nat → Prop) (g gd mn ms : Nat) (vo : Value) (N : Nat) (now safe : List DN) (ops : List DOp) (mf M : Nat) (fl : List FR) (next room fuse : Int) (armed dead : Bool) (w : World) (h : DK w b y g gd mn ms vo N now safe ops mf M fl next room fuse armed dead) (h0 : 0 ≤ fuse) (h1 : fuse ≤ 9223372036854775807) (hc : (chg fuse armed dead).1 = 0) (s : ByteArray) (hs : s.size ≤ maxLen) (id : Int) (hi0 : 0 ≤ id) (hi1 : id ≤ 1000000) (p : FR) (hn : getN now s = some id) (hp : fileAt fl id = some p) (hk : KG now fl) (hr : Rising now) (hN : N ≤ 1000000) (hln : now.length ≤ 100000) (hsz : ∀ p ∈ now, p.1.size ≤ maxLen) (hro : 0 ≤ room) (k : Nat) (hk1 : k ≤ 1048576) (hh : hasF fl now room p.now.length (k : Int) = true) : Calls Try.prog 77 #[.pointer (some ⟨g, 0, none⟩), .string s, .int .i64 (k : Int)] w fun e w' => e = .returned (.int .i64 0) ∧ (∃ vn' vo', DK w' b y g gd mn ms vo N now safe ops mf M (setFile fl ⟨p.id, p.g, vn', p.vs, vo', (sizeF (p.now, p.ops) (k : Int)).1, p.safe, (sizeF (p.now, p.ops) (k : Int)).2⟩) next room (chg fuse armed dead).2.1 armed (chg fuse armed dead).2.2) ∧ KT w w' ∧ Below b w w' := by
  have HH := Aside0.mk hh
  clear hh
  have hpm0 := (fileAt_mem hp).1
  obtain ⟨hpl, hpo⟩ := hk.len p hpm0
  have HHAS := Aside0.mk (fun W (fuse : Int) (armed dead : Bool) (hW : DK W b y g gd mn ms vo N now safe ops mf M fl next room fuse armed dead) => has_any b y g gd mn ms vo N now safe ops mf M fl next room fuse armed dead W hW hk hr hN hln hsz p hpm0)
  clear hk hr hsz hpm0
  have hpm := (fileAt_mem hp).1
  have HPM := Aside0.mk hpm
  have HOF := Aside0.mk (fun W (fuse : Int) (armed dead : Bool) (hW : DK W b y g gd mn ms vo N now safe ops mf M fl next room fuse armed dead) => of_some b y g gd mn ms vo N now safe ops mf M fl next room fuse armed dead W hW s hs id hi0 hi1 p hn hp)
  obtain ⟨cd, hcd⟩ : ∃ x, x = (chg fuse armed dead).1 := ⟨_, rfl⟩
  obtain ⟨fu, hfu⟩ : ∃ x, x = (chg fuse armed dead).2.1 := ⟨_, rfl⟩
  obtain ⟨de, hde⟩ : ∃ x, x = (chg fuse armed dead).2.2 := ⟨_, rfl⟩
  have HCH := Aside0.mk (change_kt b y g gd mn ms vo N now safe ops mf M fl next room fuse armed dead w h h0 h1)
  rw [← hcd, ← hfu, ← hde] at HCH
  rw [← hfu, ← hde]
  rw [← hcd] at hc
  clear hcd hfu hde
  subst hc
  have hbw : b ≤ w.heap.size := Nat.le_trans h.hg (Nat.le_of_lt (blk_lt h.hb))
  clear h hn hp hpm
  go_enter Try.func77, Try.ntmps77
  go_wp2_with (first | (go_at_call 103; refine HCH.out.mono ?_; rintro e w1 ⟨rfl, hk1, ht1, hl1⟩; have H := Aside0.mk hk1; have HT := Aside0.mk ht1; have HL := Aside0.mk hl1; have s0 := (blk_cell hk1.hb 0).trans (rfl : _ = some (Value.pointer (some ⟨gd, 0, none⟩))); clear hk1 ht1 hl1 HCH) | (go_at_call 105; refine (HOF.out _ _ _ _ H.out).mono ?_; rintro e w2 ⟨rfl, rfl⟩; clear HOF) | (go_at_call 106; refine (HHAS.out _ _ _ _ H.out ((k : Int)) (by omega) hro).mono ?_; rw [HH.out]; rintro e w3 ⟨rfl, hb⟩; have h3 := H.out.below hb; have ht3 := HT.out.trans (KT.of_below hb); have hl3 := HL.out.trans (hb.mono (Nat.le_trans hbw HL.out.size)); clear H HL HT; have H := Aside0.mk h3; have HL := Aside0.mk hl3; have HT := Aside0.mk ht3; clear h3 hl3 ht3 hb) | (go_at_call 42; refine (ftrunc_any b p.g (apx y fl p) p.vn p.vs p.vo p.now p.safe p.ops k _ (H.out.hf.hf p HPM.out) (apx_fresh H.out.hf) (by omega) hk1 (by omega)).mono ?_; rintro e w5 ⟨rfl, ⟨vn', vo', hf5, hv5⟩, hk5, hl5⟩; have hfin := H.out.file HPM.out hk5 hf5 (by first | exact .inr (.inl rfl) | (rcases hv5 with e | ⟨j, e, hj⟩; exact .inl e; exact .inr (.inr ⟨j, e, hj⟩))); have HF := Aside0.mk hfin; have HTF := Aside0.mk (HT.out.trans (KT.file H.out HPM.out hk5)); have HLF := Aside0.mk (HL.out.trans hl5); clear hfin hf5 hv5 hk5 hl5))
  go_ret
  exact ⟨rfl, ⟨_, _, HF.out⟩, HTF.out, HLF.out⟩
set_option maxHeartbeats 1000000 in
theorem kwrite_full (b : Nat) (y : Nat → Prop) (g gd mn ms : Nat) (vo : Value) (N : Nat) (now safe : List DN) (ops : List DOp) (mf M : Nat) (fl : List FR) (next room fuse : Int) (armed dead : Bool) (w : World) (h : DK w b y g gd mn ms vo N now safe ops mf M fl next room fuse armed dead) (h0 : 0 ≤ fuse) (h1 : fuse ≤ 9223372036854775807) (hc : (chg fuse armed dead).1 = 0) (s : ByteArray) (hs : s.size ≤ maxLen) (id : Int) (hi0 : 0 ≤ id) (hi1 : id ≤ 1000000) (p : FR) (hn : getN now s = some id) (hp : fileAt fl id = some p) (hk : KG now fl) (hr : Rising now) (hN : N ≤ 1000000) (hln : now.length ≤ 100000) (hsz : ∀ p ∈ now, p.1.size ≤ maxLen) (hro : 0 ≤ room) (k : Nat) (A : Option Addr) (n c : Nat) (hk1 : k ≤ 1048576) (hk2 : n + k ≤ 1048576) (hn0 : 0 < n) (hh : hasF fl now room p.now.length ((k + n : Nat) : Int) = false) : Calls Try.prog 68 #[.pointer (some ⟨g, 0, none⟩), .string s, .int .i64 (k : Int), .slice A n c] w fun e w' => e = .returned (.int .i64 20) ∧ DK w' b y g gd mn ms vo N now safe ops mf M fl next room (chg fuse armed dead).2.1 armed (chg fuse armed dead).2.2 ∧ KT w w' ∧ Below b w w' := by
  have HH := Aside0.mk hh
  clear hh
  have hpm0 := (fileAt_mem hp).1
  obtain ⟨hpl, hpo⟩ := hk.len p hpm0
  have HHAS := Aside0.mk (fun W (fuse : Int) (armed dead : Bool) (hW : DK W b y g gd mn ms vo N now safe ops mf M fl next room fuse armed dead) => has_any b y g gd mn ms vo N now safe ops mf M fl next room fuse armed dead W hW hk hr hN hln hsz p hpm0)
  clear hk hr hsz hpm0
  have hpm := (fileAt_mem hp).1
  have HPM := Aside0.mk hpm
  have HOF := Aside0.mk (fun W (fuse : Int) (armed dead : Bool) (hW : DK W b y g gd mn ms vo N now safe ops mf M fl next room fuse armed dead) => of_some b y g gd mn ms vo N now safe ops mf M fl next room fuse armed dead W hW s hs id hi0 hi1 p hn hp)
  obtain ⟨cd, hcd⟩ : ∃ x, x = (chg fuse armed dead).1 := ⟨_, rfl⟩
  obtain ⟨fu, hfu⟩ : ∃ x, x = (chg fuse armed dead).2.1 := ⟨_, rfl⟩
  obtain ⟨de, hde⟩ : ∃ x, x = (chg fuse armed dead).2.2 := ⟨_, rfl⟩
  have HCH := Aside0.mk (change_kt b y g gd mn ms vo N now safe ops mf M fl next room fuse armed dead w h h0 h1)
  rw [← hcd, ← hfu, ← hde] at HCH
  rw [← hfu, ← hde]
  rw [← hcd] at hc
  clear hcd hfu hde
  subst hc
  have hbw : b ≤ w.heap.size := Nat.le_trans h.hg (Nat.le_of_lt (blk_lt h.hb))
  clear h hn hp hpm
  go_enter Try.func68, Try.ntmps68
  go_wp2_with (first | (go_at_call 103; refine HCH.out.mono ?_; rintro e w1 ⟨rfl, hk1, ht1, hl1⟩; have H := Aside0.mk hk1; have HT := Aside0.mk ht1; have HL := Aside0.mk hl1; have s0 := (blk_cell hk1.hb 0).trans (rfl : _ = some (Value.pointer (some ⟨gd, 0, none⟩))); clear hk1 ht1 hl1 HCH) | (go_at_call 105; refine (HOF.out _ _ _ _ H.out).mono ?_; rintro e w2 ⟨rfl, rfl⟩; clear HOF) | (go_at_call 106; refine (HHAS.out _ _ _ _ H.out (((k + n : Nat) : Int)) (by omega) hro).mono ?_; rw [HH.out]; rintro e w3 ⟨rfl, hb⟩; have h3 := H.out.below hb; have ht3 := HT.out.trans (KT.of_below hb); have hl3 := HL.out.trans (hb.mono (Nat.le_trans hbw HL.out.size)); clear H HL HT; have H := Aside0.mk h3; have HL := Aside0.mk hl3; have HT := Aside0.mk ht3; clear h3 hl3 ht3 hb))
  go_ret
  exact ⟨rfl, H.out, HT.out, HL.out⟩
set_option maxHeartbeats 1000000 in
theorem kwrite_done (b : Nat) (y : Nat → Prop) (g gd mn ms : Nat) (vo : Value) (N : Nat) (now safe : List DN) (ops : List DOp) (mf M : Nat) (fl : List FR) (next room fuse : Int) (armed dead : Bool) (w : World) (h : DK w b y g gd mn ms vo N now safe ops mf M fl next room fuse armed dead) (h0 : 0 ≤ fuse) (h1 : fuse ≤ 9223372036854775807) (hc : (chg fuse armed dead).1 = 0) (s : ByteArray) (hs : s.size ≤ maxLen) (id : Int) (hi0 : 0 ≤ id) (hi1 : id ≤ 1000000) (p : FR) (hn : getN now s = some id) (hp : fileAt fl id = some p) (hk : KG now fl) (hr : Rising now) (hN : N ≤ 1000000) (hln : now.length ≤ 100000) (hsz : ∀ p ∈ now, p.1.size ≤ maxLen) (hro : 0 ≤ room) (k : Nat) (A : Option Addr) (n c : Nat) (hk1 : k ≤ 1048576) (hk2 : n + k ≤ 1048576) (l : List Int) (hll : l.length = n) (hnc : n ≤ c) (hst : ∀ W', Below b w W' → Kd.C (Kd.int .u8) W' A n l) (hh : n = 0 ∨ hasF fl now room p.now.length ((k + n : Nat) : Int) = true) : Calls Try.prog 68 #[.pointer (some ⟨g, 0, none⟩), .string s, .int .i64 (k : Int), .slice A n c] w fun e w' => e = .returned (.int .i64 0) ∧ (∃ vn' vo', DK w' b y g gd mn ms vo N now safe ops mf M (setFile fl ⟨p.id, p.g, vn', p.vs, vo', (writeF (p.now, p.ops) k l).1, p.safe, (writeF (p.now, p.ops) k l).2⟩) next room (chg fuse armed dead).2.1 armed (chg fuse armed dead).2.2) ∧ KT w w' ∧ Below b w w' := by
  have HST := Aside0.mk hst
  clear hst
  have hpm0 := (fileAt_mem hp).1
  obtain ⟨hpl, hpo⟩ := hk.len p hpm0
  have HHAS := Aside0.mk (fun W (fuse : Int) (armed dead : Bool) (hW : DK W b y g gd mn ms vo N now safe ops mf M fl next room fuse armed dead) => has_any b y g gd mn ms vo N now safe ops mf M fl next room fuse armed dead W hW hk hr hN hln hsz p hpm0)
  clear hk hr hsz hpm0
  have hpm := (fileAt_mem hp).1
  have HPM := Aside0.mk hpm
  have HOF := Aside0.mk (fun W (fuse : Int) (armed dead : Bool) (hW : DK W b y g gd mn ms vo N now safe ops mf M fl next room fuse armed dead) => of_some b y g gd mn ms vo N now safe ops mf M fl next room fuse armed dead W hW s hs id hi0 hi1 p hn hp)
  obtain ⟨cd, hcd⟩ : ∃ x, x = (chg fuse armed dead).1 := ⟨_, rfl⟩
  obtain ⟨fu, hfu⟩ : ∃ x, x = (chg fuse armed dead).2.1 := ⟨_, rfl⟩
  obtain ⟨de, hde⟩ : ∃ x, x = (chg fuse armed dead).2.2 := ⟨_, rfl⟩
  have HCH := Aside0.mk (change_kt b y g gd mn ms vo N now safe ops mf M fl next room fuse armed dead w h h0 h1)
  rw [← hcd, ← hfu, ← hde] at HCH
  rw [← hfu, ← hde]
  rw [← hcd] at hc
  clear hcd hfu hde
  subst hc
  have hbw : b ≤ w.heap.size := Nat.le_trans h.hg (Nat.le_of_lt (blk_lt h.hb))
  clear h hn hp hpm
  by_cases hn0 : n = 0
  · clear hh
    subst hn0
    go_enter Try.func68, Try.ntmps68
    go_wp2_with (first | (go_at_call 103; refine HCH.out.mono ?_; rintro e w1 ⟨rfl, hk1, ht1, hl1⟩; have H := Aside0.mk hk1; have HT := Aside0.mk ht1; have HL := Aside0.mk hl1; have s0 := (blk_cell hk1.hb 0).trans (rfl : _ = some (Value.pointer (some ⟨gd, 0, none⟩))); clear hk1 ht1 hl1 HCH) | (go_at_call 105; refine (HOF.out _ _ _ _ H.out).mono ?_; rintro e w2 ⟨rfl, rfl⟩; clear HOF) | (go_at_call 41; refine (fwrite_any b p.g (apx y fl p) p.vn p.vs p.vo p.now p.safe p.ops k A _ c l _ (H.out.hf.hf p HPM.out) (apx_fresh H.out.hf) hll hnc (fun W' _ hb' => HST.out W' (HL.out.trans hb')) hk1 hk2 hpl hpo).mono ?_; rintro e w5 ⟨rfl, vn', vo', hf5, hv5, hk5, hl5⟩; have hfin := H.out.file HPM.out hk5 hf5 (by first | exact .inr (.inl rfl) | (rcases hv5 with e | ⟨j, e, hj⟩; exact .inl e; exact .inr (.inr ⟨j, e, hj⟩))); have HF := Aside0.mk hfin; have HTF := Aside0.mk (HT.out.trans (KT.file H.out HPM.out hk5)); have HLF := Aside0.mk (HL.out.trans hl5); clear hfin hf5 hv5 hk5 hl5))
    go_ret
    exact ⟨rfl, ⟨_, _, HF.out⟩, HTF.out, HLF.out⟩
  · have HH := Aside0.mk (hh.resolve_left hn0)
    have hnp : 0 < n := by omega
    clear hh
    go_enter Try.func68, Try.ntmps68
    go_wp2_with (first | (go_at_call 103; refine HCH.out.mono ?_; rintro e w1 ⟨rfl, hk1, ht1, hl1⟩; have H := Aside0.mk hk1; have HT := Aside0.mk ht1; have HL := Aside0.mk hl1; have s0 := (blk_cell hk1.hb 0).trans (rfl : _ = some (Value.pointer (some ⟨gd, 0, none⟩))); clear hk1 ht1 hl1 HCH) | (go_at_call 105; refine (HOF.out _ _ _ _ H.out).mono ?_; rintro e w2 ⟨rfl, rfl⟩; clear HOF) | (go_at_call 106; refine (HHAS.out _ _ _ _ H.out (((k + n : Nat) : Int)) (by omega) hro).mono ?_; rw [HH.out]; rintro e w3 ⟨rfl, hb⟩; have h3 := H.out.below hb; have ht3 := HT.out.trans (KT.of_below hb); have hl3 := HL.out.trans (hb.mono (Nat.le_trans hbw HL.out.size)); clear H HL HT; have H := Aside0.mk h3; have HL := Aside0.mk hl3; have HT := Aside0.mk ht3; clear h3 hl3 ht3 hb) | (go_at_call 41; refine (fwrite_any b p.g (apx y fl p) p.vn p.vs p.vo p.now p.safe p.ops k A _ c l _ (H.out.hf.hf p HPM.out) (apx_fresh H.out.hf) hll hnc (fun W' _ hb' => HST.out W' (HL.out.trans hb')) hk1 hk2 hpl hpo).mono ?_; rintro e w5 ⟨rfl, vn', vo', hf5, hv5, hk5, hl5⟩; have hfin := H.out.file HPM.out hk5 hf5 (by first | exact .inr (.inl rfl) | (rcases hv5 with e | ⟨j, e, hj⟩; exact .inl e; exact .inr (.inr ⟨j, e, hj⟩))); have HF := Aside0.mk hfin; have HTF := Aside0.mk (HT.out.trans (KT.file H.out HPM.out hk5)); have HLF := Aside0.mk (HL.out.trans hl5); clear hfin hf5 hv5 hk5 hl5))
    go_ret
    exact ⟨rfl, ⟨_, _, HF.out⟩, HTF.out, HLF.out⟩
end Go.Proofs.Ytpnbjpkdbiiogaa
/- A row of pieces in memory: each behind another. -/
namespace Go.Proofs.Ytpnbjpkdbiiogaa
set_option linter.unusedVariables false
open Go.RowKit Go.Maps Go.Proofs.YtpnbjpkdbiiogaaW.PrintWords
attribute [local go_sem] mx2 mn2 mxTwo mnTwo

/-- A piece as it lies: its block, where its bytes lie. -/
structure Nd where
  g : Nat
  A : Option Addr
  c : Nat
  p : PcV
def ptrO (o : Option Nat) : Value := .pointer (o.map (fun g => ⟨g, 0, none⟩))
theorem ptrO_none : ptrO none = .pointer none := rfl
theorem ptrO_some (g : Nat) : ptrO (some g) = .pointer (some ⟨g, 0, none⟩) := rfl
def ndC (q : Nd) (pv nx : Option Nat) : Array Value := #[.string q.p.nm, .int .i64 q.p.n, .slice q.A q.p.b.length q.c, ptrO pv, ptrO nx]
def prevG (l : List Nd) (j : Nat) : Option Nat := if j = 0 then none else (l[j - 1]?).map Nd.g
def nextG (l : List Nd) (j : Nat) : Option Nat := (l[j + 1]?).map Nd.g
def headG (l : List Nd) : Option Nat := (l[0]?).map Nd.g
def lastG (l : List Nd) : Option Nat := if l.length = 0 then none else (l[l.length - 1]?).map Nd.g
structure RowW (W : World) (l : List Nd) : Prop where
  row : ∀ (j : Nat) (q : Nd), l[j]? = some q → W.heap[q.g]? = some (.cells (ndC q (prevG l j) (nextG l j)) 165 (0, 0))
  ap : l.Pairwise (fun p q => p.g ≠ q.g)
theorem ap_ne {l : List Nd} (h : l.Pairwise (fun p q => p.g ≠ q.g)) {i j : Nat} {p q : Nd} (hi : l[i]? = some p) (hj : l[j]? = some q) (hij : i ≠ j) : p.g ≠ q.g := by
  obtain ⟨h1, rfl⟩ := List.getElem?_eq_some_iff.1 hi
  obtain ⟨h2, rfl⟩ := List.getElem?_eq_some_iff.1 hj
  rcases Nat.lt_or_gt_of_ne hij with h3 | h3
  · exact List.pairwise_iff_getElem.1 h i j h1 h2 h3
  · exact (List.pairwise_iff_getElem.1 h j i h2 h1 h3).symm
theorem erase_at (l : List Nd) (i j : Nat) : (l.eraseIdx i)[j]? = if j < i then l[j]? else l[j + 1]? := List.getElem?_eraseIdx ..
theorem prev_some {l : List Nd} {i a : Nat} (h : prevG l i = some a) : ∃ j p, j + 1 = i ∧ l[j]? = some p ∧ p.g = a := by
  unfold prevG at h
  split at h
  · cases h
  · obtain ⟨p, hp, e⟩ := Option.map_eq_some_iff.1 h
    exact ⟨i - 1, p, by omega, hp, e⟩
theorem next_some {l : List Nd} {i a : Nat} (h : nextG l i = some a) : ∃ p, l[i + 1]? = some p ∧ p.g = a := Option.map_eq_some_iff.1 h
theorem prev_none {l : List Nd} {i : Nat} {q : Nd} (hq : l[i]? = some q) (h : prevG l i = none) : i = 0 := by
  unfold prevG at h
  split at h
  · assumption
  · rename_i h0
    have hi := (List.getElem?_eq_some_iff.1 hq).1
    rw [List.getElem?_eq_getElem (by omega)] at h
    cases h
theorem next_none {l : List Nd} {i : Nat} (h : nextG l i = none) : l.length ≤ i + 1 := by
  unfold nextG at h
  rw [Option.map_eq_none_iff] at h
  exact List.getElem?_eq_none_iff.1 h
/-- A piece is taken out. -/
theorem row_out {W W1 : World} {l : List Nd} {i : Nat} {q : Nd} (h : RowW W l) (hq : l[i]? = some q)
    (h2 : ∀ j p, j + 1 = i → l[j]? = some p → W1.heap[p.g]? = some (.cells (ndC p (prevG l j) (nextG l i)) 165 (0, 0)))
    (h3 : ∀ p, l[i + 1]? = some p → W1.heap[p.g]? = some (.cells (ndC p (prevG l i) (nextG l (i + 1))) 165 (0, 0)))
    (h4 : ∀ j p, l[j]? = some p → j ≠ i → j + 1 ≠ i → j ≠ i + 1 → W1.heap[p.g]? = W.heap[p.g]?) : RowW W1 (l.eraseIdx i) := by
  have hil := (List.getElem?_eq_some_iff.1 hq).1
  refine ⟨fun j p hj => ?_, List.Pairwise.sublist (List.eraseIdx_sublist ..) h.ap⟩
  rw [erase_at] at hj
  by_cases hji : j < i
  · rw [if_pos hji] at hj
    have e1 : prevG (l.eraseIdx i) j = prevG l j := by
      unfold prevG
      split
      · rfl
      · rw [erase_at, if_pos (by omega)]
    by_cases he : j + 1 = i
    · have e2 : nextG (l.eraseIdx i) j = nextG l i := by unfold nextG; rw [erase_at, if_neg (by omega), he]
      rw [e1, e2]
      exact h2 j p he hj
    · have e2 : nextG (l.eraseIdx i) j = nextG l j := by unfold nextG; rw [erase_at, if_pos (by omega)]
      rw [e1, e2, h4 j p hj (by omega) he (by omega)]
      exact h.row j p hj
  · rw [if_neg hji] at hj
    by_cases he : j = i
    · subst he
      have e1 : prevG (l.eraseIdx j) j = prevG l j := by
        unfold prevG
        split
        · rfl
        · rw [erase_at, if_pos (by omega)]
      have e2 : nextG (l.eraseIdx j) j = nextG l (j + 1) := by unfold nextG; rw [erase_at, if_neg (by omega)]
      rw [e1, e2]
      exact h3 p hj
    · have e1 : prevG (l.eraseIdx i) j = prevG l (j + 1) := by
        unfold prevG
        rw [if_neg (by omega), if_neg (by omega), erase_at, if_neg (by omega), show j - 1 + 1 = j + 1 - 1 by omega]
      have e2 : nextG (l.eraseIdx i) j = nextG l (j + 1) := by unfold nextG; rw [erase_at, if_neg (by omega)]
      rw [e1, e2, h4 (j + 1) p hj (by omega) (by omega) (by omega)]
      exact h.row (j + 1) p hj
theorem head_out (l : List Nd) (i : Nat) (hi : i < l.length) : headG (l.eraseIdx i) = if i = 0 then nextG l i else headG l := by
  unfold headG nextG
  rw [erase_at]
  by_cases h : i = 0
  · rw [if_neg (by omega), if_pos h, h]
  · rw [if_pos (by omega), if_neg h]
theorem last_out (l : List Nd) (i : Nat) (hi : i < l.length) : lastG (l.eraseIdx i) = if i + 1 = l.length then prevG l i else lastG l := by
  have hl := List.length_eraseIdx_of_lt hi
  unfold lastG prevG
  rw [hl]
  by_cases h : i + 1 = l.length
  · rw [if_pos h]
    by_cases h0 : l.length - 1 = 0
    · rw [if_pos h0, if_pos (by omega)]
    · rw [if_neg h0, if_neg (by omega), erase_at, if_pos (by omega), show l.length - 1 - 1 = i - 1 by omega]
  · rw [if_neg h, if_neg (by omega), if_neg (by omega), erase_at, if_neg (by omega), show l.length - 1 - 1 + 1 = l.length - 1 by omega]
/-- A piece is put in front. -/
theorem row_front {W W1 : World} {l : List Nd} {q : Nd} (h : RowW W l) (hq : W1.heap[q.g]? = some (.cells (ndC q none (headG l)) 165 (0, 0))) (hne : ∀ p ∈ l, q.g ≠ p.g)
    (h3 : ∀ p, l[0]? = some p → W1.heap[p.g]? = some (.cells (ndC p (some q.g) (nextG l 0)) 165 (0, 0)))
    (h4 : ∀ j p, l[j]? = some p → j ≠ 0 → W1.heap[p.g]? = W.heap[p.g]?) : RowW W1 (q :: l) := by
  refine ⟨fun j p hj => ?_, List.pairwise_cons.2 ⟨hne, h.ap⟩⟩
  match j, hj with
  | 0, hj =>
    rw [List.getElem?_cons_zero] at hj
    cases hj
    exact hq
  | 1, hj =>
    rw [List.getElem?_cons_succ] at hj
    exact h3 p hj
  | j + 2, hj =>
    rw [List.getElem?_cons_succ] at hj
    rw [h4 (j + 1) p hj (by omega)]
    exact h.row (j + 1) p hj
theorem last_front (l : List Nd) (q : Nd) : lastG (q :: l) = if l.length = 0 then some q.g else lastG l := by
  unfold lastG
  rw [if_neg (by simp), List.length_cons, Nat.add_sub_cancel]
  by_cases h : l.length = 0
  · rw [if_pos h, h]
    rfl
  · rw [if_neg h, if_neg h]
    obtain ⟨m, hm⟩ : ∃ m, l.length = m + 1 := ⟨l.length - 1, by omega⟩
    rw [hm, List.getElem?_cons_succ, Nat.add_sub_cancel]
theorem head_front (l : List Nd) (q : Nd) : headG (q :: l) = some q.g := rfl
/-- The cache's cells. -/
def cC (d : Nat) (most : Int) (mp : Nat) (first last : Option Nat) (hits misses : Int) : Array Value := #[.pointer (some ⟨d, 0, none⟩), .int .i64 most, .map (some mp), ptrO first, ptrO last, .int .i64 hits, .int .i64 misses]
end Go.Proofs.Ytpnbjpkdbiiogaa
/- The cache's row: out and front. -/
namespace Go.Proofs.Ytpnbjpkdbiiogaa
set_option linter.unusedVariables false
open Go.RowKit Go.Maps Go.Proofs.YtpnbjpkdbiiogaaW.PrintWords
attribute [local go_sem] mx2 mn2 mxTwo mnTwo

theorem ndC_next (q : Nd) (pv nx nx' : Option Nat) : (ndC q pv nx).setIfInBounds 4 (ptrO nx') = ndC q pv nx' := rfl
theorem ndC_prev (q : Nd) (pv pv' nx : Option Nat) : (ndC q pv nx).setIfInBounds 3 (ptrO pv') = ndC q pv' nx := rfl
theorem cC_first (d : Nat) (most : Int) (mp : Nat) (f f' l : Option Nat) (h m : Int) : (cC d most mp f l h m).setIfInBounds 3 (ptrO f') = cC d most mp f' l h m := rfl
theorem cC_last (d : Nat) (most : Int) (mp : Nat) (f l l' : Option Nat) (h m : Int) : (cC d most mp f l h m).setIfInBounds 4 (ptrO l') = cC d most mp f l' h m := rfl
/-- What out does to the heap, step by step: the one before, or the cache; the one behind, or the cache; the piece. -/
def hp1 (w : World) (c : Nat) (pv nx : Option Nat) : World := match pv with
  | some a => w.setCell ⟨a, 4, none⟩ (ptrO nx)
  | none => w.setCell ⟨c, 3, none⟩ (ptrO nx)
def hp2 (w : World) (c : Nat) (pv nx : Option Nat) : World := match nx with
  | some a => w.setCell ⟨a, 3, none⟩ (ptrO pv)
  | none => w.setCell ⟨c, 4, none⟩ (ptrO pv)
section
variable {w : World} {c d : Nat} {most : Int} {mp : Nat} {hits misses : Int} {l : List Nd} {i : Nat} {q : Nd}
theorem hp1_at (hq : l[i]? = some q) (hc : w.heap[c]? = some (.cells (cC d most mp (headG l) (lastG l) hits misses) 122 (0, 0))) (hr : RowW w l) :
    (hp1 w c (prevG l i) (nextG l i)).heap[c]? = some (.cells (cC d most mp (headG (l.eraseIdx i)) (lastG l) hits misses) 122 (0, 0)) ∧
    (∀ (j : Nat) (p : Nd), l[j]? = some p → (hp1 w c (prevG l i) (nextG l i)).heap[p.g]? = some (.cells (ndC p (prevG l j) (if j + 1 = i then nextG l i else nextG l j)) 165 (0, 0))) ∧
    (∀ k, k ≠ c → (∀ p ∈ l, p.g ≠ k) → (hp1 w c (prevG l i) (nextG l i)).heap[k]? = w.heap[k]?) ∧ (hp1 w c (prevG l i) (nextG l i)).heap.size = w.heap.size := by
  have hil := (List.getElem?_eq_some_iff.1 hq).1
  cases hpv : prevG l i with
  | none =>
    have h0 := prev_none hq hpv
    refine ⟨?_, fun j p hj => ?_, fun k hk _ => Below.heap_setCell w ⟨c, 3, none⟩ _ k hk, setsz ..⟩
    · rw [head_out l i hil, if_pos h0]
      exact blk_put hc 3 _ (cC_first ..)
    · have hb := hr.row j p hj
      rw [if_neg (by omega)]
      exact blk_far hb (p := ⟨c, 3, none⟩) (blk_ne hb hc (by decide)) _
  | some a =>
    obtain ⟨j0, p0, hj0, hp0, rfl⟩ := prev_some hpv
    have hb0 := hr.row j0 p0 hp0
    refine ⟨?_, fun j p hj => ?_, fun k hk hk2 => Below.heap_setCell w ⟨p0.g, 4, none⟩ _ k (fun e => hk2 p0 (List.mem_of_getElem? hp0) e.symm), setsz ..⟩
    · rw [head_out l i hil, if_neg (by omega)]
      exact blk_far hc (p := ⟨p0.g, 4, none⟩) (blk_ne hb0 hc (by decide)).symm _
    · have hb := hr.row j p hj
      by_cases he : j + 1 = i
      · obtain rfl : j0 = j := by omega
        rw [hp0] at hj
        cases hj
        rw [if_pos he]
        exact blk_put hb0 4 _ (ndC_next ..)
      · rw [if_neg he]
        exact blk_far hb (p := ⟨p0.g, 4, none⟩) (ap_ne hr.ap hj hp0 (by omega)) _
theorem hp2_at (hq : l[i]? = some q) (hc : w.heap[c]? = some (.cells (cC d most mp (headG (l.eraseIdx i)) (lastG l) hits misses) 122 (0, 0)))
    (hr : ∀ (j : Nat) (p : Nd), l[j]? = some p → w.heap[p.g]? = some (.cells (ndC p (prevG l j) (if j + 1 = i then nextG l i else nextG l j)) 165 (0, 0))) (ap : l.Pairwise (fun p q => p.g ≠ q.g)) :
    (hp2 w c (prevG l i) (nextG l i)).heap[c]? = some (.cells (cC d most mp (headG (l.eraseIdx i)) (lastG (l.eraseIdx i)) hits misses) 122 (0, 0)) ∧
    (∀ (j : Nat) (p : Nd), l[j]? = some p → (hp2 w c (prevG l i) (nextG l i)).heap[p.g]? = some (.cells (ndC p (if j = i + 1 then prevG l i else prevG l j) (if j + 1 = i then nextG l i else nextG l j)) 165 (0, 0))) ∧
    (∀ k, k ≠ c → (∀ p ∈ l, p.g ≠ k) → (hp2 w c (prevG l i) (nextG l i)).heap[k]? = w.heap[k]?) ∧ (hp2 w c (prevG l i) (nextG l i)).heap.size = w.heap.size := by
  have hil := (List.getElem?_eq_some_iff.1 hq).1
  cases hnx : nextG l i with
  | none =>
    have h0 := next_none hnx
    refine ⟨?_, fun j p hj => ?_, fun k hk _ => Below.heap_setCell w ⟨c, 4, none⟩ _ k hk, setsz ..⟩
    · rw [last_out l i hil, if_pos (by omega)]
      exact blk_put hc 4 _ (cC_last ..)
    · have hb := hr j p hj
      have hjl := (List.getElem?_eq_some_iff.1 hj).1
      rw [hnx] at hb
      rw [if_neg (by omega)]
      exact blk_far hb (p := ⟨c, 4, none⟩) (blk_ne hb hc (by decide)) _
  | some a =>
    obtain ⟨p0, hp0, rfl⟩ := next_some hnx
    have hb0 := hr (i + 1) p0 hp0
    rw [hnx] at hb0
    have hl0 := (List.getElem?_eq_some_iff.1 hp0).1
    refine ⟨?_, fun j p hj => ?_, fun k hk hk2 => Below.heap_setCell w ⟨p0.g, 3, none⟩ _ k (fun e => hk2 p0 (List.mem_of_getElem? hp0) e.symm), setsz ..⟩
    · rw [last_out l i hil, if_neg (by omega)]
      exact blk_far hc (p := ⟨p0.g, 3, none⟩) (blk_ne hb0 hc (by decide)).symm _
    · have hb := hr j p hj
      rw [hnx] at hb
      by_cases he : j = i + 1
      · subst he
        rw [hp0] at hj
        cases hj
        rw [if_pos rfl]
        exact blk_put hb0 3 _ (ndC_prev ..)
      · rw [if_neg he]
        exact blk_far hb (p := ⟨p0.g, 3, none⟩) (ap_ne ap hj hp0 he) _
theorem hp3_at {W : World} (hq : l[i]? = some q) (hw : RowW w l) (hc : W.heap[c]? = some (.cells (cC d most mp (headG (l.eraseIdx i)) (lastG (l.eraseIdx i)) hits misses) 122 (0, 0)))
    (hr : ∀ (j : Nat) (p : Nd), l[j]? = some p → W.heap[p.g]? = some (.cells (ndC p (if j = i + 1 then prevG l i else prevG l j) (if j + 1 = i then nextG l i else nextG l j)) 165 (0, 0))) :
    ((W.setCell ⟨q.g, 3, none⟩ (ptrO none)).setCell ⟨q.g, 4, none⟩ (ptrO none)).heap[c]? = some (.cells (cC d most mp (headG (l.eraseIdx i)) (lastG (l.eraseIdx i)) hits misses) 122 (0, 0)) ∧
    RowW ((W.setCell ⟨q.g, 3, none⟩ (ptrO none)).setCell ⟨q.g, 4, none⟩ (ptrO none)) (l.eraseIdx i) ∧
    ((W.setCell ⟨q.g, 3, none⟩ (ptrO none)).setCell ⟨q.g, 4, none⟩ (ptrO none)).heap[q.g]? = some (.cells (ndC q none none) 165 (0, 0)) ∧
    (∀ k, k ≠ q.g → ((W.setCell ⟨q.g, 3, none⟩ (ptrO none)).setCell ⟨q.g, 4, none⟩ (ptrO none)).heap[k]? = W.heap[k]?) ∧ ((W.setCell ⟨q.g, 3, none⟩ (ptrO none)).setCell ⟨q.g, 4, none⟩ (ptrO none)).heap.size = W.heap.size := by
  have hqb := hr i q hq
  have hfar : ∀ k, k ≠ q.g → ((W.setCell ⟨q.g, 3, none⟩ (ptrO none)).setCell ⟨q.g, 4, none⟩ (ptrO none)).heap[k]? = W.heap[k]? := fun k hk => (Below.heap_setCell _ ⟨q.g, 4, none⟩ _ k hk).trans (Below.heap_setCell _ ⟨q.g, 3, none⟩ _ k hk)
  refine ⟨(hfar c (blk_ne hqb hc (by decide)).symm).trans hc, ?_, blk_put (blk_put hqb 3 _ (ndC_prev ..)) 4 _ (ndC_next ..), hfar, by rw [setsz, setsz]⟩
  have hne : ∀ (j : Nat) (p : Nd), l[j]? = some p → j ≠ i → p.g ≠ q.g := fun j p hj hji => ap_ne hw.ap hj hq hji
  refine row_out hw hq (fun j p hj hp => ?_) (fun p hp => ?_) (fun j p hp h1 h2 h3 => ?_)
  · rw [hfar _ (hne j p hp (by omega)), hr j p hp, if_neg (by omega), if_pos hj]
  · rw [hfar _ (hne (i + 1) p hp (by omega)), hr (i + 1) p hp, if_pos rfl, if_neg (by omega)]
  · rw [hfar _ (hne j p hp h1), hr j p hp, if_neg h3, if_neg h2]
    exact (hw.row j p hp).symm
end
end Go.Proofs.Ytpnbjpkdbiiogaa
/- The cache's row: out and front, walked. -/
namespace Go.Proofs.Ytpnbjpkdbiiogaa
set_option linter.unusedVariables false
open Go.RowKit Go.Maps Go.Proofs.YtpnbjpkdbiiogaaW.PrintWords
attribute [local go_sem] mx2 mn2 mxTwo mnTwo

section
variable {w : World} {c d : Nat} {most : Int} {mp : Nat} {hits misses : Int} {l : List Nd} {i : Nat} {q : Nd}
set_option maxHeartbeats 1000000 in
theorem wout_any (hq : l[i]? = some q) (hc : w.heap[c]? = some (.cells (cC d most mp (headG l) (lastG l) hits misses) 122 (0, 0))) (hr : RowW w l) : Calls Try.prog 104 #[.pointer (some ⟨c, 0, none⟩), .pointer (some ⟨q.g, 0, none⟩)] w fun e w' => e = .returned (.tuple #[]) ∧ w'.heap[c]? = some (.cells (cC d most mp (headG (l.eraseIdx i)) (lastG (l.eraseIdx i)) hits misses) 122 (0, 0)) ∧ RowW w' (l.eraseIdx i) ∧ w'.heap[q.g]? = some (.cells (ndC q none none) 165 (0, 0)) ∧ Below 0 w w' ∧ ∀ k, k ≠ c → (∀ p ∈ l, p.g ≠ k) → w'.heap[k]? = w.heap[k]? := by
  have h1 := hp1_at hq hc hr
  obtain ⟨W1, hW1⟩ : ∃ W1, W1 = hp1 w c (prevG l i) (nextG l i) := ⟨_, rfl⟩
  rw [← hW1] at h1
  have h2 := hp2_at hq h1.1 h1.2.1 hr.ap
  obtain ⟨W2, hW2⟩ : ∃ W2, W2 = hp2 W1 c (prevG l i) (nextG l i) := ⟨_, rfl⟩
  rw [← hW2] at h2
  have h3 := hp3_at hq hr h2.1 h2.2.1
  have hqb := hr.row i q hq
  have hqm := List.mem_of_getElem? hq
  have hfin : ∀ W' : World, W'.heap = ((W2.setCell ⟨q.g, 3, none⟩ (ptrO none)).setCell ⟨q.g, 4, none⟩ (ptrO none)).heap → W'.os = w.os → W'.tape = w.tape → W'.output = w.output → W'.heap[c]? = some (.cells (cC d most mp (headG (l.eraseIdx i)) (lastG (l.eraseIdx i)) hits misses) 122 (0, 0)) ∧ RowW W' (l.eraseIdx i) ∧ W'.heap[q.g]? = some (.cells (ndC q none none) 165 (0, 0)) ∧ Below 0 w W' ∧ ∀ k, k ≠ c → (∀ p ∈ l, p.g ≠ k) → W'.heap[k]? = w.heap[k]? := fun W' e e1 e2 e3 => by
    refine ⟨by rw [e]; exact h3.1, ⟨fun j p hj => by rw [e]; exact h3.2.1.row j p hj, h3.2.1.ap⟩, by rw [e]; exact h3.2.2.1, ⟨e1, e2, e3, by rw [e, h3.2.2.2.2, h2.2.2.2, h1.2.2.2]; exact Nat.le_refl _, fun k hk => absurd hk (Nat.not_lt_zero _)⟩, fun k hk hk2 => ?_⟩
    rw [e, h3.2.2.2.1 k (fun e2 => hk2 q hqm e2.symm), h2.2.2.1 k hk hk2, h1.2.2.1 k hk hk2]
  have HF := Aside0.mk hfin
  have HW1 := Aside0.mk hW1
  have HW2 := Aside0.mk hW2
  have HC := Aside0.mk hc
  have HQB := Aside0.mk hqb
  have hne : c ≠ q.g := (blk_ne hqb hc (by decide)).symm
  have hne2 : q.g ≠ c := hne.symm
  have HR := Aside0.mk hr
  have s3 := (blk_cell hc 3).trans (rfl : _ = some (ptrO (headG l)))
  have s4 := (blk_cell hc 4).trans (rfl : _ = some (ptrO (lastG l)))
  have H1 := Aside0.mk h1
  have H2 := Aside0.mk h2
  clear h1 h2 h3 hfin hW1 hW2 hqb
  cases hpv : prevG l i with
  | none =>
    cases hnx : nextG l i with
    | none =>
      skip
      have t2 := (blk_cell HQB.out 3).trans (show _ = some (Value.pointer none) by rw [hpv]; rfl)
      have t3 := (blk_cell HQB.out 4).trans (show _ = some (Value.pointer none) by rw [hnx]; rfl)
      have f3 := blk_frozen HC.out 3
      have f4 := blk_frozen HC.out 4
      have z3 := blk_frozen HQB.out 3
      have z4 := blk_frozen HQB.out 4
      have HX := Aside0.mk (show W2 = (w.setCell ⟨c, 3, none⟩ (.pointer none)).setCell ⟨c, 4, none⟩ (.pointer none) by rw [HW2.out, HW1.out, hpv, hnx]; rfl)
      clear hpv hnx hc hr hq
      go_enter Try.func104, Try.ntmps104
      go_wp2
      first | go_end0 | ((try simp only [Exit.inBlock, Exit.then]); refine bodyPost_ret (results_none rfl _ _ _) rfl ?_)
      exact ⟨rfl, HF.out _ (by rw [HX.out]; rfl) rfl rfl rfl⟩
    | some a =>
      skip
      obtain ⟨p0, hp0, rfl⟩ := next_some hnx
      have hb0 := hr.row (i + 1) p0 hp0
      have hna : q.g ≠ p0.g := ap_ne hr.ap hq hp0 (by omega)
      have hna2 := hna.symm
      have hca : c ≠ p0.g := (blk_ne hb0 hc (by decide)).symm
      have hca2 := hca.symm
      have a3 := (blk_cell hb0 3).trans (rfl : _ = some (ptrO (prevG l (i + 1))))
      have y3 := blk_frozen hb0 3
      have t2 := (blk_cell HQB.out 3).trans (show _ = some (Value.pointer none) by rw [hpv]; rfl)
      have t3 := (blk_cell HQB.out 4).trans (show _ = some (Value.pointer (some ⟨p0.g, 0, none⟩)) by rw [hnx]; rfl)
      have f3 := blk_frozen HC.out 3
      have f4 := blk_frozen HC.out 4
      have z3 := blk_frozen HQB.out 3
      have z4 := blk_frozen HQB.out 4
      have HX := Aside0.mk (show W2 = (w.setCell ⟨c, 3, none⟩ (.pointer (some ⟨p0.g, 0, none⟩))).setCell ⟨p0.g, 3, none⟩ (.pointer none) by rw [HW2.out, HW1.out, hpv, hnx]; rfl)
      clear hpv hnx hc hr hq hb0 hp0
      go_enter Try.func104, Try.ntmps104
      go_wp2_with fail
      go_region
      all_goals
        go_wp2_with fail
        first | go_end0 | ((try simp only [Exit.inBlock, Exit.then]); refine bodyPost_ret (results_none rfl _ _ _) rfl ?_)
        exact ⟨rfl, HF.out _ (by rw [HX.out]; rfl) rfl rfl rfl⟩
  | some a =>
    skip
    obtain ⟨j1, p1, hj1, hp1, rfl⟩ := prev_some hpv
    have hb1 := hr.row j1 p1 hp1
    have hma : q.g ≠ p1.g := ap_ne hr.ap hq hp1 (by omega)
    have hma2 := hma.symm
    have hda : c ≠ p1.g := (blk_ne hb1 hc (by decide)).symm
    have hda2 := hda.symm
    have b4 := (blk_cell hb1 4).trans (rfl : _ = some (ptrO (nextG l j1)))
    have x4 := blk_frozen hb1 4
    cases hnx : nextG l i with
    | none =>
      skip
      have t2 := (blk_cell HQB.out 3).trans (show _ = some (Value.pointer (some ⟨p1.g, 0, none⟩)) by rw [hpv]; rfl)
      have t3 := (blk_cell HQB.out 4).trans (show _ = some (Value.pointer none) by rw [hnx]; rfl)
      have f3 := blk_frozen HC.out 3
      have f4 := blk_frozen HC.out 4
      have z3 := blk_frozen HQB.out 3
      have z4 := blk_frozen HQB.out 4
      have HX := Aside0.mk (show W2 = (w.setCell ⟨p1.g, 4, none⟩ (.pointer none)).setCell ⟨c, 4, none⟩ (.pointer (some ⟨p1.g, 0, none⟩)) by rw [HW2.out, HW1.out, hpv, hnx]; rfl)
      clear hpv hnx hc hr hq hb1 hp1
      go_enter Try.func104, Try.ntmps104
      go_wp2_with fail
      go_region
      all_goals
        go_wp2_with fail
        first | go_end0 | ((try simp only [Exit.inBlock, Exit.then]); refine bodyPost_ret (results_none rfl _ _ _) rfl ?_)
        exact ⟨rfl, HF.out _ (by rw [HX.out]; rfl) rfl rfl rfl⟩
    | some a =>
      skip
      obtain ⟨p0, hp0, rfl⟩ := next_some hnx
      have hb0 := hr.row (i + 1) p0 hp0
      have hna : q.g ≠ p0.g := ap_ne hr.ap hq hp0 (by omega)
      have hna2 := hna.symm
      have hca : c ≠ p0.g := (blk_ne hb0 hc (by decide)).symm
      have hca2 := hca.symm
      have a3 := (blk_cell hb0 3).trans (rfl : _ = some (ptrO (prevG l (i + 1))))
      have y3 := blk_frozen hb0 3
      have t2 := (blk_cell HQB.out 3).trans (show _ = some (Value.pointer (some ⟨p1.g, 0, none⟩)) by rw [hpv]; rfl)
      have t3 := (blk_cell HQB.out 4).trans (show _ = some (Value.pointer (some ⟨p0.g, 0, none⟩)) by rw [hnx]; rfl)
      have f3 := blk_frozen HC.out 3
      have f4 := blk_frozen HC.out 4
      have z3 := blk_frozen HQB.out 3
      have z4 := blk_frozen HQB.out 4
      have hpp : p0.g ≠ p1.g := ap_ne hr.ap hp0 hp1 (by omega)
      have hpp2 := hpp.symm
      have HX := Aside0.mk (show W2 = (w.setCell ⟨p1.g, 4, none⟩ (.pointer (some ⟨p0.g, 0, none⟩))).setCell ⟨p0.g, 3, none⟩ (.pointer (some ⟨p1.g, 0, none⟩)) by rw [HW2.out, HW1.out, hpv, hnx]; rfl)
      clear hpv hnx hc hr hq hb1 hp1 hb0 hp0
      go_enter Try.func104, Try.ntmps104
      go_wp2_with fail
      go_region
      all_goals
        go_wp2_with fail
        go_region
        all_goals
          go_wp2_with fail
          first | go_end0 | ((try simp only [Exit.inBlock, Exit.then]); refine bodyPost_ret (results_none rfl _ _ _) rfl ?_)
          exact ⟨rfl, HF.out _ (by rw [HX.out]; rfl) rfl rfl rfl⟩
/-- A piece whose own cells name none behind it is put in front. -/
theorem wfront_any (hc : w.heap[c]? = some (.cells (cC d most mp (headG l) (lastG l) hits misses) 122 (0, 0))) (hr : RowW w l) (hqb : w.heap[q.g]? = some (.cells (ndC q none none) 165 (0, 0))) (hqn : ∀ p ∈ l, q.g ≠ p.g) :
    Calls Try.prog 117 #[.pointer (some ⟨c, 0, none⟩), .pointer (some ⟨q.g, 0, none⟩)] w fun e w' => e = .returned (.tuple #[]) ∧ w'.heap[c]? = some (.cells (cC d most mp (headG (q :: l)) (lastG (q :: l)) hits misses) 122 (0, 0)) ∧ RowW w' (q :: l) ∧ Below 0 w w' ∧ ∀ k, k ≠ c → k ≠ q.g → (∀ p ∈ l, p.g ≠ k) → w'.heap[k]? = w.heap[k]? := by
  have hne : c ≠ q.g := (blk_ne hqb hc (by decide)).symm
  have hne2 : q.g ≠ c := hne.symm
  have s3 := (blk_cell hc 3).trans (rfl : _ = some (ptrO (headG l)))
  have s4 := (blk_cell hc 4).trans (rfl : _ = some (ptrO (lastG l)))
  have f3 := blk_frozen hc 3
  have f4 := blk_frozen hc 4
  have z4 := blk_frozen hqb 4
  have q4 := (blk_cell hqb 4).trans (rfl : _ = some (Value.pointer none))
  have HC := Aside0.mk hc
  have HR := Aside0.mk hr
  have HQ := Aside0.mk hqb
  have HQN := Aside0.mk hqn
  cases l with
  | nil =>
    have e3 : ptrO (headG []) = .pointer none := rfl
    rw [e3] at s3
    clear hc hr hqb hqn
    go_enter Try.func117, Try.ntmps117
    go_wp2
    first | go_end0 | ((try simp only [Exit.inBlock, Exit.then]); refine bodyPost_ret (results_none rfl _ _ _) rfl ?_)
    have h1 : ∀ k, k ≠ c → k ≠ q.g → (((w.setCell ⟨q.g, 4, none⟩ (.pointer none)).setCell ⟨c, 4, none⟩ (.pointer (some ⟨q.g, 0, none⟩))).setCell ⟨c, 3, none⟩ (.pointer (some ⟨q.g, 0, none⟩))).heap[k]? = w.heap[k]? := fun k h1 h2 => (Below.heap_setCell _ ⟨c, 3, none⟩ _ k h1).trans ((Below.heap_setCell _ ⟨c, 4, none⟩ _ k h1).trans (Below.heap_setCell _ ⟨q.g, 4, none⟩ _ k h2))
    have h2 := blk_put HQ.out 4 (.pointer none) (rfl : _ = ndC q none none)
    have h3 := blk_far HC.out (p := ⟨q.g, 4, none⟩) hne (.pointer none)
    refine ⟨rfl, blk_put (blk_put h3 4 _ (rfl : _ = cC d most mp (headG []) (some q.g) hits misses)) 3 _ rfl, ?_, ⟨rfl, rfl, rfl, by rw [setsz, setsz, setsz]; exact Nat.le_refl _, fun k hk => absurd hk (Nat.not_lt_zero _)⟩, fun k hk1 hk2 _ => h1 k hk1 hk2⟩
    exact row_front HR.out (blk_far (blk_far h2 (p := ⟨c, 4, none⟩) hne2 _) (p := ⟨c, 3, none⟩) hne2 _) HQN.out (fun p hp => by simp at hp) (fun j p hp _ => by simp at hp)
  | cons p0 t =>
    have e3 : ptrO (headG (p0 :: t)) = .pointer (some ⟨p0.g, 0, none⟩) := rfl
    rw [e3] at s3
    have hb0 := hr.row 0 p0 rfl
    have hna : q.g ≠ p0.g := hqn p0 (List.mem_cons_self ..)
    have hna2 := hna.symm
    have hca : c ≠ p0.g := (blk_ne hb0 hc (by decide)).symm
    have hca2 := hca.symm
    have a3 := (blk_cell hb0 3).trans (rfl : _ = some (ptrO (prevG (p0 :: t) 0)))
    have y3 := blk_frozen hb0 3
    have HB0 := Aside0.mk hb0
    clear hc hr hqb hqn hb0
    go_enter Try.func117, Try.ntmps117
    go_wp2
    first | go_end0 | ((try simp only [Exit.inBlock, Exit.then]); refine bodyPost_ret (results_none rfl _ _ _) rfl ?_)
    have h1 : ∀ k, k ≠ c → k ≠ q.g → k ≠ p0.g → (((w.setCell ⟨q.g, 4, none⟩ (.pointer (some ⟨p0.g, 0, none⟩))).setCell ⟨p0.g, 3, none⟩ (.pointer (some ⟨q.g, 0, none⟩))).setCell ⟨c, 3, none⟩ (.pointer (some ⟨q.g, 0, none⟩))).heap[k]? = w.heap[k]? := fun k h1 h2 h3 => (Below.heap_setCell _ ⟨c, 3, none⟩ _ k h1).trans ((Below.heap_setCell _ ⟨p0.g, 3, none⟩ _ k h3).trans (Below.heap_setCell _ ⟨q.g, 4, none⟩ _ k h2))
    have h2 := blk_put HQ.out 4 (.pointer (some ⟨p0.g, 0, none⟩)) (rfl : _ = ndC q none (some p0.g))
    have h3 := blk_far (blk_far HC.out (p := ⟨q.g, 4, none⟩) hne (.pointer (some ⟨p0.g, 0, none⟩))) (p := ⟨p0.g, 3, none⟩) hca (.pointer (some ⟨q.g, 0, none⟩))
    have h4 := blk_put (blk_far HB0.out (p := ⟨q.g, 4, none⟩) hna2 (.pointer (some ⟨p0.g, 0, none⟩))) 3 (.pointer (some ⟨q.g, 0, none⟩)) (rfl : _ = ndC p0 (some q.g) (nextG (p0 :: t) 0))
    refine ⟨rfl, ?_, ?_, ⟨rfl, rfl, rfl, by rw [setsz, setsz, setsz]; exact Nat.le_refl _, fun k hk => absurd hk (Nat.not_lt_zero _)⟩, fun k hk1 hk2 hk3 => h1 k hk1 hk2 (fun e => hk3 p0 (List.mem_cons_self ..) e.symm)⟩
    · rw [last_front, if_neg (by simp)]
      exact blk_put h3 3 _ rfl
    · refine row_front HR.out (blk_far (blk_far h2 (p := ⟨p0.g, 3, none⟩) hna _) (p := ⟨c, 3, none⟩) hne2 _) HQN.out (fun p hp => ?_) (fun j p hp hj => ?_)
      · rw [List.getElem?_cons_zero] at hp
        cases hp
        exact blk_far h4 (p := ⟨c, 3, none⟩) hca2 _
      · have hpm := List.mem_of_getElem? hp
        have hb := HR.out.row j p hp
        exact h1 p.g (blk_ne hb HC.out (by decide)) (fun e => HQN.out p hpm e.symm) (fun e => ap_ne HR.out.ap hp (show (p0 :: t)[0]? = some p0 from rfl) hj e)
end
end Go.Proofs.Ytpnbjpkdbiiogaa
/- Maps of whatever elements: what their operations run to. -/
namespace Go.Proofs.Ytpnbjpkdbiiogaa
set_option linter.unusedVariables false
open Go.RowKit Go.Maps

section
variable {w : World} {P : Program} {k e t : TypeId} {b n : Nat} {f : Lit → Option Value} {z key : Value} {kl : Lit}
theorem mv_lookok_run (h : MV w P k b n f) (K : Keyed P k) (ht : P.underlying t = some (.map k e)) (hz : (zeroValue e).run P w = .ok z w) (hkey : keyOf P k key = some kl) {v : Value} {bo : Bool} (hv : (f kl).getD z = v) (hb : (f kl).isSome = bo) : (Instr.lookup t (.map (some b)) key true).run P w = .ok (.tuple #[v, .bool bo]) w := by
  obtain ⟨D, h1, h2⟩ := h
  obtain ⟨v', ps, hrun, hv'⟩ := h1.look_ok K ht hz (zd := .held z) (zp := []) rfl hkey
  have e1 : v' = v := by
    have := congrArg (Option.map Prod.fst) hv'
    simp only [R0, Option.map_some, Option.some.injEq] at this
    rw [h2 kl] at this
    rw [← hv]
    cases e : f kl with
    | none => rw [e] at this; simpa using this
    | some y => rw [e] at this; simpa using this
  rw [hrun, e1, h2.has kl, hb]
theorem mv_look_run (h : MV w P k b n f) (K : Keyed P k) (ht : P.underlying t = some (.map k e)) (hz : (zeroValue e).run P w = .ok z w) (hkey : keyOf P k key = some kl) {v : Value} (hv : (f kl).getD z = v) : (Instr.lookup t (.map (some b)) key false).run P w = .ok v w := by
  obtain ⟨D, h1, h2⟩ := h
  obtain ⟨v', ps, hrun, hv'⟩ := h1.lookup K ht hz (zd := .held z) (zp := []) rfl hkey
  have e1 : v' = v := by
    have := congrArg (Option.map Prod.fst) hv'
    simp only [R0, Option.map_some, Option.some.injEq] at this
    rw [h2 kl] at this
    rw [← hv]
    cases e : f kl with
    | none => rw [e] at this; simpa using this
    | some y => rw [e] at this; simpa using this
  rw [hrun, e1]
theorem mv_drop_run (h : MV w P k b n f) (K : Keyed P k) (ht : P.underlying t = some (.map k e)) (hkey : keyOf P k key = some kl) (ty : TypeId) : ∃ w', (Builtin.delete_ #[t, k] ty #[.map (some b), key]).run P w = .ok (.tuple #[]) w' ∧ MV w' P k b n (upd f kl none) ∧ w.mapTurned w' b := by
  obtain ⟨D, h1, h2⟩ := h
  obtain ⟨w', hrun, r1, r2⟩ := h1.drop K ht hkey ty
  exact ⟨w', hrun, ⟨_, r1, h2.del kl⟩, r2⟩
theorem mv_store_run (h : MV w P k b n f) (K : Keyed P k) (ht : P.underlying t = some (.map k e)) (hn : n < maxLen) (hkey : keyOf P k key = some kl) (val : Value) : ∃ w', (Instr.mapUpdate t (.map (some b)) key val).run P w = .ok () w' ∧ MV w' P k b (n + 1) (upd f kl (some val)) ∧ w.mapTurned w' b := by
  obtain ⟨D, h1, h2⟩ := h
  obtain ⟨w', hrun, r1, r2⟩ := h1.store K ht hn (val := val) (d := .held val) (ps := []) hkey rfl
  exact ⟨w', hrun, ⟨_, r1, h2.put h1.isMap (key_lit hkey) val⟩, r2⟩
/-- How many entries there are: the keys are listed. -/
theorem mv_size {D : DataW Value} (h1 : w.ownsMap P k R0 b n D) (h2 : Tells D f) (K : Keyed P k) (ks : List Lit) (hn : ks.Nodup) (hk : ∀ q, (f q).isSome = true ↔ q ∈ ks) : Maps.size D = ks.length := by
  obtain ⟨es, hD, hp, hkl⟩ := h1.entries K
  subst hD
  have hm : ∀ q, q ∈ es.map Prod.fst ↔ q ∈ ks := fun q => by
    rw [← hk q, ← h2.has q, has_eq, List.any_eq_true, List.mem_map]
    constructor
    · rintro ⟨p, hpm, rfl⟩
      exact ⟨p, hpm, WideAt.sameKey_self (hkl p hpm)⟩
    · rintro ⟨p, hpm, hs⟩
      exact ⟨p, hpm, WideAt.sameKey_eq hs⟩
  have hnd : (es.map Prod.fst).Nodup := by
    unfold List.Nodup
    rw [List.pairwise_map]
    exact hp
  have := ((List.perm_ext_iff_of_nodup hnd hn).2 hm).length_eq
  rw [List.length_map] at this
  rw [size_eq, this]
theorem mv_len_run (h : MV w P k b n f) (K : Keyed P k) (ht : P.underlying t = some (.map k e)) (ks : List Lit) (hn : ks.Nodup) (hk : ∀ q, (f q).isSome = true ↔ q ∈ ks) (ty : TypeId) : (Builtin.len_ #[t] ty #[.map (some b)]).run P w = .ok (.int .i64 (ks.length : Int)) w := by
  obtain ⟨D, h1, h2⟩ := h
  rw [h1.len ht ty, mv_size h1 h2 K ks hn hk]
theorem mv_len_le (h : MV w P k b n f) (K : Keyed P k) (ks : List Lit) (hn : ks.Nodup) (hk : ∀ q, (f q).isSome = true ↔ q ∈ ks) : ks.length ≤ n := by
  obtain ⟨D, h1, h2⟩ := h
  rw [← mv_size h1 h2 K ks hn hk]
  exact h1.size_le
end
end Go.Proofs.Ytpnbjpkdbiiogaa
