/- The disk: Create, with what stays; ids. -/
import Derived.Test.YtpnbjpkdbiiogaaGreatJf
import Derived.Test.YtpnbjpkdbiiogaaGreatJe
import Derived.Outline
import Derived.Test.YtpnbjpkdbiiogaaGreatJb
namespace Go.Proofs.YtpnbjpkdbiiogaaGreat
set_option linter.unusedVariables false
open Go.RowKit Go.Maps Go.Sort Go.Shelf Go.Proofs.YtpnbjpkdbiiogaaGreatW.PrintWords
attribute [local go_sem] mx2 mn2 mxTwo mnTwo

set_option maxHeartbeats 1000000 in
set_option maxRecDepth 100000 in
theorem kcreate_kt (b : Nat) (y : Nat → Prop) (g gd mn ms : Nat) (vo : Value) (N : Nat) (now safe : List DN) (ops : List DOp) (mf M : Nat) (fl : List FR) (next room fuse : Int) (armed dead : Bool) (w : World) (h : DK w b y g gd mn ms vo N now safe ops mf M fl next room fuse armed dead) (h0 : 0 ≤ fuse) (h1 : fuse ≤ 9223372036854775807) (hN : N < 1000000) (hM : M < 1000000) (hlo : ops.length ≤ 100000) (hn0 : 0 ≤ next) (hn1 : next ≤ 1000000) (hnx : ∀ p ∈ fl, p.id < next)
    (s sb : ByteArray) (hs : s.size ≤ maxLen) (hc : (chg fuse armed dead).1 = 0) (hd : doCode now ⟨0, s, sb, next⟩ = 0) :
    Calls Tryz.prog 24 #[.pointer (some ⟨g, 0, none⟩), .string s] w fun e w' => e = .returned (.int .i64 0) ∧ ∃ vo' g', DK w' b y g gd mn ms vo' (N + 1) (didL now ⟨0, s, sb, next⟩) safe (ops ++ [nrm ⟨0, s, sb, next⟩]) mf (M + 1) (fl ++ [⟨next, g', .slice none 0 0, .slice none 0 0, .slice none 0 0, [], [], []⟩]) (next + 1) room (chg fuse armed dead).2.1 armed (chg fuse armed dead).2.2 ∧ KT w w' ∧ Below b w w' := by
  have hbw : b ≤ w.heap.size := Nat.le_trans h.hg (Nat.le_of_lt (blk_lt h.hb))
  obtain ⟨fu, hfu⟩ : ∃ x, x = (chg fuse armed dead).2.1 := ⟨_, rfl⟩
  obtain ⟨de, hde⟩ : ∃ x, x = (chg fuse armed dead).2.2 := ⟨_, rfl⟩
  have HCH := Aside0.mk (change_kt b y g gd mn ms vo N now safe ops mf M fl next room fuse armed dead w h h0 h1)
  rw [hc, ← hfu, ← hde] at HCH
  rw [← hfu, ← hde]
  have HNX := Aside0.mk hnx
  have HNOW := Aside0.mk (show doNow now ⟨0, s, sb, next⟩ = didL now ⟨0, s, sb, next⟩ ∧ doOpsI now ops ⟨0, s, sb, next⟩ = ops ++ [nrm ⟨0, s, sb, next⟩] by unfold doNow doOpsI; rw [if_pos hd, if_pos hd]; exact ⟨rfl, rfl⟩)
  have HD := Aside0.mk hd
  have HKN := Aside0.mk (keyOf_int_mk (P := Tryz.prog) Tryz.underlying3 (WalkArith.wf_i64 (by omega) : (Lit.int .i64 next).wf = true))
  clear h hnx hd hfu hde hc
  go_enter Tryz.func24, Tryz.ntmps24
  go_wp2_with (go_at_call 39; refine HCH.out.mono ?_; rintro e w1 ⟨rfl, hk1, ht1, hl1⟩; have H := Aside0.mk hk1; have HL := Aside0.mk hl1; have HT := Aside0.mk ht1; clear hk1 ht1 hl1)
  have s0 := (blk_cell H.out.hb 0).trans (rfl : _ = some (Value.pointer (some ⟨gd, 0, none⟩)))
  have s2 := (blk_cell H.out.hb 2).trans (rfl : _ = some (Value.int .i64 next))
  clear HCH
  go_region_held3 (fun w' => w'.cell? ⟨g, 0, none⟩ = some (.pointer (some ⟨gd, 0, none⟩)) ∧ w'.cell? ⟨g, 2, none⟩ = some (.int .i64 next)) (first | with_reducible exact ⟨s0, s2⟩ | exact ⟨s0, s2⟩) (first | (go_at_call 58; refine (dcreate_any b gd mn ms N vo now safe ops _ (H.out.below (below_drew1 (Below.refl _ _))).hd hN hlo s sb next hs).mono ?_; rw [HD.out, HNOW.out.1, HNOW.out.2]; rintro e w2 ⟨rfl, vo', hd2, hv2, hk2, hl2⟩; have h2 := (H.out.below (below_drew1 (Below.refl _ _))).dir hd2 hk2; replace s0 := (blk_cell h2.hb 0).trans (rfl : _ = some (Value.pointer (some ⟨gd, 0, none⟩))); replace s2 := (blk_cell h2.hb 2).trans (rfl : _ = some (Value.int .i64 next)); have hl3 := (HL.out.trans (below_drew1 (Below.refl _ _))).trans hl2; have ht3 := (HT.out.trans (KT.of_below (below_drew1 (Below.refl _ _)))).trans (KT.dir (H.out.below (below_drew1 (Below.refl _ _))) hk2); clear H HL HT; have H := Aside0.mk h2; have HL := Aside0.mk hl3; have HT := Aside0.mk ht3; clear hd2 hv2 hk2 hl2 h2 hl3 ht3))
  all_goals
    go_wp2_with fail
    have s1 := (blk_cell H.out.hb 1).trans (rfl : _ = some (Value.map (some mf)))
    go_region_held3 (fun w' => w'.cell? ⟨g, 1, none⟩ = some (.map (some mf)) ∧ w'.cell? ⟨g, 2, none⟩ = some (.int .i64 next)) (first | with_reducible exact ⟨s1, s2⟩ | with_reducible exact ⟨s1b, s2b⟩ | exact ⟨s1, s2⟩) (first | (go_at_call 59; refine (fnew_any b (fun _ => True) _ (Nat.le_trans (H.out.below (below_drew1 (Below.refl _ _))).hg (Nat.le_of_lt (blk_lt (H.out.below (below_drew1 (Below.refl _ _))).hb)))).mono ?_; rintro e w3 ⟨rfl, hf3, hb3⟩; have h3 := (H.out.below (below_drew1 (Below.refl _ _))).below hb3; replace s1 := (blk_cell h3.hb 1).trans (rfl : _ = some (Value.map (some mf))); replace s2 := (blk_cell h3.hb 2).trans (rfl : _ = some (Value.int .i64 next)); obtain ⟨w4, hrun, hm4, ht4⟩ := mv_run h3.hm lawI Tryz.underlying52 (by unfold maxLen; omega) HKN.out (.pointer (some ⟨w2.heap.size, 0, none⟩)); have hfin := (H.out.below (below_drew1 (Below.refl _ _))).addFile hb3 hf3 HNX.out hm4 ht4; have s1b := (blk_cell hfin.1.hb 1).trans (rfl : _ = some (Value.map (some mf))); have s2b := (blk_cell hfin.1.hb 2).trans (rfl : _ = some (Value.int .i64 next)); have f2b := blk_frozen hfin.1.hb 2; have HF := Aside0.mk hfin; have HT4 := Aside0.mk (((HT.out.trans (KT.of_below (below_drew1 (Below.refl _ _)))).trans (KT.of_below hb3)).trans (KT.map ⟨_, _, _, _, h3.hm⟩ ht4)); clear hfin hm4 ht4 hf3 hb3 h3))
    all_goals
      go_wp2_with fail
      go_ret
      have hd := HF.out.1
      exact ⟨rfl, _, _, hd.own (blk_put hd.hb 2 _ rfl) (fun k hk => Below.heap_setCell _ _ _ k hk), HT4.out.trans (KT.own hd (by rw [setsz]; exact Nat.le_refl _) (fun k hk => Below.heap_setCell _ _ _ k hk)), ((HL.out.trans (below_drew1 (Below.refl _ _))).trans HF.out.2).setCell (p := ⟨g, 2, none⟩) hd.hg _⟩

set_option maxHeartbeats 1000000 in
set_option maxRecDepth 100000 in
theorem kcreate_bad (b : Nat) (y : Nat → Prop) (g gd mn ms : Nat) (vo : Value) (N : Nat) (now safe : List DN) (ops : List DOp) (mf M : Nat) (fl : List FR) (next room fuse : Int) (armed dead : Bool) (w : World) (h : DK w b y g gd mn ms vo N now safe ops mf M fl next room fuse armed dead) (h0 : 0 ≤ fuse) (h1 : fuse ≤ 9223372036854775807) (hN : N < 1000000) (hlo : ops.length ≤ 100000)
    (s sb : ByteArray) (hs : s.size ≤ maxLen) (hc : (chg fuse armed dead).1 = 0) (dc : Int) (hd : doCode now ⟨0, s, sb, next⟩ = dc) (hdc : dc ≠ 0) :
    Calls Tryz.prog 24 #[.pointer (some ⟨g, 0, none⟩), .string s] w fun e w' => e = .returned (.int .i64 dc) ∧ (∃ vo', DK w' b y g gd mn ms vo' (N + 1) now safe ops mf M fl next room (chg fuse armed dead).2.1 armed (chg fuse armed dead).2.2) ∧ KT w w' ∧ Below b w w' := by
  have hbw : b ≤ w.heap.size := Nat.le_trans h.hg (Nat.le_of_lt (blk_lt h.hb))
  obtain ⟨fu, hfu⟩ : ∃ x, x = (chg fuse armed dead).2.1 := ⟨_, rfl⟩
  obtain ⟨de, hde⟩ : ∃ x, x = (chg fuse armed dead).2.2 := ⟨_, rfl⟩
  have HCH := Aside0.mk (change_kt b y g gd mn ms vo N now safe ops mf M fl next room fuse armed dead w h h0 h1)
  rw [hc, ← hfu, ← hde] at HCH
  rw [← hfu, ← hde]
  have HNOW := Aside0.mk (show doNow now ⟨0, s, sb, next⟩ = now ∧ doOpsI now ops ⟨0, s, sb, next⟩ = ops by unfold doNow doOpsI; rw [hd, if_neg hdc, if_neg hdc]; exact ⟨rfl, rfl⟩)
  have HD := Aside0.mk hd
  have hne : (dc != 0) = true := bne_iff_ne.mpr hdc
  clear h hd hfu hde hc
  go_enter Tryz.func24, Tryz.ntmps24
  go_wp2_with (go_at_call 39; refine HCH.out.mono ?_; rintro e w1 ⟨rfl, hk1, ht1, hl1⟩; have H := Aside0.mk hk1; have HL := Aside0.mk hl1; have HT := Aside0.mk ht1; clear hk1 ht1 hl1)
  have s0 := (blk_cell H.out.hb 0).trans (rfl : _ = some (Value.pointer (some ⟨gd, 0, none⟩)))
  have s2 := (blk_cell H.out.hb 2).trans (rfl : _ = some (Value.int .i64 next))
  clear HCH
  go_region_held3 (fun w' => w'.cell? ⟨g, 0, none⟩ = some (.pointer (some ⟨gd, 0, none⟩)) ∧ w'.cell? ⟨g, 2, none⟩ = some (.int .i64 next)) (first | with_reducible exact ⟨s0, s2⟩ | exact ⟨s0, s2⟩) (first | (go_at_call 58; refine (dcreate_any b gd mn ms N vo now safe ops _ (H.out.below (below_drew1 (Below.refl _ _))).hd hN hlo s sb next hs).mono ?_; rw [HD.out, HNOW.out.1, HNOW.out.2]; rintro e w2 ⟨rfl, vo', hd2, hv2, hk2, hl2⟩; have h2 := (H.out.below (below_drew1 (Below.refl _ _))).dir hd2 hk2; replace s0 := (blk_cell h2.hb 0).trans (rfl : _ = some (Value.pointer (some ⟨gd, 0, none⟩))); replace s2 := (blk_cell h2.hb 2).trans (rfl : _ = some (Value.int .i64 next)); have hl3 := (HL.out.trans (below_drew1 (Below.refl _ _))).trans hl2; have ht3 := (HT.out.trans (KT.of_below (below_drew1 (Below.refl _ _)))).trans (KT.dir (H.out.below (below_drew1 (Below.refl _ _))) hk2); clear H HL HT; have H := Aside0.mk h2; have HL := Aside0.mk hl3; have HT := Aside0.mk ht3; clear hd2 hv2 hk2 hl2 h2 hl3 ht3))
  all_goals
    go_wp2_with fail
    go_ret
    exact ⟨rfl, ⟨_, H.out⟩, HT.out, HL.out⟩
/-- maps.Keys, of the map of files. -/
theorem fkeys_any (mb : Option Nat) (w : World) : Calls Tryz.prog 78 #[.map mb] w fun e w' => e = .returned (.func (.func 101) #[] #[.pointer (some ⟨w.heap.size, 0, none⟩)]) ∧ w' = w.alloc (.cells #[.map mb] 52) :=
  (callsIn_wide (n := 5)).1 (AnyZI.keys_in Tryz.keys78 Fence.wide 5 trivial rfl mb w)
theorem fsorts_in (m : Nat) : AnyZI.SortsIn Tryz.prog Tryz.sorted77_ren Fence.wide m :=
  ⟨fun blk off cap ss W hH hblk hsz => callsIn_wide.2 (AnyM.slices_Sort_int Tryz.sort100 blk off cap ss W hH hblk hsz),
   fun p cap W => callsIn_wide.2 (AnyM.slices_Sort_int_none Tryz.sort100 p cap W)⟩
set_option maxHeartbeats 1000000 in
theorem fsorted_any (b nn : Nat) (D0 : DataW Value) (w : World) (hown : w.ownsMap Tryz.prog 3 R0 b nn D0) (hmax : Maps.size D0 ≤ maxLen) (hbytes : Maps.size D0 * 8 ≤ 140737488355328) :
    Calls Tryz.prog 77 #[.func (.func 101) #[] #[.pointer (some ⟨w.heap.size, 0, none⟩)]] (w.alloc (.cells #[.map (some b)] 52)) fun e w' => ∃ (v : Value) (ss : List Int), e = .returned v ∧ ss.Perm (intKeys D0) ∧
      w'.ownsRow (w.alloc (.cells #[.map (some b)] 52)).heap.size 3 1 v ss.length ((ss.mergeSort (fun x y => decide (x ≤ y))).map encZ) ∧ Below (w.alloc (.cells #[.map (some b)] 52)).heap.size (w.alloc (.cells #[.map (some b)] 52)) w' := by
  have hbl := hown.lt
  have hseq : SeqGives Fence.wide 2 Tryz.prog 101 #[.pointer (some ⟨w.heap.size, 0, none⟩)] encZ (fun ss => ss.Perm (intKeys D0)) (Maps.size D0) (w.alloc (.cells #[.map (some b)] 52)) :=
    AnyZI.keys_gives (ρ := Tryz.keys78_ren) { Tryz.keys78 with } Fence.wide _ trivial rfl (by omega) w.heap.size b nn D0 _ (by simp) (by simp) (by
      obtain ⟨es, clock, hb, Ft, hs, hD⟩ := hown
      exact ⟨es, clock, (Below.heap_alloc _ _ b hbl).trans hb, Ft, hs, hD⟩)
  have h := AnyZI.sorted_in Tryz.sorted77 Fence.wide 5 trivial trivial trivial trivial rfl (by omega) (fsorts_in _) (enters_of Tryz.func100 (by kernel_rfl) rfl) 101 #[.pointer (some ⟨w.heap.size, 0, none⟩)] trivial (enters_of Tryz.func101 (by kernel_rfl) rfl) _ _ hmax hbytes _ hseq
  refine ((callsIn_wide (n := 5)).1 h).mono ?_
  rintro e w' ⟨v, ss, h1, h2, h3, _, h5⟩
  exact ⟨v, ss, h1, h2, h3, h5⟩
theorem fids_mem (fl : List FR) (x : Int) : (filesF fl (.int .i64 x)).isSome = true ↔ x ∈ fl.map FR.id := by
  rw [filesF_at]
  unfold fileAt
  rw [Option.isSome_map, List.find?_isSome, List.mem_map]
  simp
open Classical in
theorem perm_ids {w : World} {m n : Nat} {D : DataW Value} {fl : List FR} (hown : w.ownsMap Tryz.prog 3 R0 m n D) (ht : Tells D (filesF fl)) (hr : (fl.map FR.id).Pairwise (· < ·)) : (fl.map FR.id).Perm (intKeys D) := by
  obtain ⟨es, hD, hp, hk⟩ := hown.entries lawI
  subst hD
  refine perm_intKeys hp (fun p hpm => ?_) (hr.imp (fun hab e => by omega)) (fun x => ?_)
  · have h1 : has (.map es) p.1 = true := by
      rw [has_eq, List.any_eq_true]
      exact ⟨p, hpm, WideAt.sameKey_self (hk p hpm)⟩
    rw [ht.has] at h1
    unfold filesF at h1
    rw [Option.isSome_map, List.find?_isSome] at h1
    obtain ⟨q, _, hq⟩ := h1
    exact ⟨_, (of_decide_eq_true hq).symm⟩
  · rw [ht.has, ← fids_mem]
theorem ids_sort (l : List Int) (h : l.Pairwise (· < ·)) : l.mergeSort (fun x y => decide (x ≤ y)) = l := by
  refine List.mergeSort_of_pairwise (h.imp ?_)
  intro a b hab
  exact decide_eq_true (by omega)
/-- The numbers of all files. -/
theorem ids_any (b : Nat) (y : Nat → Prop) (g gd mn ms : Nat) (vo : Value) (N : Nat) (now safe : List DN) (ops : List DOp) (mf M : Nat) (fl : List FR) (next room fuse : Int) (armed dead : Bool) (w : World) (h : DK w b y g gd mn ms vo N now safe ops mf M fl next room fuse armed dead) (hr : (fl.map FR.id).Pairwise (· < ·)) (hM : M ≤ 1000000) :
    Calls Tryz.prog 47 #[.pointer (some ⟨g, 0, none⟩)] w fun e w' => ∃ v, e = .returned v ∧ Kd.R (Kd.int .i64) 3 w' w.heap.size (fun _ => True) v (fl.map FR.id) ∧ Below w.heap.size w w' := by
  have hc0 := (blk_cell h.hb 1).trans (rfl : _ = some (Value.map (some mf)))
  obtain ⟨D, hown, ht⟩ := h.hm
  have hp := perm_ids hown ht hr
  have hsz : Maps.size D ≤ M := hown.size_le
  have HC := Aside0.mk (fsorted_any mf M D w hown (by unfold maxLen; omega) (by omega))
  have HP := Aside0.mk hp
  have HR := Aside0.mk hr
  clear h hown ht hp hr
  go_enter Tryz.func47, Tryz.ntmps47
  go_wp2_with (first
    | (go_at_call 78; refine (fkeys_any _ _).mono ?_; rintro e w1 ⟨rfl, rfl⟩)
    | (go_at_call 77; refine HC.out.mono ?_; rintro e w2 ⟨v, ss, rfl, hss, hrow, hb⟩; have HX := Aside0.mk (And.intro hss hrow); have HB := Aside0.mk hb; clear hss hrow hb))
  go_ret
  obtain ⟨hss, hrow⟩ := HX.out
  have e : ss.mergeSort (fun x y => decide (x ≤ y)) = fl.map FR.id := by
    have := mergeSort_of_perm_i (hss.trans HP.out.symm)
    exact this.trans (ids_sort _ HR.out)
  have hl : ss.length = (fl.map FR.id).length := by rw [(hss.trans HP.out.symm).length_eq]
  rw [e, hl] at hrow
  have hsz2 : (w.alloc (.cells #[.map (some mf)] 52)).heap.size = w.heap.size + 1 := World.size_alloc ..
  have hR : Kd.R (Kd.int .i64) 3 w2 (w.alloc (.cells #[.map (some mf)] 52)).heap.size (fun _ => True) v (fl.map FR.id) := Kd.R_of_own hrow (fun _ _ => trivial)
  exact ⟨v, rfl, Kd.R_lower hR (by rw [hsz2]; omega), below_step (below_alloc (Below.refl _ _) _) HB.out⟩
end Go.Proofs.YtpnbjpkdbiiogaaGreat
/- The disk: Loose. -/
namespace Go.Proofs.YtpnbjpkdbiiogaaGreat
set_option linter.unusedVariables false
open Go.RowKit Go.Maps Go.Proofs.YtpnbjpkdbiiogaaGreatW.PrintWords
attribute [local go_sem] mx2 mn2 mxTwo mnTwo

/-- What is loose with the files that a walk has left behind. -/
def sumL (fl : List FR) (left : Lit → Bool) : Nat := (fl.map (fun p => if left (.int .i64 p.id) then 0 else p.ops.length)).sum
def looseK (ops : List DOp) (fl : List FR) : Int := ((ops.length + (fl.map (fun p => p.ops.length)).sum : Nat) : Int)
theorem sumL_all (fl : List FR) (left : Lit → Bool) (h : ∀ kl, left kl = false) : sumL fl left = (fl.map (fun p => p.ops.length)).sum := by
  unfold sumL
  congr 1
  refine List.map_congr_left (fun p _ => ?_)
  rw [h]
  rfl
theorem sumL_none (fl : List FR) (left : Lit → Bool) (h : ∀ p ∈ fl, left (.int .i64 p.id) = true) : sumL fl left = 0 := by
  unfold sumL
  induction fl with
  | nil => rfl
  | cons a t ih =>
    rw [List.map_cons, List.sum_cons, ih (fun p hp => h p (List.mem_cons_of_mem _ hp)), h a (List.mem_cons_self ..)]
    rfl
theorem sumL_le (fl : List FR) (left : Lit → Bool) (m : Nat) (h : ∀ p ∈ fl, p.ops.length ≤ m) : sumL fl left ≤ m * fl.length := by
  unfold sumL
  induction fl with
  | nil => simp
  | cons a t ih =>
    have := ih (fun p hp => h p (List.mem_cons_of_mem _ hp))
    have ha := h a (List.mem_cons_self ..)
    rw [List.map_cons, List.sum_cons, List.length_cons, Nat.mul_succ]
    split <;> omega
theorem sumL_same (left : Lit → Bool) (kl : Lit) : ∀ (fl : List FR), (∀ p ∈ fl, Lit.int .i64 p.id ≠ kl) → sumL fl (fun z => left z && !z.sameKey kl) = sumL fl left
  | [], _ => rfl
  | a :: t, h => by
    have ih := sumL_same left kl t (fun p hp => h p (List.mem_cons_of_mem _ hp))
    have ha : (Lit.int .i64 a.id).sameKey kl = false := sameKey_ne (h a (List.mem_cons_self ..))
    unfold sumL at ih ⊢
    rw [List.map_cons, List.map_cons, List.sum_cons, List.sum_cons, ih]
    simp [ha]
theorem sumL_step (left : Lit → Bool) : ∀ (fl : List FR), fl.Pairwise (fun p q => p.id ≠ q.id) → ∀ (p : FR), p ∈ fl → left (.int .i64 p.id) = true → sumL fl (fun z => left z && !z.sameKey (.int .i64 p.id)) = sumL fl left + p.ops.length
  | [], _, p, hp, _ => by simp at hp
  | a :: t, h, p, hp, hl => by
    rw [List.pairwise_cons] at h
    have e0 : ∀ (L : Lit → Bool), sumL (a :: t) L = (if L (.int .i64 a.id) then 0 else a.ops.length) + sumL t L := fun L => by unfold sumL; rw [List.map_cons, List.sum_cons]
    rw [e0, e0]
    rcases List.mem_cons.1 hp with e | hp'
    · subst e
      rw [sumL_same left _ t (fun q hq e => h.1 q hq (by injection e with _ e; exact e.symm))]
      have hs : (Lit.int .i64 p.id).sameKey (.int .i64 p.id) = true := WideAt.sameKey_self trivial
      simp only [hl, hs]
      simp
      omega
    · rw [sumL_step left t h.2 p hp' hl]
      have ha : (Lit.int .i64 a.id).sameKey (.int .i64 p.id) = false := sameKey_ne (fun e => h.1 p hp' (by injection e))
      simp only [ha]
      simp
      omega
theorem invI : ∀ key kl, keyOf Tryz.prog 3 key = some kl → ∃ x : Int, key = Value.int .i64 x := by
  intro key kl h
  obtain ⟨x, hx, _, _⟩ := Maps.keyOf_i64 Tryz.underlying3 h
  exact ⟨x, hx⟩
theorem fileAt_has {fl : List FR} {p : FR} (hp : p ∈ fl) : (filesF fl (.int .i64 p.id)).isSome = true := (fids_mem fl p.id).2 (List.mem_map.2 ⟨p, hp, rfl⟩)
set_option maxHeartbeats 1000000 in
set_option maxRecDepth 100000 in
theorem loose_any (b : Nat) (y : Nat → Prop) (g gd mn ms : Nat) (vo : Value) (N : Nat) (now safe : List DN) (ops : List DOp) (mf M : Nat) (fl : List FR) (next room fuse : Int) (armed dead : Bool) (w : World) (h : DK w b y g gd mn ms vo N now safe ops mf M fl next room fuse armed dead) (hk : ∀ p ∈ fl, p.ops.length ≤ 500000) (hlo : ops.length ≤ 100000) (hfl : fl.length ≤ 100000) : Calls Tryz.prog 23 #[.pointer (some ⟨g, 0, none⟩)] w fun e w' => e = .returned (.int .i64 (looseK ops fl)) ∧ Below w.heap.size w w' := by
  have c0 := (blk_cell h.hb 0).trans (rfl : _ = some (Value.pointer (some ⟨gd, 0, none⟩)))
  have c1 := (blk_cell h.hb 1).trans (rfl : _ = some (Value.map (some mf)))
  have H := Aside0.mk h
  have HK := Aside0.mk hk
  clear h hk
  go_enter Tryz.func23, Tryz.ntmps23
  go_wp2_with (first
    | (go_at_call 45; refine (dpending_any b gd mn ms N vo now safe ops _ H.out.hd).mono ?_; rintro e w1 ⟨rfl, rfl⟩)
    | (at_range; refine mv_range rfl _ 52 rfl 3 81 lawI Tryz.underlying52 mf M (filesF fl) rfl H.out.hm ?_; intro w2 cnt hcnt hrg hg0 hs0))
  go_frame
  have hbl : Below w.heap.size w w2 := ⟨hg0.os, hg0.tape, hg0.output, hg0.size, fun i hi => hg0.block i hi (by simp)⟩
  have HRG := Aside0.mk hrg
  have HBL := Aside0.mk hbl
  have HS0 := Aside0.mk (sumL_none fl (fun q => (filesF fl q).isSome) (fun p hp => fileAt_has hp))
  clear hrg hg0 hs0 hcnt hbl
  go_loopg [3, 5] cnt (fun q v3 v5 wr => ∃ (left : Lit → Bool) (cnt S : Nat), v3 = .int .i64 ((ops.length : Int) + (S : Int)) ∧ S ≤ 500000 * fl.length ∧ Aside0 (q = cnt) ∧ Aside0 (sumL fl left = S) ∧ Aside0 (MR wr Tryz.prog 3 mf w.heap.size M (filesF fl) left cnt) ∧ Aside0 (Below w.heap.size w wr))
  case atStart => exact ⟨_, cnt, 0, by simp, Nat.zero_le _, ⟨rfl⟩, HS0, HRG, HBL⟩
  case round =>
    clear HRG HBL HS0
    obtain ⟨left, cnt, S, rfl, hSb, hq, HS, HR, HB⟩ := hrel
    go_wp2_with (at_next; refine mv_next rfl _ rfl 3 lawI (fun x : Int => Value.int .i64 x) invI mf w.heap.size M (filesF fl) left cnt rfl HR.out ?_ ?_)
    · intro hl0
      have hfin : (ops.length : Int) + (S : Int) = looseK ops fl := by
        unfold looseK
        rw [← HS.out, sumL_all fl left hl0]
        push_cast
        rfl
      have HF := Aside0.mk hfin
      clear hfin hl0 HS HR
      go_wp2_with fail
      go_ret
      rw [← HF.out]
      exact ⟨rfl, HB.out⟩
    · intro x v kq w3 cnt3 hkq hlk hfv hrg3 hlt3 hg3 hs3 hen
      obtain ⟨x', hx', hkx, _⟩ := Maps.keyOf_i64 Tryz.underlying3 hkq
      have hxx : x = x' := by injection hx'
      subst hxx
      subst hkx
      rw [filesF_at] at hfv
      obtain ⟨p, hp, hpv⟩ := Option.map_eq_some_iff.1 hfv
      obtain ⟨hpm, hpi⟩ := fileAt_mem hp
      subst hpi
      have hst := sumL_step left fl (H.out.hf.ap.imp (fun h => h.1)) p hpm hlk
      rw [HS.out] at hst
      have hpl := HK.out p hpm
      have hle := sumL_le fl (fun z => left z && !z.sameKey (.int .i64 p.id)) 500000 HK.out
      rw [hst] at hle
      have hb3 : Below w.heap.size w w3 := HB.out.grown hg3 HB.out.size (fun j hj => by cases hj; exact Nat.le_refl _)
      have HFI := Aside0.mk ((H.out.hf.hf p hpm).below hb3)
      have HST := Aside0.mk hst
      have HR3 := Aside0.mk hrg3
      have HB3 := Aside0.mk hb3
      unfold FR.v at hpv
      subst hpv
      clear hkq hfv hrg3 hg3 hlk hst hp hpm hx' hb3 HR HS HB
      go_wp2_with (go_at_call 49; refine (fpending_any b p.g _ _ _ _ _ _ _ _ HFI.out).mono ?_; rintro e w4 ⟨rfl, hw⟩; subst hw)
      go_roundg cnt3
      case measure => have := hq.out; omega
      case rel => exact ⟨_, cnt3, S + p.ops.length, by go_num, hle, ⟨rfl⟩, HST, HR3, HB3⟩
end Go.Proofs.YtpnbjpkdbiiogaaGreat
/- The disk, what a crash leaves; the parts of what is kept; the new disk as it is filled. -/
namespace Go.Proofs.YtpnbjpkdbiiogaaGreat
set_option linter.unusedVariables false
open Go.RowKit Go.Maps Go.Proofs.YtpnbjpkdbiiogaaGreatW.PrintWords
attribute [local go_sem] mx2 mn2 mxTwo mnTwo

theorem crashD_take (safe : List DN) (ops : List DOp) (kl : List Bool) (n : Nat) : ∀ i, i ≤ n → crashD safe ops (kl.take n) i = crashD safe ops kl i
  | 0, _ => rfl
  | i + 1, h => by
    have ih := crashD_take safe ops kl n i (by omega)
    have e : (kl.take n).getD i false = kl.getD i false := by
      rw [List.getD_eq_getElem?_getD, List.getD_eq_getElem?_getD, List.getElem?_take, if_pos (by omega)]
    unfold crashD
    rw [ih, e]
theorem crashF_take (safe : List Int) (ops : List FOp) (kl : List Bool) (n : Nat) : ∀ i, i ≤ n → crashF safe ops (kl.take n) i = crashF safe ops kl i
  | 0, _ => rfl
  | i + 1, h => by
    have ih := crashF_take safe ops kl n i (by omega)
    have e : (kl.take n).getD i false = kl.getD i false := by
      rw [List.getD_eq_getElem?_getD, List.getD_eq_getElem?_getD, List.getElem?_take, if_pos (by omega)]
    unfold crashF
    rw [ih, e]
/-- A file without its place. -/
structure PV where
  id : Int
  now : List Int
  safe : List Int
  ops : List FOp
def FR.pv (p : FR) : PV := ⟨p.id, p.now, p.safe, p.ops⟩
def PV.crash (p : PV) (kl : List Bool) : PV := ⟨p.id, crashF p.safe p.ops kl p.ops.length, crashF p.safe p.ops kl p.ops.length, []⟩
/-- The files that are left, in their order. -/
def crashP (nm : Int → Bool) (kl : List Bool) : Nat → List PV → List PV
  | _, [] => []
  | at_, p :: t => (if nm p.id then [p.crash (kl.drop at_)] else []) ++ crashP nm kl (at_ + p.ops.length) t
def opsSum (l : List PV) : Nat := (l.map (fun p => p.ops.length)).sum
theorem opsSum_cons (p : PV) (t : List PV) : opsSum (p :: t) = p.ops.length + opsSum t := rfl
theorem opsSum_snoc (l : List PV) (p : PV) : opsSum (l ++ [p]) = opsSum l + p.ops.length := by unfold opsSum; rw [List.map_append, List.sum_append]; rfl
theorem crashP_snoc (nm : Int → Bool) (kl : List Bool) : ∀ (l : List PV) (at_ : Nat) (p : PV), crashP nm kl at_ (l ++ [p]) = crashP nm kl at_ l ++ (if nm p.id then [p.crash (kl.drop (at_ + opsSum l))] else [])
  | [], at_, p => by
    show (if nm p.id then [p.crash (kl.drop at_)] else []) ++ crashP nm kl _ [] = [] ++ _
    simp [crashP, opsSum]
  | q :: t, at_, p => by
    show (if nm q.id then [q.crash (kl.drop at_)] else []) ++ crashP nm kl (at_ + q.ops.length) (t ++ [p]) = _
    rw [crashP_snoc nm kl t (at_ + q.ops.length) p, opsSum_cons, ← Nat.add_assoc, ← List.append_assoc]
    rfl
theorem crashP_id (nm : Int → Bool) (kl : List Bool) : ∀ (l : List PV) (at_ : Nat) (q : PV), q ∈ crashP nm kl at_ l → ∃ p ∈ l, p.id = q.id
  | [], _, q, h => by simp [crashP] at h
  | p :: t, at_, q, h => by
    unfold crashP at h
    rcases List.mem_append.1 h with h | h
    · split at h
      · rw [List.mem_singleton] at h
        subst h
        exact ⟨p, List.mem_cons_self .., rfl⟩
      · simp at h
    · obtain ⟨p', hp', e⟩ := crashP_id nm kl t _ q h
      exact ⟨p', List.mem_cons_of_mem _ hp', e⟩
/-- Which numbers have names. -/
def namedI (l : List DN) (id : Int) : Bool := l.any (fun p => decide (p.2 = id))
open Classical in
noncomputable def namedF (l : List DN) : Lit → Option Value := fun q => if l.any (fun p => decide (Lit.int .i64 p.2 = q)) then some (.bool true) else none
theorem namedF_at (l : List DN) (id : Int) : (namedF l (.int .i64 id)).getD (.bool false) = .bool (namedI l id) := by
  unfold namedF namedI
  have e : (l.any (fun p => @decide (Lit.int .i64 p.2 = Lit.int .i64 id) (Classical.propDecidable _))) = l.any (fun p => decide (p.2 = id)) := by
    congr 1
    funext p
    simp
  rw [e]
  cases l.any (fun p => decide (p.2 = id)) <;> rfl
theorem namedF_nil : namedF [] = fun _ => none := rfl
theorem namedF_snoc (l : List DN) (p : DN) : namedF (l ++ [p]) = upd (namedF l) (.int .i64 p.2) (some (.bool true)) := by
  funext q
  by_cases e : q = .int .i64 p.2
  · subst e
    rw [upd_same]
    unfold namedF
    rw [List.any_append]
    simp
  · rw [upd_other _ _ e]
    unfold namedF
    rw [List.any_append]
    have : List.any [p] (fun p => @decide (Lit.int .i64 p.2 = q) (Classical.propDecidable _)) = false := by simp [Ne.symm e]
    rw [this, Bool.or_false]
theorem FI.lower {W : World} {b c g : Nat} {x : Nat → Prop} {vn vs : Value} {now safe : List Int} (h : FI W c g (fun _ => True) vn vs (.slice none 0 0) now safe []) (hb : b ≤ c) (hx : ∀ k, c ≤ k → x k) : FI W b g x vn vs (.slice none 0 0) now safe [] :=
  ⟨h.hb, freshU h.hn hb hx, freshU h.hs hb hx, Kd.R_nil _ _ _ _ _, Nat.le_trans hb h.hg⟩
section
variable {W W1 : World} {b g gd mn ms N mf M : Nat} {y : Nat → Prop} {vo : Value} {now safe : List DN} {ops : List DOp} {fl : List FR} {next room fuse : Int} {armed dead : Bool}
/-- The new disk gets its directory. -/
theorem DK.newDir (h : DK W b y g gd mn ms vo N now safe ops mf M fl next room fuse armed dead) {gd' mn' ms' N' : Nat} {vo' : Value} {now' safe' : List DN} {ops' : List DOp} (hd : DI W b gd' mn' ms' vo' N' now' safe' ops') (n1 : mf ≠ mn') (n2 : mf ≠ ms') :
    DK (W.setCell ⟨g, 0, none⟩ (.pointer (some ⟨gd', 0, none⟩))) b y g gd' mn' ms' vo' N' now' safe' ops' mf M fl next room fuse armed dead := by
  have hk : ∀ k, k ≠ g → (W.setCell ⟨g, 0, none⟩ (.pointer (some ⟨gd', 0, none⟩))).heap[k]? = W.heap[k]? := fun k hk => Below.heap_setCell _ _ _ k hk
  have hty : ∀ (k : Nat) (cs : Array Value) (T : TypeId), T ≠ 54 → W.heap[k]? = some (.cells cs T (0, 0)) → (W.setCell ⟨g, 0, none⟩ (.pointer (some ⟨gd', 0, none⟩))).heap[k]? = W.heap[k]? := fun k cs T hT hkk => hk k (blk_ne hkk h.hb hT)
  refine ⟨blk_put h.hb 0 _ rfl, ?_, h.hm.move (hk mf (h.hm.ne h.hb)), ⟨fun p hp => ?_, h.hf.ap, fun k hkk => h.hf.hy k (by rw [setsz] at hkk; exact hkk)⟩, h.hg, h.hmf, n1, n2⟩
  · exact hd.move (hty gd' _ _ (by decide) hd.hb) (hk mn' (hd.hn.ne h.hb)) (hk ms' (hd.hs.ne h.hb)) (fun k _ ⟨cs, hc⟩ => hty k cs _ (by decide) hc)
  · have hp1 := h.hf.hf p hp
    exact hp1.move (hty p.g _ _ (by decide) hp1.hb) (fun k hx _ ⟨cs, T, hT, hc⟩ => ⟨hty k cs T (by rcases hT with rfl | rfl <;> decide) hc, hx⟩)
/-- A file that a crash left is laid into the new disk's map. -/
theorem DK.addCrash {W8 : World} (h : DK W b y g gd mn ms vo N now safe ops mf M fl next room fuse armed dead) (hb : Below W.heap.size W W8) {pg : Nat} {va vb : Value} {now1 safe1 : List Int} (hfi : FI W8 W.heap.size pg (fun _ => True) va vb (.slice none 0 0) now1 safe1 []) {id : Int} (hnx : ∀ p ∈ fl, p.id < id)
    (hm : MV W1 Tryz.prog 3 mf (M + 1) (upd (filesF fl) (.int .i64 id) (some (.pointer (some ⟨pg, 0, none⟩))))) (ht : W8.mapTurned W1 mf) :
    DK W1 b y g gd mn ms vo N now safe ops mf (M + 1) (fl ++ [⟨id, pg, va, vb, .slice none 0 0, now1, safe1, []⟩]) next room fuse armed dead ∧ Below b W W1 := by
  have h8 := h.below hb
  have hg := ht.grown
  have hne : ∀ (k : Nat) (cs : Array Value) (T : TypeId), W8.heap[k]? = some (.cells cs T (0, 0)) → W1.heap[k]? = W8.heap[k]? := fun k cs T hk => hg.block k (blk_lt hk) (fun e => h8.hm.ne hk (by injection e with e; exact e.symm))
  have hno : fileAt fl id = none := by
    unfold fileAt
    rw [List.find?_eq_none]
    intro p hp
    have := hnx p hp
    simp
    omega
  have hbw : b ≤ W.heap.size := Nat.le_trans h.hg (Nat.le_of_lt (blk_lt h.hb))
  refine ⟨⟨(hne g _ _ h8.hb).trans h8.hb, ?_, ?_, ⟨fun p hp => ?_, ?_, fun k hkk => h.hf.hy k (Nat.le_trans (Nat.le_trans hb.size hg.size) hkk)⟩, h.hg, h.hmf, h.n1, h.n2⟩, (hb.mono hbw).trans ((Below.refl b W8).grown hg (Nat.le_trans hbw hb.size) (fun k e => by cases e; exact h.hmf))⟩
  · exact h8.hd.move (hne gd _ _ h8.hd.hb) (hg.block mn h8.hd.hn.lt (fun e => h.n1 (by injection e with e; exact e.symm))) (hg.block ms h8.hd.hs.lt (fun e => h.n2 (by injection e with e; exact e.symm))) (fun k _ ⟨cs, hc⟩ => hne k cs _ hc)
  · rw [filesF_snoc fl _ hno]
    exact hm
  · rcases List.mem_append.1 hp with hp | hp
    · have hp1 := h8.hf.hf p hp
      refine hp1.move (hne p.g _ _ hp1.hb) (fun k hx _ ⟨cs, T, hT, hc⟩ => ⟨hne k cs T hc, apx.mk hx.1 (fun q hq hqg => ?_)⟩)
      rcases List.mem_append.1 hq with hq | hq
      · exact hx.2 q hq hqg
      · rw [List.mem_singleton] at hq
        subst hq
        simp [Value.ownBlock]
    · rw [List.mem_singleton] at hp
      subst hp
      refine (hfi.lower (x := apx y (fl ++ [⟨id, pg, va, vb, .slice none 0 0, now1, safe1, []⟩]) ⟨id, pg, va, vb, .slice none 0 0, now1, safe1, []⟩) hbw (fun k hk => apx.mk (h.hf.hy k hk) (fun q hq hqg e => ?_))).move (hne pg _ _ hfi.hb) (fun k hx _ ⟨cs, T, hT, hc⟩ => ⟨hne k cs T hc, hx⟩)
      rcases List.mem_append.1 hq with hq | hq
      · obtain ⟨cs, hc⟩ := fvo_typed h.hf hq k e.symm
        have := blk_lt hc
        omega
      · rw [List.mem_singleton] at hq
        subst hq
        exact hqg rfl
  · rw [List.pairwise_append]
    refine ⟨h.hf.ap, by simp, fun p hp q hq => ?_⟩
    rw [List.mem_singleton] at hq
    subst hq
    have h1 := hnx p hp
    have h2 := blk_lt (h.hf.hf p hp).hb
    have h3 := hfi.hg
    exact ⟨by show p.id ≠ id; omega, by show p.g ≠ pg; omega⟩
end
theorem infoB : (Tryz.prog.info? 4).map (fun i => (i.zero, i.size, i.bytes)) = some (some (.bool false), 1, 1) := by kernel_rfl
theorem infoB2 : ∃ i, Tryz.prog.info? 4 = some i ∧ i.size = 1 := by
  have h := infoB
  cases e : Tryz.prog.info? 4 with
  | none => rw [e] at h; cases h
  | some i => rw [e] at h; simp at h; exact ⟨i, rfl, h.2.1⟩
/-- A part of what is kept is taken off. -/
theorem part_any0 (B m : Nat) (A : Option Addr) (c : Nat) (kl : List Bool) (w : World) (hv : w.heap[B]? = some (.cells #[.slice A kl.length c] 23 (0, 0))) (hc : kl.length ≤ c) (hm : m ≤ 1000000000) (hkm : kl.length ≤ 1000000000) :
    Calls Tryz.prog 43 #[.int .i64 (m : Int), .pointer (some ⟨B, 0, none⟩)] w fun e w' => ∃ A3 c3, e = .returned (.slice A (kl.take m).length c) ∧ w' = w.setCell ⟨B, 0, none⟩ (.slice A3 (kl.drop m).length c3) ∧ (kl.drop m).length ≤ c3 ∧ (∀ W, Kd.bool.C W A kl.length kl → Kd.bool.C W A (kl.take m).length (kl.take m) ∧ Kd.bool.C W A3 (kl.drop m).length (kl.drop m)) := by
  have c0 := (blk_cell hv 0).trans (rfl : _ = some (Value.slice A kl.length c))
  have f0 := blk_frozen hv 0
  obtain ⟨i, hi, hsz⟩ := infoB2
  by_cases hlt : m ≤ kl.length
  · have e1 : (kl.take m).length = m := by rw [List.length_take]; omega
    obtain ⟨A3, hcut, hC⟩ := cut_drop (P := Tryz.prog) Kd.bool 23 4 .i64 Tryz.underlying23 hi hsz A kl.length c m hlt hc
    have hto := cut_to (P := Tryz.prog) 23 4 .i64 Tryz.underlying23 hi A kl.length c (m : Int) (by omega) (by omega) hc
    rw [Int.toNat_natCast] at hto
    have HC := Aside0.mk hC
    have E1 := Aside0.mk e1
    clear hC e1 hv
    go_enter Tryz.func43, Tryz.ntmps43
    go_wp2
    go_ret
    refine ⟨A3, c - m, by rw [E1.out]; rfl, by rw [List.length_drop], by rw [List.length_drop]; omega, fun W h => ⟨?_, ?_⟩⟩
    · rw [E1.out]; exact C_takeN h m hlt
    · rw [List.length_drop]; exact HC.out W kl h
  · have e1 : kl.take m = kl := List.take_of_length_le (by omega)
    have e2 : kl.drop m = [] := List.drop_eq_nil_of_le (by omega)
    obtain ⟨A3, hcut, hC⟩ := cut_drop (P := Tryz.prog) Kd.bool 23 4 .i64 Tryz.underlying23 hi hsz A kl.length c kl.length (Nat.le_refl _) hc
    have hto := cut_to (P := Tryz.prog) 23 4 .i64 Tryz.underlying23 hi A kl.length c (kl.length : Int) (by omega) (by omega) hc
    rw [Int.toNat_natCast] at hto
    rw [Nat.sub_self] at hcut
    rw [e1, e2]
    clear hC e1 e2 hv
    go_enter Tryz.func43, Tryz.ntmps43
    go_wp2
    go_ret
    exact ⟨A3, c - kl.length, rfl, rfl, Nat.zero_le _, fun W h => ⟨h, rfl, Nat.zero_le _, fun h => absurd h (by simp)⟩⟩
theorem part_any (B m : Nat) (A : Option Addr) (n c : Nat) (kl : List Bool) (w : World) (hn : kl.length = n) (hv : w.heap[B]? = some (.cells #[.slice A n c] 23 (0, 0))) (hc : n ≤ c) (hm : m ≤ 1000000000) (hkm : n ≤ 1000000000) :
    Calls Tryz.prog 43 #[.int .i64 (m : Int), .pointer (some ⟨B, 0, none⟩)] w fun e w' => ∃ n1 A3 n3 c3, e = .returned (.slice A n1 c) ∧ w' = w.setCell ⟨B, 0, none⟩ (.slice A3 n3 c3) ∧ n3 ≤ c3 ∧ n3 ≤ n ∧ (kl.drop m).length = n3 ∧ (∀ W, Kd.bool.C W A n kl → Kd.bool.C W A n1 (kl.take m) ∧ Kd.bool.C W A3 n3 (kl.drop m)) := by
  subst hn
  refine (part_any0 B m A c kl w hv hc hm hkm).mono ?_
  rintro e w' ⟨A3, c3, rfl, hw, hc3, hC⟩
  exact ⟨_, A3, _, c3, rfl, hw, hc3, by rw [List.length_drop]; omega, rfl, hC⟩
end Go.Proofs.YtpnbjpkdbiiogaaGreat
/- The code's directory: Crash. -/
namespace Go.Proofs.YtpnbjpkdbiiogaaGreat
set_option linter.unusedVariables false
open Go.RowKit Go.Maps Go.Sort Go.Proofs.YtpnbjpkdbiiogaaGreatW.PrintWords
attribute [local go_sem] mx2 mn2 mxTwo mnTwo

theorem dcrash_nil (A : Option Addr) (n c : Nat) (w : World) : Calls Tryz.prog 44 #[.pointer none, .slice A n c] w fun e w' => e = .returned (.pointer none) ∧ w = w' := by
  go_enter Tryz.func44, Tryz.ntmps44
  go_wp2
  go_ret
  exact ⟨rfl, rfl⟩
theorem invS : ∀ key kl, keyOf Tryz.prog 9 key = some kl → ∃ x : ByteArray, key = Value.string x := by
  intro key kl h
  obtain ⟨x, hx, _, _⟩ := Maps.keyOf_str Tryz.underlying9 h
  exact ⟨⟨x.toArray⟩, hx⟩
/-- What holds while the safe names are laid into the new directory. -/
structure CD (w : World) (g2 m2 r ms N : Nat) (vs vo : Value) (safe : List DN) (wr : World) (left : Lit → Bool) (cnt : Nat) (fo : Lit → Option Value) : Prop where
  rg : MR wr Tryz.prog 9 ms r N (mapF safe) left cnt
  mv : MV wr Tryz.prog 9 m2 (N - cnt) fo
  c : cnt ≤ N
  fo : ∀ q, fo q = if left q = true then none else mapF safe q
  hb : wr.heap[g2]? = some (.cells #[.map (some m2), vs, vo] 99 (0, 0))
  l : Below w.heap.size w wr
  hg : w.heap.size ≤ g2
  hm : w.heap.size ≤ m2
  hr : w.heap.size ≤ r
  hs : ms < w.heap.size
  rm : r ≠ m2
  gr : g2 ≠ r
theorem CD.step {w wr w1 w2 : World} {g2 m2 r ms N cnt cnt1 : Nat} {vs vo : Value} {safe : List DN} {left : Lit → Bool} {fo : Lit → Option Value} {kl : Lit} {v : Value} (h : CD w g2 m2 r ms N vs vo safe wr left cnt fo) (hk : WideAt.IsKeyLit kl) (hf : mapF safe kl = some v) (hr1 : MR w1 Tryz.prog 9 ms r N (mapF safe) (fun z => left z && !z.sameKey kl) cnt1) (hlt : cnt1 < cnt) (hg1 : wr.grownBy w1 (some r)) (hm2 : MV w2 Tryz.prog 9 m2 (N - cnt + 1) (upd fo kl (some v))) (ht : w1.mapTurned w2 m2) :
    CD w g2 m2 r ms N vs vo safe w2 (fun z => left z && !z.sameKey kl) cnt1 (upd fo kl (some v)) := by
  have hc := h.c
  have hs := h.hs
  have hm := h.hm
  refine ⟨hr1.kept ht.grown (fun e => by injection e; omega) (fun e => h.rm (by injection e)), hm2.mono (by omega), by omega, fun q => ?_, ?_, ?_, h.hg, h.hm, h.hr, h.hs, h.rm, h.gr⟩
  · by_cases e : q = kl
    · subst e
      rw [upd_same, WideAt.sameKey_self hk, hf]
      simp
    · rw [upd_other _ _ e, h.fo q]
      have : q.sameKey kl = false := sameKey_ne e
      rw [this]
      simp
  · have hb1 := blk_grown h.hb hg1 (fun e => h.gr (by injection e))
    exact blk_grown hb1 ht.grown (fun e => by
      have := h.mv.ne h.hb
      injection e with e
      exact this e.symm)
  · have h1 : Below w.heap.size w w1 := h.l.grown hg1 h.l.size (fun j hj => by cases hj; exact h.hr)
    exact h1.grown ht.grown h1.size (fun j hj => by cases hj; exact h.hm)
set_option maxHeartbeats 1000000 in
set_option maxRecDepth 100000 in
theorem dcrash_any (b g mn ms N : Nat) (vo : Value) (now safe : List DN) (ops : List DOp) (A : Option Addr) (n c : Nat) (kl : List Bool) (w : World) (h : DI w b g mn ms vo N now safe ops) (hk : Kd.bool.C w A n kl) (hN : N ≤ 100000) (hlo : ops.length ≤ 100000) (hop : ∀ o ∈ ops, o.a.size ≤ maxLen ∧ o.b.size ≤ maxLen) :
    Calls Tryz.prog 44 #[.pointer (some ⟨g, 0, none⟩), .slice A n c] w fun e w' => ∃ g2 m2 m3, e = .returned (.pointer (some ⟨g2, 0, none⟩)) ∧ w.heap.size ≤ g2 ∧ w.heap.size ≤ m2 ∧ w.heap.size ≤ m3 ∧ DI w' b g2 m2 m3 (.slice none 0 0) (N + ops.length) (crashD safe ops kl ops.length) (crashD safe ops kl ops.length) [] ∧ Below w.heap.size w w' := by
  obtain rfl : kl.length = n := hk.1
  have hkm := Kd.C_max hk
  have hbw : b ≤ w.heap.size := Nat.le_trans h.hg (Nat.le_of_lt (blk_lt h.hb))
  obtain ⟨A2, c2, rfl, _, hC2⟩ := Kd.R_reads h.ho
  have hc1 := (blk_cell h.hb 1).trans (rfl : _ = some (Value.map (some ms)))
  have hc2 := (blk_cell h.hb 2).trans (rfl : _ = some (Value.slice A2 ops.length c2))
  have HS1 := Aside0.mk hc1
  have HS2 := Aside0.mk hc2
  have HMS := Aside0.mk h.hs
  have HK := Aside0.mk hk
  have HC2 := Aside0.mk hC2
  have HOP := Aside0.mk hop
  have hmsl := h.hs.lt
  clear h hk hC2 hc1 hc2 hop
  go_enter Tryz.func44, Tryz.ntmps44
  go_wp2_with (first
    | (go_at_call 26; refine (dnew_any b w hbw).mono ?_; rintro e w1 ⟨g2, m2, m3, rfl, hg2, hm2, hm3, hd, hb⟩; have s1 := pw_cell_below hb HS1.out; have HM := Aside0.mk (HMS.out.below hb); have HD := Aside0.mk hd; have HB := Aside0.mk hb; clear hd hb)
    | (at_range; refine mv_range rfl _ 96 rfl 9 3 lawS Tryz.underlying96 ms N (mapF safe) rfl HM.out ?_; intro w2 cnt hcnt hrg hg0 hs0))
  go_frame
  have hd2 := HD.out.below (W1 := w2) ⟨hg0.os, hg0.tape, hg0.output, hg0.size, fun i hi => hg0.block i hi (by simp)⟩
  have hrw : w.heap.size ≤ w1.heap.size := HB.out.size
  obtain ⟨r, hr⟩ : ∃ r, r = w1.heap.size := ⟨_, rfl⟩
  rw [← hr] at hrg hrw hs0 ⊢
  have HCD := Aside0.mk (CD.mk (w := w) (g2 := g2) (m2 := m2) (r := r) (ms := ms) (N := N) (vs := .map (some m3)) (vo := .slice none 0 0) (safe := safe) hrg (hd2.hn.mono (Nat.zero_le _)) hcnt (fun q => by rw [mapF_nil]; cases mapF safe q <;> simp) hd2.hb (HB.out.trans (Below.mono (B := w1.heap.size) ⟨hg0.os, hg0.tape, hg0.output, hg0.size, fun i hi => hg0.block i hi (by simp)⟩ (by omega))) hg2 hm2 hrw hmsl (fun e => by have := HD.out.hn.lt; omega) (fun e => by have := blk_lt HD.out.hb; omega))
  clear hd2 hrg hg0 hs0 HD HM hcnt HB s1 hr hrw
  go_loopg [6] cnt (fun q v6 wr => ∃ (left : Lit → Bool) (cnt : Nat) (fo : Lit → Option Value), Aside0 (q = cnt) ∧ Aside0 (CD w g2 m2 r ms N (.map (some m3)) (.slice none 0 0) safe wr left cnt fo))
  case atStart => exact ⟨_, cnt, _, ⟨rfl⟩, HCD⟩
  case round =>
    clear HCD
    obtain ⟨left, cnt, fo, hq, HC⟩ := hrel
    go_wp2_with (at_next; refine mv_next rfl _ rfl 9 lawS Value.string invS ms r N (mapF safe) left cnt rfl HC.out.rg ?_ ?_)
    · intro hl0
      have hmv0 : MV wr Tryz.prog 9 m2 N (mapF safe) := (HC.out.mv.mono (Nat.sub_le _ _)).congr (fun q => by rw [HC.out.fo q, hl0 q]; simp)
      have hcell2 := pw_cell_below HC.out.l HS2.out
      have HM0 := Aside0.mk hmv0
      have HB0 := Aside0.mk HC.out.hb
      have HL0 := Aside0.mk HC.out.l
      have hg2w := HC.out.hg
      have hm2w := HC.out.hm
      clear hmv0 hl0 HC
      go_wp2_with fail
      obtain ⟨wo, rfl⟩ : ∃ wo : World, wo = wr := ⟨_, rfl⟩
      go_loopg [34] ops.length (fun q2 v34 wr2 => ∃ i : Nat, v34 = .int .i64 (i : Int) ∧ i ≤ ops.length ∧ Aside0 (q2 = ops.length - i) ∧ Aside0 (MV wr2 Tryz.prog 9 m2 (N + i) (mapF (crashD safe ops kl i))) ∧ Aside0 (wr2.heap[g2]? = some (.cells #[.map (some m2), .map (some m3), .slice none 0 0] 99 (0, 0))) ∧ Aside0 (Below w.heap.size w wr2))
      case atStart => exact ⟨0, rfl, Nat.zero_le _, ⟨rfl⟩, HM0, HB0, HL0⟩
      case round =>
        clear HM0 HB0 HL0 hcell2
        obtain ⟨i, rfl, hi, hq2, HM0, HB0, HL0⟩ := hrel
        by_cases hlt : i < ops.length
        · obtain ⟨ad, e1, r1, r2, r3, r4⟩ := at_Dop (Kd.C_below HC2.out HL0.out) i hlt
          subst e1
          obtain ⟨o, ho⟩ : ∃ o, o = ops.getD i zDop := ⟨_, rfl⟩
          have hoo := HOP.out o (by rw [ho]; simp [List.getD_eq_getElem?_getD, hlt])
          have HSTEP := Aside0.mk (show crashD safe ops kl (i + 1) = if kl.getD i false = true then didL (crashD safe ops kl i) ⟨o.kd, o.a, o.b, o.id⟩ else crashD safe ops kl i by rw [ho]; rfl)
          rw [← ho] at r1 r2 r3 r4
          have HOO := Aside0.mk hoo
          clear ho hoo
          by_cases hkl : i < kl.length
          · obtain ⟨ad2, e2, hkb0⟩ := at_bool HK.out i hkl
            subst e2
            have hkb := cell_al (.cells #[.int .i64 o.kd, .string o.a, .string o.b, .int .i64 o.id] 122) (pw_cell_below HL0.out hkb0)
            clear hkb0
            cases hb : kl.getD i false with
            | false =>
              rw [hb] at hkb HSTEP
              clear hb
              go_wp2_with fail
              go_roundg (ops.length - (i + 1))
              case measure => have := hq2.out; omega
              case rel => exact ⟨i + 1, by go_num, by omega, ⟨rfl⟩, ⟨by rw [HSTEP.out]; exact (HM0.out.below (below_alloc (Below.refl _ _) _)).mono (by omega)⟩, ⟨blk_alloc HB0.out _⟩, ⟨below_alloc HL0.out _⟩⟩
            | true =>
              rw [hb] at hkb HSTEP
              clear hb
              rw [if_pos rfl] at HSTEP
              go_wp2_with fail
              obtain ⟨W1, hW1⟩ : ∃ W1, W1 = wr.alloc (.cells #[.int .i64 o.kd, .string o.a, .string o.b, .int .i64 o.id] 122) := ⟨_, rfl⟩
              have hnb : W1.heap[wr.heap.size]? = some (.cells #[.int .i64 o.kd, .string o.a, .string o.b, .int .i64 o.id] 122 (0, 0)) := by rw [hW1]; exact blk_new _ _
              have hb1 : Below wr.heap.size wr W1 := by rw [hW1]; exact below_alloc (Below.refl _ _) _
              rw [← hW1]
              obtain ⟨p3, hp3⟩ : ∃ p3, p3 = wr.heap.size := ⟨_, rfl⟩
              rw [← hp3] at hnb ⊢
              have t0 := (blk_cell hnb 0).trans (rfl : _ = some (Value.int .i64 o.kd))
              have t1 := (blk_cell hnb 1).trans (rfl : _ = some (Value.string o.a))
              have t2 := (blk_cell hnb 2).trans (rfl : _ = some (Value.string o.b))
              have t3 := (blk_cell hnb 3).trans (rfl : _ = some (Value.int .i64 o.id))
              have hgb := blk_below HB0.out hb1
              have s0 := (blk_cell hgb 0).trans (rfl : _ = some (Value.map (some m2)))
              have HMW := Aside0.mk (HM0.out.below hb1)
              have hmp : p3 ≠ m2 := fun e => HMW.out.ne hnb e.symm
              have hgm : g2 ≠ m2 := fun e => HMW.out.ne hgb e.symm
              have HB1 := Aside0.mk (below_step HL0.out hb1)
              have HGB := Aside0.mk hgb
              have HNB := Aside0.mk hnb
              clear hnb hb1 hp3 hW1 hgb hkb r1 r2 r3 r4
              go_region_held3 (fun w' => w'.cell? ⟨g2, 0, none⟩ = some (.map (some m2)) ∧ w'.cell? ⟨p3, 0, none⟩ = some (.int .i64 o.kd) ∧ w'.cell? ⟨p3, 1, none⟩ = some (.string o.a) ∧ w'.cell? ⟨p3, 2, none⟩ = some (.string o.b) ∧ w'.cell? ⟨p3, 3, none⟩ = some (.int .i64 o.id)) (first | with_reducible exact ⟨s0, t0, t1, t2, t3⟩ | exact ⟨s0, t0, t1, t2, t3⟩) (first
                | (go_at_call 76; refine (ddo_any m2 (N + i) (crashD safe ops kl i) o.kd o.a o.b o.id _ (MV.drew HMW.out) (by omega) HOO.out.1 HOO.out.2).mono ?_; rintro e w5 ⟨rfl, hm5, ht5⟩; have hg5 := (ht5.k.2 g2 (blk_lt (blk_drew HGB.out)) hgm (by simp)).trans (blk_drew HGB.out); have hn5 := (ht5.k.2 p3 (blk_lt (blk_drew HNB.out)) hmp (by simp)).trans (blk_drew HNB.out); replace s0 := (blk_cell hg5 0).trans (rfl : _ = some (Value.map (some m2))); replace t0 := (blk_cell hn5 0).trans (rfl : _ = some (Value.int .i64 o.kd)); replace t1 := (blk_cell hn5 1).trans (rfl : _ = some (Value.string o.a)); replace t2 := (blk_cell hn5 2).trans (rfl : _ = some (Value.string o.b)); replace t3 := (blk_cell hn5 3).trans (rfl : _ = some (Value.int .i64 o.id)); have HM5 := Aside0.mk hm5; have HG5 := Aside0.mk hg5; have HL5 := Aside0.mk (((HB1.out).trans (below_drew1 (Below.refl _ _))).trans (ht5.l w.heap.size hm2w HB1.out.size)); clear hm5 ht5 hg5 hn5))
              all_goals
                first | go_end0 | skip
                go_wp2_with fail
                go_roundg (ops.length - (i + 1))
                case measure => have := hq2.out; omega
                case rel => exact ⟨i + 1, by go_num, by omega, ⟨rfl⟩, ⟨by rw [HSTEP.out]; exact HM5.out.mono (by omega)⟩, HG5, HL5⟩
          · have hb : kl.getD i false = false := by simp [List.getD_eq_getElem?_getD, List.getElem?_eq_none (Nat.le_of_not_lt hkl)]
            rw [hb] at HSTEP
            clear hb
            go_wp2_with fail
            go_roundg (ops.length - (i + 1))
            case measure => have := hq2.out; omega
            case rel => exact ⟨i + 1, by go_num, by omega, ⟨rfl⟩, ⟨by rw [HSTEP.out]; exact (HM0.out.below (below_alloc (Below.refl _ _) _)).mono (by omega)⟩, ⟨blk_alloc HB0.out _⟩, ⟨below_alloc HL0.out _⟩⟩
        · obtain rfl : i = ops.length := by omega
          have s0 := (blk_cell HB0.out 0).trans (rfl : _ = some (Value.map (some m2)))
          go_wp2_with (go_at_call 75; refine (mclone_any m2 (N + ops.length) (mapF (crashD safe ops kl ops.length)) _ HM0.out).mono ?_; rintro e w7 ⟨rfl, hv, hb1⟩; have hbk := blk_below HB0.out hb1; have k1 := (blk_cell hbk 1).trans (rfl : _ = some (Value.map (some m3))); have f1 := blk_frozen hbk 1; have HV := Aside0.mk hv; have HB := Aside0.mk hb1; have HKK := Aside0.mk hbk; clear hv hb1 hbk)
          go_ret
          have hm0 := HM0.out.below HB.out
          have hlt7 := HM0.out.lt
          refine ⟨_, _, _, rfl, hg2w, hm2w, ?_, ⟨blk_put HKK.out 1 _ rfl, hm0.setCell (hm0.ne HKK.out) _, HV.out.setCell (HV.out.ne HKK.out) _, Kd.R_nil _ _ _ _ _, Nat.le_trans hbw hg2w, Nat.le_trans hbw hm2w, ?_, by omega⟩, (below_step HL0.out HB.out).setCell (p := ⟨g2, 1, none⟩) hg2w _⟩
          · exact HL0.out.size
          · exact Nat.le_trans hbw HL0.out.size
    · intro x v kq w3 cnt3 hkq hlk hfv hrg3 hlt3 hg3 hs3 hen
      have hb3 := blk_grown HC.out.hb hg3 (fun e => HC.out.gr (by injection e))
      have t0 := (blk_cell hb3 0).trans (rfl : _ = some (Value.map (some m2)))
      have HMV := Aside0.mk (HC.out.mv.move (hg3.block m2 HC.out.mv.lt (fun e => HC.out.rm (by injection e with e; exact e.symm))))
      have hcN := HC.out.c
      have HKQ := Aside0.mk hkq
      have HFV := Aside0.mk hfv
      have HR3 := Aside0.mk hrg3
      have HG3 := Aside0.mk hg3
      clear hkq hfv hrg3 hg3 hb3 hlk
      go_wp2_with (at_mapUpdate; refine mv_store rfl _ _ _ 96 rfl 9 3 lawS Tryz.underlying96 m2 (N - cnt) fo rfl HMV.out (by unfold maxLen; omega) _ _ kq rfl rfl HKQ.out ?_; intro w4 hm4 ht4; have HC4 := Aside0.mk (HC.out.step (key_lit HKQ.out) HFV.out HR3.out hlt3 HG3.out hm4 ht4); clear hm4 ht4)
      go_roundg cnt3
      case measure => have := hq.out; omega
      case rel => exact ⟨_, cnt3, _, ⟨rfl⟩, HC4⟩
end Go.Proofs.YtpnbjpkdbiiogaaGreat
/- The disk: Crash. -/
namespace Go.Proofs.YtpnbjpkdbiiogaaGreat
set_option linter.unusedVariables false
open Go.RowKit Go.Maps Go.Proofs.YtpnbjpkdbiiogaaGreatW.PrintWords
attribute [local go_sem] mx2 mn2 mxTwo mnTwo

theorem mv_look {w : World} {P : Program} {k e t : TypeId} {b n : Nat} {f : Lit → Option Value} (h : MV w P k b n f) (K : Keyed P k) (ht : P.underlying t = some (.map k e)) {z : Value} (hz : (zeroValue e).run P w = .ok z w) {key : Value} {kl : Lit} (hkey : keyOf P k key = some kl) (v : Value) (hv : (f kl).getD z = v) :
    (Instr.lookup t (.map (some b)) key false).run P w = .ok v w := by
  obtain ⟨D, h1, h2⟩ := h
  obtain ⟨v', ps, hrun, hv'⟩ := h1.lookup K ht hz (zd := .held z) (zp := []) rfl hkey
  have e1 : v' = v := by
    have := congrArg (Option.map Prod.fst) hv'
    simp only [R0, Option.map_some, Option.some.injEq] at this
    rw [h2 kl] at this
    rw [← hv]
    cases e : f kl with
    | none => rw [e] at this; simpa using this
    | some y => rw [e] at this; simpa using this
  rw [← e1]
  exact hrun
/-- A row of numbers stays where no numbers are turned. -/
theorem RI_kept {W W1 : World} {b : Nat} {x : Nat → Prop} {v : Value} {xs : List Int} (h : Kd.R (Kd.int .i64) 3 W b x v xs) (hk : ∀ (k : Nat) (cs : Array Value), W.heap[k]? = some (Obj.cells cs 3 (0, 0)) → W1.heap[k]? = W.heap[k]?) : Kd.R (Kd.int .i64) 3 W1 b x v xs := by
  refine Kd.R_mono (Kd.R_move (Kd.R_bound h) (fun k hk' => ?_)) (fun k hk => hk.1)
  obtain ⟨h1, h2, h3, q, h4, cs, h5⟩ := hk'
  have hq : q = 3 := by
    have : (Kd.int .i64).E = [] := rfl
    rw [this] at h4
    simpa using h4
  subst hq
  exact hk k cs h5
/-- Numbers stay. -/
def KI (W W1 : World) : Prop := ∀ (k : Nat) (cs : Array Value), W.heap[k]? = some (Obj.cells cs 3 (0, 0)) → W1.heap[k]? = W.heap[k]?
theorem KI.trans {W W1 W2 : World} (h : KI W W1) (k : KI W1 W2) : KI W W2 := fun i cs hi => (k i cs ((h i cs hi).trans hi)).trans (h i cs hi)
theorem KI.of_below {W W1 : World} (h : Below W.heap.size W W1) : KI W W1 := fun k cs hk => h.block k (blk_lt hk)
theorem KI.setCell {W : World} {B : Nat} {cs0 : Array Value} {T : TypeId} (hB : W.heap[B]? = some (.cells cs0 T (0, 0))) (hT : 3 ≠ T) (i : Nat) (u : Value) : KI W (W.setCell ⟨B, i, none⟩ u) := fun k cs hk => Below.heap_setCell _ _ _ k (blk_ne hk hB hT)
theorem KI.map {W W1 : World} {P : Program} {kt : TypeId} {m n : Nat} {f : Lit → Option Value} (hm : MV W P kt m n f) (ht : W.mapTurned W1 m) : KI W W1 := fun k cs hk => ht.grown.block k (blk_lt hk) (fun e => hm.ne hk (by injection e with e; exact e.symm))
section
variable {W W1 : World} {b g gd mn ms N mf M B : Nat} {y : Nat → Prop} {vo : Value} {now safe : List DN} {ops : List DOp} {fl : List FR} {next room fuse : Int} {armed dead : Bool}
/-- Another block is turned, of a type that is not the disk's. -/
theorem DK.keep (h : DK W b y g gd mn ms vo N now safe ops mf M fl next room fuse armed dead) (hs : W.heap.size ≤ W1.heap.size) (hk : ∀ k, k < W.heap.size → k ≠ B → W1.heap[k]? = W.heap[k]?) (hT : ∀ cs T, W.heap[B]? = some (.cells cs T (0, 0)) → T = 23) (q1 : B ≠ mf) (q2 : B ≠ mn) (q3 : B ≠ ms) : DK W1 b y g gd mn ms vo N now safe ops mf M fl next room fuse armed dead := by
  have hty : ∀ (k : Nat) (cs : Array Value) (T : TypeId), T ≠ 23 → W.heap[k]? = some (.cells cs T (0, 0)) → W1.heap[k]? = W.heap[k]? := fun k cs T h1 hkk => hk k (blk_lt hkk) (fun e => h1 (hT cs T (e ▸ hkk)))
  refine ⟨(hty g _ _ (by decide) h.hb).trans h.hb, h.hd.move (hty gd _ _ (by decide) h.hd.hb) (hk mn h.hd.hn.lt (Ne.symm q2)) (hk ms h.hd.hs.lt (Ne.symm q3)) (fun k _ ⟨cs, hc⟩ => hty k cs _ (by decide) hc), h.hm.move (hk mf h.hm.lt (Ne.symm q1)), ⟨fun p hp => ?_, h.hf.ap, fun k hkk => h.hf.hy k (Nat.le_trans hs hkk)⟩, h.hg, h.hmf, h.n1, h.n2⟩
  have hp1 := h.hf.hf p hp
  exact hp1.move (hty p.g _ _ (by decide) hp1.hb) (fun k hx _ ⟨cs, T, hT', hc⟩ => ⟨hty k cs T (by rcases hT' with rfl | rfl <;> decide) hc, hx⟩)
theorem DK.keepBox (h : DK W b y g gd mn ms vo N now safe ops mf M fl next room fuse armed dead) {cs : Array Value} (hB : W.heap[B]? = some (.cells cs 23 (0, 0))) (u : Value) : DK (W.setCell ⟨B, 0, none⟩ u) b y g gd mn ms vo N now safe ops mf M fl next room fuse armed dead :=
  h.keep (by rw [setsz]; exact Nat.le_refl _) (fun k _ hk => Below.heap_setCell _ _ _ k hk) (fun cs' T hc => by rw [hB] at hc; injection hc with hc; injection hc with _ hc _; exact hc.symm) (fun e => h.hm.ne hB e.symm) (fun e => h.hd.hn.ne hB e.symm) (fun e => h.hd.hs.ne hB e.symm)
theorem DK.keepMap (h : DK W b y g gd mn ms vo N now safe ops mf M fl next room fuse armed dead) {P : Program} {kt : TypeId} {n : Nat} {f : Lit → Option Value} (hm : MV W P kt B n f) (ht : W.mapTurned W1 B) (q1 : B ≠ mf) (q2 : B ≠ mn) (q3 : B ≠ ms) : DK W1 b y g gd mn ms vo N now safe ops mf M fl next room fuse armed dead :=
  h.keep ht.grown.size (fun k hk hne => ht.grown.block k hk (fun e => hne (by injection e))) (fun cs T hc => by
    obtain ⟨es, clock, hb⟩ := hm.obj
    rw [hb] at hc
    cases hc) q1 q2 q3
end
theorem DK.lower0 {W : World} {b c g gd mn ms N mf M : Nat} {y : Nat → Prop} {now safe : List DN} {next room fuse : Int} {armed dead : Bool} (h : DK W c y g gd mn ms (.slice none 0 0) N now safe [] mf M [] next room fuse armed dead) (hb : b ≤ c) : DK W b y g gd mn ms (.slice none 0 0) N now safe [] mf M [] next room fuse armed dead :=
  ⟨h.hb, ⟨h.hd.hb, h.hd.hn, h.hd.hs, Kd.R_nil _ _ _ _ _, Nat.le_trans hb h.hd.hg, Nat.le_trans hb h.hd.hmn, Nat.le_trans hb h.hd.hms, h.hd.ne⟩, h.hm, ⟨fun p hp => by simp at hp, List.Pairwise.nil, h.hf.hy⟩, Nat.le_trans hb h.hg, Nat.le_trans hb h.hmf, h.n1, h.n2⟩
theorem at_introw {w : World} {b : Nat} {A : Option Addr} {n c : Nat} {xs : List Int} (h : Kd.R (Kd.int .i64) 3 w b (fun _ => True) (.slice A n c) xs) (i : Nat) (hi : i < n) (hl : xs.length = n) : ∃ ad, A = some ad ∧ w.cell? (ad.add i) = some (.int .i64 (xs.getD i 0)) := by
  have hC := (Kd.R_reads' h).2.2
  rw [hl] at hC
  obtain ⟨ad, c', e, _, hK, hc0⟩ := Kd.C_get hC 0 (i : Int) (by omega) (by omega)
  simp only [Int.toNat_natCast] at hK hc0
  subst hK
  have hc : ∀ j u, ([Value.int .i64 (xs.getD i 0)])[j]? = some u → w.cell? (ad.add (i * 1 + j)) = some u := hc0
  have := hc 0 _ rfl
  exact ⟨ad, e, by simpa using this⟩
theorem zeroBo (w : World) : (zeroValue 4).run Tryz.prog w = .ok (.bool false) w := by kernel_rfl
theorem crash_step (nm : Int → Bool) (kl : List Bool) (n : Nat) (fl : List FR) (i : Nat) (hi : i < fl.length) (p : FR) (hp : fl[i]? = some p) : crashP nm kl n ((fl.map FR.pv).take (i + 1)) = crashP nm kl n ((fl.map FR.pv).take i) ++ (if nm p.id then [p.pv.crash (kl.drop (n + opsSum ((fl.map FR.pv).take i)))] else []) := by
  have hT : (fl.map FR.pv).take (i + 1) = (fl.map FR.pv).take i ++ [p.pv] := by
    rw [List.take_add_one, List.getElem?_map, hp]
    rfl
  rw [hT, crashP_snoc]
  rfl
theorem crash_sum (fl : List FR) (i : Nat) (p : FR) (hp : fl[i]? = some p) : opsSum ((fl.map FR.pv).take (i + 1)) = opsSum ((fl.map FR.pv).take i) + p.ops.length := by
  have hT : (fl.map FR.pv).take (i + 1) = (fl.map FR.pv).take i ++ [p.pv] := by
    rw [List.take_add_one, List.getElem?_map, hp]
    rfl
  rw [hT, opsSum_snoc]
  rfl
theorem crash_below (nm : Int → Bool) (kl : List Bool) (n : Nat) (fl fo : List FR) (i : Nat) (p : FR) (hp : fl[i]? = some p) (hr : (fl.map FR.id).Pairwise (· < ·)) (hfo : fo.map FR.pv = crashP nm kl n ((fl.map FR.pv).take i)) : ∀ q ∈ fo, q.id < p.id := by
  intro q hq
  have h1 : q.pv ∈ crashP nm kl n ((fl.map FR.pv).take i) := hfo ▸ List.mem_map.2 ⟨q, hq, rfl⟩
  obtain ⟨r, hr1, hr2⟩ := crashP_id nm kl _ _ _ h1
  rw [← List.map_take] at hr1
  obtain ⟨r', hr3, rfl⟩ := List.mem_map.1 hr1
  have e : r'.id = q.id := hr2
  rw [← e]
  obtain ⟨j, hj, hj2⟩ := List.mem_iff_getElem.1 hr3
  have hji : j < i := by rw [List.length_take] at hj; omega
  have hil : i < fl.length := (List.getElem?_eq_some_iff.1 hp).1
  have hpe : fl[i] = p := (List.getElem?_eq_some_iff.1 hp).2
  rw [List.getElem_take] at hj2
  have := List.pairwise_iff_getElem.1 hr j i (by rw [List.length_map]; omega) (by rw [List.length_map]; omega) hji
  rw [List.getElem_map, List.getElem_map, hj2, hpe] at this
  exact this
set_option maxHeartbeats 2000000 in
set_option maxRecDepth 100000 in
theorem kcrash_any (b : Nat) (y : Nat → Prop) (g gd mn ms : Nat) (vo : Value) (N : Nat) (now safe : List DN) (ops : List DOp) (mf M : Nat) (fl : List FR) (next room fuse : Int) (armed dead : Bool) (w : World) (h : DK w b y g gd mn ms vo N now safe ops mf M fl next room fuse armed dead) (A : Option Addr) (c : Nat) (kl : List Bool) (hk : Kd.bool.C w A kl.length kl) (hc : kl.length ≤ c) (hkl : kl.length ≤ 1000000) (hro : 0 ≤ room) (hN : N ≤ 100000) (hM : M ≤ 1000000) (hlo : ops.length ≤ 100000) (hop : ∀ o ∈ ops, o.a.size ≤ maxLen ∧ o.b.size ≤ maxLen)
    (hris : Rising (crashD safe ops kl ops.length)) (hids : ∀ p ∈ crashD safe ops kl ops.length, 0 ≤ p.2 ∧ p.2 ≤ 1000000) (hszs : ∀ p ∈ crashD safe ops kl ops.length, p.1.size ≤ maxLen) (hln : (crashD safe ops kl ops.length).length ≤ 200000)
    (hri : (fl.map FR.id).Pairwise (· < ·)) (hfi : ∀ p ∈ fl, 0 ≤ p.id ∧ p.id ≤ 1000000) (hff : ∀ p ∈ fl, p.safe.length ≤ 1048576 ∧ p.ops.length ≤ 500000 ∧ ∀ o ∈ p.ops, o.n ≤ 1048576 ∧ o.d.length ≤ 1048576) (hfl : fl.length ≤ 1000) :
    Calls Tryz.prog 14 #[.pointer (some ⟨g, 0, none⟩), .slice A kl.length c] w fun e w' => ∃ g2 gd2 mn2 ms2 mf2 fo, e = .returned (.pointer (some ⟨g2, 0, none⟩)) ∧ DK w' b y g2 gd2 mn2 ms2 (.slice none 0 0) (N + ops.length) (crashD safe ops kl ops.length) (crashD safe ops kl ops.length) [] mf2 fo.length fo next room 0 false false ∧ fo.map FR.pv = crashP (namedI (crashD safe ops kl ops.length)) kl ops.length (fl.map FR.pv) ∧ Below w.heap.size w w' := by
  have hmf : ∀ (fn : Fn) (first cap : Array Value) (w : World), (Instr.makeFunc fn first cap).run Tryz.prog w = .ok (.func fn first cap) w := fun _ _ _ _ => rfl
  have hmm := @run_makeMap Tryz.prog
  have hbw : b ≤ w.heap.size := Nat.le_trans h.hg (Nat.le_of_lt (blk_lt h.hb))
  obtain ⟨W0, hW0⟩ : ∃ W0, W0 = w.alloc (.cells #[.slice A kl.length c] 23) := ⟨_, rfl⟩
  have hB0 : W0.heap[w.heap.size]? = some (.cells #[.slice A kl.length c] 23 (0, 0)) := by rw [hW0]; exact blk_new _ _
  have hb0 : Below w.heap.size w W0 := by rw [hW0]; exact below_alloc (Below.refl _ _) _
  have hd0 := h.below hb0
  have s3 := (blk_cell hd0.hb 3).trans (rfl : _ = some (Value.int .i64 room))
  rw [hW0] at s3
  have HB0 := Aside0.mk hB0
  have HL0 := Aside0.mk hb0
  have HD0 := Aside0.mk hd0
  have HY := Aside0.mk h.hf.hy
  have HDW := Aside0.mk h
  have HW0 := Aside0.mk hW0
  have hsz0 := hb0.size
  have HRM := Aside0.mk (show (if room < 0 then 0 else room) = room by rw [if_neg (by omega)])
  have HCK := Aside0.mk hk
  have HOP := Aside0.mk hop
  have HRIS := Aside0.mk hris
  have HIDS := Aside0.mk hids
  have HSZS := Aside0.mk hszs
  have HRI := Aside0.mk hri
  have HFI := Aside0.mk hfi
  have HFF := Aside0.mk hff
  obtain ⟨nw, hnw⟩ : ∃ nw, nw = crashD safe ops kl ops.length := ⟨_, rfl⟩
  rw [← hnw] at hln HRIS HIDS HSZS ⊢
  have HNW := Aside0.mk hnw
  clear h hk hB0 hb0 hd0 hW0 hop hris hids hszs hri hfi hff hnw
  go_enter Tryz.func14, Tryz.ntmps14
  go_wp2_with (first
    | (go_at_call 7; rw [← HW0.out]; refine (knew_any W0.heap.size y room W0 (Nat.le_refl _) (fun k hk => HY.out k (Nat.le_trans hsz0 hk))).mono ?_; rintro e w1 ⟨g2, gd0, mn0, ms0, mf2, rfl, hk2, hb⟩; rw [HRM.out] at hk2; have hd1 := HD0.out.below hb; have s2 := (blk_cell hd1.hb 2).trans (rfl : _ = some (Value.int .i64 next)); have s22 := (blk_cell hk2.hb 2).trans (rfl : _ = some (Value.int .i64 0)); have f2 := blk_frozen hk2.hb 2; have HK2 := Aside0.mk hk2; have HB := Aside0.mk hb; clear hk2 hb hd1 s3))
  obtain ⟨W2, hW2⟩ : ∃ W2, W2 = w1.setCell ⟨g2, 2, none⟩ (.int .i64 next) := ⟨_, rfl⟩
  have hg2 := HK2.out.hg
  have hg2w : w.heap.size ≤ g2 := Nat.le_trans hsz0 hg2
  have hmf2 := HK2.out.hmf
  have hmf2w : w.heap.size ≤ mf2 := Nat.le_trans hsz0 hmf2
  have ho2 : DK W2 b y g2 gd0 mn0 ms0 (.slice none 0 0) 0 [] [] [] mf2 0 [] next room 0 false false := by
    rw [hW2]
    exact (HK2.out.own (blk_put HK2.out.hb 2 _ rfl) (fun k hk => Below.heap_setCell _ _ _ k hk)).lower0 (Nat.le_trans hbw hsz0)
  obtain ⟨B, hB⟩ : ∃ B, B = w.heap.size := ⟨_, rfl⟩
  have hl2 : Below w.heap.size w W2 := by
    rw [hW2]
    exact (below_step HL0.out HB.out).setCell (p := ⟨g2, 2, none⟩) hg2w _
  have hb2 : W2.heap[B]? = some (.cells #[.slice A kl.length c] 23 (0, 0)) := by
    have h1 := blk_below HB0.out HB.out
    rw [hW2, hB]
    exact (Below.heap_setCell _ ⟨g2, 2, none⟩ _ _ (blk_ne h1 HK2.out.hb (by decide))).trans h1
  have hd2 := HDW.out.below hl2
  rw [← hB, ← hW2]
  have s0 := (blk_cell hd2.hb 0).trans (rfl : _ = some (Value.pointer (some ⟨gd, 0, none⟩)))
  have HB2 := Aside0.mk hb2
  have HL2 := Aside0.mk hl2
  have HO2 := Aside0.mk ho2
  have HBB := Aside0.mk hB
  have hBb : b ≤ B := by omega
  clear hd2 hb2 hl2 ho2 hW2 hB s2 s22 f2 HK2 HB hg2 hmf2
  go_region_held3 (fun w' => w'.cell? ⟨g, 0, none⟩ = some (.pointer (some ⟨gd, 0, none⟩))) (first | with_reducible exact s0 | with_reducible exact s0b | exact s0) (first
    | (go_at_call 45; refine (dpending_any b gd mn ms N vo now safe ops _ (HDW.out.below (HL2.out.trans (below_drew1 (Below.refl _ _)))).hd).mono ?_; rintro e w3 ⟨rfl, rfl⟩)
    | (go_at_call 43; refine (part_any B ops.length A kl.length c kl _ rfl (blk_drew HB2.out) hc (by omega) (by omega)).mono ?_; rintro e w4 ⟨n1, A3, n3, c3, rfl, hw4, hc3, hn3, hn3l, hC4⟩; have hl4 : Below w.heap.size w w4 := (by rw [hw4]; exact (HL2.out.trans (below_drew1 (Below.refl _ _))).setCell (p := ⟨B, 0, none⟩) (by rw [HBB.out]; exact Nat.le_refl _) _); have hb4 : w4.heap[B]? = some (.cells #[.slice A3 n3 c3] 23 (0, 0)) := (by rw [hw4]; exact blk_put (blk_drew HB2.out) 0 _ rfl); have ho4 : DK w4 b y g2 gd0 mn0 ms0 (.slice none 0 0) 0 [] [] [] mf2 0 [] next room 0 false false := (by rw [hw4]; exact (HO2.out.below (below_drew1 (Below.refl _ _))).keepBox (blk_drew HB2.out) _); replace s0 := (blk_cell (HDW.out.below hl4).hb 0).trans (rfl : _ = some (Value.pointer (some ⟨gd, 0, none⟩))); have HC4 := Aside0.mk (hC4 w HCK.out); have HN3 := Aside0.mk hn3l; have HL4 := Aside0.mk hl4; have HB4 := Aside0.mk hb4; have HO4 := Aside0.mk ho4; clear hw4 hC4 hl4 hb4 ho4 hn3l)
    | (go_at_call 44; refine (dcrash_any b gd mn ms N vo now safe ops A n1 c (kl.take ops.length) _ (HDW.out.below HL4.out).hd (Kd.C_below HC4.out.1 HL4.out) hN hlo HOP.out).mono ?_; rintro e w5 ⟨g3, m2, m3, rfl, hg3, hm2, hm3, hd5, hb5⟩; rw [crashD_take safe ops kl ops.length ops.length (Nat.le_refl _), ← HNW.out] at hd5; have hl5 := HL4.out.trans (hb5.mono HL4.out.size); replace s0 := (blk_cell (HDW.out.below hl5).hb 0).trans (rfl : _ = some (Value.pointer (some ⟨gd, 0, none⟩))); have s0b := (blk_cell (HDW.out.below (hl5.setCell (p := ⟨g2, 0, none⟩) hg2w (.pointer (some ⟨g3, 0, none⟩)))).hb 0).trans (rfl : _ = some (Value.pointer (some ⟨gd, 0, none⟩))); have ho5 := HO4.out.below hb5; have s5 := (blk_cell ho5.hb 0).trans (rfl : _ = some (Value.pointer (some ⟨gd0, 0, none⟩))); have z5 := blk_frozen ho5.hb 0; have HMF := Aside0.mk (And.intro (Nat.lt_of_lt_of_le HO4.out.hm.lt hm2) (Nat.lt_of_lt_of_le HO4.out.hm.lt hm3)); have HB5 := Aside0.mk (blk_below HB4.out hb5); have HL5 := Aside0.mk hl5; have HO5 := Aside0.mk ho5; have HD5 := Aside0.mk hd5; clear hg3 hm2 hm3 hd5 hb5 hl5 ho5))
  all_goals
    obtain ⟨W6, hW6⟩ : ∃ W6, W6 = w5.setCell ⟨g2, 0, none⟩ (.pointer (some ⟨g3, 0, none⟩)) := ⟨_, rfl⟩
    have ho6 : DK W6 b y g2 g3 m2 m3 (.slice none 0 0) (N + ops.length) nw nw [] mf2 0 [] next room 0 false false := by
      rw [hW6]
      exact HO5.out.newDir HD5.out (Nat.ne_of_lt HMF.out.1) (Nat.ne_of_lt HMF.out.2)
    have hl6 : Below w.heap.size w W6 := by
      rw [hW6]
      exact HL5.out.setCell (p := ⟨g2, 0, none⟩) hg2w _
    have hb6 : W6.heap[B]? = some (.cells #[.slice A3 n3 c3] 23 (0, 0)) := by
      rw [hW6]
      exact (Below.heap_setCell _ ⟨g2, 0, none⟩ _ _ (blk_ne HB5.out HO5.out.hb (by decide))).trans HB5.out
    rw [← hW6]
    have HO6 := Aside0.mk ho6
    have HL6 := Aside0.mk hl6
    have HB6 := Aside0.mk hb6
    have ho7 := ho6.below (below_alloc (Below.refl _ _) (.map #[] 0))
    have s7 := (blk_cell ho7.hb 0).trans (rfl : _ = some (Value.pointer (some ⟨g3, 0, none⟩)))
    have HO7 := Aside0.mk ho7
    clear hW6 ho6 ho7 hl6 hb6 s0 s0b s5 z5 HB5 HL5 HO5 HD5 HMF
    go_wp2_with (first
      | (go_at_call 16; refine (dnames_any b g3 m2 m3 (N + ops.length) _ nw nw [] _ HO7.out.hd HRIS.out (by omega)).mono ?_; rintro e w8 ⟨v, rfl, hv, hb⟩; obtain ⟨A9, c9, rfl⟩ := Kd.R_slice hv; rw [List.length_map] at hv ⊢; have HV := Aside0.mk hv; have HB8 := Aside0.mk hb; clear hv hb))
    obtain ⟨mm, hmmE⟩ : ∃ mm, mm = W6.heap.size := ⟨_, rfl⟩
    have hz7 : (W6.alloc (.map #[] 0)).heap.size = W6.heap.size + 1 := World.size_alloc ..
    have hm8 : MV w8 Tryz.prog 3 mm 0 (namedF []) := by
      rw [hmmE]
      exact ((MV.made W6 Tryz.prog 3).below HB8.out).congr (fun q => rfl)
    have hl8 : Below w.heap.size w w8 := (below_alloc HL6.out (.map #[] 0)).trans (HB8.out.mono (by rw [hz7]; exact Nat.le_succ_of_le HL6.out.size))
    have ho8 := HO7.out.below HB8.out
    have hb8 := blk_below (blk_alloc HB6.out (.map #[] 0)) HB8.out
    have hmmw : w.heap.size ≤ mm := by rw [hmmE]; exact HL6.out.size
    have hq1 : mm ≠ mf2 := by have := HO6.out.hm.lt; omega
    have hq2 : mm ≠ m2 := by have := HO6.out.hd.hn.lt; omega
    have hq3 : mm ≠ m3 := by have := HO6.out.hd.hs.lt; omega
    rw [← hmmE]
    have HM8 := Aside0.mk hm8
    have HL8 := Aside0.mk hl8
    have HO8 := Aside0.mk ho8
    have HB8b := Aside0.mk hb8
    have HQ := Aside0.mk (And.intro hq1 (And.intro hq2 hq3))
    clear hm8 hl8 ho8 hb8 hz7 hmmE hq1 hq2 hq3 HB8 HB6 HO6 HO7 HL6 s7 HB4 HO4 HL4 HB2 HL2 HO2 HB0 HL0 HD0 HY HW0
    go_loopg [52] nw.length (fun q v52 wr => ∃ i : Nat, v52 = .int .i64 (i : Int) ∧ i ≤ nw.length ∧ Aside0 (q = nw.length - i) ∧ Aside0 (MV wr Tryz.prog 3 mm i (namedF (nw.take i))) ∧ Aside0 (Turn w8 wr mm))
    case atStart => exact ⟨0, rfl, Nat.zero_le _, ⟨rfl⟩, HM8, ⟨Turn.of_below (Below.refl _ _)⟩⟩
    case round =>
      obtain ⟨i, rfl, hi, hq, HM, HT⟩ := hrel
      have hor := HO8.out.keep (B := mm) HT.out.k.1 (fun k hk hne => HT.out.k.2 k hk hne (by simp)) (fun cs T hcc => absurd rfl (HM8.out.ne hcc)) HQ.out.1 HQ.out.2.1 HQ.out.2.2
      have s0 := (blk_cell hor.hb 0).trans (rfl : _ = some (Value.pointer (some ⟨g3, 0, none⟩)))
      have HOR := Aside0.mk hor
      clear hor
      by_cases hlt : i < nw.length
      · obtain ⟨p, hp⟩ : ∃ p, p = nw.getD i zDN := ⟨_, rfl⟩
        have hpm : p ∈ nw := by
          rw [hp, List.getD_eq_getElem?_getD, List.getElem?_eq_getElem hlt]
          exact List.getElem_mem _
        have hT : nw.take (i + 1) = nw.take i ++ [p] := by
          rw [hp, List.take_add_one, List.getElem?_eq_getElem hlt, List.getD_eq_getElem?_getD, List.getElem?_eq_getElem hlt]
          rfl
        have HTE := Aside0.mk hT
        have HGN := Aside0.mk (getN_of_mem HRIS.out hpm)
        have hid := HIDS.out p hpm
        have HSP := Aside0.mk (HSZS.out p hpm)
        have HKN := Aside0.mk (keyOf_int_mk (P := Tryz.prog) Tryz.underlying3 (WalkArith.wf_i64 (by omega) : (Lit.int .i64 p.2).wf = true))
        have hvr := R_turn HV.out HM8.out HT.out.k
        obtain ⟨ad, rfl, sy⟩ := Kd.at_string (Kd.R_reads' hvr).2.2 (i : Int) (by omega) (by rw [List.length_map]; omega)
        simp only [Int.toNat_natCast] at sy
        rw [show rdOf ByteArray.empty (nw.map (·.1)) (i : Int) = p.1 by unfold rdOf; rw [Int.toNat_natCast, hp]; simp [List.getD_eq_getElem?_getD, List.getElem?_eq_getElem hlt]] at sy
        clear hp hpm hT hid hvr
        go_wp2_with (first
          | (go_at_call 46; refine (dget_any b g3 m2 m3 (N + ops.length) _ nw nw [] p.1 _ HOR.out.hd HSP.out).mono ?_; rw [HGN.out]; rintro e w9 ⟨rfl, rfl⟩)
          | (at_mapUpdate; refine mv_store rfl _ _ _ 86 rfl 3 4 lawI Tryz.underlying86 mm i (namedF (nw.take i)) rfl HM.out (by unfold maxLen; omega) (Value.int .i64 p.2) (Value.bool true) (.int .i64 p.2) rfl rfl HKN.out ?_; intro w9 hm9 ht9; rw [← namedF_snoc, ← HTE.out] at hm9; have HM9 := Aside0.mk hm9; have HT9 := Aside0.mk (HT.out.step ht9); clear hm9 ht9))
        go_roundg (nw.length - (i + 1))
        case measure => have := hq.out; omega
        case rel => exact ⟨i + 1, by go_num, hlt, ⟨rfl⟩, HM9, HT9⟩
      · obtain rfl : i = nw.length := by omega
        rw [List.take_length] at HM
        have hlr : Below w.heap.size w wr := HL8.out.trans (HT.out.l w.heap.size hmmw HL8.out.size)
        have hbr : wr.heap[B]? = some (.cells #[.slice A3 n3 c3] 23 (0, 0)) := (HT.out.k.2 B (blk_lt HB8b.out) (HM8.out.ne HB8b.out).symm (by simp)).trans HB8b.out
        have HLR := Aside0.mk hlr
        have HBR := Aside0.mk hbr
        clear hlr hbr HO8 HM8 HV HT HB8b HL8 hq
        have HDR := Aside0.mk (HDW.out.below HLR.out)
        go_wp2_with (go_at_call 47; refine (ids_any b y g gd mn ms vo N now safe ops mf M fl next room fuse armed dead _ HDR.out HRI.out hM).mono ?_; rintro e w11 ⟨v, rfl, hv, hb⟩; obtain ⟨A11, c11, rfl⟩ := Kd.R_slice hv; rw [List.length_map] at hv ⊢; have HV := Aside0.mk hv; have HB11 := Aside0.mk hb; clear hv hb)
        have HL11 := Aside0.mk (HLR.out.trans (HB11.out.mono HLR.out.size))
        have HO11 := Aside0.mk (HOR.out.below HB11.out)
        have HBX11 := Aside0.mk (blk_below HBR.out HB11.out)
        have HM11 := Aside0.mk (HM.out.below HB11.out)
        clear HDR HOR HBR HM HLR HB11 s0
        go_loopg [71] fl.length (fun q v71 wr2 => ∃ (i : Nat) (fo : List FR) (Ak : Option Addr) (nk ck : Nat), v71 = .int .i64 (i : Int) ∧ i ≤ fl.length ∧ fo.length ≤ i ∧ nk ≤ ck ∧ nk ≤ kl.length ∧ Aside0 (q = fl.length - i) ∧ Aside0 (DK wr2 b y g2 g3 m2 m3 (.slice none 0 0) (N + ops.length) nw nw [] mf2 fo.length fo next room 0 false false) ∧ Aside0 (fo.map FR.pv = crashP (namedI nw) kl ops.length ((fl.map FR.pv).take i)) ∧ Aside0 (wr2.heap[B]? = some (.cells #[.slice Ak nk ck] 23 (0, 0))) ∧ Aside0 (Kd.bool.C w Ak nk (kl.drop (ops.length + opsSum ((fl.map FR.pv).take i)))) ∧ Aside0 (MV wr2 Tryz.prog 3 mm nw.length (namedF nw)) ∧ Aside0 (KI w11 wr2) ∧ Aside0 (Below w.heap.size w wr2))
        case atStart => exact ⟨0, [], A3, n3, c3, rfl, Nat.zero_le _, Nat.le_refl _, hc3, hn3, ⟨rfl⟩, HO11, ⟨rfl⟩, HBX11, ⟨HC4.out.2⟩, HM11, ⟨fun _ _ _ => rfl⟩, HL11⟩
        case round =>
          clear HO11 HBX11 HM11 HL11 HC4 HN3
          obtain ⟨i, fo, Ak, nk, ck, rfl, hi, hfo, hnc, hnkl, hq, HO, HFO, HBX, HCK2, HMM, HKI, HL⟩ := hrel
          by_cases hlt : i < fl.length
          · obtain ⟨p, hp⟩ : ∃ p, fl[i]? = some p := ⟨fl[i], List.getElem?_eq_getElem hlt⟩
            have hpm : p ∈ fl := List.mem_of_getElem? hp
            have hpid := HFI.out p hpm
            obtain ⟨hps, hpo, hpd⟩ := HFF.out p hpm
            have HPD := Aside0.mk hpd
            have HPM := Aside0.mk hpm
            have HP := Aside0.mk hp
            have HKP := Aside0.mk (keyOf_int_mk (P := Tryz.prog) Tryz.underlying3 (WalkArith.wf_i64 (by omega) : (Lit.int .i64 p.id).wf = true))
            have HVP := Aside0.mk (show (filesF fl (.int .i64 p.id)).getD (Value.pointer none) = .pointer (some ⟨p.g, 0, none⟩) by
              have h1 := fileAt_has hpm
              rw [filesF_at] at h1 ⊢
              cases hf : fileAt fl p.id with
              | none => rw [hf] at h1; cases h1
              | some p' =>
                have h2 := fileAt_mem hf
                rw [fl_uniq HDW.out.hf.ap h2.1 hpm (.inl h2.2)]
                rfl)
            obtain ⟨ad, rfl, sx⟩ := at_introw (RI_kept HV.out HKI.out) i hlt (List.length_map ..)
            rw [show (fl.map FR.id).getD i 0 = p.id by rw [List.getD_eq_getElem?_getD, List.getElem?_map, hp]; rfl] at sx
            obtain ⟨kr, hkr⟩ : ∃ kr, kr = kl.drop (ops.length + opsSum ((fl.map FR.pv).take i)) := ⟨_, rfl⟩
            rw [← hkr] at HCK2
            have HKR := Aside0.mk hkr
            have HAP := Aside0.mk (crash_below (namedI nw) kl ops.length fl fo i p hp HRI.out HFO.out)
            clear hp hpm hpd hkr
            have hdr := HDW.out.below HL.out
            have s1 := (blk_cell hdr.hb 1).trans (rfl : _ = some (Value.map (some mf)))
            have hdd := HDW.out.below (HL.out.trans (below_drew1 (Below.refl _ _)))
            have q1 := mv_look hdd.hm lawI Tryz.underlying52 (zeroPF _) HKP.out _ HVP.out
            clear hdr hdd
            go_wp2_with fail
            go_region_held3 (fun w' => w'.cell? ⟨g, 1, none⟩ = some (.map (some mf)) ∧ (Instr.lookup 52 (.map (some mf)) (.int .i64 p.id) false).run Tryz.prog w' = .ok (.pointer (some ⟨p.g, 0, none⟩)) w') (first | with_reducible exact ⟨s1, q1⟩ | exact ⟨s1, q1⟩) (first
              | (go_at_call 49; refine (fpending_any b p.g _ _ _ _ _ _ _ _ ((HDW.out.below (HL.out.trans (below_drew1 (Below.refl _ _)))).hf.hf p HPM.out)).mono ?_; rintro e w3 ⟨rfl, hw⟩; subst hw)
              | (go_at_call 43; refine (part_any B p.ops.length Ak nk ck kr _ HCK2.out.1 (blk_drew HBX.out) hnc (by omega) (by omega)).mono ?_; rintro e w4 ⟨n4, A4, n5, c5, rfl, hw4, hc5, hn5, hn5l, hC4⟩; have hl4 : Below w.heap.size w w4 := (by rw [hw4]; exact (HL.out.trans (below_drew1 (Below.refl _ _))).setCell (p := ⟨B, 0, none⟩) (by rw [HBB.out]; exact Nat.le_refl _) _); have hb4 : w4.heap[B]? = some (.cells #[.slice A4 n5 c5] 23 (0, 0)) := (by rw [hw4]; exact blk_put (blk_drew HBX.out) 0 _ rfl); have ho4 : DK w4 b y g2 g3 m2 m3 (.slice none 0 0) (N + ops.length) nw nw [] mf2 fo.length fo next room 0 false false := (by rw [hw4]; exact (HO.out.below (below_drew1 (Below.refl _ _))).keepBox (blk_drew HBX.out) _); have hm4 : MV w4 Tryz.prog 3 mm nw.length (namedF nw) := (by rw [hw4]; exact (MV.drew HMM.out).setCell ((MV.drew HMM.out).ne (blk_drew HBX.out)) _); have hi4 : KI w11 w4 := (by rw [hw4]; exact (HKI.out.trans (KI.of_below (below_drew1 (Below.refl _ _)))).trans (KI.setCell (blk_drew HBX.out) (by decide) 0 _)); have hdd := HDW.out.below hl4; replace s1 := (blk_cell hdd.hb 1).trans (rfl : _ = some (Value.map (some mf))); replace q1 := mv_look hdd.hm lawI Tryz.underlying52 (zeroPF _) HKP.out _ HVP.out; have HC4 := Aside0.mk (hC4 w HCK2.out); have HL4 := Aside0.mk hl4; have HB4 := Aside0.mk hb4; have HO4 := Aside0.mk ho4; have HM4 := Aside0.mk hm4; have HI4 := Aside0.mk hi4; clear hw4 hC4 hl4 hb4 ho4 hm4 hi4 hn5l hdd)
              | (go_at_call 48; refine (fcrash_any b p.g _ p.vn p.vs p.vo p.now p.safe p.ops Ak n4 ck (kr.take p.ops.length) _ ((HDW.out.below HL4.out).hf.hf p HPM.out) (Kd.C_below HC4.out.1 HL4.out) hps HPD.out (by omega)).mono ?_; rintro e w5 ⟨g5, va, vb, rfl, hf5, hb5⟩; rw [crashF_take p.safe p.ops kr p.ops.length p.ops.length (Nat.le_refl _)] at hf5; have hl5 := HL4.out.trans (hb5.mono HL4.out.size); have hdd := HDW.out.below hl5; replace s1 := (blk_cell hdd.hb 1).trans (rfl : _ = some (Value.map (some mf))); replace q1 := mv_look hdd.hm lawI Tryz.underlying52 (zeroPF _) HKP.out _ HVP.out; have HF5 := Aside0.mk hf5; have HBL5 := Aside0.mk hb5; have HB5 := Aside0.mk (blk_below HB4.out hb5); have HM5 := Aside0.mk (HM4.out.below hb5); have HI5 := Aside0.mk (HI4.out.trans (KI.of_below hb5)); have HL5 := Aside0.mk hl5; clear hf5 hb5 hl5 hdd))
            all_goals
              have HDROP := Aside0.mk (show kr.drop p.ops.length = kl.drop (ops.length + opsSum ((fl.map FR.pv).take (i + 1))) by rw [HKR.out, List.drop_drop, crash_sum fl i p HP.out, Nat.add_assoc])
              have HSTEP := Aside0.mk (crash_step (namedI nw) kl ops.length fl i hlt p HP.out)
              have HO5 := Aside0.mk (HO4.out.below HBL5.out)
              have s5 := (blk_cell HO5.out.hb 1).trans (rfl : _ = some (Value.map (some mf2)))
              have hflen : fo.length ≤ 1000 := by omega
              cases hnm : namedI nw p.id with
              | false =>
                have HVN := Aside0.mk (show (namedF nw (.int .i64 p.id)).getD (.bool false) = .bool false by rw [namedF_at, hnm])
                rw [hnm] at HSTEP
                clear hnm
                go_wp2_with (at_lookup; refine mv_lookup rfl _ _ 86 rfl 3 4 lawI Tryz.underlying86 (zeroBo _) mm nw.length (namedF nw) rfl HM5.out _ (.int .i64 p.id) rfl HKP.out _ HVN.out ?_)
                go_roundg (fl.length - (i + 1))
                case measure => have := hq.out; omega
                case rel => exact ⟨i + 1, fo, A4, n5, c5, by go_num, hlt, by omega, hc5, by omega, ⟨rfl⟩, HO5, ⟨by rw [HSTEP.out, HFO.out]; simp⟩, HB5, ⟨by rw [← HDROP.out]; exact HC4.out.2⟩, HM5, HI5, HL5⟩
              | true =>
                have HVN := Aside0.mk (show (namedF nw (.int .i64 p.id)).getD (.bool false) = .bool true by rw [namedF_at, hnm])
                rw [hnm] at HSTEP
                clear hnm
                go_wp2_with (first
                  | (at_lookup; refine mv_lookup rfl _ _ 86 rfl 3 4 lawI Tryz.underlying86 (zeroBo _) mm nw.length (namedF nw) rfl HM5.out _ (.int .i64 p.id) rfl HKP.out _ HVN.out ?_)
                  | (at_mapUpdate; refine mv_store rfl _ _ _ 52 rfl 3 81 lawI Tryz.underlying52 mf2 fo.length (filesF fo) rfl HO5.out.hm (by unfold maxLen; omega) (Value.int .i64 p.id) (Value.pointer (some ⟨g5, 0, none⟩)) (.int .i64 p.id) rfl rfl HKP.out ?_; intro w6 hm6 ht6; have HAC := Aside0.mk (HO4.out.addCrash HBL5.out HF5.out HAP.out hm6 ht6); have HB6 := Aside0.mk ((ht6.grown.block B (blk_lt HB5.out) (fun e => HO5.out.hm.ne HB5.out (by injection e with e; exact e.symm))).trans HB5.out); have HM6 := Aside0.mk (HM5.out.move (ht6.grown.block mm HM5.out.lt (fun e => HQ.out.1 (by injection e)))); have HI6 := Aside0.mk (HI5.out.trans (KI.map HO5.out.hm ht6)); have HL6 := Aside0.mk (HL5.out.grown ht6.grown HL5.out.size (fun k e => by cases e; exact hmf2w)); clear hm6 ht6))
                go_roundg (fl.length - (i + 1))
                case measure => have := hq.out; omega
                case rel =>
                  obtain ⟨fo2, hfo2⟩ : ∃ fo2, fo2 = fo ++ [(⟨p.id, g5, va, vb, .slice none 0 0, crashF p.safe p.ops kr p.ops.length, crashF p.safe p.ops kr p.ops.length, []⟩ : FR)] := ⟨_, rfl⟩
                  have hlen : fo2.length = fo.length + 1 := by rw [hfo2, List.length_append]; rfl
                  have hac := HAC.out.1
                  rw [← hfo2, ← hlen] at hac
                  have hpv : fo2.map FR.pv = crashP (namedI nw) kl ops.length ((fl.map FR.pv).take (i + 1)) := by
                    rw [HSTEP.out, hfo2, List.map_append, HFO.out, ← HKR.out]
                    rfl
                  exact ⟨i + 1, fo2, A4, n5, c5, by go_num, hlt, by omega, hc5, by omega, ⟨rfl⟩, ⟨hac⟩, ⟨hpv⟩, HB6, ⟨by rw [← HDROP.out]; exact HC4.out.2⟩, HM6, HI6, HL6⟩
          · obtain rfl : i = fl.length := by omega
            have HEND := Aside0.mk (show fo.map FR.pv = crashP (namedI nw) kl ops.length (fl.map FR.pv) by rw [HFO.out, List.take_of_length_le (by rw [List.length_map]; exact Nat.le_refl _)])
            go_wp2_with fail
            go_ret
            exact ⟨_, _, _, _, _, _, rfl, HO.out, HEND.out, HL.out⟩
end Go.Proofs.YtpnbjpkdbiiogaaGreat
