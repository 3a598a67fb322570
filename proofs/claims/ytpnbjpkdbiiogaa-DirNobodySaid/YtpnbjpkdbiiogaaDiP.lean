/- Directories: the chapter's example. -/
import Derived.Test.YtpnbjpkdbiiogaaDiO
namespace Go.Proofs.Ytpnbjpkdbiiogaa
set_option linter.unusedVariables false
open Go.RowKit Go.Maps Go.Sort Go.Proofs.YtpnbjpkdbiiogaaW.PrintWords
attribute [local go_sem] mx2 mn2 mxTwo mnTwo

theorem C_lits {α : Type} {enc : α → Value} (d : α) {h1 : ∀ x, (enc x).oneCell' = true} (W : World) (e : TypeId) (xs : List α) (hm : xs.length ≤ 9223372036854775807) : (Kd.scalar enc h1).C (W.alloc (.cells (xs.map enc).toArray e)) (some ⟨W.heap.size, 0, none⟩) xs.length xs := by
  refine Kd.C_of_reads (d := d) ⟨rfl, hm, fun _ => ⟨_, rfl, fun j hj => ?_⟩⟩
  rw [add_plain, blk_cell (blk_new W _) j]
  simp [List.getD_eq_getElem?_getD, hj]
deriving instance DecidableEq for DOp
def sA : ByteArray := ⟨#[65]⟩
def sB : ByteArray := ⟨#[66]⟩
def ops2 : List DOp := [⟨0, sA, ⟨#[]⟩, 1⟩, ⟨1, sA, sB, 0⟩]
theorem awake07_is : doNow [] ⟨0, sA, ⟨#[]⟩, 1⟩ = [(sA, 1)] ∧ doOpsI [] [] ⟨0, sA, ⟨#[]⟩, 1⟩ = [⟨0, sA, ⟨#[]⟩, 1⟩] ∧ doCode [] ⟨0, sA, ⟨#[]⟩, 1⟩ = 0 ∧ doNow [(sA, 1)] ⟨1, sA, sB, 0⟩ = [(sB, 1)] ∧ doOpsI [(sA, 1)] [⟨0, sA, ⟨#[]⟩, 1⟩] ⟨1, sA, sB, 0⟩ = ops2 ∧ doCode [(sA, 1)] ⟨1, sA, sB, 0⟩ = 0 ∧ crashD [] ops2 [false, true] 2 = [] ∧ crashD [] ops2 [true, true] 2 = [(sB, 1)] := by decide +kernel
theorem rising_nil : Rising [] := List.Pairwise.nil
theorem rising_one (p : DN) : Rising [p] := List.pairwise_singleton _ _
theorem ops2_size : ∀ o ∈ ops2, o.a.size ≤ maxLen ∧ o.b.size ≤ maxLen := by
  intro o ho
  rcases List.mem_cons.1 ho with rfl | ho
  · decide
  · rw [List.mem_singleton.1 ho]; decide
set_option maxHeartbeats 2000000 in
set_option maxRecDepth 100000 in
theorem awake07_any (w : World) : Calls Try.prog 44 #[] w fun e w' => e = .returned (.bool true) ∧ Below w.heap.size w w' := by
  have HE := Aside0.mk awake07_is
  have T1 := Aside0.mk trivial
  go_enter Try.func44, Try.ntmps44
  go_wp2_with (first
    | (go_at_call 43; refine (dnew_any w.heap.size w (Nat.le_refl _)).mono ?_; rintro e w1 ⟨g, mn, ms, rfl, _, _, _, hd, hb⟩; have HD := Aside0.mk hd; have HB := Aside0.mk hb; clear hd hb)
    | (go_at_call 56; refine (dcreate_any _ g mn ms _ _ [] [] [] _ HD.out (by omega) (by simp) sA ⟨#[]⟩ 1 (by decide)).mono ?_; rw [HE.out.1, HE.out.2.1, HE.out.2.2.1]; rintro e w2 ⟨rfl, vo2, hd, _, _, hl⟩; have hbn := HB.out.trans hl; clear HD HB; have HD := Aside0.mk hd; have HB := Aside0.mk hbn; clear hd hl hbn)
    | (go_at_call 57; refine (drename_any _ g mn ms _ _ [(sA, 1)] [] [⟨0, sA, ⟨#[]⟩, 1⟩] _ HD.out (by omega) (by simp) sA sB 0 (by decide) (by decide)).mono ?_; rw [HE.out.2.2.2.1, HE.out.2.2.2.2.1, HE.out.2.2.2.2.2.1]; rintro e w3 ⟨rfl, vo3, hd, _, _, hl⟩; have hbn := HB.out.trans hl; clear HD HB; have HD := Aside0.mk hd; have HB := Aside0.mk hbn; clear hd hl hbn)
    | (go_at_call 52; refine (dpending_any _ g mn ms _ _ [(sB, 1)] [] ops2 _ HD.out).mono ?_; rintro e w4 ⟨rfl, hw4⟩; subst hw4)
    | (go_at_call 48; have gate := T1.out; refine (dcrash_any _ g mn ms _ _ [(sB, 1)] [] ops2 (some ⟨w3.heap.size, 0, none⟩) 2 2 [false, true] _ (HD.out.below (below_alloc (Below.refl _ _) _)) (C_lits (d := true) w3 4 [false, true] (by decide)) (by omega) (by decide) ops2_size).mono ?_; rw [show ops2.length = 2 from rfl, HE.out.2.2.2.2.2.2.1]; rintro e w5 ⟨g2, m2, m3, rfl, _, _, _, hd2, hl⟩; have hd := (HD.out.below (below_alloc (Below.refl _ _) _)).below hl; have hbn := below_step (below_alloc HB.out _) hl; clear HD HB T1; have HD := Aside0.mk hd; have HD2 := Aside0.mk hd2; have HB := Aside0.mk hbn; clear gate hd hd2 hl hbn)
    | (go_at_call 50; refine (dnames_any _ g2 m2 m3 _ _ [] [] [] _ HD2.out rising_nil (by omega)).mono ?_; rintro e w6 ⟨v6, rfl, hv, hb⟩; obtain ⟨A6, c6, rfl⟩ := Kd.R_slice hv; have hd := HD.out.below hb; have hbn := below_step HB.out hb; clear HD HB HD2; have HD := Aside0.mk hd; have HB := Aside0.mk hbn; clear hd hv hb hbn)
    | (go_at_call 48; refine (dcrash_any _ g mn ms _ _ [(sB, 1)] [] ops2 (some ⟨w6.heap.size, 0, none⟩) 2 2 [true, true] _ (HD.out.below (below_alloc (Below.refl _ _) _)) (C_lits (d := true) w6 4 [true, true] (by decide)) (by omega) (by decide) ops2_size).mono ?_; rw [show ops2.length = 2 from rfl, HE.out.2.2.2.2.2.2.2]; rintro e w7 ⟨g2, m2, m3, rfl, _, _, _, hd2, hl⟩; have hbn := below_step (below_alloc HB.out _) hl; clear HD HB; have HD2 := Aside0.mk hd2; have HB := Aside0.mk hbn; clear hd2 hl hbn)
    | (go_at_call 50; refine (dnames_any _ g2 m2 m3 _ _ [(sB, 1)] [(sB, 1)] [] _ HD2.out (rising_one _) (by omega)).mono ?_; rintro e w8 ⟨v8, rfl, hv, hb⟩; obtain ⟨A8, c8, rfl, _, hc8⟩ := Kd.R_reads hv; have hbn := below_step HB.out hb; clear HB HD2; have HB := Aside0.mk hbn; have HC8 := Aside0.mk (Kd.C_below hc8 (below_alloc (Below.refl _ _) (.cells #[.string sB] 9))); clear hv hb hbn hc8)
    | (go_at_call 49; refine (texts_any A8 (some ⟨w8.heap.size, 0, none⟩) _ _ c8 1 [sB] _ HC8.out (C_lits (d := sB) w8 9 [sB] (by decide))).mono ?_; rintro e w9 ⟨rfl, hb⟩; have hbn := below_step (below_alloc HB.out _) hb; clear HB; have HB := Aside0.mk hbn; clear hb hbn))
  go_ret
  exact ⟨rfl, HB.out⟩
end Go.Proofs.Ytpnbjpkdbiiogaa
