/- The walk of the law DirPlays: it answers true. -/
import Derived.Test.YtpnbjpkdbiiogaaDiP
import Derived.Test.YtpnbjpkdbiiogaaOpen
import Derived.OpenShut
namespace Go.Proofs.Ytpnbjpkdbiiogaa
set_option linter.unusedVariables false
open Go.RowKit Go.Maps Go.Sort Go.Proofs.YtpnbjpkdbiiogaaW.PrintWords
attribute [local go_sem] mx2 mn2 mxTwo mnTwo

def goodDact (x : DAct) : Prop := (Lit.int .i64 x.kd).wf = true ∧ x.a.size ≤ maxLen ∧ x.b.size ≤ maxLen ∧ (Lit.int .i64 x.id).wf = true ∧ (∀ y ∈ x.keep, True)
theorem opens_t63 : Opens Try.prog 63 (Kd.slice 73 kDact) (fun xs => ∀ x ∈ xs, goodDact x) :=
  opens_slice Try.underlying63 (by kernel_rfl) (opens_iso (fun x : DAct => (x.kd, x.a, x.b, x.id, x.keep)) (fun x => ⟨x.1, x.2.1, x.2.2.1, x.2.2.2.1, x.2.2.2.2⟩) (fun _ => rfl)
    (opens_struct5 Try.underlying73 (by kernel_rfl) (by kernel_rfl) (opens_int Try.underlying3) (opens_string Try.underlying9) (opens_string Try.underlying9) (opens_int Try.underlying3) (opens_slice Try.underlying48 (by kernel_rfl) (opens_bool Try.underlying4))))

theorem bd0 : BdD ⟨[], [], []⟩ 0 0 := ⟨Nat.le_refl _, Nat.le_refl _, Nat.le_refl _, Nat.le_refl _, fun _ h => by simp at h, rising_nil, rising_nil⟩
theorem bz0 : BdZ ⟨[], [], []⟩ := ⟨fun _ h => by simp at h, fun _ h => by simp at h⟩
set_option maxHeartbeats 4000000 in
set_option maxRecDepth 100000 in
theorem dplays_walk (A : Option Addr) (c : Nat) (xs : List DAct) (name : ByteArray) (w : World) (hp : Kd.C kDact w A xs.length xs) (hc : xs.length ≤ c) (hg : ∀ x ∈ xs, goodDact x) (hnm : name.size ≤ maxLen) :
    Calls Try.prog 10 #[.slice A xs.length c, .string name] w fun e w' => e = .returned (.bool true) ∧ Below w.heap.size w w' := by
  have hm := Kd.C_max hp
  have HP := Aside0.mk hp
  clear hp hg
  by_cases hn : name.size ≤ 300
  · have d1 : decide (300 < name.size) = false := decide_eq_false (by omega)
    have HNM := Aside0.mk hnm
    clear hnm
    go_enter Try.func10, Try.ntmps10
    go_wp2_with (first
      | (go_at_call 43; refine (dnew_any w.heap.size w (Nat.le_refl _)).mono ?_; rintro e W0 ⟨g0, mn0, ms0, rfl, hg1, hg2, hg3, hf, hb⟩; have HF0 := Aside0.mk hf; have HB := Aside0.mk hb; clear hf hb))
    have hfs : DS (W0.alloc (.cells #[.slice none 0 0, .slice none 0 0, .slice none 0 0] 70)) w.heap.size g0 mn0 ms0 (.slice none 0 0) 0 W0.heap.size (.slice none 0 0) (.slice none 0 0) (.slice none 0 0) ⟨[], [], []⟩ := ⟨HF0.out.below (below_alloc (Below.refl _ _) _), ⟨blk_new _ _, Kd.R_nil _ _ _ _ _, Kd.R_nil _ _ _ _ _, Kd.R_nil _ _ _ _ _, HB.out.size⟩⟩
    have HS := Aside0.mk hfs
    have hbn := below_alloc HB.out (.cells #[.slice none 0 0, .slice none 0 0, .slice none 0 0] 70)
    clear HB hfs HF0
    have HB := Aside0.mk hbn
    clear hbn
    go_loopg [5, 6, 7] 40 (fun q v5 v6 v7 wr => ∃ (i g mn ms N r : Nat) (vo rn rs ro : Value) (s : DSt), v7 = .int .i64 (i : Int) ∧ v5 = .pointer (some ⟨g, 0, none⟩) ∧ v6 = .pointer (some ⟨r, 0, none⟩) ∧ i ≤ xs.length ∧ i ≤ 40 ∧ Aside0 (q = 40 - i) ∧ Aside0 (BdD s N i) ∧ Aside0 (BdZ s) ∧ Aside0 (DS wr w.heap.size g mn ms vo N r rn rs ro s) ∧ Aside0 (Below w.heap.size w wr))
    case atStart => exact ⟨0, _, _, _, _, _, _, _, _, _, ⟨[], [], []⟩, rfl, rfl, rfl, Nat.zero_le _, Nat.zero_le _, ⟨rfl⟩, ⟨bd0⟩, ⟨bz0⟩, HS, HB⟩
    case round =>
      clear HS HB
      obtain ⟨i, g, mn, ms, N, r, vo, rn, rs, ro, s, rfl, rfl, rfl, hi, hi2, hq, HBD, HBZ, HS, HB⟩ := hrel
      by_cases hgo : i < xs.length ∧ i < 40
      · obtain ⟨hlt, h40⟩ := hgo
        obtain ⟨ad, A3, c3, e1, r0, r1, r2, r3, r4, hC3⟩ := at_Dact HP.out i hlt
        subst e1
        obtain ⟨a, ha⟩ : ∃ a, a = xs.getD i zDact := ⟨_, rfl⟩
        rw [← ha] at r0 r1 r2 r3 r4 hC3
        have HC3 := Aside0.mk hC3
        replace r0 := pw_cell_below HB.out r0
        replace r1 := pw_cell_below HB.out r1
        replace r2 := pw_cell_below HB.out r2
        replace r3 := pw_cell_below HB.out r3
        replace r4 := pw_cell_below HB.out r4
        clear ha hC3
        by_cases hl : a.a.size ≤ 200 ∧ a.b.size ≤ 200 ∧ a.keep.length ≤ 100
        · obtain ⟨hl1, hl2, hl3⟩ := hl
          have HZA := Aside0.mk (show a.a.size ≤ maxLen ∧ a.b.size ≤ maxLen by unfold maxLen; omega)
          go_wp2_with (first
            | (go_at_call 45; refine (dlight_yes a.kd a.id a.a a.b A3 a.keep.length c3 _ hl1 hl2 hl3).mono ?_; rintro e w1 ⟨rfl, hb⟩; replace r0 := pw_cell_below hb r0; replace r1 := pw_cell_below hb r1; replace r2 := pw_cell_below hb r2; replace r3 := pw_cell_below hb r3; replace r4 := pw_cell_below hb r4; have hs := HS.out.below hb; have hbn := below_step HB.out hb; clear HS HB; have HS := Aside0.mk hs; have HB := Aside0.mk hbn; clear hs hbn hb)
            | (go_at_call 46; refine (ddoes_any a w.heap.size g mn ms N r vo rn rs ro s i A3 c3 _ HS.out HBD.out (by omega) HZA.out.1 HZA.out.2 (Kd.C_below HC3.out HB.out)).mono ?_; rintro e w2 ⟨g', mn', ms', vo', N', r', rn', rs', ro', rfl, hfs, hbd, hbl⟩; have hbn := HB.out.trans hbl; have HBD2 := Aside0.mk hbd; have HBZ2 := Aside0.mk (stepD_bz s a N i HBD.out HBZ.out HZA.out); clear HS HB; have HS := Aside0.mk hfs; have HB := Aside0.mk hbn; clear hfs hbn hbl hbd)
            | (go_at_call 53; refine (dshows_any w.heap.size g' mn' ms' N' r' vo' rn' rs' ro' (stepD s a) (i + 1) name _ HS.out HBD2.out HBZ2.out (by omega) HNM.out).mono ?_; rintro e w3 ⟨rfl, hb⟩; have hs := HS.out.below hb; have hbn := below_step HB.out hb; clear HS HB; have HS := Aside0.mk hs; have HB := Aside0.mk hbn; clear hs hbn hb))
          go_roundg (40 - (i + 1))
          case measure => have := hq.out; omega
          case rel => exact ⟨i + 1, _, _, _, _, _, _, _, _, _, _, by go_num, rfl, rfl, by omega, by omega, ⟨rfl⟩, HBD2, HBZ2, HS, HB⟩
        · have HNL := Aside0.mk hl
          clear hl
          go_wp2_with (first
            | (go_at_call 45; refine (dlight_no a.kd a.id a.a a.b A3 a.keep.length c3 _ HNL.out).mono ?_; rintro e w1 ⟨rfl, hb⟩; have hbn := below_step HB.out hb; clear HB; have HB := Aside0.mk hbn; clear hbn hb)
            | (go_at_call 44; refine (awake07_any _).mono ?_; rintro e W9 ⟨rfl, hb⟩; have hbn := below_step HB.out hb; clear HB; have HB := Aside0.mk hbn; clear hb hbn))
          go_ret
          exact ⟨rfl, HB.out⟩
      · have fin : i = 40 ∧ i < xs.length ∨ i = xs.length := by omega
        clear hgo
        rcases fin with ⟨rfl, hlt⟩ | rfl
        all_goals
          go_wp2_with (first
            | (go_at_call 54; refine (right_any name _ HNM.out).mono ?_; rintro e w5 ⟨rfl, hb⟩; have hbn := below_step HB.out hb; clear HB; have HB := Aside0.mk hbn; clear hb hbn)
            | (go_at_call 55; refine (rright_any name _ HNM.out).mono ?_; rintro e w6 ⟨rfl, hw6⟩; subst hw6)
            | (go_at_call 44; refine (awake07_any _).mono ?_; rintro e W9 ⟨rfl, hb⟩; have hbn := below_step HB.out hb; clear HB; have HB := Aside0.mk hbn; clear hb hbn))
          go_ret
          exact ⟨rfl, HB.out⟩
  · have d1 : decide (300 < name.size) = true := decide_eq_true (by omega)
    clear hnm
    go_enter Try.func10, Try.ntmps10
    go_wp2_with (first
      | (go_at_call 43; refine (dnew_any w.heap.size w (Nat.le_refl _)).mono ?_; rintro e W0 ⟨g0, mn0, ms0, rfl, hg1, hg2, hg3, hf, hb⟩; have HF0 := Aside0.mk hf; have HB := Aside0.mk hb; clear hf hb)
      | (go_at_call 44; refine (awake07_any _).mono ?_; rintro e W9 ⟨rfl, hb⟩; have hbn := below_step (below_alloc HB.out _) hb; clear HB; have HB := Aside0.mk hbn; clear hb hbn))
    go_ret
    exact ⟨rfl, HB.out⟩
end Go.Proofs.Ytpnbjpkdbiiogaa
