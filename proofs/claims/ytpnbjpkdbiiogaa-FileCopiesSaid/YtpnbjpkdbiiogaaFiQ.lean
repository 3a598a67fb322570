/- The walk of the law FilePlays: it answers true. -/
import Derived.Test.YtpnbjpkdbiiogaaFiP
import Derived.Test.YtpnbjpkdbiiogaaOpen
import Derived.OpenShut
namespace Go.Proofs.Ytpnbjpkdbiiogaa
set_option linter.unusedVariables false
open Go.RowKit Go.Proofs.YtpnbjpkdbiiogaaW.PrintWords
attribute [local go_sem] mx2 mn2 mxTwo mnTwo

def goodAct (x : FAct) : Prop := (Lit.int .i64 x.kd).wf = true ∧ (Lit.int .i64 x.at_).wf = true ∧ (∀ y ∈ x.b, (Lit.int .u8 y).wf = true) ∧ (∀ y ∈ x.keep, True)
theorem opens_t40 : Opens Try.prog 40 (Kd.slice 50 kAct) (fun xs => ∀ x ∈ xs, goodAct x) :=
  opens_slice Try.underlying40 (by kernel_rfl) (opens_iso (fun x : FAct => (x.kd, x.at_, x.b, x.keep)) (fun x => ⟨x.1, x.2.1, x.2.2.1, x.2.2.2⟩) (fun _ => rfl)
    (opens_struct4 Try.underlying50 (by kernel_rfl) (by kernel_rfl) (opens_int Try.underlying3) (opens_int Try.underlying3) (opens_slice Try.underlying22 (by kernel_rfl) (opens_int Try.underlying5)) (opens_slice Try.underlying48 (by kernel_rfl) (opens_bool Try.underlying4))))

set_option maxHeartbeats 4000000 in
set_option maxRecDepth 100000 in
theorem fplays_walk (A : Option Addr) (c : Nat) (xs : List FAct) (k n : Int) (w : World) (hp : Kd.C kAct w A xs.length xs) (hc : xs.length ≤ c) (hg : ∀ x ∈ xs, goodAct x) (h0 : -9223372036854775808 ≤ k) (h1 : k ≤ 9223372036854775807) (h2 : -9223372036854775808 ≤ n) (h3 : n ≤ 9223372036854775807) :
    Calls Try.prog 6 #[.slice A xs.length c, .int .i64 k, .int .i64 n] w fun e w' => e = .returned (.bool true) ∧ Below w.heap.size w w' := by
  have hm := Kd.C_max hp
  have HP := Aside0.mk hp
  clear hp hg
  by_cases hn : 3000 < n ∧ n < 1048576
  · obtain ⟨hn1, hn2⟩ := hn
    go_enter Try.func6, Try.ntmps6
    go_wp2_with (first
      | (go_at_call 30; refine (fnew_any w.heap.size (fun _ => True) w (Nat.le_refl _)).mono ?_; rintro e W0 ⟨rfl, hf, hb⟩; have HF0 := Aside0.mk hf; have HB := Aside0.mk hb; clear hf hb)
      | (go_at_call 31; refine (awake06_any _).mono ?_; rintro e W9 ⟨rfl, hb⟩; have hbn := below_step (below_alloc HB.out _) hb; clear HB; have HB := Aside0.mk hbn; clear hb hbn))
    go_ret
    exact ⟨rfl, HB.out⟩
  · have hnn : n ≤ 3000 ∨ ¬ n ≤ 3000 ∧ 1048576 ≤ n := by omega
    clear hn
    rcases hnn with hn | ⟨hn, hn2⟩
    all_goals
      go_enter Try.func6, Try.ntmps6
      go_wp2_with (first
        | (go_at_call 30; refine (fnew_any w.heap.size (fun _ => True) w (Nat.le_refl _)).mono ?_; rintro e W0 ⟨rfl, hf, hb⟩; have HF0 := Aside0.mk hf; have HB := Aside0.mk hb; clear hf hb))
      have hfs : FS (W0.alloc (.cells #[.slice none 0 0, .slice none 0 0, .slice none 0 0] 46)) w.heap.size w.heap.size W0.heap.size (.slice none 0 0) (.slice none 0 0) (.slice none 0 0) (.slice none 0 0) (.slice none 0 0) (.slice none 0 0) [] [] [] := ⟨(FI.to HF0.out (Nat.le_refl _) (fun q _ _ _ => by simp [Value.ownBlock])).below (below_alloc (Below.refl _ _) _), ⟨blk_new _ _, Kd.R_nil _ _ _ _ _, Kd.R_nil _ _ _ _ _, Kd.R_nil _ _ _ _ _, HB.out.size⟩⟩
      have HS := Aside0.mk hfs
      have hbn := below_alloc HB.out (.cells #[.slice none 0 0, .slice none 0 0, .slice none 0 0] 46)
      clear HB hfs HF0
      have HB := Aside0.mk hbn
      clear hbn
      go_loopg [7, 8, 9] 20 (fun q v7 v8 v9 wr => ∃ (i g r : Nat) (vn vs vo rn rs ro : Value) (s : FSt), v9 = .int .i64 (i : Int) ∧ v7 = .pointer (some ⟨g, 0, none⟩) ∧ v8 = .pointer (some ⟨r, 0, none⟩) ∧ i ≤ xs.length ∧ i ≤ 20 ∧ Aside0 (q = 20 - i) ∧ Aside0 (Bd s i) ∧ Aside0 (FS wr w.heap.size g r vn vs vo rn rs ro s.now s.safe s.ops) ∧ Aside0 (Below w.heap.size w wr))
      case atStart => exact ⟨0, _, _, _, _, _, _, _, _, ⟨[], [], []⟩, rfl, rfl, rfl, Nat.zero_le _, Nat.zero_le _, ⟨rfl⟩, ⟨⟨by simp, by simp, by simp, by simp⟩⟩, HS, HB⟩
      case round =>
        clear HS HB
        obtain ⟨i, g, r, vn, vs, vo, rn, rs, ro, s, rfl, rfl, rfl, hi, hi2, hq, HBD, HS, HB⟩ := hrel
        by_cases hgo : i < xs.length ∧ i < 20
        · obtain ⟨hlt, h20⟩ := hgo
          obtain ⟨ad, A2, c2, A3, c3, e1, r1, r2, r3, r4, hlc, hC2, _, hC3⟩ := at_Act HP.out i hlt
          subst e1
          obtain ⟨a, ha⟩ : ∃ a, a = xs.getD i zAct := ⟨_, rfl⟩
          rw [← ha] at r1 r2 r3 r4 hlc hC2 hC3
          have HC2 := Aside0.mk hC2
          have HC3 := Aside0.mk hC3
          replace r1 := pw_cell_below HB.out r1
          replace r2 := pw_cell_below HB.out r2
          replace r3 := pw_cell_below HB.out r3
          replace r4 := pw_cell_below HB.out r4
          clear ha hC2 hC3
          by_cases hl : a.b.length ≤ 400 ∧ a.keep.length ≤ 200 ∧ (a.at_ ≤ 2000 ∨ 1048576 < a.at_)
          · obtain ⟨hl1, hl2, hl3⟩ := hl
            have HLK := Aside0.mk (show a.at_ ≤ 2000 ∨ ¬ a.at_ ≤ 2000 ∧ 1048576 < a.at_ by omega)
            clear hl3
            go_wp2_with (first
              | (go_at_call 32; refine (light_yes a.kd a.at_ A2 A3 a.b.length c2 a.keep.length c3 _ hl1 hl2 HLK.out).mono ?_; rintro e w1 ⟨rfl, hb⟩; replace r1 := pw_cell_below hb r1; replace r2 := pw_cell_below hb r2; replace r3 := pw_cell_below hb r3; replace r4 := pw_cell_below hb r4; have hs := HS.out.below hb; have hbn := below_step HB.out hb; clear HS HB; have HS := Aside0.mk hs; have HB := Aside0.mk hbn; clear hs hbn hb)
              | (go_at_call 33; refine (does_any w.heap.size g r vn vs vo rn rs ro s a i A2 A3 c2 c3 _ HS.out HBD.out (by omega) hl1 hlc (fun W' hb' => Kd.C_below HC2.out (HB.out.trans hb')) (Kd.C_below HC3.out HB.out)).mono ?_; rintro e w2 ⟨g', r', vn1, vs1, vo1, rn1, rs1, ro1, rfl, hfs, _, hbl⟩; have hbn := HB.out.trans hbl; have HBD2 := Aside0.mk (stepF_bd s a i HBD.out hl1); clear HS HB; have HS := Aside0.mk hfs; have HB := Aside0.mk hbn; clear hfs hbn hbl)
              | (go_at_call 34; refine (shows_any w.heap.size g' r' vn1 vs1 vo1 rn1 rs1 ro1 _ _ _ _ _ _ HS.out HBD2.out.now).mono ?_; rintro e w3 ⟨rfl, hb⟩; have hs := HS.out.below hb; have hbn := below_step HB.out hb; clear HS HB; have HS := Aside0.mk hs; have HB := Aside0.mk hbn; clear hs hbn hb))
            go_roundg (20 - (i + 1))
            case measure => have := hq.out; omega
            case rel => exact ⟨i + 1, _, _, _, _, _, _, _, _, _, by go_num, rfl, rfl, by omega, by omega, ⟨rfl⟩, HBD2, HS, HB⟩
          · have HNL := Aside0.mk hl
            clear hl
            go_wp2_with (first
              | (go_at_call 32; refine (light_no a.kd a.at_ A2 A3 a.b.length c2 a.keep.length c3 _ HNL.out).mono ?_; rintro e w1 ⟨rfl, hb⟩; have hbn := below_step HB.out hb; clear HB; have HB := Aside0.mk hbn; clear hbn hb)
              | (go_at_call 31; refine (awake06_any _).mono ?_; rintro e W9 ⟨rfl, hb⟩; have hbn := below_step HB.out hb; clear HB; have HB := Aside0.mk hbn; clear hb hbn))
            go_ret
            exact ⟨rfl, HB.out⟩
        · by_cases hlt : i < xs.length
          · obtain rfl : i = 20 := by omega
            clear hgo
            go_wp2_with (first | (go_at_call 31; refine (awake06_any _).mono ?_; rintro e W9 ⟨rfl, hb⟩; have hbn := below_step HB.out hb; clear HB; have HB := Aside0.mk hbn; clear hb hbn))
            go_ret
            exact ⟨rfl, HB.out⟩
          · obtain rfl : i = xs.length := by omega
            clear hgo
            go_wp2_with (first | (go_at_call 31; refine (awake06_any _).mono ?_; rintro e W9 ⟨rfl, hb⟩; have hbn := below_step HB.out hb; clear HB; have HB := Aside0.mk hbn; clear hb hbn))
            go_ret
            exact ⟨rfl, HB.out⟩
end Go.Proofs.Ytpnbjpkdbiiogaa
