/- The walk of the law StampRises: it answers true. -/
import Derived.Test.YtldiginkmmlojaaStB
namespace Go.Proofs.Ytldiginkmmlojaa
set_option linter.unusedVariables false
open Go.RowKit Go.Proofs.YtldiginkmmlojaaW.PrintWords

/-- Used, where the stamp lies behind a base: what is behind it. -/
theorem used_at (b g : Nat) (nx mo bo k : Int) (w : World) (hb : w.heap[g]? = some (.cells #[.int .u64 nx, .int .u64 mo, .int .u64 bo] 122 (0, 0))) (hg : b ≤ g) : Calls Try.prog 31 #[.pointer (some ⟨g, 0, none⟩), .int .u64 k] w fun e w' => e = .returned (.tuple #[]) ∧ w'.heap[g]? = some (.cells #[.int .u64 (usedV nx k), .int .u64 mo, .int .u64 bo] 122 (0, 0)) ∧ (∀ i : Nat, i ≠ g → w'.heap[i]? = w.heap[i]?) ∧ Below b w w' := by
  refine (used_any g nx mo bo k w hb).mono ?_
  rintro e w' ⟨rfl, ⟨rfl, hu⟩ | rfl⟩
  · rw [hu]
    exact ⟨rfl, hb, fun _ _ => rfl, Below.refl _ _⟩
  · exact ⟨rfl, blk_put hb 0 _ rfl, fun i hi => Below.heap_setCell w _ _ i hi, (Below.refl _ _).setCell (p := ⟨g, 0, none⟩) hg _⟩

theorem next_at (b g : Nat) (nx mo bo : Int) (w : World) (hb : w.heap[g]? = some (.cells #[.int .u64 nx, .int .u64 mo, .int .u64 bo] 122 (0, 0))) : Calls Try.prog 27 #[.pointer (some ⟨g, 0, none⟩)] w fun e w' => e = .returned (.int .u64 (nextV nx mo)) ∧ (∀ i : Nat, w'.heap[i]? = w.heap[i]?) ∧ Below b w w' := by
  refine (next_any g nx mo bo w hb).mono ?_
  rintro e w' ⟨rfl, m, rfl⟩
  exact ⟨rfl, fun _ => rfl, pw_below_drewN (Below.refl _ _) _⟩
theorem next_nil_at (b : Nat) (w : World) : Calls Try.prog 27 #[.pointer none] w fun e w' => e = .returned (.int .u64 0) ∧ Below b w w' := by
  refine (next_nil w).mono ?_
  rintro e w' ⟨rfl, m, rfl⟩
  exact ⟨rfl, pw_below_drewN (Below.refl _ _) _⟩
theorem C_strs (W : World) (e : TypeId) (xs : List ByteArray) (hm : xs.length ≤ 9223372036854775807) : Kd.string.C (W.alloc (.cells (xs.map Value.string).toArray e)) (some ⟨W.heap.size, 0, none⟩) xs.length xs := by
  have h := World.ownsRow_lit (base := W.heap.size) (e := e) (size := 1) W (xs.map Value.string).toArray xs.length (Nat.le_refl _) (by simpa [maxLen] using hm) (by simp)
  have h2 : Kd.string.R e (W.alloc (.cells (xs.map Value.string).toArray e)) W.heap.size (fun _ => True) (.slice (some ⟨W.heap.size, 0, none⟩) xs.length xs.length) xs := ⟨fun _ _ => trivial, _, h, Reps.imp_ (Kd.reps_scalar (enc := Value.string) xs) (fun p c h => h)⟩
  exact C_own h2

set_option maxRecDepth 100000 in
theorem awake21_any (w : World) : Calls Try.prog 24 #[] w fun e w' => e = .returned (.bool true) ∧ Below w.heap.size w w' := by
  go_enter Try.func24, Try.ntmps24
  go_wp2_with (first
    | (go_at_call 22; refine (new_any 5 6 1 _).mono ?_; rintro e W ⟨rfl, hW⟩; have HS := Aside0.mk (show W.heap[w.heap.size]? = some (.cells #[.int .u64 5, .int .u64 6, .int .u64 1] 122 (0, 0)) by rw [hW]; exact blk_new _ _); have HB := Aside0.mk (show Below w.heap.size w W by rw [hW]; exact below_alloc (Below.refl _ _) _); clear hW)
    | (go_at_call 31; refine (used_at w.heap.size w.heap.size _ _ _ _ _ HS.out (Nat.le_refl _)).mono ?_; rintro e W1 ⟨rfl, hs, _, hb⟩; (first | rw [show usedV 5 5 = 6 by decide] at hs | rw [show usedV 6 6 = 7 by decide] at hs); have hbn := HB.out.trans hb; clear HS HB; have HS := Aside0.mk hs; have HB := Aside0.mk hbn; clear hs hb hbn)
    | (go_at_call 27; refine (next_at w.heap.size w.heap.size _ _ _ _ HS.out).mono ?_; rintro e W1 ⟨rfl, he, hb⟩; (first | rw [show nextV 6 6 = 6 by decide] | rw [show nextV 7 6 = 0 by decide]); have hs := (he w.heap.size).trans HS.out; have hbn := HB.out.trans hb; clear HS HB; have HS := Aside0.mk hs; have HB := Aside0.mk hbn; clear hs hb hbn he))
  go_ret
  exact ⟨rfl, HB.out⟩

theorem new_pos (a m b : Int) (w : World) (h : 1 ≤ a) : Calls Try.prog 22 #[.int .u64 a, .int .u64 m, .int .u64 b] w fun e w' => e = .returned (.pointer (some ⟨w.heap.size, 0, none⟩)) ∧ w'.heap[w.heap.size]? = some (.cells #[.int .u64 a, .int .u64 m, .int .u64 b] 122 (0, 0)) ∧ Below w.heap.size w w' := by
  refine (new_any a m b w).mono ?_
  rintro e w' ⟨rfl, rfl⟩
  rw [if_neg (by omega)]
  exact ⟨rfl, blk_new _ _, below_alloc (Below.refl _ _) _⟩
set_option maxHeartbeats 2000000 in
set_option maxRecDepth 100000 in
theorem rises_walk (nx mr : Int) (w : World) (h0 : 0 ≤ nx) (h1 : nx ≤ 18446744073709551615) (m0 : 0 ≤ mr) (m1 : mr ≤ 255) :
    Calls Try.prog 5 #[.int .u64 nx, .int .u8 mr] w fun e w' => e = .returned (.bool true) ∧ Below w.heap.size w w' := by
  have HBr := Aside0.mk (Below.refl w.heap.size w)
  by_cases b1 : nx = 0
  · subst b1
    have HB := HBr
    go_enter Try.func5, Try.ntmps5
    go_wp2_with (first | (go_at_call 24; refine (awake21_any _).mono ?_; rintro e W9 ⟨rfl, hb⟩; have hbn := below_step HB.out hb; clear HB; have HB := Aside0.mk hbn; clear hb hbn))
    go_ret
    exact ⟨rfl, HB.out⟩
  · by_cases b2 : 1152921504606846976 < nx
    · have HB := HBr
      go_enter Try.func5, Try.ntmps5
      go_wp2_with (first | (go_at_call 24; refine (awake21_any _).mono ?_; rintro e W9 ⟨rfl, hb⟩; have hbn := below_step HB.out hb; clear HB; have HB := Aside0.mk hbn; clear hb hbn))
      go_ret
      exact ⟨rfl, HB.out⟩
    · obtain ⟨M, rfl⟩ := Int.eq_ofNat_of_zero_le m0
      clear HBr
      go_enter Try.func5, Try.ntmps5
      go_wp2_with (first
        | (go_at_call 22; refine (new_pos nx (nx + (M : Int)) 1 _ (by omega)).mono ?_; rintro e W ⟨rfl, hs, hb⟩; have HS := Aside0.mk hs; have HB := Aside0.mk hb; clear hs hb))
      go_loopg [6] (M + 1) (fun g v6 wr => ∃ i : Nat, v6 = .int .u64 (i : Int) ∧ i ≤ M + 1 ∧ Aside0 (g = M + 1 - i) ∧ Aside0 (wr.heap[w.heap.size]? = some (.cells #[.int .u64 (nx + (i : Int)), .int .u64 (nx + (M : Int)), .int .u64 1] 122 (0, 0))) ∧ Aside0 (Below w.heap.size w wr))
      case atStart => exact ⟨0, rfl, Nat.zero_le _, ⟨rfl⟩, ⟨by rw [show nx + ((0 : Nat) : Int) = nx by omega]; exact HS.out⟩, HB⟩
      case round =>
        clear HS HB
        obtain ⟨i, rfl, hi, hg, HS, HB⟩ := hrel
        by_cases hlt : i ≤ M
        · have HN := Aside0.mk (show nextV (nx + (i : Int)) (nx + (M : Int)) = nx + (i : Int) by unfold nextV; rw [if_neg (by omega)])
          have HU := Aside0.mk (show usedV (nx + (i : Int)) (nx + (i : Int)) = nx + ((i + 1 : Nat) : Int) by unfold usedV; rw [if_neg (by omega)]; omega)
          go_wp2_with (first
            | (go_at_call 25; refine (record_any w.heap.size (nx + (i : Int)) (nx + (M : Int)) 1 1 2 _ 1 1 [⟨#[65, 61, 49]⟩] _ (blk_alloc HS.out _) (by rw [HN.out]; omega) (C_strs _ _ [⟨#[65, 61, 49]⟩] (by simp)) (by omega)).mono ?_; rw [HN.out]; rintro e W1 ⟨A1, c1, rfl, _, _, hb⟩; have hs := blk_below (blk_alloc HS.out _) hb; have hbn := below_step (below_alloc HB.out _) hb; clear HS HB hb; have HS := Aside0.mk hs; have HB := Aside0.mk hbn; clear hs hbn)
            | (go_at_call 31; refine (used_at w.heap.size w.heap.size (nx + (i : Int)) (nx + (M : Int)) 1 (nx + (i : Int)) _ (blk_alloc HS.out _) (Nat.le_refl _)).mono ?_; rintro e W2 ⟨rfl, hs, _, hb⟩; rw [HU.out] at hs; have hbn := (below_alloc HB.out _).trans hb; clear HS HB; have HS := Aside0.mk hs; have HB := Aside0.mk hbn; clear hs hb hbn))
          go_roundg (M + 1 - (i + 1))
          case measure => have := hg.out; omega
          case rel => exact ⟨i + 1, by go_num, by omega, ⟨rfl⟩, HS, HB⟩
        · obtain rfl : i = M + 1 := by omega
          have HN := Aside0.mk (show nextV (nx + ((M + 1 : Nat) : Int)) (nx + (M : Int)) = 0 by unfold nextV; rw [if_pos (by omega)])
          go_wp2_with (first
            | (go_at_call 25; refine (record_none w.heap.size _ _ _ _ _ _ _ _ _ HS.out HN.out).mono ?_; rintro e W1 ⟨rfl, hb⟩; have hbn := below_step HB.out hb; clear HS HB; have HB := Aside0.mk hbn; clear hb hbn)
            | (go_at_call 31; refine (used_nil _ _).mono ?_; rintro e W2 ⟨rfl, rfl⟩)
            | (go_at_call 25; refine (record_nil _ _ _ _ _ _).mono ?_; rintro e W1 ⟨rfl, hb⟩; have hbn := below_step (below_alloc HB.out _) hb; clear HB; have HB := Aside0.mk hbn; clear hb hbn)
            | (go_at_call 27; refine (next_nil_at w.heap.size _).mono ?_; rintro e W1 ⟨rfl, hb⟩; have hbn := (below_alloc HB.out _).trans hb; clear HB; have HB := Aside0.mk hbn; clear hb hbn)
            | (go_at_call 28; refine (last_nil _).mono ?_; rintro e W2 ⟨rfl, rfl⟩)
            | (go_at_call 29; refine (boot_nil _).mono ?_; rintro e W2 ⟨rfl, rfl⟩)
            | (go_at_call 24; refine (awake21_any _).mono ?_; rintro e W9 ⟨rfl, hb⟩; have hbn := below_step HB.out hb; clear HB; have HB := Aside0.mk hbn; clear hb hbn))
          go_ret
          exact ⟨rfl, HB.out⟩
end Go.Proofs.Ytldiginkmmlojaa
