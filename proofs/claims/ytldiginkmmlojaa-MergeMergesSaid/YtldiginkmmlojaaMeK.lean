/- Merging: the example. -/
import Derived.Test.YtldiginkmmlojaaMeJ
namespace Go.Proofs.Ytldiginkmmlojaa
set_option linter.unusedVariables false
set_option linter.unusedSimpArgs false
open Go.RowKit Go.Proofs.YtldiginkmmlojaaW.PrintWords
attribute [local go_sem] mx2 mn2 mxTwo mnTwo

theorem lit_ints (W : World) (b : Nat) (xs : List Int) (hb : b ≤ W.heap.size) (hx : xs.length ≤ 1000) : Kd.R (Kd.int .i64) 3 (W.alloc (.cells (xs.map (Value.int .i64)).toArray 3)) b (fun _ => True) (.slice (some ⟨W.heap.size, 0, none⟩) xs.length xs.length) xs := by
  refine Kd.R_of_own ?_ (fun _ _ => trivial)
  have h2 := World.ownsRow_lit (base := b) (e := 3) (size := 1) W (xs.map (Value.int .i64)).toArray xs.length hb (by unfold maxLen; omega) (by simp)
  have h3 : (W.alloc (.cells (xs.map (Value.int .i64)).toArray 3)).ownsRow b 3 1 (.slice (some ⟨W.heap.size, 0, none⟩) xs.length xs.length) xs.length (xs.map (Value.int .i64)) := by simpa using h2
  exact h3
theorem lit_LL {W : World} {b : Nat} (hbw : b ≤ W.heap.size) (vs : List Value) (ls : List (List Int)) (hlen : vs.length = ls.length) (hl : ls.length ≤ 1000) (hv : ∀ (j : Nat) v l, vs[j]? = some v → ls[j]? = some l → Kd.R (Kd.int .i64) 3 W b (fun _ => True) v l) :
    Kd.R kLL 70 (W.alloc (.cells vs.toArray 70)) b (fun _ => True) (.slice (some ⟨W.heap.size, 0, none⟩) ls.length ls.length) ls := by
  refine ⟨fun _ _ => trivial, vs, ?_, ?_⟩
  · have h2 := World.ownsRow_lit (base := b) (e := 70) (size := 1) W vs.toArray ls.length hbw (by unfold maxLen; omega) (by simp [hlen])
    exact h2
  · refine ⟨by rw [hlen]; exact (Nat.mul_one _).symm, fun j l hj => ?_⟩
    have hjl : j < vs.length := by rw [hlen]; exact (List.getElem?_eq_some_iff.1 hj).1
    have hvj : vs[j]? = some vs[j] := List.getElem?_eq_getElem hjl
    have e : (vs.drop (j * kLL.sz)).take kLL.sz = [vs[j]] := by
      show (vs.drop (j * 1)).take 1 = _
      rw [Nat.mul_one, List.drop_eq_getElem_cons hjl]
      rfl
    rw [e]
    have h1 := hv j _ l hvj hj
    exact ⟨_, rfl, Kd.R_mono (Kd.R_below (Kd.R_bound h1) (below_alloc (Below.refl _ _) _)) (fun k hk => ⟨trivial, fun e => by simp [Value.ownBlock] at e; have := hk.2.2.1; omega⟩)⟩
set_option maxHeartbeats 4000000 in
set_option maxRecDepth 100000 in
theorem awake25_any (w : World) : Calls Try.prog 35 #[] w fun e w' => e = .returned (.bool true) ∧ Below w.heap.size w w' := by
  have h1 := lit_ints w w.heap.size [1, 3, 5] (Nat.le_refl _) (by decide)
  have h2 := lit_ints (w.alloc (.cells #[.int .i64 1, .int .i64 3, .int .i64 5] 3)) w.heap.size [2, 3] (by simp) (by decide)
  have h1' : Kd.R (Kd.int .i64) 3 ((w.alloc (.cells #[.int .i64 1, .int .i64 3, .int .i64 5] 3)).alloc (.cells #[.int .i64 2, .int .i64 3] 3)) w.heap.size (fun _ => True) (.slice (some ⟨w.heap.size, 0, none⟩) 3 3) [1, 3, 5] := Kd.R_alloc h1 _
  have h3 := lit_LL (W := (w.alloc (.cells #[.int .i64 1, .int .i64 3, .int .i64 5] 3)).alloc (.cells #[.int .i64 2, .int .i64 3] 3)) (b := w.heap.size) (by simp; omega) [.slice (some ⟨w.heap.size, 0, none⟩) 3 3, .slice (some ⟨(w.alloc (.cells #[.int .i64 1, .int .i64 3, .int .i64 5] 3)).heap.size, 0, none⟩) 2 2] [[1, 3, 5], [2, 3]] rfl (by decide) (fun j v l hv hl => by
    match j, hv, hl with
    | 0, hv, hl => cases hv; cases hl; exact h1'
    | 1, hv, hl => cases hv; cases hl; exact h2
    | j + 2, hv, hl => simp at hv)
  have HB0 := Aside0.mk (show Below w.heap.size w (((w.alloc (.cells #[.int .i64 1, .int .i64 3, .int .i64 5] 3)).alloc (.cells #[.int .i64 2, .int .i64 3] 3)).alloc (.cells #[.slice (some ⟨w.heap.size, 0, none⟩) 3 3, .slice (some ⟨w.heap.size + 1, 0, none⟩) 2 2] 70)) from ((below_alloc (Below.refl _ _) _).alloc (by simp) _).alloc (by simp; omega) _)
  have HOF := Aside0.mk (of_any 67 _ 2 2 [[1, 3, 5], [2, 3]] _ (show Kd.C kLL _ _ 2 _ from C_own h3) (by decide) (by intro i hi; match i, hi with | 0, _ => decide | 1, _ => decide))
  simp only [World.size_alloc] at HOF
  clear h1 h2 h1' h3
  go_enter Try.func35, Try.ntmps35
  go_wp2_with (first
    | (go_at_call 37; refine HOF.out.mono ?_; rintro e w1 ⟨g, A1, c1, rfl, hg, hlm, hb⟩; have HLM := Aside0.mk hlm; have HB1 := Aside0.mk (HB0.out.trans (hb.mono (by omega))); clear hlm hb hg)
    | (go_at_call 42; refine (all_value _ _).mono ?_; rintro e w2 ⟨rfl, rfl⟩; have hba := below_alloc (Below.refl w1.heap.size w1) (.cells #[.pointer (some ⟨g, 0, none⟩)] 67); have HSQ := Aside0.mk (fun n => all_S n w1.heap.size g c1 5 A1 [[1, 3, 5], [2, 3]] _ ((blk_cell (blk_new w1 (.cells #[.pointer (some ⟨g, 0, none⟩)] 67)) 0).trans rfl) (HLM.out.below hba) (by decide) (by decide) (by decide) (by decide)); have HB2 := Aside0.mk (below_step HB1.out hba); clear hba)
    | (go_at_call 41; refine (collected_A _ _ _ _ _ HSQ.out (Nat.le_refl _) (Below.refl _ _) (by rw [awake_all]; decide)).mono ?_; rintro e w3 ⟨v, rfl, hv, hb⟩; rw [awake_all] at hv; obtain ⟨A3, c3, rfl⟩ := Kd.R_slice hv; have HV := Aside0.mk hv; have HB3 := Aside0.mk (below_step HB2.out hb); clear hv hb)
    | (go_at_call 40; refine (same_any A3 _ _ _ c3 _ [1, 2, 3, 5] _ (C_own (Kd.R_alloc HV.out _)) (C_own (lit_ints w3 w3.heap.size [1, 2, 3, 5] (Nat.le_refl _) (by decide)))).mono ?_; rintro e w4 ⟨rfl, hb⟩; have HB4 := Aside0.mk (below_step (below_step HB3.out (below_alloc (Below.refl _ _) _)) hb); clear hb))
  go_ret
  exact ⟨rfl, HB4.out⟩
end Go.Proofs.Ytldiginkmmlojaa
