/- The walk of the law SectorLays: it answers true. -/
import Derived.Test.YtpnbjpkdbiiogaaSecI
import Derived.Deep.RegionHeld3
namespace Go.Proofs.Ytpnbjpkdbiiogaa
set_option linter.unusedVariables false
open Go.RowKit Go.Proofs.YtpnbjpkdbiiogaaW.PrintWords


theorem two_new (w : World) (xs ys : Array Value) (t u : TypeId) : Below w.heap.size w ((w.alloc (.cells xs t)).alloc (.cells ys u)) ∧ (∀ i v, xs[i]? = some v → ((w.alloc (.cells xs t)).alloc (.cells ys u)).cell? ⟨w.heap.size, i, none⟩ = some v) ∧ (∀ i v, ys[i]? = some v → ((w.alloc (.cells xs t)).alloc (.cells ys u)).cell? ⟨w.heap.size + 1, i, none⟩ = some v) := by
  refine ⟨below_alloc (below_alloc (Below.refl _ w) _) _, fun i v h => cell_al _ ((blk_cell (blk_new w _) i).trans h), fun i v h => ?_⟩
  have := blk_cell (blk_new (w.alloc (.cells xs t)) (.cells ys u)) i
  rw [show (w.alloc (.cells xs t)).heap.size = w.heap.size + 1 by simp] at this
  exact this.trans h

theorem C_own {ki : IntKind} {e : Nat} {w : World} {base : Nat} {ok : Nat → Prop} {A : Option Addr} {n c : Nat} {xs : List Int} (h : (Kd.int ki).R e w base ok (.slice A n c) xs) : (Kd.int ki).C w A n xs := by
  obtain ⟨rfl, _, h3⟩ := Kd.R_reads' h
  exact h3
set_option maxHeartbeats 4000000 in
set_option maxRecDepth 100000 in
theorem lays_walk (A : Option Addr) (c : Nat) (l : List Int) (n : Int) (As : Option Addr) (cs : Nat) (ls : List Int) (f : Int) (w : World) (h0 : -9223372036854775808 ≤ n) (h1 : n ≤ 9223372036854775807)
    (hr : Kd.C (Kd.int .u8) w A l.length l) (hc : l.length ≤ c) (hm : l.length ≤ 9223372036854775807) (hrs : Kd.C (Kd.int .u8) w As ls.length ls) (hcs : ls.length ≤ cs) (hms : ls.length ≤ 9223372036854775807) :
    Calls Try.prog 4 #[.slice A l.length c, .int .i64 n, .slice As ls.length cs, .int .i64 f] w fun e w' => e = .returned (.bool true) ∧ Below w.heap.size w w' := by
  have HR := Aside0.mk hr
  have HS := Aside0.mk hrs
  clear hr hrs
  by_cases b1 : 1000 < l.length
  · skip
    go_enter Try.func4, Try.ntmps4
    go_wp2_with (go_at_call 15; refine (awake05_any _).mono ?_; rintro e w1 ⟨rfl, hb⟩)
    go_ret
    exact ⟨rfl, hb⟩
  · by_cases b2 : 1000 < ls.length
    · skip
      go_enter Try.func4, Try.ntmps4
      go_wp2_with (go_at_call 15; refine (awake05_any _).mono ?_; rintro e w1 ⟨rfl, hb⟩)
      go_ret
      exact ⟨rfl, hb⟩
    · by_cases b3 : 2000 < n
      · by_cases b4 : n < 1099511627776
        · skip
          go_enter Try.func4, Try.ntmps4
          go_wp2_with (go_at_call 15; refine (awake05_any _).mono ?_; rintro e w1 ⟨rfl, hb⟩)
          go_ret
          exact ⟨rfl, hb⟩
        · go_enter Try.func4, Try.ntmps4
          go_upto_region 6 with fail
          obtain ⟨HB0, hp, hq⟩ := two_new w #[.int .i64 0, .int .i64 f, .slice As ls.length cs] #[.int .i64 0, .int .i64 f, .slice As ls.length cs] 30 31
          have p0 := hp 0 (.int .i64 0) rfl
          have p1 := hp 1 (.int .i64 f) rfl
          have p2 := hp 2 (.slice As ls.length cs) rfl
          have q0 := hq 0 (.int .i64 0) rfl
          have q1 := hq 1 (.int .i64 f) rfl
          have q2 := hq 2 (.slice As ls.length cs) rfl
          clear hp hq
          obtain ⟨W, hW⟩ : ∃ W, W = ((w.alloc (.cells #[.int .i64 0, .int .i64 f, .slice As ls.length cs] 30)).alloc (.cells #[.int .i64 0, .int .i64 f, .slice As ls.length cs] 31)) := ⟨_, rfl⟩
          rw [← hW] at HB0 p0 p1 p2 q0 q1 q2 ⊢
          clear hW
          have HB := Aside0.mk HB0
          clear HB0
          go_region_held3 (fun w' => w'.cell? ⟨w.heap.size, 0, none⟩ = some (.int .i64 0) ∧ w'.cell? ⟨w.heap.size, 1, none⟩ = some (.int .i64 f) ∧ w'.cell? ⟨w.heap.size, 2, none⟩ = some (.slice As ls.length cs) ∧ w'.cell? ⟨w.heap.size + 1, 0, none⟩ = some (.int .i64 0) ∧ w'.cell? ⟨w.heap.size + 1, 1, none⟩ = some (.int .i64 f) ∧ w'.cell? ⟨w.heap.size + 1, 2, none⟩ = some (.slice As ls.length cs)) (first | exact ⟨p0, p1, p2, q0, q1, q2⟩) (first
            | (go_at_call 23; refine (at_any A l.length c l n _ (Kd.C_drew (Kd.C_below HR.out HB.out)) hc (by omega)).mono ?_; rintro e w1 ⟨A1, c1, rfl, hc1, hv, hb⟩; have HX := Aside0.mk (C_own hv); have hbn := below_step (below_drew1 HB.out) hb; replace HB := Aside0.mk hbn; clear hbn; replace p0 := pw_cell_below hb p0; replace p1 := pw_cell_below hb p1; replace p2 := pw_cell_below hb p2; replace q0 := pw_cell_below hb q0; replace q1 := pw_cell_below hb q1; replace q2 := pw_cell_below hb q2; clear hv hb)
            | (go_at_call 24; refine (rat_any A l.length c l n _ (Kd.C_below HR.out HB.out) (by omega)).mono ?_; rintro e w1 ⟨g2, c2, rfl, hc2, _, hv, hb⟩; have HY := Aside0.mk (C_own hv); replace HX := Aside0.mk (Kd.C_below HX.out hb); have hbn := below_step (HB.out) hb; replace HB := Aside0.mk hbn; clear hbn; replace p0 := pw_cell_below hb p0; replace p1 := pw_cell_below hb p1; replace p2 := pw_cell_below hb p2; replace q0 := pw_cell_below hb q0; replace q1 := pw_cell_below hb q1; replace q2 := pw_cell_below hb q2; clear hv hb)
            | (go_at_call 25; refine (set_any A l.length c l n As ls.length cs ls _ (Kd.C_below HR.out HB.out) (by omega) (Kd.C_below HS.out HB.out) hcs (by omega)).mono ?_; rintro e w1 ⟨A1, c1, rfl, hc1, hv, hb⟩; have HX := Aside0.mk (C_own hv); have hbn := below_step (HB.out) hb; replace HB := Aside0.mk hbn; clear hbn; replace p0 := pw_cell_below hb p0; replace p1 := pw_cell_below hb p1; replace p2 := pw_cell_below hb p2; replace q0 := pw_cell_below hb q0; replace q1 := pw_cell_below hb q1; replace q2 := pw_cell_below hb q2; clear hv hb)
            | (go_at_call 26; refine (rset_any A l.length c l n As ls.length cs ls _ (Kd.C_below HR.out HB.out) (by omega) (Kd.C_below HS.out HB.out)).mono ?_; rintro e w1 ⟨A2, c2, rfl, hc2, hv, hb⟩; have HY := Aside0.mk (C_own hv); replace HX := Aside0.mk (Kd.C_below HX.out hb); have hbn := below_step (HB.out) hb; replace HB := Aside0.mk hbn; clear hbn; replace p0 := pw_cell_below hb p0; replace p1 := pw_cell_below hb p1; replace p2 := pw_cell_below hb p2; replace q0 := pw_cell_below hb q0; replace q1 := pw_cell_below hb q1; replace q2 := pw_cell_below hb q2; clear hv hb)
            | (go_at_call 27; refine (lay_any A l.length c l 0 f As ls.length cs ls _ (Kd.C_below HR.out HB.out) (Kd.C_below HS.out HB.out)).mono ?_; rintro e w1 ⟨A1, c1, rfl, hc1, hv, hb⟩; have HX := Aside0.mk (C_own hv); have hbn := below_step (HB.out) hb; replace HB := Aside0.mk hbn; clear hbn; replace p0 := pw_cell_below hb p0; replace p1 := pw_cell_below hb p1; replace p2 := pw_cell_below hb p2; replace q0 := pw_cell_below hb q0; replace q1 := pw_cell_below hb q1; replace q2 := pw_cell_below hb q2; clear hv hb)
            | (go_at_call 28; refine (rlay_any A l.length c l 0 f As ls.length cs ls _ (Kd.C_below HR.out HB.out) (by omega) (Kd.C_below HS.out HB.out) (by omega)).mono ?_; rintro e w1 ⟨A2, c2, rfl, hc2, hv, hb⟩; have HY := Aside0.mk (C_own hv); replace HX := Aside0.mk (Kd.C_below HX.out hb); have hbn := below_step (HB.out) hb; replace HB := Aside0.mk hbn; clear hbn; replace p0 := pw_cell_below hb p0; replace p1 := pw_cell_below hb p1; replace p2 := pw_cell_below hb p2; replace q0 := pw_cell_below hb q0; replace q1 := pw_cell_below hb q1; replace q2 := pw_cell_below hb q2; clear hv hb)
            | (go_at_call 20; refine (same_any _ _ _ _ _ _ _ _ HX.out HY.out).mono ?_; rintro e w1 ⟨rfl, rfl⟩; clear HX HY)
            | (go_at_call 15; refine (awake05_any _).mono ?_; rintro e w1 ⟨rfl, hb⟩; have hbn := below_step (HB.out) hb; replace HB := Aside0.mk hbn; clear hbn; replace p0 := pw_cell_below hb p0; replace p1 := pw_cell_below hb p1; replace p2 := pw_cell_below hb p2; replace q0 := pw_cell_below hb q0; replace q1 := pw_cell_below hb q1; replace q2 := pw_cell_below hb q2; clear hb))
          all_goals
            go_wp2_with fail
            go_ret
            exact ⟨rfl, HB.out⟩
      · go_enter Try.func4, Try.ntmps4
        have HT2 := Aside0.mk (two_new w #[.int .i64 0, .int .i64 f, .slice As ls.length cs] #[.int .i64 0, .int .i64 f, .slice As ls.length cs] 30 31)
        go_upto_region 6 with (first
          | (go_at_call 21; refine (size_any A l.length c l n _ (Kd.C_below HR.out HT2.out.1) (by omega) (by omega)).mono ?_; rintro e w1 ⟨A1, c1, rfl, hc1, hv, hb⟩; have hp := HT2.out.2.1; have hq := HT2.out.2.2; have p0 := pw_cell_below hb (hp 0 (.int .i64 0) rfl); have p1 := pw_cell_below hb (hp 1 (.int .i64 f) rfl); have p2 := pw_cell_below hb (hp 2 (.slice As ls.length cs) rfl); have q0 := pw_cell_below hb (hq 0 (.int .i64 0) rfl); have q1 := pw_cell_below hb (hq 1 (.int .i64 f) rfl); have q2 := pw_cell_below hb (hq 2 (.slice As ls.length cs) rfl); have HX := Aside0.mk (C_own hv); have HB := Aside0.mk (below_step HT2.out.1 hb); clear hv hb hp hq)
          | (go_at_call 22; refine (rsize_any A l.length c l n _ (Kd.C_below HR.out HB.out) (by omega) (by omega)).mono ?_; rintro e w1 ⟨A2, c2, rfl, hc2, hv, hb⟩; have HY := Aside0.mk (C_own hv); replace HX := Aside0.mk (Kd.C_below HX.out hb); have hbn := below_step (HB.out) hb; replace HB := Aside0.mk hbn; clear hbn; replace p0 := pw_cell_below hb p0; replace p1 := pw_cell_below hb p1; replace p2 := pw_cell_below hb p2; replace q0 := pw_cell_below hb q0; replace q1 := pw_cell_below hb q1; replace q2 := pw_cell_below hb q2; clear hv hb)
          | (go_at_call 20; refine (same_any _ _ _ _ _ _ _ _ HX.out HY.out).mono ?_; rintro e w1 ⟨rfl, rfl⟩; clear HX HY))
        clear HT2
        go_region_held3 (fun w' => w'.cell? ⟨w.heap.size, 0, none⟩ = some (.int .i64 0) ∧ w'.cell? ⟨w.heap.size, 1, none⟩ = some (.int .i64 f) ∧ w'.cell? ⟨w.heap.size, 2, none⟩ = some (.slice As ls.length cs) ∧ w'.cell? ⟨w.heap.size + 1, 0, none⟩ = some (.int .i64 0) ∧ w'.cell? ⟨w.heap.size + 1, 1, none⟩ = some (.int .i64 f) ∧ w'.cell? ⟨w.heap.size + 1, 2, none⟩ = some (.slice As ls.length cs)) (first | exact ⟨p0, p1, p2, q0, q1, q2⟩) (first
          | (go_at_call 23; refine (at_any A l.length c l n _ (Kd.C_drew (Kd.C_below HR.out HB.out)) hc (by omega)).mono ?_; rintro e w1 ⟨A1, c1, rfl, hc1, hv, hb⟩; have HX := Aside0.mk (C_own hv); have hbn := below_step (below_drew1 HB.out) hb; replace HB := Aside0.mk hbn; clear hbn; replace p0 := pw_cell_below hb p0; replace p1 := pw_cell_below hb p1; replace p2 := pw_cell_below hb p2; replace q0 := pw_cell_below hb q0; replace q1 := pw_cell_below hb q1; replace q2 := pw_cell_below hb q2; clear hv hb)
          | (go_at_call 24; refine (rat_any A l.length c l n _ (Kd.C_below HR.out HB.out) (by omega)).mono ?_; rintro e w1 ⟨g2, c2, rfl, hc2, _, hv, hb⟩; have HY := Aside0.mk (C_own hv); replace HX := Aside0.mk (Kd.C_below HX.out hb); have hbn := below_step (HB.out) hb; replace HB := Aside0.mk hbn; clear hbn; replace p0 := pw_cell_below hb p0; replace p1 := pw_cell_below hb p1; replace p2 := pw_cell_below hb p2; replace q0 := pw_cell_below hb q0; replace q1 := pw_cell_below hb q1; replace q2 := pw_cell_below hb q2; clear hv hb)
          | (go_at_call 25; refine (set_any A l.length c l n As ls.length cs ls _ (Kd.C_below HR.out HB.out) (by omega) (Kd.C_below HS.out HB.out) hcs (by omega)).mono ?_; rintro e w1 ⟨A1, c1, rfl, hc1, hv, hb⟩; have HX := Aside0.mk (C_own hv); have hbn := below_step (HB.out) hb; replace HB := Aside0.mk hbn; clear hbn; replace p0 := pw_cell_below hb p0; replace p1 := pw_cell_below hb p1; replace p2 := pw_cell_below hb p2; replace q0 := pw_cell_below hb q0; replace q1 := pw_cell_below hb q1; replace q2 := pw_cell_below hb q2; clear hv hb)
          | (go_at_call 26; refine (rset_any A l.length c l n As ls.length cs ls _ (Kd.C_below HR.out HB.out) (by omega) (Kd.C_below HS.out HB.out)).mono ?_; rintro e w1 ⟨A2, c2, rfl, hc2, hv, hb⟩; have HY := Aside0.mk (C_own hv); replace HX := Aside0.mk (Kd.C_below HX.out hb); have hbn := below_step (HB.out) hb; replace HB := Aside0.mk hbn; clear hbn; replace p0 := pw_cell_below hb p0; replace p1 := pw_cell_below hb p1; replace p2 := pw_cell_below hb p2; replace q0 := pw_cell_below hb q0; replace q1 := pw_cell_below hb q1; replace q2 := pw_cell_below hb q2; clear hv hb)
          | (go_at_call 27; refine (lay_any A l.length c l 0 f As ls.length cs ls _ (Kd.C_below HR.out HB.out) (Kd.C_below HS.out HB.out)).mono ?_; rintro e w1 ⟨A1, c1, rfl, hc1, hv, hb⟩; have HX := Aside0.mk (C_own hv); have hbn := below_step (HB.out) hb; replace HB := Aside0.mk hbn; clear hbn; replace p0 := pw_cell_below hb p0; replace p1 := pw_cell_below hb p1; replace p2 := pw_cell_below hb p2; replace q0 := pw_cell_below hb q0; replace q1 := pw_cell_below hb q1; replace q2 := pw_cell_below hb q2; clear hv hb)
          | (go_at_call 28; refine (rlay_any A l.length c l 0 f As ls.length cs ls _ (Kd.C_below HR.out HB.out) (by omega) (Kd.C_below HS.out HB.out) (by omega)).mono ?_; rintro e w1 ⟨A2, c2, rfl, hc2, hv, hb⟩; have HY := Aside0.mk (C_own hv); replace HX := Aside0.mk (Kd.C_below HX.out hb); have hbn := below_step (HB.out) hb; replace HB := Aside0.mk hbn; clear hbn; replace p0 := pw_cell_below hb p0; replace p1 := pw_cell_below hb p1; replace p2 := pw_cell_below hb p2; replace q0 := pw_cell_below hb q0; replace q1 := pw_cell_below hb q1; replace q2 := pw_cell_below hb q2; clear hv hb)
          | (go_at_call 20; refine (same_any _ _ _ _ _ _ _ _ HX.out HY.out).mono ?_; rintro e w1 ⟨rfl, rfl⟩; clear HX HY)
          | (go_at_call 15; refine (awake05_any _).mono ?_; rintro e w1 ⟨rfl, hb⟩; have hbn := below_step (HB.out) hb; replace HB := Aside0.mk hbn; clear hbn; replace p0 := pw_cell_below hb p0; replace p1 := pw_cell_below hb p1; replace p2 := pw_cell_below hb p2; replace q0 := pw_cell_below hb q0; replace q1 := pw_cell_below hb q1; replace q2 := pw_cell_below hb q2; clear hb))
        all_goals
          go_wp2_with fail
          go_ret
          exact ⟨rfl, HB.out⟩
end Go.Proofs.Ytpnbjpkdbiiogaa
