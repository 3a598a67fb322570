/- Files: shows; the chapter's example. -/
import Derived.Test.YtpnbjpkdbiiogaaFiO
namespace Go.Proofs.Ytpnbjpkdbiiogaa
set_option linter.unusedVariables false
open Go.RowKit Go.Proofs.YtpnbjpkdbiiogaaW.PrintWords
attribute [local go_sem] mx2 mn2 mxTwo mnTwo

theorem readL_all (now : List Int) (h : now.length ≤ 1048576) : readL now 0 1048576 = now := by
  unfold readL
  by_cases h0 : now = []
  · subst h0; rfl
  · have : 0 < now.length := List.length_pos_iff.2 h0
    rw [if_neg (by omega)]
    exact List.take_of_length_le h
set_option maxHeartbeats 2000000 in
set_option maxRecDepth 100000 in
theorem shows_any (b g r : Nat) (vn vs vo rn rs ro : Value) (now safe : List Int) (ops : List FOp) (k n : Int) (w : World) (h : FS w b g r vn vs vo rn rs ro now safe ops) (hnow : now.length ≤ 1048576) :
    Calls Try.prog 34 #[.pointer (some ⟨g, 0, none⟩), .pointer (some ⟨r, 0, none⟩), .int .i64 k, .int .i64 n] w fun e w' => e = .returned (.bool true) ∧ Below w.heap.size w w' := by
  obtain ⟨A1, c1, hrn, _, hC1⟩ := Kd.R_reads h.r.hn
  obtain ⟨A2, c2, hro⟩ := Kd.R_slice h.r.ho
  subst hrn
  subst hro
  have s0 := (blk_cell h.r.hb 0).trans (rfl : _ = some (Value.slice A1 now.length c1))
  have s2 := (blk_cell h.r.hb 2).trans (rfl : _ = some (Value.slice A2 ops.length c2))
  have HS := Aside0.mk h
  have HC1 := Aside0.mk hC1
  have HRD := Aside0.mk (readL_all now hnow)
  have HB := Aside0.mk (Below.refl w.heap.size w)
  have T1 := Aside0.mk trivial
  have T2 := Aside0.mk trivial
  clear h hC1
  go_enter Try.func34, Try.ntmps34
  go_wp2_with fail
  go_region_held3 (fun w' => w'.cell? ⟨r, 0, none⟩ = some (.slice A1 now.length c1) ∧ w'.cell? ⟨r, 2, none⟩ = some (.slice A2 ops.length c2)) (first | with_reducible exact ⟨s0, s2⟩ | exact ⟨s0, s2⟩) (first
    | (go_at_call 40; refine (flen_any b g _ vn vs vo now safe ops _ HS.out.f.drew).mono ?_; rintro e w1 ⟨rfl, rfl⟩)
    | (go_at_call 37; have gate := T1.out; refine (fread_any b g _ vn vs vo now safe ops 0 1048576 _ HS.out.f.drew (by omega)).mono ?_; rw [HRD.out]; rintro e w2 ⟨A3, c3, rfl, hc, hb⟩; replace s0 := pw_cell_below hb s0; replace s2 := pw_cell_below hb s2; have hs := (HS.out.below (below_drew1 (Below.refl _ _))).below hb; have h1 := Kd.C_below (Kd.C_drew HC1.out) hb; have hbn := below_step (below_drew1 HB.out) hb; clear T1 HS HC1 HB; have HS := Aside0.mk hs; have HC1 := Aside0.mk h1; have HB := Aside0.mk hbn; have HX := Aside0.mk hc; clear gate hs h1 hbn hc hb)
    | (go_at_call 20; have gate := T2.out; refine (same_any A3 A1 _ _ c3 c1 _ _ HX.out HC1.out).mono ?_; rintro e w3 ⟨rfl, rfl⟩; clear T2 HX)
    | (go_at_call 37; refine (fread_any b g _ vn vs vo now safe ops k n _ HS.out.f (by omega)).mono ?_; rintro e w4 ⟨A4, c4, rfl, hc, hb⟩; replace s0 := pw_cell_below hb s0; replace s2 := pw_cell_below hb s2; have hs := HS.out.below hb; have hbn := below_step HB.out hb; clear HS HB HC1; have HS := Aside0.mk hs; have HB := Aside0.mk hbn; have HX := Aside0.mk hc; clear hs hbn hc hb)
    | (go_at_call 91; refine (rread_any b r _ _ _ now safe ops k n _ HS.out.r (by omega)).mono ?_; rintro e w5 ⟨A5, c5, rfl, hc, hb⟩; replace s0 := pw_cell_below hb s0; replace s2 := pw_cell_below hb s2; have hs := HS.out.below hb; have hbn := below_step HB.out hb; have hx := Kd.C_below HX.out hb; clear HS HB HX; have HS := Aside0.mk hs; have HB := Aside0.mk hbn; have HX := Aside0.mk hx; have HY := Aside0.mk hc; clear hs hbn hc hb hx)
    | (go_at_call 20; refine (same_any A4 A5 _ _ c4 c5 _ _ HX.out HY.out).mono ?_; rintro e w6 ⟨rfl, rfl⟩; clear HX HY)
    | (go_at_call 35; refine (fpending_any b g _ vn vs vo now safe ops _ HS.out.f).mono ?_; rintro e w7 ⟨rfl, rfl⟩))
  all_goals
    go_wp2_with fail
    go_ret
    exact ⟨rfl, HB.out⟩
theorem writeF_awake : (writeF ([], []) 63 [1, 2]).2.length = 3 ∧ (writeF ([], []) 63 [1, 2]).1.length = 65 := by decide +kernel
theorem lit_kept (w1 : World) (g : Nat) (hg : g < w1.heap.size) : ∀ W', KeepBut (w1.alloc (.cells #[.int .u8 1, .int .u8 2] 5)) W' g none → Kd.C (Kd.int .u8) W' (some ⟨w1.heap.size, 0, none⟩) 2 [1, 2] := by
  intro W' hk
  exact Kd.C_keep (0 : Int) (C_lit w1 5 .u8 [1, 2] (by decide)) hk (fun ad e _ => by cases e; show w1.heap.size ≠ g; omega)
set_option maxHeartbeats 1000000 in
set_option maxRecDepth 100000 in
theorem awake06_any (w : World) : Calls Try.prog 31 #[] w fun e w' => e = .returned (.bool true) ∧ Below w.heap.size w w' := by
  have HE := Aside0.mk writeF_awake
  go_enter Try.func31, Try.ntmps31
  go_wp2_with (first
    | (go_at_call 30; refine (fnew_any w.heap.size (fun _ => True) w (Nat.le_refl _)).mono ?_; rintro e w1 ⟨rfl, hf, hb⟩; have HF := Aside0.mk hf; have HB := Aside0.mk hb; have HC := Aside0.mk (lit_kept w1 w.heap.size (blk_lt hf.hb)); clear hf hb)
    | (go_at_call 41; refine (fwrite_any w.heap.size w.heap.size (fun _ => True) _ _ _ [] [] [] 63 (some ⟨w1.heap.size, 0, none⟩) 2 2 [1, 2] _ (HF.out.below (below_alloc (Below.refl _ _) _)) (fun _ _ => trivial) rfl (Nat.le_refl _) (fun W' hk' _ => HC.out W' hk') (by omega) (by omega) (by simp) (by simp)).mono ?_; rintro e w2 ⟨rfl, vn1, vo1, hf, _, _, hl⟩; have hbn := (HB.out.trans (below_alloc (Below.refl _ _) _ |>.mono HB.out.size)).trans hl; clear HF HB; have HF := Aside0.mk hf; have HB := Aside0.mk hbn; clear hf hl hbn)
    | (go_at_call 35; refine (fpending_any _ _ _ _ _ _ _ _ _ _ HF.out).mono ?_; rw [HE.out.1]; rintro e w3 ⟨rfl, rfl⟩)
    | (go_at_call 40; refine (flen_any _ _ _ _ _ _ _ _ _ _ HF.out).mono ?_; rw [HE.out.2]; rintro e w4 ⟨rfl, rfl⟩))
  go_ret
  exact ⟨rfl, HB.out⟩
end Go.Proofs.Ytpnbjpkdbiiogaa
