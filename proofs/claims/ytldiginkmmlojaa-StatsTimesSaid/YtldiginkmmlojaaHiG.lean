/- The walk of the law StatsTimes: it answers true. -/
import Derived.Test.YtldiginkmmlojaaHiF
import Derived.Test.YtldiginkmmlojaaHiW
namespace Go.Proofs.Ytldiginkmmlojaa
set_option linter.unusedVariables false
set_option linter.unusedSimpArgs false
open Go.RowKit Go.Shelf Go.Proofs.YtldiginkmmlojaaW.PrintWords
attribute [local go_sem] mx2 mn2 mxTwo mnTwo

/-- The input's entries, told twice. -/
theorem recsU_of {w : World} {A : Option Addr} {n : Nat} {xs : List LR} (c : Nat) (h : Kd.C kLr w A n xs) (hg : ∀ x ∈ xs, goodLr x) : ∃ (zs : List RecW) (zu : List RecU), zs.length = n ∧ zu.length = n ∧ Kd.C kRec w A n zs ∧ (∀ x ∈ zs, (Lit.int .u64 x.1.real).wf = true) ∧ RecsU w.heap.size w (.slice A n c) zu ∧ zu.map (fun x => x.1.real) = zs.map (fun x => x.1.real) := by
  obtain ⟨zs, hzl, hZ⟩ := recs_of h hg
  have hwf : ∀ x ∈ zs, (Lit.int .u64 x.1.real).wf = true := fun x hx => by
    obtain ⟨i, hi, hxi⟩ := List.getElem_of_mem hx
    have hin : i < n := by omega
    obtain ⟨ad, e, h0, h1, _⟩ := at_Lr h i hin
    obtain ⟨ad', e', _, r1, _⟩ := at_Rec hZ i hin
    obtain rfl : ad = ad' := by rw [e] at e'; injection e'
    have hm : xs.getD i zLr ∈ xs := by
      rw [List.getD_eq_getElem?_getD, List.getElem?_eq_getElem (by rw [h.1]; exact hin)]
      exact List.getElem_mem _
    have hx2 : zs.getD i zRecW = x := by rw [List.getD_eq_getElem?_getD, List.getElem?_eq_getElem hi]; exact hxi
    rw [hx2] at r1
    have e2 := h1.symm.trans r1
    simp only [Option.some.injEq, Value.int.injEq, true_and] at e2
    rw [← e2]
    exact (hg _ hm).2.1
  refine ⟨zs, zs.pmap (fun x hx => (⟨x.1, hx⟩ : RecU)) hwf, hzl, by rw [List.length_pmap]; exact hzl, hZ, hwf, ?_, ?_⟩
  · by_cases hn : 0 < n
    · obtain ⟨ad, rfl, r0, _⟩ := at_Rec hZ 0 hn
      obtain ⟨b, off, sp⟩ := ad
      have hsp : sp = none ∧ b < w.heap.size := by
        rw [Nat.zero_mul] at r0
        have e0 : (⟨b, off, sp⟩ : Addr).add 0 = ⟨b, off, sp⟩ := rfl
        rw [e0] at r0
        unfold World.cell? at r0
        split at r0
        next c' _ _ hb =>
          refine ⟨?_, blk_lt hb⟩
          cases sp with
          | none => rfl
          | some k => simp at r0
        next => cases r0
      obtain ⟨rfl, hb⟩ := hsp
      refine .inr ⟨b, off, c, by rw [List.length_pmap, hzl], hb, fun j hj => ?_⟩
      rw [List.length_pmap] at hj
      obtain ⟨ad', e', hR⟩ := at_Rec hZ j (by omega)
      obtain rfl : ad' = ⟨b, off, none⟩ := by injection e' with e'; exact e'.symm
      rw [show (⟨b, off, none⟩ : Addr).add (j * 5) = ⟨b, off + j * 5, none⟩ from by unfold Addr.add; split <;> simp_all] at hR
      have hget : ((zs.pmap (fun x hx => (⟨x.1, hx⟩ : RecU)) hwf).getD j zRecU).1 = (zs.getD j zRecW).1 := by
        rw [List.getD_eq_getElem?_getD, List.getElem?_eq_getElem (by rw [List.length_pmap]; exact hj), List.getD_eq_getElem?_getD, List.getElem?_eq_getElem hj]
        simp
      rw [hget]
      exact hR
    · obtain rfl : zs = [] := List.eq_nil_of_length_eq_zero (by omega)
      obtain rfl : n = 0 := by omega
      exact .inl ⟨A, c, rfl, rfl⟩
  · rw [List.map_pmap]
    show List.pmap (fun (a : RecW) _ => a.val.real) zs hwf = _
    rw [List.pmap_eq_map]
theorem frU_map (zu : List RecU) (zs : List RecW) (h : zu.map (fun x => x.1.real) = zs.map (fun x => x.1.real)) (sp : Int) : zu.map (frU sp) = zs.map (frW sp) := by
  have h2 := congrArg (List.map (fun r : Int => r - r % sp)) h
  rw [List.map_map, List.map_map] at h2
  exact h2
set_option maxRecDepth 100000 in
set_option maxHeartbeats 2000000 in
theorem times41_walk (a0 : Option Addr) (cap0 : Nat) (l : List LR) (span : Int) (w : World) (hC : Kd.C kLr w a0 l.length l) (hcap : l.length ≤ cap0) (hg : ∀ x ∈ l, goodLr x) (hs0 : 0 ≤ span) (hs1 : span ≤ 18446744073709551615) :
    Calls Try.prog 10 #[.slice a0 l.length cap0, .int .u64 span] w fun e w' => e = .returned (.bool true) ∧ Below w.heap.size w w' := by
  obtain ⟨zs, zu, hzl, hzul, hZ, hwf, hU, hre⟩ := recsU_of cap0 hC hg
  have HC := Aside0.mk hC
  have HZ := Aside0.mk hZ
  have HU := Aside0.mk hU
  have HW := Aside0.mk hwf
  obtain ⟨L, hL⟩ : ∃ L, L = histF (zs.map (frW (max span 1))) := ⟨_, rfl⟩
  have HLU := Aside0.mk (show histF (zu.map (frU (max span 1))) = L by rw [hL, frU_map zu zs hre])
  have HLS := Aside0.mk hL.symm
  have hLn : L.length ≤ l.length := by rw [hL, ← hzl]; exact Nat.le_trans (histF_len _) (by rw [List.length_map]; exact Nat.le_refl _)
  obtain ⟨bk, hbk⟩ : ∃ bk, bk = (backF zs).1 := ⟨_, rfl⟩
  have HBU := Aside0.mk (show (backU zu).1 = bk by rw [hbk, backU_is zu zs hre])
  have HBS := Aside0.mk hbk.symm
  have HS := Aside0.mk (show 0 ≤ span ∧ span < 18446744073709551616 from ⟨hs0, by omega⟩)
  have hh := rhist_any a0 cap0 zs span
  rw [hzl, hL.symm] at hh
  have HH := Aside0.mk hh
  have hb9 := rback_any a0 cap0 zs
  rw [hzl, ← hbk] at hb9
  have HB9 := Aside0.mk hb9
  clear hC hg hZ hU hwf hL hre hs0 hs1 hh hb9 hbk
  have HZL := Aside0.mk (And.intro hzl hzul)
  clear hzl hzul
  go_enter Try.func10, Try.ntmps10
  go_wp2_with (first
    | (go_at_call 13; refine (light41_any _ _ l _ HC.out).mono ?_; rintro e w1 ⟨b, rfl, h40, hb⟩; have H40 := Aside0.mk h40; have HB := Aside0.mk hb; clear h40 hb; cases b)
    | (go_at_call 14; refine (awake41_any _).mono ?_; rintro e W9 ⟨rfl, hb⟩; have hbn := below_step HB.out hb; clear HB; have HB := Aside0.mk hbn; clear hbn; (try (have h4n := Kd.R_below HO4.out hb; clear HO4; have HO4 := Aside0.mk h4n; clear h4n)); (try (have h5n := Kd.R_below HO5.out hb; clear HO5; have HO5 := Aside0.mk h5n; clear h5n)))
    | (go_at_call 17; refine (rseq_any _ _ _ _).mono ?_; rintro e w3 ⟨rfl, hw3⟩; have hb : Below _ _ w3 := hw3 ▸ below_alloc (Below.refl _ _) _; have HC3 := Aside0.mk (show w3.cell? ⟨_, 0, none⟩ = some _ by rw [hw3]; exact (blk_cell (blk_new _ _) 0).trans rfl); have HLT := Aside0.mk (show _ < w3.heap.size by rw [hw3, World.size_alloc]; exact Nat.lt_succ_self _); clear hw3; have hbn := below_step HB.out hb; clear HB; have HB := Aside0.mk hbn; clear hbn; (try (have h4n := Kd.R_below HO4.out hb; clear HO4; have HO4 := Aside0.mk h4n; clear h4n)); (try (have h5n := Kd.R_below HO5.out hb; clear HO5; have HO5 := Aside0.mk h5n; clear h5n)))
    | (go_at_call 54; have hl40 : l.length ≤ 40 := (by first | exact H40.out rfl | exact H40.out trivial); have hq := hist_any _ _ zu span HS.out (by have := HZL.out.2; omega) _ HLT.out HC3.out ((HU.out.below HB.out).mono HB.out.size); rw [HLU.out] at hq; refine hq.mono ?_; clear hq; rintro e w4 ⟨A4, c4, rfl, ho4, hb⟩; clear HC3 HLT; have hbn := below_step HB.out hb; clear HB; have HB := Aside0.mk hbn; clear hbn; (try (have h4n := Kd.R_below HO4.out hb; clear HO4; have HO4 := Aside0.mk h4n; clear h4n)); (try (have h5n := Kd.R_below HO5.out hb; clear HO5; have HO5 := Aside0.mk h5n; clear h5n)); have HO4 := Aside0.mk ho4; clear ho4 hb)
    | (go_at_call 55; refine (HH.out _ (Kd.C_below HZ.out HB.out) (by have := HZL.out.1; omega) HW.out HS.out).mono ?_; rintro e w5 ⟨A5, c5, rfl, ho5, hb⟩; have hbn := below_step HB.out hb; clear HB; have HB := Aside0.mk hbn; clear hbn; (try (have h4n := Kd.R_below HO4.out hb; clear HO4; have HO4 := Aside0.mk h4n; clear h4n)); (try (have h5n := Kd.R_below HO5.out hb; clear HO5; have HO5 := Aside0.mk h5n; clear h5n)); have HO5 := Aside0.mk ho5; clear ho5 hb)
    | (go_at_call 56; have hq := backU_any _ _ zu (by have := HZL.out.2; omega) _ HLT.out HC3.out ((HU.out.below HB.out).mono HB.out.size); rw [HBU.out] at hq; refine hq.mono ?_; clear hq; rintro e w6 ⟨rfl, hb⟩; clear HC3 HLT; have hbn := below_step HB.out hb; clear HB; have HB := Aside0.mk hbn; clear hbn; (try (have h4n := Kd.R_below HO4.out hb; clear HO4; have HO4 := Aside0.mk h4n; clear h4n)); (try (have h5n := Kd.R_below HO5.out hb; clear HO5; have HO5 := Aside0.mk h5n; clear h5n)); clear hb)
    | (go_at_call 57; refine (HB9.out _ (Kd.C_below HZ.out HB.out) (by have := HZL.out.1; omega) (fun x hx => ((Lit.wf_int_iff .u64 _).1 (HW.out x hx)).1)).mono ?_; rintro e w7 ⟨rfl, hb⟩; have hbn := below_step HB.out hb; clear HB; have HB := Aside0.mk hbn; clear hbn; (try (have h4n := Kd.R_below HO4.out hb; clear HO4; have HO4 := Aside0.mk h4n; clear h4n)); (try (have h5n := Kd.R_below HO5.out hb; clear HO5; have HO5 := Aside0.mk h5n; clear h5n)); clear hb))
  · go_ret
    exact ⟨rfl, HB.out⟩
  · have hL40 : L.length ≤ 40 := by
      have : l.length ≤ 40 := by first | exact H40.out rfl | exact H40.out trivial
      omega
    clear HC HZ HU HW HLU HLS HBU HBS HH HB9 HZL H40 HS
    go_loopg [7] L.length (fun g v7 wr => ∃ i : Nat, v7 = .int .i64 (i : Nat) ∧ i ≤ L.length ∧ Aside0 (g = L.length - i) ∧ Aside0 (Below w.heap.size w wr) ∧ Aside0 (∃ b, Kd.R kBk 104 wr b (fun _ => True) (.slice A4 L.length c4) L) ∧ Aside0 (∃ b, Kd.R kBk 105 wr b (fun _ => True) (.slice A5 L.length c5) L))
    case atStart => exact ⟨0, rfl, Nat.zero_le _, ⟨rfl⟩, HB, ⟨_, HO4.out⟩, ⟨_, HO5.out⟩⟩
    case round =>
      clear HB HO4 HO5
      obtain ⟨i, rfl, hi, hg, HB, HO4, HO5⟩ := hrel
      by_cases hlt : i < L.length
      · obtain ⟨b4, o4⟩ := HO4.out
        obtain ⟨b5, o5⟩ := HO5.out
        obtain ⟨g4, d4, e4, _⟩ := Kd.R_form o4 (by omega)
        obtain rfl : A4 = some ⟨g4, 0, none⟩ := by injection e4
        obtain ⟨g5, d5, e5, _⟩ := Kd.R_form o5 (by omega)
        obtain rfl : A5 = some ⟨g5, 0, none⟩ := by injection e5
        clear e4 e5
        obtain ⟨p0, p1, _⟩ := bk_cells o4 hlt
        obtain ⟨q0, q1, _⟩ := bk_cells o5 hlt
        have HR4 := Aside0.mk o4
        have HR5 := Aside0.mk o5
        clear o4 o5
        generalize (L.getD i zHB).1 = x at *
        generalize (L.getD i zHB).2 = y at *
        go_wp2_with fail
        go_quiet (fail)
        go_wp2_with fail
        go_roundg (L.length - (i + 1))
        case measure => have := hg.out; omega
        case rel => exact ⟨i + 1, by go_num, hlt, ⟨rfl⟩, ⟨pw_below_drewN HB.out _⟩, ⟨b4, Kd.R_drewN HR4.out _⟩, ⟨b5, Kd.R_drewN HR5.out _⟩⟩
      · obtain rfl : i = L.length := by omega
        go_wp2_with (go_at_call 14; refine (awake41_any _).mono ?_; rintro e W9 ⟨rfl, hb⟩; have hbn := below_step HB.out hb; clear HB; have HB := Aside0.mk hbn; clear hbn hb)
        go_ret
        exact ⟨rfl, HB.out⟩
end Go.Proofs.Ytldiginkmmlojaa
