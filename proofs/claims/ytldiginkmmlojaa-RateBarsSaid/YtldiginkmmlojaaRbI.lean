/- The walk of the law RateBars: it answers true. -/
import Derived.Test.YtldiginkmmlojaaRbH
import Derived.DataShut
namespace Go.Proofs.Ytldiginkmmlojaa
set_option linter.unusedVariables false
open Go.RowKit Go.Maps Go.Proofs.YtldiginkmmlojaaW.PrintWords
attribute [local go_sem] mx2 mn2 mxTwo mnTwo

abbrev A38 := ByteArray × Int
def zA38 : A38 := (⟨#[]⟩, 0)
def kA38 : Kd A38 := Kd.pair Kd.string (Kd.int .u64)
def goodA38 (x : A38) : Prop := x.1.size ≤ maxLen ∧ (Lit.int .u64 x.2).wf = true
theorem opens_t107 : Opens Try.prog 107 (Kd.slice 113 kA38) (fun xs => ∀ x ∈ xs, goodA38 x) :=
  opens_slice Try.underlying107 (by kernel_rfl) (opens_struct2 Try.underlying113 (by kernel_rfl) (by kernel_rfl) (opens_string Try.underlying9) (opens_int Try.underlying37))
theorem at_A38 {w : World} {A : Option Addr} {n : Nat} {l : List A38} (h : Kd.C kA38 w A n l) (i : Nat) (h1 : i < n) : ∃ ad, A = some ad ∧ w.cell? (ad.add (i * 2)) = some (.string (l.getD i zA38).1) ∧ w.cell? ⟨(ad.add (i * 2)).block, (ad.add (i * 2)).off + 1, none⟩ = some (.int .u64 (l.getD i zA38).2) := by
  obtain ⟨ad, c, e, _, hK, hc0⟩ := Kd.C_get h zA38 (i : Int) (by omega) (by omega)
  simp only [Int.toNat_natCast] at hK hc0
  have hc : ∀ j u, c[j]? = some u → w.cell? (ad.add (i * 2 + j)) = some u := hc0
  obtain ⟨_, _, rfl, rfl, rfl⟩ := hK
  exact ⟨ad, e, hc 0 _ rfl, by rw [← add_field _ _ 1 (by omega)]; exact hc 1 _ rfl⟩
theorem LJ.belowN {W W1 : World} {b g m N n0 : Nat} {span burst most : Int} {l : List LW} (h : LJ W b g m N span burst most l) (hg : g < n0) (hm : m < n0) (hb : Below n0 W W1) : LJ W1 b g m N span burst most l :=
  ⟨(hb.block g hg).trans h.hb, h.hm.move (hb.block m hm), h.hg, h.hmb⟩
theorem RJ.frM {W W1 : World} {b g m N : Nat} {span burst most : Int} {l : List LW} {f : Lit → Option Value} (h : RJ W b g span burst most l) (hf : FrM W W1 m) (hm : MV W Try.prog 9 m N f) : RJ W1 b g span burst most l := by
  obtain ⟨⟨v, h1, h2⟩, h3⟩ := h
  refine ⟨⟨v, (hf.2 g (blk_lt h1) (fun e => hm.ne h1 e.symm)).trans h1, Kd.R_mono (Kd.R_step (Kd.R_bound h2) (fun k hk hlt => hf.2 k hlt (fun e => ?_))) (fun _ _ => trivial)⟩, h3⟩
  obtain ⟨_, _, _, q, _, cells, hc⟩ := hk
  exact hm.ne hc e.symm
set_option maxRecDepth 100000 in
set_option maxHeartbeats 4000000 in
theorem bars_walk (S B M : Int) (A : Option Addr) (cp : Nat) (xs : List A38) (w : World) (s0 : 0 ≤ S) (s1 : S ≤ 18446744073709551615) (b0 : -9223372036854775808 ≤ B) (b1 : B ≤ 9223372036854775807) (m0 : -9223372036854775808 ≤ M) (m1 : M ≤ 9223372036854775807) (hC : kA38.C w A xs.length xs) (hcap : xs.length ≤ cp) (hg : ∀ x ∈ xs, goodA38 x) :
    Calls Try.prog 11 #[.int .u64 S, .int .i64 B, .int .i64 M, .slice A xs.length cp] w fun e w' => e = .returned (.bool true) ∧ Below w.heap.size w w' := by
  have hmu := Kd.C_max hC
  have HC := Aside0.mk hC
  have HG := Aside0.mk hg
  clear hC hg
  have HB := Aside0.mk (Below.refl w.heap.size w)
  have hmo : 1 ≤ mx M 1 := by unfold mx; split <;> omega
  go_enter Try.func11, Try.ntmps11
  go_wp2_with (first
    | (go_at_call 58; refine (lnew_any w.heap.size S B M _ (Nat.le_refl _)).mono ?_; rintro e W1 ⟨g, m, rfl, hl, hb⟩; have HJ := Aside0.mk (LJ.of hl); have hbn := below_step HB.out hb; clear HB; have HB := Aside0.mk hbn; clear hl hb hbn)
    | (go_at_call 59; refine (rnew_any W1.heap.size S B M _ (Nat.le_refl _)).mono ?_; rintro e W2 ⟨r, rfl, hr, hb⟩; have HR := Aside0.mk hr; have hj := HJ.out.below hb; have HLT := Aside0.mk (show g < W1.heap.size ∧ m < W1.heap.size ∧ w.heap.size ≤ W1.heap.size from ⟨blk_lt HJ.out.hb, HJ.out.hm.lt, HB.out.size⟩); clear HJ; have HJ := Aside0.mk hj; have hbn := below_step HB.out hb; clear HB; have HB := Aside0.mk hbn; clear hr hb hbn hj))
  obtain ⟨P, hP⟩ : ∃ P, P = mx S 1 := ⟨_, rfl⟩
  obtain ⟨T, hT⟩ : ∃ T, T = mx M 1 := ⟨_, rfl⟩
  rw [← hP, ← hT] at HJ HR
  rw [← hT] at hmo
  clear hP hT
  obtain ⟨b2, hb2⟩ : ∃ b2, b2 = W1.heap.size := ⟨_, rfl⟩
  rw [← hb2] at HR HLT
  clear hb2
  go_loopg [11] xs.length (fun q v11 wr => ∃ (i : Nat) (L : List LW), v11 = .int .i64 (i : Int) ∧ i ≤ xs.length ∧ i ≤ 80 ∧ Aside0 (q = xs.length - i) ∧ Aside0 (OkL L i) ∧ Aside0 (LJ wr w.heap.size g m i P (mx B 0) T L) ∧ Aside0 (RJ wr b2 r P B T L) ∧ Aside0 (Below w.heap.size w wr))
  case atStart => exact ⟨0, [], rfl, Nat.zero_le _, Nat.zero_le _, ⟨rfl⟩, ⟨⟨List.Pairwise.nil, Nat.zero_le _, fun p hp => by simp at hp⟩⟩, HJ, HR, HB⟩
  case round =>
    clear HJ HR HB
    obtain ⟨i, L, rfl, hi, h80, hq, HOK, HJ, HR, HB⟩ := hrel
    by_cases hgo : i < xs.length ∧ i < 80
    · obtain ⟨hlt, h80'⟩ := hgo
      have hi0 : (0 : Int) ≤ (i : Int) := by omega
      have hi1 : (i : Int) < (xs.length : Int) := by omega
      obtain ⟨ad, rfl, r0, r1⟩ := at_A38 HC.out i hlt
      have hga := HG.out _ (List.mem_of_getElem? (show xs[i]? = some (xs.getD i zA38) by rw [List.getD_eq_getElem?_getD, List.getElem?_eq_getElem hlt]; rfl))
      obtain ⟨s, hs⟩ : ∃ s, s = (xs.getD i zA38).1 := ⟨_, rfl⟩
      obtain ⟨now, hnow⟩ : ∃ now, now = (xs.getD i zA38).2 := ⟨_, rfl⟩
      unfold goodA38 at hga
      rw [← hs, ← hnow] at hga
      rw [← hs] at r0
      rw [← hnow] at r1
      obtain ⟨hsm, hnw⟩ := hga
      have hnr : 0 ≤ now ∧ now < 18446744073709551616 := by
        have := (Lit.wf_int_iff .u64 now).1 hnw
        exact ⟨this.1, Int.lt_of_le_of_lt this.2 (by decide)⟩
      have R0C := Aside0.mk r0
      have R1C := Aside0.mk r1
      replace r0 := pw_cell_below HB.out r0
      replace r1 := pw_cell_below HB.out r1
      have HSM := Aside0.mk hsm
      have HNR := Aside0.mk hnr
      clear hs hnow hnw hsm hnr
      by_cases h100 : s.size ≤ 100
      · have d1 : decide (100 < s.size) = false := decide_eq_false (by omega)
        have HAL := Aside0.mk (lallow_any w.heap.size g m i P (mx B 0) T L s now wr.drew (HJ.out.below (below_drew1 (Below.refl _ _))) HSM.out (by omega) HNR.out i HOK.out (by omega) hmo)
        have HOK2 := Aside0.mk (stepW_ok (span := P) (burst := B) (most := T) HOK.out HSM.out HNR.out)
        have hbu := stepW_burst (span := P) (burst := B) (most := T) (s := s) (now := now) HOK.out
        rw [hbu] at HAL
        obtain ⟨bo, td, L2, hX⟩ : ∃ bo td L2, stepW P B T L s now = ((bo, td), L2) := ⟨_, _, _, rfl⟩
        have HRL := Aside0.mk (show ∀ W, RJ W b2 r P B T L → Calls Try.prog 62 #[.pointer (some ⟨r, 0, none⟩), .string s, .int .u64 now] W fun e w' => e = .returned (.tuple #[.bool bo, .int .i64 td]) ∧ RJ w' b2 r P B T L2 ∧ Below b2 W w' from fun W hW => by
          have := rallow_any b2 r P B T L s now W hW (Nat.le_trans HOK.out.len (by omega)) HNR.out i HOK.out (by omega) hmo
          rw [hX] at this
          exact this)
        rw [hX] at HAL HOK2
        dsimp only at HAL HOK2
        clear hbu hX
        have HA1 := Aside0.mk (show ∀ w1, LJ w1 w.heap.size g m (i + 1) P (mx B 0) T L2 → Below w.heap.size wr.drew w1 → FrM wr.drew w1 m → (w1.cell? (ad.add (i * 2)) = some (.string s) ∧ w1.cell? ⟨(ad.add (i * 2)).block, (ad.add (i * 2)).off + 1, none⟩ = some (.int .u64 now)) ∧ RJ w1 b2 r P B T L ∧ Below w.heap.size w w1 from fun w1 hl hb hf => by
          have hbw : Below w.heap.size w w1 := HB.out.trans ((below_drew1 (Below.refl w.heap.size wr)).trans hb)
          exact ⟨⟨pw_cell_below hbw R0C.out, pw_cell_below hbw R1C.out⟩, (HR.out.below (below_drew1 (Below.refl wr.heap.size wr))).frM hf (MV.drew HJ.out.hm), hbw⟩)
        have HA2 := Aside0.mk (show ∀ w1 w2, LJ w1 w.heap.size g m (i + 1) P (mx B 0) T L2 → Below w.heap.size w w1 → Below b2 w1.drew w2 → (w2.cell? (ad.add (i * 2)) = some (.string s) ∧ w2.cell? ⟨(ad.add (i * 2)).block, (ad.add (i * 2)).off + 1, none⟩ = some (.int .u64 now)) ∧ LJ w2 w.heap.size g m (i + 1) P (mx B 0) T L2 ∧ Below w.heap.size w w2 from fun w1 w2 hl hb hb2 => by
          have hb9 : Below b2 w1 w2 := (below_drew1 (Below.refl b2 w1)).trans hb2
          have hbw : Below w.heap.size w w2 := hb.trans (hb9.mono HLT.out.2.2)
          exact ⟨⟨pw_cell_below hbw R0C.out, pw_cell_below hbw R1C.out⟩, hl.belowN HLT.out.1 HLT.out.2.1 hb9, hbw⟩)
        go_wp2_with fail
        go_region_held3 (fun w' => w'.cell? (ad.add (i * 2)) = some (.string s) ∧ w'.cell? ⟨(ad.add (i * 2)).block, (ad.add (i * 2)).off + 1, none⟩ = some (.int .u64 now)) (first | exact ⟨r0, r1⟩) (first
          | (go_at_call 61; refine HAL.out.mono ?_; rintro e w1 ⟨rfl, hl, hb, hf⟩; obtain ⟨⟨x0, x1⟩, xr, xb⟩ := HA1.out w1 hl hb hf; clear r0 r1; have r0 := x0; have r1 := x1; have HJ1 := Aside0.mk hl; have HR1 := Aside0.mk xr; have HB1 := Aside0.mk xb; clear x0 x1 xr xb hl hb hf))
        all_goals
          go_wp2_with fail
          go_region_held3 (fun w' => w'.cell? (ad.add (i * 2)) = some (.string s) ∧ w'.cell? ⟨(ad.add (i * 2)).block, (ad.add (i * 2)).off + 1, none⟩ = some (.int .u64 now)) (first | exact ⟨r0, r1⟩) (first
            | (go_at_call 62; refine (HRL.out _ (HR1.out.below (below_drew1 (Below.refl _ _)))).mono ?_; rintro e w2 ⟨rfl, hr, hb⟩; obtain ⟨⟨x0, x1⟩, xj, xb⟩ := HA2.out _ w2 HJ1.out HB1.out hb; clear r0 r1; have r0 := x0; have r1 := x1; have HJ2 := Aside0.mk xj; have HR2 := Aside0.mk hr; have HB2 := Aside0.mk xb; clear x0 x1 xj xb hr hb))
        all_goals
          have hlen : L2.length ≤ 1000000 := Nat.le_trans HOK2.out.len (by omega)
          go_wp2_with (first
            | (go_at_call 63; refine (lknown_any w.heap.size g m (i + 1) P (mx B 0) T L2 _ HJ2.out HOK2.out.ris (by omega)).mono ?_; rintro e w3 ⟨v3, rfl, hv, hb⟩; obtain ⟨A3, c3, rfl⟩ := Kd.R_slice hv; rw [List.length_map] at hv ⊢; have HV3 := Aside0.mk hv; have HR3 := Aside0.mk (HR2.out.below hb); have HJ3 := Aside0.mk (HJ2.out.below hb); have HB3 := Aside0.mk (below_step HB2.out hb); clear hv hb)
            | (go_at_call 64; refine (rknown_any b2 r P B T L2 _ HR3.out HOK2.out.ris hlen).mono ?_; rintro e w4 ⟨v4, rfl, hv, hb⟩; obtain ⟨A4, c4, rfl⟩ := Kd.R_slice hv; rw [List.length_map] at hv ⊢; have HV4 := Aside0.mk hv; have HV5 := Aside0.mk (Kd.R_below HV3.out hb); have HR4 := Aside0.mk (HR3.out.below hb); have HJ4 := Aside0.mk (HJ3.out.below hb); have HB4 := Aside0.mk (below_step HB3.out hb); clear hv hb)
            | (go_at_call 30; refine (texts38_any A3 A4 _ _ c3 c4 (L2.map (·.1)) _ (C_own HV5.out) (C_own HV4.out)).mono ?_; rintro e w5 ⟨rfl, hb⟩; have HR5 := Aside0.mk (HR4.out.below hb); have HJ5 := Aside0.mk (HJ4.out.below hb); have HB5 := Aside0.mk (below_step HB4.out hb); clear hb))
          go_roundg (xs.length - (i + 1))
          case measure => have := hq.out; omega
          case rel => exact ⟨i + 1, L2, by go_num, by omega, by omega, ⟨rfl⟩, HOK2, HJ5, HR5, HB5⟩
      · have d1 : decide (100 < s.size) = true := decide_eq_true (by omega)
        go_wp2_with (first
          | (go_at_call 60; refine (awake38_any _).mono ?_; rintro e W9 ⟨rfl, hb⟩; have hbn := below_step HB.out hb; clear HB; have HB := Aside0.mk hbn; clear hb hbn))
        go_ret
        exact ⟨rfl, HB.out⟩
    · have HNG := Aside0.mk hgo
      have hone : Aside0 (i = xs.length) ∨ (i < xs.length ∧ Aside0 (i = 80)) := by
        rcases Nat.lt_or_ge i xs.length with h | h
        · exact .inr ⟨h, ⟨by have := HNG.out; omega⟩⟩
        · exact .inl ⟨by omega⟩
      clear hgo
      rcases hone with HE | ⟨hlt, HE⟩
      · have d1 : decide (i < xs.length) = false := decide_eq_false (by have := HE.out; omega)
        go_wp2_with (first
          | (go_at_call 60; refine (awake38_any _).mono ?_; rintro e W9 ⟨rfl, hb⟩; have hbn := below_step HB.out hb; clear HB; have HB := Aside0.mk hbn; clear hb hbn))
        go_ret
        exact ⟨rfl, HB.out⟩
      · obtain rfl := HE.out
        go_wp2_with (first
          | (go_at_call 60; refine (awake38_any _).mono ?_; rintro e W9 ⟨rfl, hb⟩; have hbn := below_step HB.out hb; clear HB; have HB := Aside0.mk hbn; clear hb hbn))
        go_ret
        exact ⟨rfl, HB.out⟩
end Go.Proofs.Ytldiginkmmlojaa
