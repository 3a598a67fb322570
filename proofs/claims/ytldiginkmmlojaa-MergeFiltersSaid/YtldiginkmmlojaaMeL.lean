/- The walk of the law MergeFilters: it answers true. -/
import Derived.Test.YtldiginkmmlojaaMeK
import Derived.Test.YtldiginkmmlojaaOpen
import Derived.DataShut
import Derived.Lib.MinMax
namespace Go.Proofs.Ytldiginkmmlojaa
set_option linter.unusedVariables false
set_option linter.unusedSimpArgs false
open Go.RowKit Go.Proofs.YtldiginkmmlojaaW.PrintWords

theorem opens_t93 : Opens Try.prog 93 (Kd.slice 63 (Kd.int .u16)) (fun xs => ∀ x ∈ xs, (Lit.int .u16 x).wf = true) := opens_slice Try.underlying93 (by kernel_rfl) (opens_int Try.underlying63)
theorem at_u16 {w : World} {A : Option Addr} {n : Nat} {xs : List Int} (h : (Kd.int .u16).C w A n xs) (i : Nat) (h1 : i < n) : ∃ ad, A = some ad ∧ w.cell? (ad.add i) = some (.int .u16 (xs.getD i 0)) := by
  obtain ⟨ad, c, e, _, hK, hc0⟩ := Kd.C_get h (0 : Int) (i : Int) (by omega) (by omega)
  simp only [Int.toNat_natCast] at hK hc0
  have hK' : c = [.int .u16 (xs.getD i 0)] := hK
  subst hK'
  exact ⟨ad, e, by have := hc0 0 _ rfl; rwa [show i * (Kd.int .u16).sz + 0 = i from Nat.mul_one i] at this⟩
/-- The numbers, and those that the question lets through. -/
def numF (us : List Int) : Nat → List Int
  | 0 => []
  | i + 1 => numF us i ++ [10 * (i : Int) + us.getD i 0 % 10]
theorem numF_len (us : List Int) : ∀ i, (numF us i).length = i
  | 0 => rfl
  | i + 1 => by unfold numF; rw [List.length_append, numF_len us i]; rfl
theorem numF_get (us : List Int) : ∀ (i j : Nat), j < i → (numF us i).getD j 0 = 10 * (j : Int) + us.getD j 0 % 10
  | 0, j, h => by omega
  | i + 1, j, h => by
    unfold numF
    by_cases hj : j < i
    · rw [List.getD_eq_getElem?_getD, List.getElem?_append_left (by rw [numF_len]; exact hj), ← List.getD_eq_getElem?_getD]
      exact numF_get us i j hj
    · obtain rfl : j = i := by omega
      rw [List.getD_eq_getElem?_getD, List.getElem?_append_right (by rw [numF_len]; exact Nat.le_refl _), numF_len, Nat.sub_self]
      rfl
/-- One list that rises by tens: all of it comes. -/
theorem allF_one : ∀ (l : List Int) (f : Nat), l.length ≤ f → (l.Pairwise fun a b => cT b a ≠ 0) → allF cT f [l] = l
  | [], f, _, _ => allF_none rfl
  | x :: t, f + 1, h, hp => by
    rw [List.pairwise_cons] at hp
    have hb : bestF cT [x :: t] [x :: t].length = some (0, x) := rfl
    rw [allF_some hb]
    have e : [x :: t].map (fun l => l.dropWhile (fun y => cT y x == 0)) = [t] := by
      simp only [List.map_cons, List.map_nil, List.dropWhile_cons, cT_refl, if_true]
      congr 1
      cases t with
      | nil => rfl
      | cons y s =>
        have := hp.1 y (List.mem_cons_self ..)
        rw [List.dropWhile_cons, show (cT y x == 0) = false from beq_eq_false_iff_ne.mpr this]
        rfl
    rw [e, allF_one t f (by simpa using h) hp.2]
theorem num_rises (us : List Int) (n : Nat) (hu : ∀ u ∈ us, 0 ≤ u) (hn : n ≤ us.length) : (numF us n).Pairwise fun a b => cT b a ≠ 0 := by
  rw [List.pairwise_iff_getElem]
  intro i j hi hj hij
  rw [numF_len] at hi hj
  have e1 : (numF us n)[i]'(by rw [numF_len]; exact hi) = (numF us n).getD i 0 := by rw [List.getD_eq_getElem?_getD, List.getElem?_eq_getElem]; rfl
  have e2 : (numF us n)[j]'(by rw [numF_len]; exact hj) = (numF us n).getD j 0 := by rw [List.getD_eq_getElem?_getD, List.getElem?_eq_getElem]; rfl
  rw [e1, e2, numF_get us n i hi, numF_get us n j hj]
  have h1 : 0 ≤ us.getD i 0 % 10 ∧ us.getD i 0 % 10 < 10 := ⟨Int.emod_nonneg _ (by decide), Int.emod_lt_of_pos _ (by decide)⟩
  have h2 : 0 ≤ us.getD j 0 % 10 ∧ us.getD j 0 % 10 < 10 := ⟨Int.emod_nonneg _ (by decide), Int.emod_lt_of_pos _ (by decide)⟩
  unfold cT
  omega
/-- Two rows apart. -/
theorem apart_next {W w1 : World} {b : Nat} {u v v1 : Value} {xs : List Int} (hu : Kd.R (Kd.int .i64) 3 W b (fun q => some q ≠ v.ownBlock) u xs) (hg : W.grownBy w1 v.ownBlock) (hat : v1.ownBlock = v.ownBlock ∨ ∃ q, v1.ownBlock = some q ∧ W.heap.size ≤ q) : Kd.R (Kd.int .i64) 3 w1 b (fun q => some q ≠ v1.ownBlock) u xs := by
  refine R_reok64 (Kd.R_grown hu hg (fun k hk => hk)) (fun k hk e => ?_)
  have h1 := hu.1 k hk
  have h2 := Kd.R_lt hu k hk
  rcases hat with h | ⟨q, h, hq⟩
  · exact h1 (by rw [e, h])
  · rw [h] at e
    injection e with e
    omega
set_option maxRecDepth 100000 in
set_option maxHeartbeats 1000000 in
theorem mfilt_walk (A : Option Addr) (cp : Nat) (us : List Int) (b m : Int) (w : World) (hC : (Kd.int .u16).C w A us.length us) (hcap : us.length ≤ cp) (hg : ∀ x ∈ us, (Lit.int .u16 x).wf = true) (b0 : 0 ≤ b) (b1 : b ≤ 255) (m0 : -9223372036854775808 ≤ m) (m1 : m ≤ 9223372036854775807) :
    Calls Try.prog 9 #[.slice A us.length cp, .int .u8 b, .int .i64 m] w fun e w' => e = .returned (.bool true) ∧ Below w.heap.size w w' := by
  have hmu := Kd.C_max hC
  have HC := Aside0.mk hC
  have HU := Aside0.mk (show ∀ u ∈ us, 0 ≤ u ∧ u ≤ 65535 from fun u hu => by
    have := (Lit.wf_int_iff .u16 u).1 (hg u hu)
    exact ⟨this.1, this.2⟩)
  clear hC hg
  obtain ⟨Wb, hWb⟩ : ∃ Wb, Wb = w.alloc (.cells #[.int .u8 b] 5) := ⟨_, rfl⟩
  have hbb : Below w.heap.size w Wb := by rw [hWb]; exact below_alloc (Below.refl _ _) _
  have hbc : Wb.heap[w.heap.size]? = some (.cells #[.int .u8 b] 5 (0, 0)) := by rw [hWb]; exact blk_new _ _
  have HB := Aside0.mk hbb
  have HBC := Aside0.mk hbc
  have HWB := Aside0.mk hWb
  clear hbb hbc hWb
  go_enter Try.func9, Try.ntmps9
  by_cases h300 : us.length ≤ 300
  · have d1 : decide (300 < us.length) = false := decide_eq_false (by omega)
    go_wp2_with (first
      | (go_at_call 35; rw [← HWB.out]; refine (awake25_any _).mono ?_; rintro e W9 ⟨rfl, hb⟩; have hbx := blk_below HBC.out hb; have hbn := below_step HB.out hb; clear HB HBC HWB; have HBC := Aside0.mk hbx; have HB := Aside0.mk hbn; clear hb hbn hbx))
    go_loopg [7, 8, 9] us.length (fun q v7 v8 v9 wr => ∃ (i n8 c7 c8 : Nat) (A7 A8 : Option Addr), v7 = .slice A7 i c7 ∧ v8 = .slice A8 n8 c8 ∧ v9 = .int .i64 (i : Int) ∧ i ≤ us.length ∧ n8 ≤ i ∧ Aside0 (q = us.length - i) ∧ Aside0 (Kd.R (Kd.int .i64) 3 wr w.heap.size (fun q => some q ≠ (Value.slice A8 n8 c8).ownBlock) (.slice A7 i c7) (numF us i)) ∧ Aside0 (Kd.R (Kd.int .i64) 3 wr w.heap.size (fun q => some q ≠ (Value.slice A7 i c7).ownBlock) (.slice A8 n8 c8) ((numF us i).filter (pB b))) ∧ Aside0 (wr.heap[w.heap.size]? = some (.cells #[.int .u8 b] 5 (0, 0))) ∧ Aside0 (Below w.heap.size w wr))
    case atStart => exact ⟨0, 0, 0, 0, none, none, rfl, rfl, rfl, Nat.zero_le _, Nat.le_refl _, ⟨rfl⟩, ⟨Kd.R_nil _ _ _ _ _⟩, ⟨Kd.R_nil _ _ _ _ _⟩, HBC, HB⟩
    case round =>
      clear HB HBC
      obtain ⟨i, n8, c7, c8, A7, A8, rfl, rfl, rfl, hi, hn8, hq, HA, HW, HBC, HB⟩ := hrel
      by_cases hlt : i < us.length
      · obtain ⟨ad, rfl, r1⟩ := at_u16 (Kd.C_below HC.out HB.out) i hlt
        have hub := HU.out (us.getD i 0) (List.mem_of_getElem? (show us[i]? = some (us.getD i 0) by rw [List.getD_eq_getElem?_getD, List.getElem?_eq_getElem hlt]; rfl))
        have HNX := Aside0.mk (show numF us (i + 1) = numF us i ++ [10 * (i : Int) + us.getD i 0 % 10] from rfl)
        generalize hux : us.getD i 0 = u at *
        have HUX := Aside0.mk hux
        clear hux
        obtain ⟨u0, u1⟩ := hub
        have hsz := HB.out.size
        have hl7 := numF_len us i
        go_wp2_with (at_builtin; refine Kd.R_append (Kd.int .i64) (w0 := w) w.heap.size rfl (.tmp 24) (.tmp 34) 70 3 (.int .i64 0) 8 rfl Try.underlying70 infoI64 rfl (by decide) (by omega) _ (numF us i) (10 * (i : Int) + u % 10) [.int .i64 (10 * (i : Int) + u % 10)] (fun q => some q ≠ (Value.slice A8 n8 c8).ownBlock) (fun _ => False) rfl rfl rfl (fun _ h => h.elim) (fun k hk e => by have := Kd.R_lt HW.out k e.symm; omega) HA.out HB.out hsz (by rw [numF_len]; omega) ?_; intro v1 w1 h1 hb1 hg1 hat1; rw [← HNX.out] at h1; obtain ⟨A9, c9, rfl⟩ := Kd.R_slice h1; rw [numF_len] at h1 hat1 ⊢; have HW1 := Aside0.mk (apart_next HW.out hg1 hat1); have HA1 := Aside0.mk h1; have HB1 := Aside0.mk hb1; have hbx := blk_grown HBC.out hg1 (Kd.R_ne HA.out HBC.out (by decide)); have HBC1 := Aside0.mk hbx; clear h1 hb1 hg1 hat1 hbx)
        have hwb : IntKind.i64.wrap (1 + b) = 1 + b := by rw [IntKind.wrap_i64]; omega
        have hcu : IntKind.i64.wrap u = u := by rw [IntKind.wrap_i64]; omega
        have hcb : IntKind.i64.wrap b = b := by rw [IntKind.wrap_i64]; omega
        have HPB := Aside0.mk (show ((u.tmod 10).tmod (1 + b) == 0) = pB b (10 * (i : Int) + u % 10) by
          unfold pB
          rw [show (10 * (i : Int) + u % 10) % 10 = u % 10 by omega, Int.tmod_eq_emod_of_nonneg u0, Int.tmod_eq_emod_of_nonneg (Int.emod_nonneg _ (by decide))])
        have HPC := Aside0.mk (show (u % 10 % (1 + b) == 0) = pB b (10 * (i : Int) + u % 10) by
          unfold pB
          rw [show (10 * (i : Int) + u % 10) % 10 = u % 10 by omega])
        have HFN := Aside0.mk (show (numF us (i + 1)).filter (pB b) = (numF us i).filter (pB b) ++ (if pB b (10 * (i : Int) + u % 10) then [10 * (i : Int) + u % 10] else []) by
          rw [HNX.out, List.filter_append]
          congr 1
          by_cases h : pB b (10 * (i : Int) + u % 10) = true <;> simp [h])
        obtain ⟨ad', e', r2⟩ := at_u16 (Kd.C_below HC.out HB1.out) i hlt
        obtain rfl : ad = ad' := by injection e'
        rw [HUX.out] at r2
        have cb := (blk_cell HBC1.out 0).trans (rfl : _ = some (Value.int .u8 b))
        have hi0 : (0 : Int) ≤ (i : Int) := by omega
        have hi1 : (i : Int) < (us.length : Int) := by omega
        clear e' r1 HA HW HBC HB hl7
        cases hpb : pB b (10 * (i : Int) + u % 10) with
        | false =>
          have HF := Aside0.mk (show (numF us (i + 1)).filter (pB b) = (numF us i).filter (pB b) by rw [HFN.out, hpb]; simp)
          have dq := HPB.out.trans hpb
          have dq2 := HPC.out.trans hpb
          clear hpb
          go_quiet (fail)
          go_wp2_with fail
          go_roundg (us.length - (i + 1))
          case measure => have := hq.out; omega
          case rel => exact ⟨i + 1, n8, c9, c8, A9, A8, rfl, rfl, by go_num, by omega, by omega, ⟨rfl⟩, ⟨Kd.R_drewN HA1.out _⟩, ⟨by rw [HF.out]; exact Kd.R_drewN HW1.out _⟩, ⟨blk_drewN HBC1.out _⟩, ⟨pw_below_drewN HB1.out _⟩⟩
        | true =>
          have HF := Aside0.mk (show (numF us (i + 1)).filter (pB b) = (numF us i).filter (pB b) ++ [10 * (i : Int) + u % 10] by rw [HFN.out, hpb]; rfl)
          have dq := HPB.out.trans hpb
          have dq2 := HPC.out.trans hpb
          clear hpb
          go_quiet (fail)
          generalize hWq : World.drewN _ _ = wq
          have HA2 := Aside0.mk (show Kd.R (Kd.int .i64) 3 wq w.heap.size (fun q => some q ≠ (Value.slice A8 n8 c8).ownBlock) (.slice A9 (i + 1) c9) (numF us (i + 1)) by rw [← hWq]; exact Kd.R_drewN HA1.out _)
          have HW2 := Aside0.mk (show Kd.R (Kd.int .i64) 3 wq w.heap.size (fun q => some q ≠ (Value.slice A9 (i + 1) c9).ownBlock) (.slice A8 n8 c8) ((numF us i).filter (pB b)) by rw [← hWq]; exact Kd.R_drewN HW1.out _)
          have HBC2 := Aside0.mk (show wq.heap[w.heap.size]? = some (.cells #[.int .u8 b] 5 (0, 0)) by rw [← hWq]; exact blk_drewN HBC1.out _)
          have HB2 := Aside0.mk (show Below w.heap.size w wq by rw [← hWq]; exact pw_below_drewN HB1.out _)
          have r3 : wq.cell? (ad.add i) = some (.int .u16 u) := by rw [← hWq]; exact pw_cell_below (pw_below_drewN (Below.refl _ _) _) r2
          have hn8l := (Kd.R_reads' HW2.out).1
          have hszq := HB2.out.size
          clear hWq r2 cb HA1 HW1 HBC1 HB1 dq dq2
          go_wp2_with (at_builtin; refine Kd.R_append (Kd.int .i64) (w0 := w) w.heap.size rfl (.tmp 47) (.tmp 57) 70 3 (.int .i64 0) 8 rfl Try.underlying70 infoI64 rfl (by decide) (by omega) _ ((numF us i).filter (pB b)) (10 * (i : Int) + u % 10) [.int .i64 (10 * (i : Int) + u % 10)] (fun q => some q ≠ (Value.slice A9 (i + 1) c9).ownBlock) (fun _ => False) rfl rfl rfl (fun _ h => h.elim) (fun k hk e => by have := Kd.R_lt HA2.out k e.symm; omega) HW2.out HB2.out hszq (by rw [← hn8l]; omega) ?_; intro v1 w1 h1 hb1 hg1 hat1; rw [← HF.out] at h1; obtain ⟨A10, c10, rfl⟩ := Kd.R_slice h1; have HA3 := Aside0.mk (apart_next HA2.out hg1 hat1); have HW3 := Aside0.mk h1; have HB3 := Aside0.mk hb1; have hbx := blk_grown HBC2.out hg1 (Kd.R_ne HW2.out HBC2.out (by decide)); have HBC3 := Aside0.mk hbx; clear h1 hb1 hg1 hat1 hbx)
          go_roundg (us.length - (i + 1))
          case measure => have := hq.out; omega
          case rel => exact ⟨i + 1, _, c9, c10, A9, A10, rfl, rfl, by go_num, by omega, (by rw [HF.out, List.length_append, ← hn8l]; simp; omega), ⟨rfl⟩, HA3, HW3, HBC3, HB3⟩
      · obtain rfl : i = us.length := by omega
        obtain ⟨xs, hxs⟩ : ∃ xs, xs = numF us us.length := ⟨_, rfl⟩
        rw [← hxs] at HA HW
        have HXB := Aside0.mk (show ∀ x ∈ xs, 0 ≤ x ∧ x ≤ 1000000 by
          rw [hxs]
          intro x hx
          obtain ⟨j, hj⟩ := List.mem_iff_getElem?.1 hx
          have hjl := (List.getElem?_eq_some_iff.1 hj).1
          rw [numF_len] at hjl
          have e := numF_get us us.length j hjl
          rw [List.getD_eq_getElem?_getD, hj] at e
          have h1 : 0 ≤ us.getD j 0 % 10 ∧ us.getD j 0 % 10 < 10 := ⟨Int.emod_nonneg _ (by decide), Int.emod_lt_of_pos _ (by decide)⟩
          have e2 : x = 10 * (j : Int) + us.getD j 0 % 10 := e
          omega)
        have HXA := Aside0.mk (show allF cT us.length [xs] = xs by rw [hxs]; exact allF_one _ _ (by rw [numF_len]; exact Nat.le_refl _) (num_rises us us.length (fun u hu => (HU.out u hu).1) (Nat.le_refl _)))
        have hxl : xs.length = us.length := by rw [hxs, numF_len]
        have HXL := Aside0.mk hxl
        clear hxs hxl
        have hszr := HB.out.size
        have HOF := Aside0.mk (of_any 38 _ 1 1 [xs] _ (show Kd.C kLL _ _ 1 _ from C_own (lit_LL (W := wr) (b := w.heap.size) HB.out.size [.slice A7 us.length c7] [xs] rfl (by show 1 ≤ 1000; omega) (fun j v l hv hl => by
          match j, hv, hl with
          | 0, hv, hl => cases hv; cases hl; exact Kd.R_mono HA.out (fun _ _ => trivial)
          | j + 1, hv, hl => simp at hv))) (by decide) (by intro j hj; have : j = 0 := (by simpa using hj); subst this; show xs.length ≤ 1000000; rw [HXL.out]; omega))
        have HB1 := Aside0.mk (below_step HB.out (below_alloc (Below.refl wr.heap.size wr) (.cells #[.slice A7 us.length c7] 70)))
        have HBC1 := Aside0.mk (blk_alloc HBC.out (.cells #[.slice A7 us.length c7] 70))
        have HW1 := Aside0.mk (Kd.R_alloc HW.out (.cells #[.slice A7 us.length c7] 70))
        go_wp2_with (first
          | (go_at_call 37; refine HOF.out.mono ?_; rintro e w1 ⟨g, A1, c1, rfl, hg, hlm, hb⟩; have HLM := Aside0.mk hlm; have HB2 := Aside0.mk (below_step HB1.out hb); have HBC2 := Aside0.mk (blk_below HBC1.out hb); have HW2 := Aside0.mk (Kd.R_below HW1.out hb); clear hlm hb hg)
          | (go_at_call 42; refine (all_value _ _).mono ?_; rintro e w2 ⟨rfl, hw2⟩; have hba : Below w1.heap.size w1 w2 := by rw [hw2]; exact below_alloc (Below.refl _ _) _
             have hcx : w2.cell? ⟨w1.heap.size, 0, none⟩ = some (.pointer (some ⟨g, 0, none⟩)) := by rw [hw2]; exact (blk_cell (blk_new w1 (.cells #[.pointer (some ⟨g, 0, none⟩)] 67)) 0).trans rfl
             have hsq := fun n => all_T n w1.heap.size g c1 us.length A1 [xs] w2 hcx (HLM.out.below hba) (by intro l hl x hx; have : l = xs := (by simpa using hl); subst this; exact HXB.out x hx) (by show 1 ≤ 1000000; omega) (by intro l hl; have : l = xs := (by simpa using hl); subst this; rw [HXL.out]; omega) (by unfold totF; simp [HXL.out])
             rw [HXA.out] at hsq
             have HSQ := Aside0.mk hsq; have HB3 := Aside0.mk (below_step HB2.out hba); have HBC3 := Aside0.mk (blk_below HBC2.out hba); have HW3 := Aside0.mk (Kd.R_below HW2.out hba); clear hba hcx hsq hw2)
          | (go_at_call 51; refine (filter_value _ _ _ rfl rfl _ _ _ _ rfl rfl).mono ?_; rintro e w3 ⟨rfl, hw3⟩; have hba : Below w2.heap.size w2 w3 := by rw [hw3]; exact (below_alloc (Below.refl _ _) _).alloc (by simp) _
             have hs3 : w3.cell? ⟨w2.heap.size, 0, none⟩ = some (.func (.func 71) #[] #[.pointer (some ⟨w1.heap.size, 0, none⟩)]) := by rw [hw3]; exact cell_al _ ((blk_cell (blk_new w2 _) 0).trans rfl)
             have hp3 : w3.cell? ⟨w2.heap.size + 1, 0, none⟩ = some (.func (.func 52) #[] #[.pointer (some ⟨w.heap.size, 0, none⟩)]) := by
               have hn := blk_new (w2.alloc (.cells #[.func (.func 71) #[] #[.pointer (some ⟨w1.heap.size, 0, none⟩)]] 75)) (.cells #[.func (.func 52) #[] #[.pointer (some ⟨w.heap.size, 0, none⟩)]] 61)
               rw [World.size_alloc] at hn
               rw [hw3]
               exact (blk_cell hn 0).trans rfl
             have hbc := blk_below HBC3.out hba
             have hfs := fun n => filter_seq n w2.heap.size (w2.heap.size + 1) w1.heap.size #[.pointer (some ⟨w.heap.size, 0, none⟩)] xs (pB b) w2.heap.size w2 w3 HSQ.out (Nat.le_refl _) hba hs3 hp3 (fun x hx X hX => ask_any w.heap.size b x X (pw_cell_below hX ((blk_cell hbc 0).trans rfl)) b0 b1 (HXB.out x hx).1 (HXB.out x hx).2)
             have HFS := Aside0.mk hfs; have HB4 := Aside0.mk (below_step HB3.out hba); have HW4 := Aside0.mk (Kd.R_below HW3.out hba); clear hba hs3 hp3 hbc hfs hw3)
          | (go_at_call 41; refine (collected_F _ _ _ _ _ HFS.out (Nat.le_refl _) (Below.refl _ _) (Nat.le_trans (List.length_filter_le _ _) (by rw [HXL.out]; omega))).mono ?_; rintro e w4 ⟨v4, rfl, hv, hb⟩; obtain ⟨A4, c4, rfl⟩ := Kd.R_slice hv; have HV4 := Aside0.mk hv; have HB5 := Aside0.mk (below_step HB4.out hb); have HW5 := Aside0.mk (Kd.R_below HW4.out hb); have HX34 := Aside0.mk hb; clear hv hb)
          | (go_at_call 40; (with_reducible refine (same_any A4 A8 _ _ c4 c8 (xs.filter (pB b)) _ (C_own HV4.out) (C_own HW5.out)).mono ?_); rintro e w5 ⟨rfl, hb⟩; have HB6 := Aside0.mk (below_step HB5.out hb); have HW6 := Aside0.mk (Kd.R_below HW5.out hb); have HX35 := Aside0.mk (below_step HX34.out hb); clear hb))
        have HSV := Aside0.mk (show Calls Try.prog 53 #[.func (.func 77) #[] #[.pointer (some ⟨w2.heap.size, 0, none⟩), .pointer (some ⟨w2.heap.size + 1, 0, none⟩)], .int .i64 m] w5.drew fun e w' => e = .returned (.func (.func 78) #[] #[.pointer (some ⟨w5.heap.size + 1, 0, none⟩), .pointer (some ⟨w5.heap.size, 0, none⟩)]) ∧ w' = (w5.drew.alloc (.cells #[.func (.func 77) #[] #[.pointer (some ⟨w2.heap.size, 0, none⟩), .pointer (some ⟨w2.heap.size + 1, 0, none⟩)]] 75)).alloc (.cells #[.int .i64 m] 3) from some_value m _ _ w5.drew)
        have hn8l := (Kd.R_reads' HW6.out).1
        have HXF := Aside0.mk (show (xs.filter (pB b)).length ≤ 1000000 from Nat.le_trans (List.length_filter_le _ _) (by rw [HXL.out]; omega))
        have hc8 := (Kd.R_reads' HW6.out).2.1
        have HNL := Aside0.mk hn8l
        clear hn8l
        have HWK := Aside0.mk (show ∀ (kk : Nat) W1, kk = min m.toNat n8 → Kd.R (Kd.int .i64) 3 W1 w.heap.size (fun q => some q ≠ (Value.slice A7 us.length c7).ownBlock) (.slice A8 n8 c8) (xs.filter (pB b)) → (Kd.int .i64).C W1 A8 kk ((xs.filter (pB b)).take m.toNat) from fun kk W1 hkk h => by
          have h1 := Kd.C_take (m := kk) (show (Kd.int .i64).C W1 A8 (xs.filter (pB b)).length (xs.filter (pB b)) by rw [← HNL.out]; exact C_own h) (by rw [← HNL.out, hkk]; exact Nat.min_le_right _ _)
          have e : (xs.filter (pB b)).take kk = (xs.filter (pB b)).take m.toNat := by
            rw [hkk, HNL.out]
            exact (List.take_eq_take_min ..).symm
          rw [e] at h1
          have e2 : ((xs.filter (pB b)).take m.toNat).length = kk := by rw [List.length_take, hkk, HNL.out]
          rwa [e2] at h1)
        obtain ⟨i0, hi0, _, _, _⟩ := info_parts infoI64
        have cutM : ∀ (kk : Nat) (z : Int) (W : World), z = (kk : Int) → kk ≤ n8 → (Instr.slice 70 (.slice A8 n8 c8) none (some (.int .i64 z)) none).run Try.prog W = .ok (.slice A8 kk c8) W := fun kk z W hz hkn => by
          subst hz
          have := cut_to (P := Try.prog) 70 3 .i64 Try.underlying70 hi0 A8 n8 c8 (kk : Int) (by omega) (by omega) hc8 W
          simpa using this
        have HCUT := Aside0.mk cutM
        clear hi0 cutM
        by_cases hm : m < 0
        · have hmn : ¬ (n8 : Int) < 0 := by omega
          have hx1 : max m 0 = 0 := by omega
          have hx2 : min (0 : Int) (n8 : Int) = 0 := by omega
          have HKE := Aside0.mk (show 0 = min m.toNat n8 by omega)
          have cutK : ∀ W : World, _ := fun W => HCUT.out 0 0 W rfl (by omega)
          go_region_held3 (fun w' => True) (trivial) (first
            | (go_at_call 53; refine HSV.out.mono ?_; rintro e w6 ⟨rfl, hw6⟩; have hba : Below w5.heap.size w5 w6 := by rw [hw6]; exact ((below_alloc (below_drew1 (Below.refl w5.heap.size w5)) _).alloc (by simp) _)
               have hs3 : w6.cell? ⟨w5.heap.size, 0, none⟩ = some (.func (.func 77) #[] #[.pointer (some ⟨w2.heap.size, 0, none⟩), .pointer (some ⟨w2.heap.size + 1, 0, none⟩)]) := by rw [hw6]; exact cell_al _ ((blk_cell (blk_new w5.drew _) 0).trans rfl)
               have hp3 : w6.cell? ⟨w5.heap.size + 1, 0, none⟩ = some (.int .i64 m) := by
                 have hn := blk_new (w5.drew.alloc (.cells #[.func (.func 77) #[] #[.pointer (some ⟨w2.heap.size, 0, none⟩), .pointer (some ⟨w2.heap.size + 1, 0, none⟩)]] 75)) (.cells #[.int .i64 m] 3)
                 rw [World.size_alloc] at hn
                 rw [hw6]
                 exact (blk_cell hn 0).trans rfl
               have HSS := Aside0.mk (fun n => some_seq n (w5.heap.size + 1) w5.heap.size w2.heap.size (w2.heap.size + 1) m (xs.filter (pB b)) w3.heap.size w3 w6 HFS.out (Nat.le_refl _) (below_step HX35.out hba) HXF.out hs3 hp3)
               have HB7 := Aside0.mk (below_step HB6.out hba); have HW7 := Aside0.mk (Kd.R_below HW6.out hba); clear hba hs3 hp3 hw6)
            | (go_at_call 41; (with_reducible refine (collected_S _ _ _ _ _ HSS.out (Nat.le_refl _) (Below.refl _ _) (by rw [List.length_take]; have := HXF.out; omega)).mono ?_); rintro e w7 ⟨v7, rfl, hv, hb⟩; obtain ⟨A9, c9, rfl⟩ := Kd.R_slice hv; generalize hk9 : ((xs.filter (pB b)).take m.toNat).length = k9 at hv ⊢; clear hk9; have HV8 := Aside0.mk hv; have HB8 := Aside0.mk (below_step HB7.out hb); have HW8 := Aside0.mk (Kd.R_below HW7.out hb); clear hv hb)
            | (go_at_call 40; (with_reducible refine (same_any A9 A8 _ _ c9 c8 ((xs.filter (pB b)).take m.toNat) _ (C_own HV8.out) (HWK.out _ _ HKE.out HW8.out)).mono ?_); rintro e w8 ⟨rfl, hb⟩; have HB9 := Aside0.mk (below_step HB8.out hb); clear hb)
            | (go_at_call 35; refine (awake25_any _).mono ?_; rintro e w9 ⟨rfl, hb⟩; have HB10 := Aside0.mk (below_step HB9.out hb); clear hb))
          all_goals
            go_wp2_with fail
            go_ret
            exact ⟨rfl, HB10.out⟩
        · by_cases hmn : (n8 : Int) < m
          · have hx1 : max m 0 = m := by omega
            have hx2 : min m (n8 : Int) = (n8 : Int) := by omega
            have HKE := Aside0.mk (show n8 = min m.toNat n8 by omega)
            have cutK : ∀ W : World, _ := fun W => HCUT.out n8 (n8 : Int) W rfl (by omega)
            go_region_held3 (fun w' => True) (trivial) (first
              | (go_at_call 53; refine HSV.out.mono ?_; rintro e w6 ⟨rfl, hw6⟩; have hba : Below w5.heap.size w5 w6 := by rw [hw6]; exact ((below_alloc (below_drew1 (Below.refl w5.heap.size w5)) _).alloc (by simp) _)
                 have hs3 : w6.cell? ⟨w5.heap.size, 0, none⟩ = some (.func (.func 77) #[] #[.pointer (some ⟨w2.heap.size, 0, none⟩), .pointer (some ⟨w2.heap.size + 1, 0, none⟩)]) := by rw [hw6]; exact cell_al _ ((blk_cell (blk_new w5.drew _) 0).trans rfl)
                 have hp3 : w6.cell? ⟨w5.heap.size + 1, 0, none⟩ = some (.int .i64 m) := by
                   have hn := blk_new (w5.drew.alloc (.cells #[.func (.func 77) #[] #[.pointer (some ⟨w2.heap.size, 0, none⟩), .pointer (some ⟨w2.heap.size + 1, 0, none⟩)]] 75)) (.cells #[.int .i64 m] 3)
                   rw [World.size_alloc] at hn
                   rw [hw6]
                   exact (blk_cell hn 0).trans rfl
                 have HSS := Aside0.mk (fun n => some_seq n (w5.heap.size + 1) w5.heap.size w2.heap.size (w2.heap.size + 1) m (xs.filter (pB b)) w3.heap.size w3 w6 HFS.out (Nat.le_refl _) (below_step HX35.out hba) HXF.out hs3 hp3)
                 have HB7 := Aside0.mk (below_step HB6.out hba); have HW7 := Aside0.mk (Kd.R_below HW6.out hba); clear hba hs3 hp3 hw6)
              | (go_at_call 41; (with_reducible refine (collected_S _ _ _ _ _ HSS.out (Nat.le_refl _) (Below.refl _ _) (by rw [List.length_take]; have := HXF.out; omega)).mono ?_); rintro e w7 ⟨v7, rfl, hv, hb⟩; obtain ⟨A9, c9, rfl⟩ := Kd.R_slice hv; generalize hk9 : ((xs.filter (pB b)).take m.toNat).length = k9 at hv ⊢; clear hk9; have HV8 := Aside0.mk hv; have HB8 := Aside0.mk (below_step HB7.out hb); have HW8 := Aside0.mk (Kd.R_below HW7.out hb); clear hv hb)
              | (go_at_call 40; (with_reducible refine (same_any A9 A8 _ _ c9 c8 ((xs.filter (pB b)).take m.toNat) _ (C_own HV8.out) (HWK.out _ _ HKE.out HW8.out)).mono ?_); rintro e w8 ⟨rfl, hb⟩; have HB9 := Aside0.mk (below_step HB8.out hb); clear hb)
              | (go_at_call 35; refine (awake25_any _).mono ?_; rintro e w9 ⟨rfl, hb⟩; have HB10 := Aside0.mk (below_step HB9.out hb); clear hb))
            all_goals
              go_wp2_with fail
              go_ret
              exact ⟨rfl, HB10.out⟩
          · have hx1 : max m 0 = m := by omega
            have hx2 : min m (n8 : Int) = m := by omega
            have HKE := Aside0.mk (show m.toNat = min m.toNat n8 by omega)
            have cutK : ∀ W : World, _ := fun W => HCUT.out m.toNat m W (by omega) (by omega)
            go_region_held3 (fun w' => True) (trivial) (first
              | (go_at_call 53; refine HSV.out.mono ?_; rintro e w6 ⟨rfl, hw6⟩; have hba : Below w5.heap.size w5 w6 := by rw [hw6]; exact ((below_alloc (below_drew1 (Below.refl w5.heap.size w5)) _).alloc (by simp) _)
                 have hs3 : w6.cell? ⟨w5.heap.size, 0, none⟩ = some (.func (.func 77) #[] #[.pointer (some ⟨w2.heap.size, 0, none⟩), .pointer (some ⟨w2.heap.size + 1, 0, none⟩)]) := by rw [hw6]; exact cell_al _ ((blk_cell (blk_new w5.drew _) 0).trans rfl)
                 have hp3 : w6.cell? ⟨w5.heap.size + 1, 0, none⟩ = some (.int .i64 m) := by
                   have hn := blk_new (w5.drew.alloc (.cells #[.func (.func 77) #[] #[.pointer (some ⟨w2.heap.size, 0, none⟩), .pointer (some ⟨w2.heap.size + 1, 0, none⟩)]] 75)) (.cells #[.int .i64 m] 3)
                   rw [World.size_alloc] at hn
                   rw [hw6]
                   exact (blk_cell hn 0).trans rfl
                 have HSS := Aside0.mk (fun n => some_seq n (w5.heap.size + 1) w5.heap.size w2.heap.size (w2.heap.size + 1) m (xs.filter (pB b)) w3.heap.size w3 w6 HFS.out (Nat.le_refl _) (below_step HX35.out hba) HXF.out hs3 hp3)
                 have HB7 := Aside0.mk (below_step HB6.out hba); have HW7 := Aside0.mk (Kd.R_below HW6.out hba); clear hba hs3 hp3 hw6)
              | (go_at_call 41; (with_reducible refine (collected_S _ _ _ _ _ HSS.out (Nat.le_refl _) (Below.refl _ _) (by rw [List.length_take]; have := HXF.out; omega)).mono ?_); rintro e w7 ⟨v7, rfl, hv, hb⟩; obtain ⟨A9, c9, rfl⟩ := Kd.R_slice hv; generalize hk9 : ((xs.filter (pB b)).take m.toNat).length = k9 at hv ⊢; clear hk9; have HV8 := Aside0.mk hv; have HB8 := Aside0.mk (below_step HB7.out hb); have HW8 := Aside0.mk (Kd.R_below HW7.out hb); clear hv hb)
              | (go_at_call 40; (with_reducible refine (same_any A9 A8 _ _ c9 c8 ((xs.filter (pB b)).take m.toNat) _ (C_own HV8.out) (HWK.out _ _ HKE.out HW8.out)).mono ?_); rintro e w8 ⟨rfl, hb⟩; have HB9 := Aside0.mk (below_step HB8.out hb); clear hb)
              | (go_at_call 35; refine (awake25_any _).mono ?_; rintro e w9 ⟨rfl, hb⟩; have HB10 := Aside0.mk (below_step HB9.out hb); clear hb))
            all_goals
              go_wp2_with fail
              go_ret
              exact ⟨rfl, HB10.out⟩
  · have d1 : decide (300 < us.length) = true := decide_eq_true (by omega)
    go_wp2_with (first
      | (go_at_call 35; rw [← HWB.out]; refine (awake25_any _).mono ?_; rintro e W9 ⟨rfl, hb⟩; have hbn := below_step HB.out hb; clear HB HWB; have HB := Aside0.mk hbn; clear hb hbn)
      | (go_at_call 35; refine (awake25_any _).mono ?_; rintro e W9 ⟨rfl, hb⟩; have hbn := below_step HB.out hb; clear HB; have HB := Aside0.mk hbn; clear hb hbn))
    go_ret
    exact ⟨rfl, HB.out⟩
end Go.Proofs.Ytldiginkmmlojaa
