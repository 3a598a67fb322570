/- Merging: the reference: numbers that rise by tens, as they come. -/
import Derived.Test.YtldiginkmmlojaaMfR
namespace Go.Proofs.Ytldiginkmmlojaa
set_option linter.unusedVariables false
set_option linter.unusedSimpArgs false
open Go.RowKit Go.Proofs.YtldiginkmmlojaaW.PrintWords

set_option maxRecDepth 100000 in
set_option maxHeartbeats 4000000 in
theorem sorted25_any (A : Option Addr) (c : Nat) (l : List Int) (w : World) (hC : (Kd.int .i64).C w A l.length l) (hl : l.length ≤ 1000) (hv : ∀ y ∈ l, 0 ≤ y ∧ y ≤ 1000000) :
    Calls Try.prog 68 #[.slice A l.length c] w fun e w' => ∃ A' c', e = .returned (.slice A' (sortT l).length c') ∧ Kd.R (Kd.int .i64) 3 w' w.heap.size (fun _ => True) (.slice A' (sortT l).length c') (sortT l) ∧ Below w.heap.size w w' := by
  have HC := Aside0.mk hC
  have HV := Aside0.mk (show ∀ i, i < l.length → 0 ≤ l.getD i 0 ∧ l.getD i 0 ≤ 1000000 from fun i hi => hv _ (List.mem_of_getElem? (show l[i]? = some (l.getD i 0) by rw [List.getD_eq_getElem?_getD, List.getElem?_eq_getElem hi]; rfl)))
  have HVM := Aside0.mk hv
  clear hC hv
  go_enter Try.func68, Try.ntmps68
  go_wp2_with fail
  go_loopg [3, 4] l.length (fun q v3 v4 wr => ∃ (i c3 : Nat) (A3 : Option Addr) (o : List Int), v3 = .slice A3 i c3 ∧ v4 = .int .i64 (i : Int) ∧ i ≤ l.length ∧ Aside0 (o.length = i) ∧ Aside0 (o = (l.take i).foldl insS []) ∧ Aside0 (q = l.length - i) ∧ Aside0 (Kd.R (Kd.int .i64) 3 wr w.heap.size (fun _ => True) (.slice A3 i c3) o) ∧ Aside0 (Below w.heap.size w wr))
  case atStart => exact ⟨0, 0, none, [], rfl, rfl, Nat.zero_le _, ⟨rfl⟩, ⟨rfl⟩, ⟨rfl⟩, ⟨Kd.R_nil _ _ _ _ _⟩, ⟨Below.refl _ _⟩⟩
  case round =>
    obtain ⟨i, c3, A3, o, rfl, rfl, hi, HOL, HO, hq, HA, HB⟩ := hrel
    by_cases hlt : i < l.length
    · have HXI := Aside0.mk (HV.out i hlt)
      have HRD := Aside0.mk (fun W (h : Below w.heap.size w W) => at_i64 (Kd.C_below HC.out h) i hlt)
      have HSN := Aside0.mk (show (l.take (i + 1)).foldl insS [] = insS o (l.getD i 0) by rw [List.take_succ_eq_append_getElem hlt, List.foldl_append, ← HO.out, List.getD_eq_getElem?_getD, List.getElem?_eq_getElem hlt]; rfl)
      have HOB := Aside0.mk (show ∀ j, j < i → 0 ≤ o.getD j 0 ∧ o.getD j 0 ≤ 1000000 from fun j hj => by
        have hm : o.getD j 0 ∈ o := List.mem_of_getElem? (show o[j]? = some (o.getD j 0) by rw [List.getD_eq_getElem?_getD, List.getElem?_eq_getElem (by rw [HOL.out]; exact hj)]; rfl)
        have h2 : o.getD j 0 ∈ (l.take i).foldl insS [] := by rw [← HO.out]; exact hm
        rcases (sortT_law (l.take i) [] List.Pairwise.nil).2.1 _ h2 with h | h
        · cases h
        · exact HVM.out _ (List.take_subset _ _ h))
      generalize l.getD i 0 = x at *
      go_wp2_with fail
      go_loopg [5] (i + 1) (fun q v5 wr2 => ∃ (n : Nat), v5 = .int .i64 (n : Int) ∧ n ≤ i ∧ Aside0 (q = n + 1) ∧ Aside0 (posT o x o.length = posT o x n) ∧ Aside0 (Kd.R (Kd.int .i64) 3 wr2 w.heap.size (fun _ => True) (.slice A3 i c3) o) ∧ Aside0 (Below w.heap.size w wr2))
      case atStart => exact ⟨i, rfl, Nat.le_refl _, ⟨rfl⟩, ⟨by rw [HOL.out]⟩, HA, HB⟩
      case round =>
        clear HA HB
        obtain ⟨n, rfl, hn, hq2, HPO, HA, HB⟩ := hrel
        obtain ⟨x0, x1⟩ := HXI.out
        have hsz := HB.out.size
        have hi0 : (0 : Int) ≤ (i : Int) := by omega
        have hi1 : (i : Int) < (l.length : Int) := by omega
        by_cases hstep : 0 < n ∧ x / 10 < o.getD (n - 1) 0 / 10
        · obtain ⟨hn0, hbg⟩ := hstep
          obtain ⟨m, hm⟩ : ∃ m, m = n - 1 := ⟨_, rfl⟩
          rw [← hm] at hbg
          have hmi : m < i := by omega
          obtain ⟨y0, y1⟩ := HOB.out m hmi
          obtain ⟨ad, rfl, r1⟩ := HRD.out wr HB.out
          obtain ⟨ad3, rfl, r3⟩ := at_i64 (C_own HA.out) m hmi
          have HPN := Aside0.mk (show posT o x n = posT o x m by
            obtain rfl : n = m + 1 := by omega
            show (if x / 10 < o.getD m 0 / 10 then posT o x m else m + 1) = _
            rw [if_pos hbg])
          have HMN := Aside0.mk hm
          generalize o.getD m 0 = y at *
          have d2 : decide (x / 10 < y / 10) = true := decide_eq_true hbg
          have d3 : decide (0 < n) = true := decide_eq_true hn0
          have hwm : IntKind.i64.wrap ((n : Int) - 1) = (m : Int) := by rw [IntKind.wrap_i64]; omega
          have hm0 : (0 : Int) ≤ (m : Int) := by omega
          have hm1 : (m : Int) < (i : Int) := by omega
          clear hm hbg
          go_wp2_with fail
          go_quiet (fail)
          go_wp2_with fail
          go_roundg (m + 1)
          case measure => have h1 := hq2.out; have h2 := HMN.out; omega
          case rel => exact ⟨m, by go_num, by omega, ⟨rfl⟩, ⟨by rw [HPO.out, HPN.out]⟩, ⟨Kd.R_drewN HA.out _⟩, ⟨pw_below_drewN HB.out _⟩⟩
        · have HPN := Aside0.mk (show insS o x = (o.take n ++ [x]) ++ o.drop n by
            have hp : posT o x n = n := by
              cases n with
              | zero => rfl
              | succ m =>
                show (if x / 10 < o.getD m 0 / 10 then posT o x m else m + 1) = _
                rw [if_neg (show ¬ x / 10 < o.getD m 0 / 10 from fun h => hstep ⟨Nat.succ_pos _, h⟩)]
            unfold insS
            rw [HPO.out, hp]
            simp)
          obtain ⟨ad, rfl, r1⟩ := HRD.out wr HB.out
          by_cases hn0 : 0 < n
          · obtain ⟨m, hm⟩ : ∃ m, m = n - 1 := ⟨_, rfl⟩
            have hmi : m < i := by omega
            obtain ⟨y0, y1⟩ := HOB.out m hmi
            obtain ⟨ad3, rfl, r3⟩ := at_i64 (C_own HA.out) m hmi
            have hbg : ¬ x / 10 < o.getD m 0 / 10 := fun h => hstep ⟨hn0, by rw [← hm]; exact h⟩
            generalize o.getD m 0 = y at *
            have d2 : decide (x / 10 < y / 10) = false := decide_eq_false hbg
            have d3 : decide (0 < n) = true := decide_eq_true hn0
            have hwm : IntKind.i64.wrap ((n : Int) - 1) = (m : Int) := by rw [IntKind.wrap_i64]; omega
            have hm0 : (0 : Int) ≤ (m : Int) := by omega
            have hm1 : (m : Int) < (i : Int) := by omega
            clear hm hbg hstep
            go_wp2_with fail
            go_quiet (fail)
            clear r3 d2 d3 hwm hm0 hm1 y0 y1 hn0
            generalize hWq : World.drewN _ _ = wq
            have HA2 := Aside0.mk (show Kd.R (Kd.int .i64) 3 wq w.heap.size (fun _ => True) (.slice (some ad3) i c3) o by rw [← hWq]; exact Kd.R_drewN HA.out _)
            have HB2 := Aside0.mk (show Below w.heap.size w wq by rw [← hWq]; exact pw_below_drewN HB.out _)
            clear hWq HA HB r1
            obtain ⟨ad', e', r1⟩ := HRD.out wq HB2.out
            obtain rfl : ad = ad' := by injection e'
            have hc3 := (Kd.R_reads' HA2.out).2.1
            obtain ⟨i0, hi0, hz0, hz1, hz2⟩ := info_parts infoI64
            have cutA : ∀ W : World, (Instr.slice 70 (.slice (some ad3) i c3) none (some (.int .i64 (n : Int))) none).run Try.prog W = .ok (.slice (some ad3) n c3) W := fun W => by
              have := cut_to (P := Try.prog) 70 3 .i64 Try.underlying70 hi0 (some ad3) i c3 (n : Int) (by omega) (by omega) hc3 W
              simpa using this
            obtain ⟨A9, hA9⟩ : ∃ A9, A9 = (if c3 = n then (some ad3) else (some ad3).map (·.add (n * 1))) := ⟨_, rfl⟩
            have cutB : ∀ W : World, (Instr.slice 70 (.slice (some ad3) i c3) (some (.int .i64 (n : Int))) none none).run Try.prog W = .ok (.slice A9 (i - n) (c3 - n)) W := fun W => by
              have := cut_from (P := Try.prog) 70 3 .i64 Try.underlying70 hi0 1 hz1 (some ad3) i c3 (n : Int) (by omega) (by omega) W
              rw [hA9]
              simpa using this
            have HTL := Aside0.mk (show (o.take n).length = n by rw [List.length_take, HOL.out]; omega)
            have HTL2 := Aside0.mk (show (o.take n ++ [x]).length = n + 1 by rw [List.length_append, HTL.out]; rfl)
            have HDL := Aside0.mk (show (o.drop n).length = i - n by rw [List.length_drop, HOL.out])
            have HIL := Aside0.mk (show (insS o x).length = i + 1 by rw [insS_len, HOL.out])
            have HCO := Aside0.mk (show Kd.C (Kd.int .i64) wq (some ad3) o.length o by rw [HOL.out]; exact C_own HA2.out)
            have HCA := Aside0.mk (show Kd.C (Kd.int .i64) wq (some ad3) n (o.take n) by have := Kd.C_take (m := n) HCO.out (by rw [HOL.out]; exact hn); rwa [HTL.out] at this)
            have HCB := Aside0.mk (show Kd.C (Kd.int .i64) wq A9 (i - n) (o.drop n) by have := Kd.C_drop (m := n) HCO.out (by rw [HOL.out]; exact hn) (by rw [HOL.out]; exact hc3); rwa [HDL.out, show (Kd.int .i64).sz = 1 from rfl, ← hA9] at this)
            have hbd : Below wq.heap.size wq wq.drew := below_drew1 (Below.refl _ _)
            have HBa := Aside0.mk (show Below wq.heap.size wq (wq.drew.alloc (.cells #[] 3)) from hbd.alloc (Nat.le_refl _) _)
            have HBb := Aside0.mk (show Below wq.heap.size wq ((wq.drew.alloc (.cells #[] 3)).alloc (.cells #[.int .i64 x] 3)) from HBa.out.alloc (by simp) _)
            have HBc := Aside0.mk (show Below wq.heap.size wq ((wq.drew.alloc (.cells #[.int .i64 x] 3)).alloc (.cells #[] 3)) from (hbd.alloc (Nat.le_refl _) _).alloc (by simp) _)
            have HEa := Aside0.mk (show Kd.R (Kd.int .i64) 3 (wq.drew.alloc (.cells #[] 3)) wq.heap.size (fun _ => True) (.slice (some ⟨wq.heap.size, 0, none⟩) 0 0) [] from R_empty _ _ wq.drew wq.heap.size _ trivial (Nat.le_refl _))
            have HEb := Aside0.mk (Kd.R_alloc HEa.out (.cells #[.int .i64 x] 3))
            have HEc := Aside0.mk (show Kd.R (Kd.int .i64) 3 ((wq.drew.alloc (.cells #[.int .i64 x] 3)).alloc (.cells #[] 3)) wq.heap.size (fun _ => True) (.slice (some ⟨wq.heap.size + 1, 0, none⟩) 0 0) [] by
              have := R_empty (Kd.int .i64) 3 (wq.drew.alloc (.cells #[.int .i64 x] 3)) wq.heap.size (fun _ => True) trivial (by simp)
              rw [World.size_alloc] at this
              exact this)
            have HLb := Aside0.mk (show Kd.R (Kd.int .i64) 3 ((wq.drew.alloc (.cells #[] 3)).alloc (.cells #[.int .i64 x] 3)) wq.heap.size (fun q => some q ≠ (Value.slice (some ⟨wq.heap.size, 0, none⟩) 0 0).ownBlock) (.slice (some ⟨wq.heap.size + 1, 0, none⟩) 1 1) [x] by
              have := lit_ints (wq.drew.alloc (.cells #[] 3)) wq.heap.size [x] (by simp) (by simp)
              rw [World.size_alloc] at this
              exact R_reok64 this (fun q hq e => by simp [Value.ownBlock] at hq e; omega))
            have HLc := Aside0.mk (show Kd.R (Kd.int .i64) 3 ((wq.drew.alloc (.cells #[.int .i64 x] 3)).alloc (.cells #[] 3)) wq.heap.size (fun q => some q ≠ (Value.slice (some ⟨wq.heap.size + 1, 0, none⟩) 0 0).ownBlock) (.slice (some ⟨wq.heap.size, 0, none⟩) 1 1) [x] by
              have := lit_ints wq.drew wq.heap.size [x] (Nat.le_refl _) (by simp)
              exact R_reok64 (Kd.R_alloc this _) (fun q hq e => by simp [Value.ownBlock] at hq e; have h9 : wq.drew.heap.size = wq.heap.size := rfl; omega))
            have r1d := pw_cell_below hbd r1
            have r1a := cell_al (.cells #[] 3) r1
            have R1 := Aside0.mk r1
            have hsq := HB2.out.size
            have hn0 : (0 : Int) ≤ (n : Int) := by omega
            have hni : (n : Int) ≤ (i : Int) := by omega
            clear hi0 hz0 hz1 hz2 hA9 hbd e' hc3
            go_wp2_with fail
            go_region_law (first
              | (refine Kd.R_append_rows_step (Kd.int .i64) (Rr := (Kd.int .i64).K (wq.drew.alloc (.cells #[] 3))) (w0 := wq) wq.heap.size (by rfl) (.tmp 32) (.tmp 35) 70 3 (.int .i64 0) 8 rfl Try.underlying70 infoI64 rfl (by decide) (by omega) (.slice (some ⟨wq.heap.size, 0, none⟩) 0 0) [] (o.take n) (some ad3) n c3 (fun _ => True) (fun _ => False) (by rfl) (by rfl) HEa.out (Kd.C_below HCA.out HBa.out) (fun _ _ h => h) (fun _ h => h.elim) (fun _ _ => trivial) HBa.out HBa.out.size (by simp; omega) ?_; intro v1 w1 h1 hb1 hg1 _; rw [List.nil_append] at h1; obtain ⟨A6, c6, rfl, hc6, _⟩ := Kd.R_reads h1; rw [HTL.out] at h1 hc6 ⊢; have HR1 := Aside0.mk h1; have HBR := Aside0.mk hb1; (have r1 := pw_cell_below hb1 R1.out; have HLT := Aside0.mk (show Kd.C (Kd.int .i64) (w1.alloc (.cells #[.int .i64 x] 3)) (some ⟨w1.heap.size, 0, none⟩) 1 [x] from C_own (lit_ints w1 w1.heap.size [x] (Nat.le_refl _) (by simp))); have HR1a := Aside0.mk (Kd.R_alloc HR1.out (.cells #[.int .i64 x] 3)); have HBRa := Aside0.mk (hb1.alloc hb1.size (.cells #[.int .i64 x] 3))); clear h1 hb1 hg1 hc6)
              | (refine Kd.R_append_rows_step (Kd.int .i64) (Rr := (Kd.int .i64).K ((wq.drew.alloc (.cells #[] 3)).alloc (.cells #[.int .i64 x] 3))) (w0 := wq) wq.heap.size (by rfl) (.tmp 32) (.tmp 35) 70 3 (.int .i64 0) 8 rfl Try.underlying70 infoI64 rfl (by decide) (by omega) (.slice (some ⟨wq.heap.size, 0, none⟩) 0 0) [] (o.take n) (some ad3) n c3 (fun _ => True) (fun _ => False) (by rfl) (by rfl) HEb.out (Kd.C_below HCA.out HBb.out) (fun _ _ h => h) (fun _ h => h.elim) (fun _ _ => trivial) HBb.out HBb.out.size (by simp; omega) ?_; intro v1 w1 h1 hb1 hg1 _; rw [List.nil_append] at h1; obtain ⟨A6, c6, rfl, hc6, _⟩ := Kd.R_reads h1; rw [HTL.out] at h1 hc6 ⊢; have HR1 := Aside0.mk h1; have HBR := Aside0.mk hb1; (have HL1 := Aside0.mk (Kd.R_grown HLb.out hg1 (fun k hk => hk))); clear h1 hb1 hg1 hc6)
              | (refine Kd.R_append_rows_step (Kd.int .i64) (Rr := (Kd.int .i64).K ((wq.drew.alloc (.cells #[.int .i64 x] 3)).alloc (.cells #[] 3))) (w0 := wq) wq.heap.size (by rfl) (.tmp 32) (.tmp 35) 70 3 (.int .i64 0) 8 rfl Try.underlying70 infoI64 rfl (by decide) (by omega) (.slice (some ⟨wq.heap.size + 1, 0, none⟩) 0 0) [] (o.take n) (some ad3) n c3 (fun _ => True) (fun _ => False) (by rfl) (by rfl) HEc.out (Kd.C_below HCA.out HBc.out) (fun _ _ h => h) (fun _ h => h.elim) (fun _ _ => trivial) HBc.out HBc.out.size (by simp; omega) ?_; intro v1 w1 h1 hb1 hg1 _; rw [List.nil_append] at h1; obtain ⟨A6, c6, rfl, hc6, _⟩ := Kd.R_reads h1; rw [HTL.out] at h1 hc6 ⊢; have HR1 := Aside0.mk h1; have HBR := Aside0.mk hb1; (have HL1 := Aside0.mk (Kd.R_grown HLc.out hg1 (fun k hk => hk))); clear h1 hb1 hg1 hc6)
              | (refine Kd.R_append_rows_step (Kd.int .i64) (Rr := (Kd.int .i64).K (w1.alloc (.cells #[.int .i64 x] 3))) (w0 := wq) wq.heap.size (by rfl) (.tmp 36) (.tmp 41) 70 3 (.int .i64 0) 8 rfl Try.underlying70 infoI64 rfl (by decide) (by omega) (.slice A6 n c6) (o.take n) [x] (some ⟨w1.heap.size, 0, none⟩) 1 1 (fun _ => True) (fun _ => False) (by rfl) (by rfl) HR1a.out HLT.out (fun _ _ h => h) (fun _ h => h.elim) (fun _ _ => trivial) HBRa.out HBRa.out.size (by rw [HTL.out]; (try simp); omega) ?_; intro v2 w2 h2 hb2 _ _; obtain ⟨A7, c7, rfl, hc7, _⟩ := Kd.R_reads h2; rw [HTL2.out] at h2 hc7 ⊢; have HR2 := Aside0.mk h2; have HBR2 := Aside0.mk hb2; clear h2 hb2 hc7)
              | (refine Kd.R_append_rows_step (Kd.int .i64) (Rr := (Kd.int .i64).K (w1)) (w0 := wq) wq.heap.size (by rfl) (.tmp 36) (.tmp 41) 70 3 (.int .i64 0) 8 rfl Try.underlying70 infoI64 rfl (by decide) (by omega) (.slice A6 n c6) (o.take n) [x] (some ⟨wq.heap.size + 1, 0, none⟩) 1 1 (fun _ => True) (fun _ => False) (by rfl) (by rfl) HR1.out (C_own HL1.out) (fun _ _ h => h) (fun _ h => h.elim) (fun _ _ => trivial) HBR.out HBR.out.size (by rw [HTL.out]; (try simp); omega) ?_; intro v2 w2 h2 hb2 _ _; obtain ⟨A7, c7, rfl, hc7, _⟩ := Kd.R_reads h2; rw [HTL2.out] at h2 hc7 ⊢; have HR2 := Aside0.mk h2; have HBR2 := Aside0.mk hb2; clear h2 hb2 hc7)
              | (refine Kd.R_append_rows_step (Kd.int .i64) (Rr := (Kd.int .i64).K (w1)) (w0 := wq) wq.heap.size (by rfl) (.tmp 36) (.tmp 41) 70 3 (.int .i64 0) 8 rfl Try.underlying70 infoI64 rfl (by decide) (by omega) (.slice A6 n c6) (o.take n) [x] (some ⟨wq.heap.size, 0, none⟩) 1 1 (fun _ => True) (fun _ => False) (by rfl) (by rfl) HR1.out (C_own HL1.out) (fun _ _ h => h) (fun _ h => h.elim) (fun _ _ => trivial) HBR.out HBR.out.size (by rw [HTL.out]; (try simp); omega) ?_; intro v2 w2 h2 hb2 _ _; obtain ⟨A7, c7, rfl, hc7, _⟩ := Kd.R_reads h2; rw [HTL2.out] at h2 hc7 ⊢; have HR2 := Aside0.mk h2; have HBR2 := Aside0.mk hb2; clear h2 hb2 hc7)
              | (refine Kd.R_append_rows_step (Kd.int .i64) (Rr := (Kd.int .i64).K w2) (w0 := wq) wq.heap.size (by rfl) (.tmp 42) (.tmp 45) 70 3 (.int .i64 0) 8 rfl Try.underlying70 infoI64 rfl (by decide) (by omega) (.slice A7 (n + 1) c7) (o.take n ++ [x]) (o.drop n) A9 (i - n) (c3 - n) (fun _ => True) (fun _ => False) (by rfl) (by rfl) HR2.out (Kd.C_below HCB.out HBR2.out) (fun _ _ h => h) (fun _ h => h.elim) (fun _ _ => trivial) HBR2.out HBR2.out.size (by rw [HTL2.out]; (try rw [HDL.out]); omega) ?_; intro v5 w5 h5 hb5 _ _; rw [← HPN.out] at h5; obtain ⟨A8, c8, rfl, hc8, _⟩ := Kd.R_reads h5; rw [HIL.out] at h5 ⊢; have HR5 := Aside0.mk h5; have HBR5 := Aside0.mk hb5; clear h5 hb5 hc8))
            all_goals
              go_wp2_with fail
              go_roundg (l.length - (i + 1))
              case measure => have := hq.out; omega
              case rel => exact ⟨i + 1, c8, A8, _, rfl, by go_num, by omega, HIL, ⟨HSN.out.symm⟩, ⟨rfl⟩, ⟨Kd.R_lower HR5.out hsq⟩, ⟨below_step HB2.out HBR5.out⟩⟩
          · have d3 : decide (0 < n) = false := decide_eq_false hn0
            clear hstep hn0
            go_wp2_with fail
            go_quiet (fail)
            clear d3
            generalize hWq : World.drewN _ _ = wq
            have HA2 := Aside0.mk (show Kd.R (Kd.int .i64) 3 wq w.heap.size (fun _ => True) (.slice A3 i c3) o by rw [← hWq]; exact Kd.R_drewN HA.out _)
            have HB2 := Aside0.mk (show Below w.heap.size w wq by rw [← hWq]; exact pw_below_drewN HB.out _)
            clear hWq HA HB r1
            obtain ⟨ad', e', r1⟩ := HRD.out wq HB2.out
            obtain rfl : ad = ad' := by injection e'
            have hc3 := (Kd.R_reads' HA2.out).2.1
            obtain ⟨i0, hi0, hz0, hz1, hz2⟩ := info_parts infoI64
            have cutA : ∀ W : World, (Instr.slice 70 (.slice A3 i c3) none (some (.int .i64 (n : Int))) none).run Try.prog W = .ok (.slice A3 n c3) W := fun W => by
              have := cut_to (P := Try.prog) 70 3 .i64 Try.underlying70 hi0 A3 i c3 (n : Int) (by omega) (by omega) hc3 W
              simpa using this
            obtain ⟨A9, hA9⟩ : ∃ A9, A9 = (if c3 = n then A3 else A3.map (·.add (n * 1))) := ⟨_, rfl⟩
            have cutB : ∀ W : World, (Instr.slice 70 (.slice A3 i c3) (some (.int .i64 (n : Int))) none none).run Try.prog W = .ok (.slice A9 (i - n) (c3 - n)) W := fun W => by
              have := cut_from (P := Try.prog) 70 3 .i64 Try.underlying70 hi0 1 hz1 A3 i c3 (n : Int) (by omega) (by omega) W
              rw [hA9]
              simpa using this
            have HTL := Aside0.mk (show (o.take n).length = n by rw [List.length_take, HOL.out]; omega)
            have HTL2 := Aside0.mk (show (o.take n ++ [x]).length = n + 1 by rw [List.length_append, HTL.out]; rfl)
            have HDL := Aside0.mk (show (o.drop n).length = i - n by rw [List.length_drop, HOL.out])
            have HIL := Aside0.mk (show (insS o x).length = i + 1 by rw [insS_len, HOL.out])
            have HCO := Aside0.mk (show Kd.C (Kd.int .i64) wq A3 o.length o by rw [HOL.out]; exact C_own HA2.out)
            have HCA := Aside0.mk (show Kd.C (Kd.int .i64) wq A3 n (o.take n) by have := Kd.C_take (m := n) HCO.out (by rw [HOL.out]; exact hn); rwa [HTL.out] at this)
            have HCB := Aside0.mk (show Kd.C (Kd.int .i64) wq A9 (i - n) (o.drop n) by have := Kd.C_drop (m := n) HCO.out (by rw [HOL.out]; exact hn) (by rw [HOL.out]; exact hc3); rwa [HDL.out, show (Kd.int .i64).sz = 1 from rfl, ← hA9] at this)
            have hbd : Below wq.heap.size wq wq.drew := below_drew1 (Below.refl _ _)
            have HBa := Aside0.mk (show Below wq.heap.size wq (wq.drew.alloc (.cells #[] 3)) from hbd.alloc (Nat.le_refl _) _)
            have HBb := Aside0.mk (show Below wq.heap.size wq ((wq.drew.alloc (.cells #[] 3)).alloc (.cells #[.int .i64 x] 3)) from HBa.out.alloc (by simp) _)
            have HBc := Aside0.mk (show Below wq.heap.size wq ((wq.drew.alloc (.cells #[.int .i64 x] 3)).alloc (.cells #[] 3)) from (hbd.alloc (Nat.le_refl _) _).alloc (by simp) _)
            have HEa := Aside0.mk (show Kd.R (Kd.int .i64) 3 (wq.drew.alloc (.cells #[] 3)) wq.heap.size (fun _ => True) (.slice (some ⟨wq.heap.size, 0, none⟩) 0 0) [] from R_empty _ _ wq.drew wq.heap.size _ trivial (Nat.le_refl _))
            have HEb := Aside0.mk (Kd.R_alloc HEa.out (.cells #[.int .i64 x] 3))
            have HEc := Aside0.mk (show Kd.R (Kd.int .i64) 3 ((wq.drew.alloc (.cells #[.int .i64 x] 3)).alloc (.cells #[] 3)) wq.heap.size (fun _ => True) (.slice (some ⟨wq.heap.size + 1, 0, none⟩) 0 0) [] by
              have := R_empty (Kd.int .i64) 3 (wq.drew.alloc (.cells #[.int .i64 x] 3)) wq.heap.size (fun _ => True) trivial (by simp)
              rw [World.size_alloc] at this
              exact this)
            have HLb := Aside0.mk (show Kd.R (Kd.int .i64) 3 ((wq.drew.alloc (.cells #[] 3)).alloc (.cells #[.int .i64 x] 3)) wq.heap.size (fun q => some q ≠ (Value.slice (some ⟨wq.heap.size, 0, none⟩) 0 0).ownBlock) (.slice (some ⟨wq.heap.size + 1, 0, none⟩) 1 1) [x] by
              have := lit_ints (wq.drew.alloc (.cells #[] 3)) wq.heap.size [x] (by simp) (by simp)
              rw [World.size_alloc] at this
              exact R_reok64 this (fun q hq e => by simp [Value.ownBlock] at hq e; omega))
            have HLc := Aside0.mk (show Kd.R (Kd.int .i64) 3 ((wq.drew.alloc (.cells #[.int .i64 x] 3)).alloc (.cells #[] 3)) wq.heap.size (fun q => some q ≠ (Value.slice (some ⟨wq.heap.size + 1, 0, none⟩) 0 0).ownBlock) (.slice (some ⟨wq.heap.size, 0, none⟩) 1 1) [x] by
              have := lit_ints wq.drew wq.heap.size [x] (Nat.le_refl _) (by simp)
              exact R_reok64 (Kd.R_alloc this _) (fun q hq e => by simp [Value.ownBlock] at hq e; have h9 : wq.drew.heap.size = wq.heap.size := rfl; omega))
            have r1d := pw_cell_below hbd r1
            have r1a := cell_al (.cells #[] 3) r1
            have R1 := Aside0.mk r1
            have hsq := HB2.out.size
            have hn0 : (0 : Int) ≤ (n : Int) := by omega
            have hni : (n : Int) ≤ (i : Int) := by omega
            clear hi0 hz0 hz1 hz2 hA9 hbd e' hc3
            go_wp2_with fail
            go_region_law (first
              | (refine Kd.R_append_rows_step (Kd.int .i64) (Rr := (Kd.int .i64).K (wq.drew.alloc (.cells #[] 3))) (w0 := wq) wq.heap.size (by rfl) (.tmp 32) (.tmp 35) 70 3 (.int .i64 0) 8 rfl Try.underlying70 infoI64 rfl (by decide) (by omega) (.slice (some ⟨wq.heap.size, 0, none⟩) 0 0) [] (o.take n) A3 n c3 (fun _ => True) (fun _ => False) (by rfl) (by rfl) HEa.out (Kd.C_below HCA.out HBa.out) (fun _ _ h => h) (fun _ h => h.elim) (fun _ _ => trivial) HBa.out HBa.out.size (by simp; omega) ?_; intro v1 w1 h1 hb1 hg1 _; rw [List.nil_append] at h1; obtain ⟨A6, c6, rfl, hc6, _⟩ := Kd.R_reads h1; rw [HTL.out] at h1 hc6 ⊢; have HR1 := Aside0.mk h1; have HBR := Aside0.mk hb1; (have r1 := pw_cell_below hb1 R1.out; have HLT := Aside0.mk (show Kd.C (Kd.int .i64) (w1.alloc (.cells #[.int .i64 x] 3)) (some ⟨w1.heap.size, 0, none⟩) 1 [x] from C_own (lit_ints w1 w1.heap.size [x] (Nat.le_refl _) (by simp))); have HR1a := Aside0.mk (Kd.R_alloc HR1.out (.cells #[.int .i64 x] 3)); have HBRa := Aside0.mk (hb1.alloc hb1.size (.cells #[.int .i64 x] 3))); clear h1 hb1 hg1 hc6)
              | (refine Kd.R_append_rows_step (Kd.int .i64) (Rr := (Kd.int .i64).K ((wq.drew.alloc (.cells #[] 3)).alloc (.cells #[.int .i64 x] 3))) (w0 := wq) wq.heap.size (by rfl) (.tmp 32) (.tmp 35) 70 3 (.int .i64 0) 8 rfl Try.underlying70 infoI64 rfl (by decide) (by omega) (.slice (some ⟨wq.heap.size, 0, none⟩) 0 0) [] (o.take n) A3 n c3 (fun _ => True) (fun _ => False) (by rfl) (by rfl) HEb.out (Kd.C_below HCA.out HBb.out) (fun _ _ h => h) (fun _ h => h.elim) (fun _ _ => trivial) HBb.out HBb.out.size (by simp; omega) ?_; intro v1 w1 h1 hb1 hg1 _; rw [List.nil_append] at h1; obtain ⟨A6, c6, rfl, hc6, _⟩ := Kd.R_reads h1; rw [HTL.out] at h1 hc6 ⊢; have HR1 := Aside0.mk h1; have HBR := Aside0.mk hb1; (have HL1 := Aside0.mk (Kd.R_grown HLb.out hg1 (fun k hk => hk))); clear h1 hb1 hg1 hc6)
              | (refine Kd.R_append_rows_step (Kd.int .i64) (Rr := (Kd.int .i64).K ((wq.drew.alloc (.cells #[.int .i64 x] 3)).alloc (.cells #[] 3))) (w0 := wq) wq.heap.size (by rfl) (.tmp 32) (.tmp 35) 70 3 (.int .i64 0) 8 rfl Try.underlying70 infoI64 rfl (by decide) (by omega) (.slice (some ⟨wq.heap.size + 1, 0, none⟩) 0 0) [] (o.take n) A3 n c3 (fun _ => True) (fun _ => False) (by rfl) (by rfl) HEc.out (Kd.C_below HCA.out HBc.out) (fun _ _ h => h) (fun _ h => h.elim) (fun _ _ => trivial) HBc.out HBc.out.size (by simp; omega) ?_; intro v1 w1 h1 hb1 hg1 _; rw [List.nil_append] at h1; obtain ⟨A6, c6, rfl, hc6, _⟩ := Kd.R_reads h1; rw [HTL.out] at h1 hc6 ⊢; have HR1 := Aside0.mk h1; have HBR := Aside0.mk hb1; (have HL1 := Aside0.mk (Kd.R_grown HLc.out hg1 (fun k hk => hk))); clear h1 hb1 hg1 hc6)
              | (refine Kd.R_append_rows_step (Kd.int .i64) (Rr := (Kd.int .i64).K (w1.alloc (.cells #[.int .i64 x] 3))) (w0 := wq) wq.heap.size (by rfl) (.tmp 36) (.tmp 41) 70 3 (.int .i64 0) 8 rfl Try.underlying70 infoI64 rfl (by decide) (by omega) (.slice A6 n c6) (o.take n) [x] (some ⟨w1.heap.size, 0, none⟩) 1 1 (fun _ => True) (fun _ => False) (by rfl) (by rfl) HR1a.out HLT.out (fun _ _ h => h) (fun _ h => h.elim) (fun _ _ => trivial) HBRa.out HBRa.out.size (by rw [HTL.out]; (try simp); omega) ?_; intro v2 w2 h2 hb2 _ _; obtain ⟨A7, c7, rfl, hc7, _⟩ := Kd.R_reads h2; rw [HTL2.out] at h2 hc7 ⊢; have HR2 := Aside0.mk h2; have HBR2 := Aside0.mk hb2; clear h2 hb2 hc7)
              | (refine Kd.R_append_rows_step (Kd.int .i64) (Rr := (Kd.int .i64).K (w1)) (w0 := wq) wq.heap.size (by rfl) (.tmp 36) (.tmp 41) 70 3 (.int .i64 0) 8 rfl Try.underlying70 infoI64 rfl (by decide) (by omega) (.slice A6 n c6) (o.take n) [x] (some ⟨wq.heap.size + 1, 0, none⟩) 1 1 (fun _ => True) (fun _ => False) (by rfl) (by rfl) HR1.out (C_own HL1.out) (fun _ _ h => h) (fun _ h => h.elim) (fun _ _ => trivial) HBR.out HBR.out.size (by rw [HTL.out]; (try simp); omega) ?_; intro v2 w2 h2 hb2 _ _; obtain ⟨A7, c7, rfl, hc7, _⟩ := Kd.R_reads h2; rw [HTL2.out] at h2 hc7 ⊢; have HR2 := Aside0.mk h2; have HBR2 := Aside0.mk hb2; clear h2 hb2 hc7)
              | (refine Kd.R_append_rows_step (Kd.int .i64) (Rr := (Kd.int .i64).K (w1)) (w0 := wq) wq.heap.size (by rfl) (.tmp 36) (.tmp 41) 70 3 (.int .i64 0) 8 rfl Try.underlying70 infoI64 rfl (by decide) (by omega) (.slice A6 n c6) (o.take n) [x] (some ⟨wq.heap.size, 0, none⟩) 1 1 (fun _ => True) (fun _ => False) (by rfl) (by rfl) HR1.out (C_own HL1.out) (fun _ _ h => h) (fun _ h => h.elim) (fun _ _ => trivial) HBR.out HBR.out.size (by rw [HTL.out]; (try simp); omega) ?_; intro v2 w2 h2 hb2 _ _; obtain ⟨A7, c7, rfl, hc7, _⟩ := Kd.R_reads h2; rw [HTL2.out] at h2 hc7 ⊢; have HR2 := Aside0.mk h2; have HBR2 := Aside0.mk hb2; clear h2 hb2 hc7)
              | (refine Kd.R_append_rows_step (Kd.int .i64) (Rr := (Kd.int .i64).K w2) (w0 := wq) wq.heap.size (by rfl) (.tmp 42) (.tmp 45) 70 3 (.int .i64 0) 8 rfl Try.underlying70 infoI64 rfl (by decide) (by omega) (.slice A7 (n + 1) c7) (o.take n ++ [x]) (o.drop n) A9 (i - n) (c3 - n) (fun _ => True) (fun _ => False) (by rfl) (by rfl) HR2.out (Kd.C_below HCB.out HBR2.out) (fun _ _ h => h) (fun _ h => h.elim) (fun _ _ => trivial) HBR2.out HBR2.out.size (by rw [HTL2.out]; (try rw [HDL.out]); omega) ?_; intro v5 w5 h5 hb5 _ _; rw [← HPN.out] at h5; obtain ⟨A8, c8, rfl, hc8, _⟩ := Kd.R_reads h5; rw [HIL.out] at h5 ⊢; have HR5 := Aside0.mk h5; have HBR5 := Aside0.mk hb5; clear h5 hb5 hc8))
            all_goals
              go_wp2_with fail
              go_roundg (l.length - (i + 1))
              case measure => have := hq.out; omega
              case rel => exact ⟨i + 1, c8, A8, _, rfl, by go_num, by omega, HIL, ⟨HSN.out.symm⟩, ⟨rfl⟩, ⟨Kd.R_lower HR5.out hsq⟩, ⟨below_step HB2.out HBR5.out⟩⟩
    · obtain rfl : i = l.length := by omega
      have HE := Aside0.mk (show sortT l = o by rw [HO.out, List.take_length]; rfl)
      go_wp2_with fail
      go_ret
      exact ⟨A3, c3, by rw [HE.out, HOL.out]; rfl, by rw [HE.out, HOL.out]; exact HA.out, HB.out⟩
end Go.Proofs.Ytldiginkmmlojaa
