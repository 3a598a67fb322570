/- The reference's limit: rows; New, find, forget. -/
import Derived.Test.YtldiginkmmlojaaRbD
namespace Go.Proofs.Ytldiginkmmlojaa
set_option linter.unusedVariables false
open Go.RowKit Go.Maps Go.Proofs.YtldiginkmmlojaaW.PrintWords
attribute [local go_sem] mx2 mn2 mxTwo mnTwo

theorem bsq_eq (a b : ByteArray) (h : a = b) : (a.toList == b.toList) = true := by simp [h]
theorem bsq_ne (a b : ByteArray) (h : a ≠ b) : (a.toList == b.toList) = false := by
  rw [beq_eq_false_iff_ne]
  intro e
  exact h (Go.WideShapes.bytes_inj (by rw [← ByteArray.toList_eq a, ← ByteArray.toList_eq b]; exact e))
def kRw : Kd LW := Kd.iso (Kd.pair Kd.string (Kd.pair (Kd.int .u64) (Kd.pair (Kd.int .i64) (Kd.int .i64)))) (fun x : LW => (x.1, x.2.since, x.2.n, x.2.barred))
def cRw (x : LW) : List Value := [.string x.1, .int .u64 x.2.since, .int .i64 x.2.n, .int .i64 x.2.barred]
theorem kRw_mkM (w : World) (base : Nat) (ok : Nat → Prop) (x : LW) : kRw.M w base ok x (cRw x) :=
  ⟨[.string x.1], [.int .u64 x.2.since, .int .i64 x.2.n, .int .i64 x.2.barred], rfl, rfl, ⟨[.int .u64 x.2.since], [.int .i64 x.2.n, .int .i64 x.2.barred], rfl, rfl, ⟨[.int .i64 x.2.n], [.int .i64 x.2.barred], rfl, rfl, rfl⟩⟩⟩
theorem infoRw : (Try.prog.info? 151).map (fun i => (i.zero, i.size, i.bytes)) = some (some (.agg #[.string ⟨#[]⟩, .int .u64 0, .int .i64 0, .int .i64 0]), 4, 40) := by kernel_rfl
theorem at_Rw {w : World} {A : Option Addr} {n : Nat} {l : List LW} (h : Kd.C kRw w A n l) (i : Nat) (h1 : i < n) : ∃ ad, A = some ad ∧ w.cell? (ad.add (i * 4)) = some (.string (l.getD i zLW).1) ∧ w.cell? ⟨(ad.add (i * 4)).block, (ad.add (i * 4)).off + 1, none⟩ = some (.int .u64 (l.getD i zLW).2.since) ∧ w.cell? ⟨(ad.add (i * 4)).block, (ad.add (i * 4)).off + 2, none⟩ = some (.int .i64 (l.getD i zLW).2.n) ∧ w.cell? ⟨(ad.add (i * 4)).block, (ad.add (i * 4)).off + 3, none⟩ = some (.int .i64 (l.getD i zLW).2.barred) := by
  obtain ⟨ad, c, e, _, hK, hc0⟩ := Kd.C_get h zLW (i : Int) (by omega) (by omega)
  simp only [Int.toNat_natCast] at hK hc0
  have hc : ∀ j u, c[j]? = some u → w.cell? (ad.add (i * 4 + j)) = some u := hc0
  obtain ⟨_, _, rfl, rfl, ⟨_, _, rfl, rfl, ⟨_, _, rfl, rfl, rfl⟩⟩⟩ := hK
  exact ⟨ad, e, hc 0 _ rfl, by rw [← add_field _ _ 1 (by omega)]; exact hc 1 _ rfl, by rw [← add_field _ _ 2 (by omega)]; exact hc 2 _ rfl, by rw [← add_field _ _ 3 (by omega)]; exact hc 3 _ rfl⟩
/-- The reference's limit in memory. -/
structure RJ (W : World) (b g : Nat) (span burst most : Int) (l : List LW) : Prop where
  hb : ∃ v, W.heap[g]? = some (.cells #[.int .u64 span, .int .i64 burst, .int .i64 most, v] 144 (0, 0)) ∧ Kd.R kRw 151 W b (fun _ => True) v l
  hg : b ≤ g
theorem RJ.below {W W1 : World} {b g : Nat} {span burst most : Int} {l : List LW} (h : RJ W b g span burst most l) (hb : Below W.heap.size W W1) : RJ W1 b g span burst most l := by
  obtain ⟨v, h1, h2⟩ := h.hb
  exact ⟨⟨v, blk_below h1 hb, Kd.R_below h2 hb⟩, h.hg⟩
set_option maxHeartbeats 1000000 in
theorem rnew_any (b : Nat) (span burst most : Int) (w : World) (hb : b ≤ w.heap.size) : Calls Try.prog 59 #[.int .u64 span, .int .i64 burst, .int .i64 most] w fun e w' => ∃ g, e = .returned (.pointer (some ⟨g, 0, none⟩)) ∧ RJ w' b g (mx span 1) burst (mx most 1) [] ∧ Below w.heap.size w w' := by
  have key : ∀ (a d : Int), a = mx span 1 → d = mx most 1 → RJ (w.alloc (.cells #[.int .u64 a, .int .i64 burst, .int .i64 d, .slice none 0 0] 144)) b w.heap.size (mx span 1) burst (mx most 1) [] := by
    rintro a d rfl rfl
    exact ⟨⟨_, blk_new _ _, Kd.R_nil _ _ _ _ _⟩, hb⟩
  have HK := Aside0.mk key
  clear key
  by_cases h1 : span < 1
  · have e1 : mx span 1 = 1 := by unfold mx; rw [if_pos h1]
    have d1 := decide_eq_true h1
    have HE := Aside0.mk e1
    clear h1 e1
    by_cases h2 : most < 1
    · have e2 : mx most 1 = 1 := by unfold mx; rw [if_pos h2]
      have d2 := decide_eq_true h2
      have HE2 := Aside0.mk e2
      clear h2 e2
      go_enter Try.func59, Try.ntmps59
      go_wp2_with fail
      go_ret
      exact ⟨_, rfl, HK.out _ _ HE.out.symm HE2.out.symm, below_alloc (Below.refl _ _) _⟩
    · have e2 : mx most 1 = most := by unfold mx; rw [if_neg h2]
      have d2 := decide_eq_false h2
      have HE2 := Aside0.mk e2
      clear h2 e2
      go_enter Try.func59, Try.ntmps59
      go_wp2_with fail
      go_ret
      exact ⟨_, rfl, HK.out _ _ HE.out.symm HE2.out.symm, below_alloc (Below.refl _ _) _⟩
  · have e1 : mx span 1 = span := by unfold mx; rw [if_neg h1]
    have d1 := decide_eq_false h1
    have HE := Aside0.mk e1
    clear h1 e1
    by_cases h2 : most < 1
    · have e2 : mx most 1 = 1 := by unfold mx; rw [if_pos h2]
      have d2 := decide_eq_true h2
      have HE2 := Aside0.mk e2
      clear h2 e2
      go_enter Try.func59, Try.ntmps59
      go_wp2_with fail
      go_ret
      exact ⟨_, rfl, HK.out _ _ HE.out.symm HE2.out.symm, below_alloc (Below.refl _ _) _⟩
    · have e2 : mx most 1 = most := by unfold mx; rw [if_neg h2]
      have d2 := decide_eq_false h2
      have HE2 := Aside0.mk e2
      clear h2 e2
      go_enter Try.func59, Try.ntmps59
      go_wp2_with fail
      go_ret
      exact ⟨_, rfl, HK.out _ _ HE.out.symm HE2.out.symm, below_alloc (Below.refl _ _) _⟩
set_option maxHeartbeats 2000000 in
set_option maxRecDepth 100000 in
theorem rfind_any (b g : Nat) (span burst most : Int) (l : List LW) (w : World) (h : RJ w b g span burst most l) (hl : l.length ≤ 1000001) (s : ByteArray) (z : Nat) (r : Int) (hz : z ≤ l.length) (hno : ∀ j, j < z → (l.getD j zLW).1 ≠ s) (hend : (z < l.length ∧ (l.getD z zLW).1 = s ∧ r = (z : Int)) ∨ (z = l.length ∧ r = -1)) :
    Calls Try.prog 82 #[.pointer (some ⟨g, 0, none⟩), .string s] w fun e w' => e = .returned (.int .i64 r) ∧ w' = w := by
  obtain ⟨⟨v, hb, hr⟩, hg⟩ := h
  obtain ⟨A1, c1, rfl⟩ := Kd.R_slice hr
  have s0 := (blk_cell hb 3).trans (rfl : _ = some (Value.slice A1 l.length c1))
  have HC := Aside0.mk (Kd.R_reads' hr).2.2
  have HNO := Aside0.mk hno
  have HEND := Aside0.mk hend
  clear hb hr hno hend
  go_enter Try.func82, Try.ntmps82
  go_wp2_with fail
  go_loopg [5] l.length (fun q v5 wr => ∃ j : Nat, v5 = .int .i64 (j : Int) ∧ j ≤ z ∧ Aside0 (q = l.length - j) ∧ wr = w)
  case atStart => exact ⟨0, rfl, Nat.zero_le _, ⟨rfl⟩, rfl⟩
  case round =>
    obtain ⟨j, rfl, hj, hq, rfl⟩ := hrel
    by_cases hlt : j < z
    · obtain ⟨ad, rfl, r1, _, _, _⟩ := at_Rw HC.out j (by omega)
      have q1 := bsq_ne _ _ (HNO.out j hlt)
      generalize l.getD j zLW = pj at *
      go_wp2_with fail
      go_roundg (l.length - (j + 1))
      case measure => have := hq.out; omega
      case rel => exact ⟨j + 1, by go_num, by omega, ⟨rfl⟩, rfl⟩
    · obtain rfl : j = z := by omega
      rcases HEND.out with ⟨h1, h2, rfl⟩ | ⟨rfl, rfl⟩
      · obtain ⟨ad, rfl, r1, _, _, _⟩ := at_Rw HC.out j h1
        have q1 := bsq_eq _ _ h2
        clear h2
        generalize l.getD j zLW = pj at *
        go_wp2_with fail
        go_ret
        exact ⟨rfl, rfl⟩
      · go_wp2_with fail
        go_ret
        exact ⟨rfl, rfl⟩
set_option maxHeartbeats 2000000 in
set_option maxRecDepth 100000 in
theorem rforget_any (b g : Nat) (span burst most : Int) (l : List LW) (w : World) (h : RJ w b g span burst most l) (hl : l.length ≤ 1000000) (hl0 : 0 < l.length) :
    Calls Try.prog 83 #[.pointer (some ⟨g, 0, none⟩)] w fun e w' => e = .returned (.tuple #[]) ∧ RJ w' b g span burst most (forgetW l) ∧ Below b w w' := by
  obtain ⟨⟨v, hb, hr⟩, hg⟩ := h
  obtain ⟨A1, c1, rfl⟩ := Kd.R_slice hr
  have HB0 := Aside0.mk hb
  have HR0 := Aside0.mk hr
  have hbw : b ≤ w.heap.size := Nat.le_trans hg (Nat.le_of_lt (blk_lt hb))
  have hlc := (Kd.R_reads' hr).2.1
  clear hb hr
  go_enter Try.func83, Try.ntmps83
  go_wp2_with fail
  go_loopg [2, 3] l.length (fun q v2 v3 wr => ∃ i : Nat, v3 = .int .i64 (i : Int) ∧ v2 = .int .i64 (minW l i : Int) ∧ i ≤ l.length ∧ Aside0 (q = l.length - i) ∧ Aside0 (Below w.heap.size w wr))
  case atStart => exact ⟨0, rfl, rfl, Nat.zero_le _, ⟨rfl⟩, ⟨Below.refl _ _⟩⟩
  case round =>
    obtain ⟨i, rfl, rfl, hi, hq, HB⟩ := hrel
    have HBX := Aside0.mk (blk_below HB0.out HB.out)
    have s0 := (blk_cell HBX.out 3).trans (rfl : _ = some (Value.slice A1 l.length c1))
    have HRX := Aside0.mk (Kd.R_below HR0.out HB.out)
    have hk : minW l i < l.length := by
      rcases Nat.eq_zero_or_pos i with h0 | h0
      · subst h0
        exact hl0
      · have := minW_lt l i h0
        omega
    have HMS := Aside0.mk (show minW l (i + 1) = if (l.getD i zLW).2.since < (l.getD (minW l i) zLW).2.since then i else minW l i from rfl)
    by_cases hlt : i < l.length
    · obtain ⟨ad, rfl, _, r1, _, _⟩ := at_Rw (C_own HRX.out) i hlt
      obtain ⟨ad', e', _, r2, _, _⟩ := at_Rw (C_own HRX.out) (minW l i) hk
      obtain rfl : ad = ad' := by injection e'
      clear e'
      generalize l.getD i zLW = pa at *
      generalize l.getD (minW l i) zLW = pb at *
      generalize hkk : minW l i = kk at *
      by_cases hs : pa.2.since < pb.2.since
      · have HE := Aside0.mk (show minW l (i + 1) = i by rw [HMS.out, if_pos hs])
        have d1 := decide_eq_true hs
        clear hs
        go_wp2_with fail
        go_quiet (fail)
        go_wp2_with fail
        go_roundg (l.length - (i + 1))
        case measure => have := hq.out; omega
        case rel => exact ⟨i + 1, by go_num, by rw [HE.out], by omega, ⟨rfl⟩, ⟨pw_below_drewN HB.out _⟩⟩
      · have HE := Aside0.mk (show minW l (i + 1) = kk by rw [HMS.out, if_neg hs])
        have d1 := decide_eq_false hs
        clear hs
        go_wp2_with fail
        go_quiet (fail)
        go_wp2_with fail
        go_roundg (l.length - (i + 1))
        case measure => have := hq.out; omega
        case rel => exact ⟨i + 1, by go_num, by rw [HE.out], by omega, ⟨rfl⟩, ⟨pw_below_drewN HB.out _⟩⟩
    · obtain rfl : i = l.length := by omega
      have HFG := Aside0.mk (show forgetW l = l.take (minW l l.length) ++ l.drop (minW l l.length + 1) by unfold forgetW; rw [List.eraseIdx_eq_take_drop_succ])
      clear HMS
      generalize minW l l.length = k at *
      obtain ⟨gr, e0⟩ : ∃ gr, A1 = some ⟨gr, 0, none⟩ := by
        obtain ⟨gr, cap, e, _⟩ := Kd.R_form HR0.out hl0
        injection e with e
        exact ⟨gr, e⟩
      subst e0
      obtain ⟨i0, hi0, hz0, hz1, hz2⟩ := info_parts infoRw
      have cutA : ∀ W : World, (Instr.slice 142 (.slice (some ⟨gr, 0, none⟩) l.length c1) none (some (.int .i64 (k : Int))) none).run Try.prog W = .ok (.slice (some ⟨gr, 0, none⟩) k c1) W := fun W => by
        have := cut_to (P := Try.prog) 142 151 .i64 Try.underlying142 hi0 (some ⟨gr, 0, none⟩) l.length c1 (k : Int) (by omega) (by omega) hlc W
        simpa using this
      have hwr : IntKind.i64.wrap ((k : Int) + 1) = (k : Int) + 1 := by rw [IntKind.wrap_i64]; omega
      obtain ⟨A9, hA9⟩ : ∃ A9, A9 = (if c1 = k + 1 then some (⟨gr, 0, none⟩ : Addr) else (some (⟨gr, 0, none⟩ : Addr)).map (·.add ((k + 1) * 4))) := ⟨_, rfl⟩
      have cutB : ∀ W : World, (Instr.slice 142 (.slice (some ⟨gr, 0, none⟩) l.length c1) (some (.int .i64 ((k : Int) + 1))) none none).run Try.prog W = .ok (.slice A9 (l.length - (k + 1)) (c1 - (k + 1))) W := fun W => by
        have := cut_from (P := Try.prog) 142 151 .i64 Try.underlying142 hi0 4 hz1 (some ⟨gr, 0, none⟩) l.length c1 ((k : Int) + 1) (by omega) (by omega) W
        rw [hA9]
        have e9 : ((k : Int) + 1).toNat = k + 1 := by omega
        rw [e9] at this
        exact this
      have HTL := Aside0.mk (show (l.take k).length = k by rw [List.length_take]; omega)
      have HDL := Aside0.mk (show (l.drop (k + 1)).length = l.length - (k + 1) by rw [List.length_drop])
      have HCA := Aside0.mk (show Kd.C kRw wr (some ⟨gr, 0, none⟩) k (l.take k) by have := Kd.C_take (m := k) (C_own HRX.out) (by omega); rwa [HTL.out] at this)
      have HCB := Aside0.mk (show Kd.C kRw wr A9 (l.length - (k + 1)) (l.drop (k + 1)) by have := Kd.C_drop (m := k + 1) (C_own HRX.out) (by omega) hlc; rwa [HDL.out, show kRw.sz = 4 from rfl, ← hA9] at this)
      have HBA := Aside0.mk (below_drew1 (below_alloc (Below.refl wr.heap.size wr) (.cells #[] 151)))
      have HE0 := Aside0.mk (Kd.R_drew (R_empty kRw 151 wr wr.heap.size (fun _ => True) trivial (Nat.le_refl _)))
      have S00 := Aside0.mk s0
      clear hi0 hz0 hz1 hz2 hA9 HRX HR0
      go_wp2_with fail
      have s0a := cell_al (.cells #[] 151) s0
      go_region_law (first
        | (refine Kd.R_append_rows_step kRw (Rr := kRw.K (wr.alloc (.cells #[] 151)).drew) (w0 := wr) wr.heap.size (by rfl) (.tmp 32) (.tmp 38) 142 151 (.agg #[(.string ⟨#[]⟩), (.int .u64 0), (.int .i64 0), (.int .i64 0)]) 40 rfl Try.underlying142 infoRw rfl (by decide) (by omega) (.slice (some ⟨wr.heap.size, 0, none⟩) 0 0) [] (l.take k) (some ⟨gr, 0, none⟩) k c1 (fun _ => True) (fun _ => False) (by rfl) (by rfl) HE0.out (Kd.C_below HCA.out HBA.out) (fun _ _ h => h) (fun _ h => h.elim) (fun _ _ => trivial) HBA.out HBA.out.size (by simp; omega) ?_; intro v1 w1 h1 hb1 _ _; rw [List.nil_append] at h1; obtain ⟨A3, c3, rfl, hc3, _⟩ := Kd.R_reads h1; rw [HTL.out] at h1 hc3 ⊢; have HR1 := Aside0.mk h1; have HBR := Aside0.mk hb1; replace s0 := pw_cell_below hb1 S00.out; clear h1 hb1)
        | (refine Kd.R_append_rows_step kRw (Rr := kRw.K w1) (w0 := wr) wr.heap.size (by rfl) (.tmp 39) (.tmp 46) 142 151 (.agg #[(.string ⟨#[]⟩), (.int .u64 0), (.int .i64 0), (.int .i64 0)]) 40 rfl Try.underlying142 infoRw rfl (by decide) (by omega) (.slice A3 k c3) (l.take k) (l.drop (k + 1)) A9 (l.length - (k + 1)) (c1 - (k + 1)) (fun _ => True) (fun _ => False) (by rfl) (by rfl) HR1.out (Kd.C_below HCB.out HBR.out) (fun _ _ h => h) (fun _ h => h.elim) (fun _ _ => trivial) HBR.out HBR.out.size (by rw [HTL.out]; omega) ?_; intro v5 w5 h5 hb5 _ _; rw [← HFG.out] at h5; obtain ⟨A5, c5, rfl, hc5, _⟩ := Kd.R_reads h5; have hgb5 := blk_below HBX.out hb5; replace s0 := (blk_cell hgb5 3).trans (rfl : _ = some (Value.slice (some ⟨gr, 0, none⟩) l.length c1)); have f0 := blk_frozen hgb5 3; have HG5 := Aside0.mk hgb5; have HR5 := Aside0.mk h5; have HBR5 := Aside0.mk hb5; clear h5 hb5 hgb5 HR1 HBR))
      all_goals
        go_wp2_with fail
        first | go_end0 | ((try simp only [Exit.inBlock, Exit.then]); refine bodyPost_ret (results_none rfl _ _ _) rfl ?_)
        exact ⟨rfl, ⟨⟨_, blk_put HG5.out 3 _ rfl, Kd.R_set (Kd.R_lower HR5.out (Nat.le_trans hbw HB.out.size)) HG5.out (by intro q hq; have e9 : kRw.E = [] := rfl; rw [e9] at hq; simp at hq; omega) 3 _⟩, hg⟩, ((below_step HB.out HBR5.out).mono hbw).setCell (p := ⟨g, 3, none⟩) hg _⟩
end Go.Proofs.Ytldiginkmmlojaa
