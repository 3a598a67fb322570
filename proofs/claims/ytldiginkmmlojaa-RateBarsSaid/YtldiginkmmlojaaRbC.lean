/- The limit on many writers: room. -/
import Derived.Test.YtldiginkmmlojaaRbB
namespace Go.Proofs.Ytldiginkmmlojaa
set_option linter.unusedVariables false
open Go.RowKit Go.Maps Go.Proofs.YtldiginkmmlojaaW.PrintWords
attribute [local go_sem] mx2 mn2 mxTwo mnTwo

section
variable {W W1 : World} {b g m N : Nat} {span burst most : Int} {l : List LW}
theorem LJ.len_run (h : LJ W b g m N span burst most l) (hr : RisW l) (ty : TypeId) : (Builtin.len_ #[139] ty #[.map (some m)]).run Try.prog W = .ok (.int .i64 (l.length : Int)) W := by
  have := mv_len_run h.hm lawSt Try.underlying139 (ksW l) (ksW_nodup hr) (ksW_mem l) ty
  rw [show (ksW l).length = l.length by unfold ksW; rw [List.length_map]] at this
  exact this
theorem LJ.look_run (h : LJ W b g m N span burst most l) (hr : RisW l) {i : Nat} (hi : i < l.length) (hs : (l.getD i zLW).1.size ≤ maxLen) : (Instr.lookup 139 (.map (some m)) (.string (l.getD i zLW).1) false).run Try.prog W = .ok (l.getD i zLW).2.v W := by
  have hq : l[i]? = some (l.getD i zLW) := by
    rw [List.getD_eq_getElem?_getD, List.getElem?_eq_getElem hi]
    rfl
  refine mv_look_run h.hm lawSt Try.underlying139 (zeroWin W) (Go.WideMaps.keyOf_string_mk (P := Try.prog) Try.underlying9 hs) ?_
  have := mapW_mem l (risW_nodup hr) _ (List.mem_of_getElem? hq)
  show (mapW l (kStr (l.getD i zLW).1)).getD _ = _
  rw [this]
  rfl
theorem at_nm {w : World} {A : Option Addr} {n : Nat} {l : List LW} (h : Kd.string.C w A n (l.map (·.1))) (i : Nat) (h1 : i < n) : ∃ ad, A = some ad ∧ w.cell? (ad.add i) = some (.string (l.getD i zLW).1) := by
  obtain ⟨ad, c, e, _, hK, hc0⟩ := Kd.C_get h zLW.1 (i : Int) (by omega) (by omega)
  simp only [Int.toNat_natCast] at hK hc0
  have hK' : c = [.string ((l.map (·.1)).getD i zLW.1)] := hK
  subst hK'
  have e2 : (l.map (·.1)).getD i zLW.1 = (l.getD i zLW).1 := by
    rw [List.getD_eq_getElem?_getD, List.getD_eq_getElem?_getD, List.getElem?_map]
    cases l[i]? <;> rfl
  rw [e2] at hc0
  exact ⟨ad, e, by have := hc0 0 _ rfl; rwa [show i * Kd.string.sz + 0 = i from Nat.mul_one i] at this⟩
/-- A writer forgotten. -/
theorem LJ.dropped (h : LJ W b g m N span burst most l) {W6 : World} {f : Lit → Option Value} (hm : MV W6 Try.prog 9 m N f) (ht : W.mapTurned W6 m) {l' : List LW} (hf : f = mapW l') : LJ W6 b g m N span burst most l' ∧ Below b W W6 := by
  have hg := ht.grown
  have hne : some g ≠ some m := fun e => h.hm.ne h.hb (by injection e with e; exact e.symm)
  exact ⟨⟨blk_grown h.hb hg hne, by rw [← hf]; exact hm, h.hg, h.hmb⟩, (Below.refl b W).grown hg (Nat.le_trans h.hg (Nat.le_of_lt (blk_lt h.hb))) (fun k e => by cases e; exact h.hmb)⟩
end
set_option maxHeartbeats 2000000 in
set_option maxRecDepth 100000 in
theorem lroom_any (b g m N k : Nat) (span burst most : Int) (l : List LW) (w : World) (h : LJ w b g m N span burst most l) (ok : OkL l k) (hk : k ≤ 1000000) (hN : N ≤ 1000000) (hmo : 1 ≤ most) :
    Calls Try.prog 81 #[.pointer (some ⟨g, 0, none⟩)] w fun e w' => e = .returned (.tuple #[]) ∧ LJ w' b g m N span burst most (roomW most l) ∧ Below b w w' ∧ ∀ q, q < w.heap.size → q ≠ m → w'.heap[q]? = w.heap[q]? := by
  have hc2 := (blk_cell h.hb 2).trans (rfl : _ = some (Value.int .i64 most))
  have hc3 := (blk_cell h.hb 3).trans (rfl : _ = some (Value.map (some m)))
  have hbw : b ≤ w.heap.size := Nat.le_trans h.hg (Nat.le_of_lt (blk_lt h.hb))
  have hlen : ∀ (ty : TypeId) (j : Nat), (Builtin.len_ #[139] ty #[.map (some m)]).run Try.prog (w.drewN j) = .ok (.int .i64 (l.length : Int)) (w.drewN j) := fun ty j => (h.below (pw_below_drewN (Below.refl _ _) j)).len_run ok.ris ty
  have hll := ok.len
  have H := Aside0.mk h
  have HOK := Aside0.mk ok
  clear h ok
  by_cases hlt : (l.length : Int) < most
  · have HRM := Aside0.mk (show roomW most l = l by unfold roomW; rw [if_neg (by omega)])
    have d1 := decide_eq_true hlt
    clear hlt
    go_enter Try.func81, Try.ntmps81
    go_wp2_with fail
    go_quiet (fail)
    go_wp2_with fail
    first | go_end0 | ((try simp only [Exit.inBlock, Exit.then]); refine bodyPost_ret (results_none rfl _ _ _) rfl ?_)
    rw [HRM.out]
    exact ⟨rfl, H.out.below (pw_below_drewN (Below.refl _ _) _), pw_below_drewN (Below.refl _ _) _, fun q hq _ => (pw_below_drewN (Below.refl w.heap.size w) _).block q hq⟩
  · have HRM := Aside0.mk (show roomW most l = l.eraseIdx (minW l l.length) by unfold roomW forgetW; rw [if_pos (by omega)])
    have d1 := decide_eq_false hlt
    have hl0 : 0 < l.length := by omega
    clear hlt
    go_enter Try.func81, Try.ntmps81
    go_wp2_with fail
    go_quiet (fail)
    generalize hW2 : World.drewN _ _ = W2
    have hb2 : Below w.heap.size w W2 := by rw [← hW2]; exact pw_below_drewN (Below.refl _ _) _
    have hc32 := pw_cell_below hb2 hc3
    have HB2 := Aside0.mk hb2
    have HC := Aside0.mk (names_any b g m N span burst most l W2 (H.out.below hb2) HOK.out.ris hN)
    clear hW2 hb2 hc2 hc3 hlen
    go_wp2_with (first
      | (go_at_call 86; refine (wkeys_any _ _).mono ?_; rintro e w1 ⟨rfl, rfl⟩)
      | (go_at_call 85; refine HC.out.mono ?_; rintro e w2 ⟨v, rfl, hv, hb⟩; obtain ⟨A3, c3, rfl⟩ := Kd.R_slice hv; rw [List.length_map] at hv ⊢; have HV := Aside0.mk hv; have HB := Aside0.mk (below_step HB2.out hb); clear hv hb))
    have HJ := Aside0.mk (H.out.below HB.out)
    clear HC HB2 hc32 H
    go_loopg [2, 3, 4, 22] l.length (fun q v2 v3 v4 v22 wr => ∃ (j : Nat) (s2 : ByteArray), v2 = .string s2 ∧ v22 = .int .i64 (j : Int) ∧ j ≤ l.length ∧ Aside0 (q = l.length - j) ∧ Aside0 (0 < j → s2 = (l.getD (minW l j) zLW).1) ∧ Aside0 (Below w2.heap.size w2 wr))
    case atStart => exact ⟨0, _, rfl, rfl, Nat.zero_le _, ⟨rfl⟩, ⟨fun h => absurd h (Nat.lt_irrefl _)⟩, ⟨Below.refl _ _⟩⟩
    case round =>
      obtain ⟨j, s2, rfl, rfl, hj, hq, HS, HBR⟩ := hrel
      have HW := Aside0.mk (HJ.out.below HBR.out)
      have hcw2 := (blk_cell HW.out.hb 2).trans (rfl : _ = some (Value.int .i64 most))
      have hcw3 := (blk_cell HW.out.hb 3).trans (rfl : _ = some (Value.map (some m)))
      by_cases hlt : j < l.length
      · obtain ⟨ad, rfl, r1⟩ := at_nm (Kd.R_reads' (Kd.R_below HV.out HBR.out)).2.2 j (by rw [List.length_map]; exact hlt)
        have hokj := (HOK.out.ok _ (List.mem_of_getElem? (show l[j]? = some (l.getD j zLW) by rw [List.getD_eq_getElem?_getD, List.getElem?_eq_getElem hlt]; rfl))).1
        have LKJ := fun q => (HW.out.below (pw_below_drewN (Below.refl _ _) q)).look_run HOK.out.ris hlt hokj
        by_cases hj0 : j = 0
        · have e0 : ((j : Int) == 0) = true := beq_iff_eq.mpr (by omega)
          have HJ0 := Aside0.mk hj0
          clear LKJ hokj hj0
          generalize hA : l.getD j zLW = pa at *
          have HA := Aside0.mk hA
          clear hA
          go_wp2_with fail
          go_quiet (fail)
          go_wp2_with fail
          go_roundg (l.length - (j + 1))
          case measure => have := hq.out; omega
          case rel =>
            refine ⟨j + 1, _, rfl, by go_num, by omega, ⟨rfl⟩, ⟨fun _ => ?_⟩, ⟨pw_below_drewN HBR.out _⟩⟩
            rw [show minW l (j + 1) = j by have := minW_lt l (j + 1) (by omega); have := HJ0.out; omega, HA.out]
        · have e0 : ((j : Int) == 0) = false := beq_eq_false_iff_ne.mpr (by omega)
          have hml := minW_lt l j (by omega)
          obtain rfl := HS.out (by omega)
          have hokm := (HOK.out.ok _ (List.mem_of_getElem? (show l[minW l j]? = some (l.getD (minW l j) zLW) by rw [List.getD_eq_getElem?_getD, List.getElem?_eq_getElem (by omega)]; rfl))).1
          have LKM := fun q => (HW.out.below (pw_below_drewN (Below.refl _ _) q)).look_run HOK.out.ris (i := minW l j) (by omega) hokm
          have HMS := Aside0.mk (show minW l (j + 1) = if (l.getD j zLW).2.since < (l.getD (minW l j) zLW).2.since then j else minW l j from rfl)
          clear hokj hokm
          generalize hA : l.getD j zLW = pa at *
          generalize hB : l.getD (minW l j) zLW = pb at *
          obtain ⟨sa, xa⟩ := pa
          obtain ⟨sb, xb⟩ := pb
          have LKJ' := fun q => (LKJ q).trans (rfl : _ = Result.ok (Value.agg #[.int .u64 xa.since, .int .i64 xa.n, .int .i64 xa.barred]) _)
          have LKM' := fun q => (LKM q).trans (rfl : _ = Result.ok (Value.agg #[.int .u64 xb.since, .int .i64 xb.n, .int .i64 xb.barred]) _)
          dsimp only at LKJ' LKM' r1 HMS
          have HA := Aside0.mk hA
          have HB9 := Aside0.mk hB
          clear LKJ LKM hA hB
          have hfd : ∀ (a c d : Int) (w : World), (Instr.field 146 (.agg #[.int .u64 a, .int .i64 c, .int .i64 d]) 0).run Try.prog w = .ok (.int .u64 a) w := fun _ _ _ _ => by kernel_rfl
          by_cases hlt2 : xa.since < xb.since
          · have d2 := decide_eq_true hlt2
            have HMT := Aside0.mk (show minW l (j + 1) = j by rw [HMS.out, if_pos hlt2])
            clear hlt2
            go_wp2_with fail
            go_quiet (fail)
            go_wp2_with fail
            go_roundg (l.length - (j + 1))
            case measure => have := hq.out; omega
            case rel =>
              refine ⟨j + 1, _, rfl, by go_num, by omega, ⟨rfl⟩, ⟨fun _ => ?_⟩, ⟨pw_below_drewN HBR.out _⟩⟩
              rw [HMT.out, HA.out]
          · have d2 := decide_eq_false hlt2
            have HMT := Aside0.mk (show minW l (j + 1) = minW l j by rw [HMS.out, if_neg hlt2])
            clear hlt2
            go_wp2_with fail
            go_quiet (fail)
            go_wp2_with fail
            go_roundg (l.length - (j + 1))
            case measure => have := hq.out; omega
            case rel =>
              refine ⟨j + 1, _, rfl, by go_num, by omega, ⟨rfl⟩, ⟨fun _ => ?_⟩, ⟨pw_below_drewN HBR.out _⟩⟩
              rw [HMT.out, HB9.out]
      · obtain rfl : j = l.length := by omega
        obtain rfl := HS.out hl0
        have hml := minW_lt l l.length hl0
        have hmi : l[minW l l.length]? = some (l.getD (minW l l.length) zLW) := by rw [List.getD_eq_getElem?_getD, List.getElem?_eq_getElem hml]; rfl
        have hokm := (HOK.out.ok _ (List.mem_of_getElem? hmi)).1
        have HMI := Aside0.mk hmi
        generalize l.getD (minW l l.length) zLW = pm at *
        have HKY := Aside0.mk (Go.WideMaps.keyOf_string_mk (P := Try.prog) Try.underlying9 hokm)
        clear hokm hmi
        go_wp2_with (at_delete; refine mv_delete rfl _ _ 139 9 rfl 146 lawSt Try.underlying139 m N (mapW l) rfl HW.out.hm _ (kStr pm.1) rfl HKY.out ?_; intro w6 hm6 ht6; have HF := Aside0.mk (And.intro (HW.out.dropped hm6 ht6 (mapW_erase HOK.out.ris HMI.out).symm) ht6.grown); clear hm6 ht6)
        first | go_end0 | ((try simp only [Exit.inBlock, Exit.then]); refine bodyPost_ret (results_none rfl _ _ _) rfl ?_)
        rw [HRM.out]
        exact ⟨rfl, HF.out.1.1, ((HB.out.mono hbw).trans (HBR.out.mono (Nat.le_trans hbw HB.out.size))).trans HF.out.1.2, fun q hq hqm => (HF.out.2.block q (Nat.lt_of_lt_of_le hq (Nat.le_trans HB.out.size HBR.out.size)) (fun e => hqm (by injection e))).trans ((HBR.out.block q (Nat.lt_of_lt_of_le hq HB.out.size)).trans (HB.out.block q hq))⟩
end Go.Proofs.Ytldiginkmmlojaa
