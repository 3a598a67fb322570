/- The reference's limit: put. -/
import Derived.Test.YtldiginkmmlojaaRbE
import Derived.Test.YtldiginkmmlojaaRbK
namespace Go.Proofs.Ytldiginkmmlojaa
set_option linter.unusedVariables false
set_option linter.unusedSimpArgs false
open Go.RowKit Go.Maps Go.Proofs.YtldiginkmmlojaaW.PrintWords
attribute [local go_sem] mx2 mn2 mxTwo mnTwo

theorem rw_lit {W : World} {b : Nat} {x : Nat → Prop} (hbw : b ≤ W.heap.size) (hx : x W.heap.size) (p : LW) : kRw.R 151 (W.alloc (.cells #[.string p.1, .int .u64 p.2.since, .int .i64 p.2.n, .int .i64 p.2.barred] 151)) b x (.slice (some ⟨W.heap.size, 0, none⟩) 1 1) [p] := by
  refine ⟨fun k hk => ?_, cRw p, ?_, ?_⟩
  · have : W.heap.size = k := by simpa [Value.ownBlock] using hk
    subst this
    exact hx
  · have h2 := World.ownsRow_lit (base := b) (e := 151) (size := 4) W #[.string p.1, .int .u64 p.2.since, .int .i64 p.2.n, .int .i64 p.2.barred] 1 hbw (by simp [maxLen]) (by simp)
    exact h2
  · refine ⟨rfl, fun j q hj => ?_⟩
    have hj0 : j = 0 := by
      have := (List.getElem?_eq_some_iff.1 hj).1
      simpa using this
    subst hj0
    have hq : p = q := by simpa using hj
    subst hq
    exact kRw_mkM _ _ _ p
theorem lss_true {a b : ByteArray} (h : a.data.toList < b.data.toList) : Op.bytesLess a.toList b.toList = true := by
  rw [bytesLess_eq, ByteArray.toList_eq, ByteArray.toList_eq]
  exact decide_eq_true h
theorem lss_false {a b : ByteArray} (h : ¬ a.data.toList < b.data.toList) : Op.bytesLess a.toList b.toList = false := by
  rw [bytesLess_eq, ByteArray.toList_eq, ByteArray.toList_eq]
  exact decide_eq_false h
set_option maxHeartbeats 8000000 in
set_option maxRecDepth 100000 in
theorem rput_any (b g : Nat) (span burst most : Int) (l : List LW) (w : World) (h : RJ w b g span burst most l) (hl : l.length ≤ 1000000) (p : LW) :
    Calls Try.prog 84 #[.pointer (some ⟨g, 0, none⟩), .agg #[.string p.1, .int .u64 p.2.since, .int .i64 p.2.n, .int .i64 p.2.barred]] w fun e w' => e = .returned (.tuple #[]) ∧ RJ w' b g span burst most (insW l p.1 p.2) ∧ Below b w w' := by
  obtain ⟨⟨v, hb, hr⟩, hg⟩ := h
  obtain ⟨A1, c1, rfl⟩ := Kd.R_slice hr
  have hbw : b ≤ w.heap.size := Nat.le_trans hg (Nat.le_of_lt (blk_lt hb))
  have hlc := (Kd.R_reads' hr).2.1
  have HB0 := Aside0.mk hb
  have HR0 := Aside0.mk hr
  clear hb hr
  go_enter Try.func84, Try.ntmps84
  go_wp2_with fail
  obtain ⟨W1, hW1⟩ : ∃ W1, W1 = w.alloc (.cells #[.string p.1, .int .u64 p.2.since, .int .i64 p.2.n, .int .i64 p.2.barred] 151) := ⟨_, rfl⟩
  have hnb : W1.heap[w.heap.size]? = some (.cells #[.string p.1, .int .u64 p.2.since, .int .i64 p.2.n, .int .i64 p.2.barred] 151 (0, 0)) := by rw [hW1]; exact blk_new _ _
  have hb1 : Below w.heap.size w W1 := by rw [hW1]; exact below_alloc (Below.refl _ _) _
  rw [← hW1]
  obtain ⟨pb, hpb⟩ : ∃ pb, pb = w.heap.size := ⟨_, rfl⟩
  rw [← hpb] at hnb ⊢
  have HB1 := Aside0.mk hb1
  have HNB := Aside0.mk hnb
  clear hb1 hnb hpb hW1
  go_loopg [4] l.length (fun q v4 wr => ∃ k : Nat, v4 = .int .i64 (k : Int) ∧ k ≤ l.length ∧ Aside0 (q = l.length - k) ∧ Aside0 (∀ j r, j < k → l[j]? = some r → r.1.data.toList < p.1.data.toList) ∧ Aside0 (Below W1.heap.size W1 wr))
  case atStart => exact ⟨0, rfl, Nat.zero_le _, ⟨rfl⟩, ⟨fun j r hj => absurd hj (Nat.not_lt_zero _)⟩, ⟨Below.refl _ _⟩⟩
  case round =>
    obtain ⟨k, rfl, hk, hq, HLT, HB⟩ := hrel
    have hnbr := blk_below HNB.out HB.out
    have t0 := (blk_cell hnbr 0).trans (rfl : _ = some (Value.string p.1))
    have hbr := Aside0.mk (below_step HB1.out HB.out)
    have s0 := (blk_cell (blk_below HB0.out hbr.out) 3).trans (rfl : _ = some (Value.slice A1 l.length c1))
    have HRX := Aside0.mk (Kd.R_below HR0.out hbr.out)
    by_cases hgo : k < l.length ∧ (l.getD k zLW).1.data.toList < p.1.data.toList
    · obtain ⟨hlt, hs⟩ := hgo
      obtain ⟨ad, rfl, r1, _, _, _⟩ := at_Rw (C_own HRX.out) k hlt
      have q1 := lss_true hs
      have HPK := Aside0.mk (show ∀ j r, j < k + 1 → l[j]? = some r → r.1.data.toList < p.1.data.toList from fun j r hj hr => by
        by_cases hjk : j < k
        · exact HLT.out j r hjk hr
        · obtain rfl : j = k := by omega
          rw [List.getD_eq_getElem?_getD, hr] at hs
          exact hs)
      clear hs
      generalize l.getD k zLW = pj at *
      clear hnbr
      go_wp2_with fail
      go_quiet (fail)
      go_wp2_with fail
      go_roundg (l.length - (k + 1))
      case measure => have := hq.out; omega
      case rel => exact ⟨k + 1, by go_num, by omega, ⟨rfl⟩, HPK, ⟨pw_below_drewN HB.out _⟩⟩
    · have HPO := Aside0.mk (show posW l p.1 = k from posW_is l p.1 k hk HLT.out (fun r hr hs => hgo ⟨(List.getElem?_eq_some_iff.1 hr).1, by rw [List.getD_eq_getElem?_getD, hr]; exact hs⟩))
      have HIN := Aside0.mk (show insW l p.1 p.2 = l.take k ++ [p] ++ l.drop k by unfold insW; rw [HPO.out])
      have HNG := Aside0.mk hgo
      have hone : (k < l.length ∧ Aside0 (¬ (l.getD k zLW).1.data.toList < p.1.data.toList)) ∨ Aside0 (k = l.length) := by
        rcases Nat.lt_or_ge k l.length with h | h
        · exact .inl ⟨h, ⟨fun hs => HNG.out ⟨h, hs⟩⟩⟩
        · exact .inr ⟨by omega⟩
      clear hgo hnbr
      rcases hone with ⟨hlt, HS⟩ | HKE
      · obtain ⟨ad, e1, r1, _, _, _⟩ := at_Rw (C_own HRX.out) k hlt
        have q1 := lss_false HS.out
        subst e1
        generalize hpj : l.getD k zLW = pj at *
        clear HS hpj
        go_wp2_with fail
        go_quiet (fail)
        go_wp2_with fail
        clear r1 q1 t0 s0
        generalize hA1 : (some ad : Option Addr) = A1 at *
        clear hA1
        generalize hWz : World.drewN _ _ = Wz
        have HZ := Aside0.mk (show Below w.heap.size w Wz by rw [← hWz]; exact pw_below_drewN hbr.out _)
        have HNZ := Aside0.mk (show Wz.heap[pb]? = some (.cells #[.string p.1, .int .u64 p.2.since, .int .i64 p.2.n, .int .i64 p.2.barred] 151 (0, 0)) by rw [← hWz]; exact blk_drewN (blk_below HNB.out HB.out) _)
        clear hWz HRX
        have HRZ := Aside0.mk (Kd.R_below HR0.out HZ.out)
        have HGZ := Aside0.mk (blk_below HB0.out HZ.out)
        have s0 := (blk_cell HGZ.out 3).trans (rfl : _ = some (Value.slice A1 l.length c1))
        have t0 := (blk_cell HNZ.out 0).trans (rfl : _ = some (Value.string p.1))
        have t1 := (blk_cell HNZ.out 1).trans (rfl : _ = some (Value.int .u64 p.2.since))
        have t2 := (blk_cell HNZ.out 2).trans (rfl : _ = some (Value.int .i64 p.2.n))
        have t3 := (blk_cell HNZ.out 3).trans (rfl : _ = some (Value.int .i64 p.2.barred))
        have S00 := Aside0.mk s0
        have T00 := Aside0.mk (And.intro t0 (And.intro t1 (And.intro t2 t3)))
        obtain ⟨i0, hi0, hz0, hz1, hz2⟩ := info_parts infoRw
        have cutA : ∀ W : World, (Instr.slice 142 (.slice A1 l.length c1) none (some (.int .i64 (k : Int))) none).run Try.prog W = .ok (.slice A1 k c1) W := fun W => by
          have := cut_to (P := Try.prog) 142 151 .i64 Try.underlying142 hi0 A1 l.length c1 (k : Int) (by omega) (by omega) hlc W
          simpa using this
        obtain ⟨A9, hA9⟩ : ∃ A9, A9 = (if c1 = k then A1 else A1.map (·.add (k * 4))) := ⟨_, rfl⟩
        have cutB : ∀ W : World, (Instr.slice 142 (.slice A1 l.length c1) (some (.int .i64 (k : Int))) none none).run Try.prog W = .ok (.slice A9 (l.length - k) (c1 - k)) W := fun W => by
          have := cut_from (P := Try.prog) 142 151 .i64 Try.underlying142 hi0 4 hz1 A1 l.length c1 (k : Int) (by omega) (by omega) W
          rw [hA9]
          simpa using this
        have HTL := Aside0.mk (show (l.take k).length = k by rw [List.length_take]; omega)
        have HDL := Aside0.mk (show (l.drop k).length = l.length - k by rw [List.length_drop])
        have HCA := Aside0.mk (show Kd.C kRw Wz A1 k (l.take k) by have := Kd.C_take (m := k) (C_own HRZ.out) (by omega); rwa [HTL.out] at this)
        have HCB := Aside0.mk (show Kd.C kRw Wz A9 (l.length - k) (l.drop k) by have := Kd.C_drop (m := k) (C_own HRZ.out) (by omega) hlc; rwa [HDL.out, show kRw.sz = 4 from rfl, ← hA9] at this)
        have HBA1 := Aside0.mk (below_drew1 (below_alloc (Below.refl Wz.heap.size Wz) (.cells #[] 151)))
        have HBA2 := Aside0.mk (below_drew1 ((below_alloc (Below.refl Wz.heap.size Wz) (.cells #[] 151)).alloc (below_alloc (Below.refl Wz.heap.size Wz) (.cells #[] 151)).size (.cells #[.string p.1, .int .u64 p.2.since, .int .i64 p.2.n, .int .i64 p.2.barred] 151)))
        have HBA3 := Aside0.mk (below_drew1 ((below_alloc (Below.refl Wz.heap.size Wz) (.cells #[.string p.1, .int .u64 p.2.since, .int .i64 p.2.n, .int .i64 p.2.barred] 151)).alloc (below_alloc (Below.refl Wz.heap.size Wz) (.cells #[.string p.1, .int .u64 p.2.since, .int .i64 p.2.n, .int .i64 p.2.barred] 151)).size (.cells #[] 151)))
        have HE1 := Aside0.mk (Kd.R_drew (R_empty kRw 151 Wz Wz.heap.size (fun _ => True) trivial (Nat.le_refl _)))
        have HE2 := Aside0.mk (Kd.R_drew (Kd.R_alloc (R_empty kRw 151 Wz Wz.heap.size (fun _ => True) trivial (Nat.le_refl _)) (.cells #[.string p.1, .int .u64 p.2.since, .int .i64 p.2.n, .int .i64 p.2.barred] 151)))
        have HE3 := Aside0.mk (show Kd.R kRw 151 ((Wz.alloc (.cells #[.string p.1, .int .u64 p.2.since, .int .i64 p.2.n, .int .i64 p.2.barred] 151)).alloc (.cells #[] 151)).drew Wz.heap.size (fun _ => True) (.slice (some ⟨Wz.heap.size + 1, 0, none⟩) 0 0) [] by have h := Kd.R_drew (R_empty kRw 151 (Wz.alloc (.cells #[.string p.1, .int .u64 p.2.since, .int .i64 p.2.n, .int .i64 p.2.barred] 151)) Wz.heap.size (fun _ => True) trivial (by simp)); rwa [World.size_alloc] at h)
        have HL2 := Aside0.mk (show Kd.R kRw 151 ((Wz.alloc (.cells #[] 151)).alloc (.cells #[.string p.1, .int .u64 p.2.since, .int .i64 p.2.n, .int .i64 p.2.barred] 151)).drew Wz.heap.size (fun q => q = Wz.heap.size + 1) (.slice (some ⟨Wz.heap.size + 1, 0, none⟩) 1 1) [p] by have h := Kd.R_drew (rw_lit (W := Wz.alloc (.cells #[] 151)) (b := Wz.heap.size) (x := fun q => q = Wz.heap.size + 1) (by simp) (by simp) p); rwa [World.size_alloc] at h)
        have HL3 := Aside0.mk (show Kd.R kRw 151 ((Wz.alloc (.cells #[.string p.1, .int .u64 p.2.since, .int .i64 p.2.n, .int .i64 p.2.barred] 151)).alloc (.cells #[] 151)).drew Wz.heap.size (fun q => q = Wz.heap.size) (.slice (some ⟨Wz.heap.size, 0, none⟩) 1 1) [p] from Kd.R_drew (Kd.R_alloc (rw_lit (W := Wz) (b := Wz.heap.size) (x := fun q => q = Wz.heap.size) (Nat.le_refl _) rfl p) _))
        clear hi0 hz0 hz1 hz2 hA9 HRZ HR0
        have s0a := cell_al (.cells #[] 151) s0
        have t0a := cell_al (.cells #[] 151) t0
        have t1a := cell_al (.cells #[] 151) t1
        have t2a := cell_al (.cells #[] 151) t2
        have t3a := cell_al (.cells #[] 151) t3
        have s0b := cell_al (.cells #[.string p.1, .int .u64 p.2.since, .int .i64 p.2.n, .int .i64 p.2.barred] 151) s0
        have s0c := cell_al (.cells #[] 151) s0b
        have s0d := cell_al (.cells #[.string p.1, .int .u64 p.2.since, .int .i64 p.2.n, .int .i64 p.2.barred] 151) s0a
        refine wp_region_K (m := 22) (n := 21) (S := fun w' => w'.cell? ⟨g, 3, none⟩ = some (.slice A1 l.length c1) ∧ w'.cell? ⟨pb, 0, none⟩ = some (.string p.1) ∧ w'.cell? ⟨pb, 1, none⟩ = some (.int .u64 p.2.since) ∧ w'.cell? ⟨pb, 2, none⟩ = some (.int .i64 p.2.n) ∧ w'.cell? ⟨pb, 3, none⟩ = some (.int .i64 p.2.barred)) (by kernel_rfl) rfl (by simp) ?_
        intro inv
        have hH := And.intro s0 (And.intro t0 (And.intro t1 (And.intro t2 t3)))
        refine wpAnyK_take (i := 0) (v := ?v0a) rfl (by kernel_rfl) (by kernel_rfl) (by kernel_rfl) (by simp) (by decide) inv (by kernel_rfl) (by kernel_rfl) (fun _ _ _ h => h) (Or.inl ⟨by rfl, ?hy0a⟩) hH ?_
        case hy0a => (intro w hSw; obtain ⟨z0, z1, z2, z3, z4⟩ := hSw; go_simp; (try with_reducible rfl))
        clear inv; intro inv; (try simp only [Act.put, List.setIfInBounds_toArray, List.set_cons_zero, List.set_cons_succ])
        refine wpAnyK_take (i := 2) (v := ?v2a) rfl (by kernel_rfl) (by kernel_rfl) (by kernel_rfl) (by simp) (by decide) inv (by kernel_rfl) (by kernel_rfl) (fun _ _ _ h => h) (Or.inl ⟨by rfl, ?hy2a⟩) hH ?_
        case hy2a => (intro w hSw; obtain ⟨z0, z1, z2, z3, z4⟩ := hSw; go_simp; (try with_reducible rfl))
        clear inv; intro inv; (try simp only [Act.put, List.setIfInBounds_toArray, List.set_cons_zero, List.set_cons_succ])
        refine wpAnyK_take (i := 3) (v := ?v3a) rfl (by kernel_rfl) (by kernel_rfl) (by kernel_rfl) (by simp) (by decide) inv (by kernel_rfl) (by kernel_rfl) (fun _ _ _ h => h) (Or.inl ⟨by rfl, ?hy3a⟩) hH ?_
        case hy3a => (intro w hSw; obtain ⟨z0, z1, z2, z3, z4⟩ := hSw; go_simp; (try with_reducible rfl))
        clear inv; intro inv; (try simp only [Act.put, List.setIfInBounds_toArray, List.set_cons_zero, List.set_cons_succ])
        refine wpAnyK_take (i := 4) (v := ?v4a) rfl (by kernel_rfl) (by kernel_rfl) (by kernel_rfl) (by simp) (by decide) inv (by kernel_rfl) (by kernel_rfl) (fun _ _ _ h => h) (Or.inl ⟨by rfl, ?hy4a⟩) hH ?_
        case hy4a => (intro w hSw; obtain ⟨z0, z1, z2, z3, z4⟩ := hSw; go_simp; (try with_reducible rfl))
        clear inv; intro inv; (try simp only [Act.put, List.setIfInBounds_toArray, List.set_cons_zero, List.set_cons_succ])
        refine wpAnyK_take (i := 5) (v := ?v5a) rfl (by kernel_rfl) (by kernel_rfl) (by kernel_rfl) (by simp) (by decide) inv (by kernel_rfl) (by kernel_rfl) (fun _ _ _ h => h) (Or.inl ⟨by rfl, ?hy5a⟩) hH ?_
        case hy5a => (intro w hSw; obtain ⟨z0, z1, z2, z3, z4⟩ := hSw; go_simp; (try with_reducible rfl))
        clear inv; intro inv; (try simp only [Act.put, List.setIfInBounds_toArray, List.set_cons_zero, List.set_cons_succ])
        refine wpAnyK_take (i := 6) (v := ?v6a) rfl (by kernel_rfl) (by kernel_rfl) (by kernel_rfl) (by simp) (by decide) inv (by kernel_rfl) (by kernel_rfl) (fun _ _ _ h => h) (Or.inl ⟨by rfl, ?hy6a⟩) hH ?_
        case hy6a => (intro w hSw; obtain ⟨z0, z1, z2, z3, z4⟩ := hSw; go_simp; (try with_reducible rfl))
        clear inv; intro inv; (try simp only [Act.put, List.setIfInBounds_toArray, List.set_cons_zero, List.set_cons_succ])
        refine wpAnyK_take (i := 7) (v := ?v7a) rfl (by kernel_rfl) (by kernel_rfl) (by kernel_rfl) (by simp) (by decide) inv (by kernel_rfl) (by kernel_rfl) (fun _ _ _ h => h) (Or.inl ⟨by rfl, ?hy7a⟩) hH ?_
        case hy7a => (intro w hSw; obtain ⟨z0, z1, z2, z3, z4⟩ := hSw; go_simp; (try with_reducible rfl))
        clear inv; intro inv; (try simp only [Act.put, List.setIfInBounds_toArray, List.set_cons_zero, List.set_cons_succ])
        refine wpAnyK_take (i := 9) (v := ?v9a) rfl (by kernel_rfl) (by kernel_rfl) (by kernel_rfl) (by simp) (by decide) inv (by kernel_rfl) (by kernel_rfl) (fun _ _ _ h => h) (Or.inl ⟨by rfl, ?hy9a⟩) hH ?_
        case hy9a => (intro w hSw; obtain ⟨z0, z1, z2, z3, z4⟩ := hSw; go_simp; (try with_reducible rfl))
        clear inv; intro inv; (try simp only [Act.put, List.setIfInBounds_toArray, List.set_cons_zero, List.set_cons_succ])
        refine wpAnyK_take (i := 12) (v := ?v12a) rfl (by kernel_rfl) (by kernel_rfl) (by kernel_rfl) (by simp) (by decide) inv (by kernel_rfl) (by kernel_rfl) (fun _ _ _ h => h) (Or.inl ⟨by rfl, ?hy12a⟩) hH ?_
        case hy12a => (intro w hSw; obtain ⟨z0, z1, z2, z3, z4⟩ := hSw; go_simp; (try with_reducible rfl))
        clear inv; intro inv; (try simp only [Act.put, List.setIfInBounds_toArray, List.set_cons_zero, List.set_cons_succ])
        refine wpAnyK_take (i := 13) (v := ?v13a) rfl (by kernel_rfl) (by kernel_rfl) (by kernel_rfl) (by simp) (by decide) inv (by kernel_rfl) (by kernel_rfl) (fun _ _ _ h => h) (Or.inl ⟨by rfl, ?hy13a⟩) hH ?_
        case hy13a => (intro w hSw; obtain ⟨z0, z1, z2, z3, z4⟩ := hSw; go_simp; (try with_reducible rfl))
        clear inv; intro inv; (try simp only [Act.put, List.setIfInBounds_toArray, List.set_cons_zero, List.set_cons_succ])
        refine wpAnyK_take (i := 14) (v := ?v14a) rfl (by kernel_rfl) (by kernel_rfl) (by kernel_rfl) (by simp) (by decide) inv (by kernel_rfl) (by kernel_rfl) (fun _ _ _ h => h) (Or.inl ⟨by rfl, ?hy14a⟩) hH ?_
        case hy14a => (intro w hSw; obtain ⟨z0, z1, z2, z3, z4⟩ := hSw; go_simp; (try with_reducible rfl))
        clear inv; intro inv; (try simp only [Act.put, List.setIfInBounds_toArray, List.set_cons_zero, List.set_cons_succ])
        refine wpAnyK_take (i := 15) (v := ?v15a) rfl (by kernel_rfl) (by kernel_rfl) (by kernel_rfl) (by simp) (by decide) inv (by kernel_rfl) (by kernel_rfl) (fun _ _ _ h => h) (Or.inl ⟨by rfl, ?hy15a⟩) hH ?_
        case hy15a => (intro w hSw; obtain ⟨z0, z1, z2, z3, z4⟩ := hSw; go_simp; (try with_reducible rfl))
        clear inv; intro inv; (try simp only [Act.put, List.setIfInBounds_toArray, List.set_cons_zero, List.set_cons_succ])
        refine wpAnyK_take (i := 16) (v := ?v16a) rfl (by kernel_rfl) (by kernel_rfl) (by kernel_rfl) (by simp) (by decide) inv (by kernel_rfl) (by kernel_rfl) (fun _ _ _ h => h) (Or.inl ⟨by rfl, ?hy16a⟩) hH ?_
        case hy16a => (intro w hSw; obtain ⟨z0, z1, z2, z3, z4⟩ := hSw; go_simp; (try with_reducible rfl))
        clear inv; intro inv; (try simp only [Act.put, List.setIfInBounds_toArray, List.set_cons_zero, List.set_cons_succ])
        refine wpAnyK_take (i := 17) (v := ?v17a) rfl (by kernel_rfl) (by kernel_rfl) (by kernel_rfl) (by simp) (by decide) inv (by kernel_rfl) (by kernel_rfl) (fun _ _ _ h => h) (Or.inl ⟨by rfl, ?hy17a⟩) hH ?_
        case hy17a => (intro w hSw; obtain ⟨z0, z1, z2, z3, z4⟩ := hSw; go_simp; (try with_reducible rfl))
        clear inv; intro inv; (try simp only [Act.put, List.setIfInBounds_toArray, List.set_cons_zero, List.set_cons_succ])
        clear inv hH
        refine wpAnyK_ready (rs := [1, 10]) (by kernel_rfl) (by simp) (AllK.cons rfl (by decide) (fun K hK => ?_) (AllK.cons rfl (by decide) (fun K hK => ?_) AllK.nil))
        · go_simp
          refine hK.out _ _ ⟨cell_al _ s0, cell_al _ t0, cell_al _ t1, cell_al _ t2, cell_al _ t3⟩ ?_
          clear hK K
          (try simp only [Act.put, List.setIfInBounds_toArray, List.set_cons_zero, List.set_cons_succ])
          refine wpAnyK_ready (rs := [8, 10]) (by kernel_rfl) (by simp) (AllK.cons rfl (by decide) (fun K hK => ?_) (AllK.cons rfl (by decide) (fun K hK => ?_) AllK.nil))
          · refine Kd.R_append_rows_step kRw (Rr := kRw.K ((Wz.alloc (.cells #[] 151)).drew)) (w0 := Wz) Wz.heap.size (by rfl) (.tmp 28) (.tmp 34) 142 151 (.agg #[(.string ⟨#[]⟩), (.int .u64 0), (.int .i64 0), (.int .i64 0)]) 40 rfl Try.underlying142 infoRw rfl (by decide) (by omega) (.slice (some ⟨Wz.heap.size, 0, none⟩) 0 0) ([]) (l.take k) (A1) (k) (c1) (fun _ => True) (fun _ => False) (by rfl) (by rfl) (HE1.out) (Kd.C_below HCA.out HBA1.out) (fun _ _ h => h) (fun _ h => h.elim) (fun _ _ => trivial) (HBA1.out) (HBA1.out).size (by simp; omega) ?_; intro v1 w1 h1 hb1 hg1 hat1; rw [List.nil_append] at h1; obtain ⟨A3, c3, rfl, hc3, _⟩ := Kd.R_reads h1; rw [HTL.out] at h1 hat1 hc3 ⊢; replace s0 := pw_cell_below hb1 S00.out; replace t0 := pw_cell_below hb1 T00.out.1; replace t1 := pw_cell_below hb1 T00.out.2.1; replace t2 := pw_cell_below hb1 T00.out.2.2.1; replace t3 := pw_cell_below hb1 T00.out.2.2.2; have s0e := cell_al (.cells #[.string p.1, .int .u64 p.2.since, .int .i64 p.2.n, .int .i64 p.2.barred] 151) s0; have HR1 := Aside0.mk h1; have HBR := Aside0.mk hb1; clear h1 hb1 hg1 hat1
            refine hK.out _ _ ⟨s0, t0, t1, t2, t3⟩ ?_
            clear hK K
            (try simp only [Act.put, List.setIfInBounds_toArray, List.set_cons_zero, List.set_cons_succ])
            refine wpAnyK_ready (rs := [10]) (by kernel_rfl) (by simp) (AllK.cons rfl (by decide) (fun K hK => ?_) AllK.nil)
            go_simp
            refine hK.out _ _ ⟨cell_al _ s0, cell_al _ t0, cell_al _ t1, cell_al _ t2, cell_al _ t3⟩ ?_
            clear hK K
            (try simp only [Act.put, List.setIfInBounds_toArray, List.set_cons_zero, List.set_cons_succ])
            refine wpAnyK_ready (rs := [11]) (by kernel_rfl) (by simp) (AllK.cons rfl (by decide) (fun K hK => ?_) AllK.nil)
            refine Kd.R_append_rows_step kRw (Rr := kRw.K (w1.alloc (.cells #[.string p.1, .int .u64 p.2.since, .int .i64 p.2.n, .int .i64 p.2.barred] 151))) (w0 := Wz) Wz.heap.size (by rfl) (.tmp 35) (.tmp 37) 142 151 (.agg #[(.string ⟨#[]⟩), (.int .u64 0), (.int .i64 0), (.int .i64 0)]) 40 rfl Try.underlying142 infoRw rfl (by decide) (by omega) (.slice A3 k c3) (l.take k) ([p]) (some ⟨w1.heap.size, 0, none⟩) (1) (1) (fun _ => True) (fun _ => False) (by rfl) (by rfl) (Kd.R_alloc HR1.out _) (C_own (rw_lit (Nat.le_refl _) trivial p : kRw.R _ _ w1.heap.size (fun _ => True) _ _)) (fun _ _ h => h) (fun _ h => h.elim) (fun _ _ => trivial) (below_step HBR.out (below_alloc (Below.refl w1.heap.size w1) _)) (below_step HBR.out (below_alloc (Below.refl w1.heap.size w1) _)).size (by rw [HTL.out]; omega) ?_; intro v4 w4 h4 hb4 _ _; obtain ⟨A4, c4, rfl, hc4, _⟩ := Kd.R_reads h4; rw [List.length_append, HTL.out, List.length_singleton] at h4 hc4 ⊢; replace s0 := pw_cell_below hb4 S00.out; replace t0 := pw_cell_below hb4 T00.out.1; replace t1 := pw_cell_below hb4 T00.out.2.1; replace t2 := pw_cell_below hb4 T00.out.2.2.1; replace t3 := pw_cell_below hb4 T00.out.2.2.2; have HR4 := Aside0.mk h4; have HBR4 := Aside0.mk hb4; clear h4 hb4
            refine hK.out _ _ ⟨s0, t0, t1, t2, t3⟩ ?_
            clear hK K
            (try simp only [Act.put, List.setIfInBounds_toArray, List.set_cons_zero, List.set_cons_succ])
            refine wpAnyK_ready (rs := [18]) (by kernel_rfl) (by simp) (AllK.cons rfl (by decide) (fun K hK => ?_) AllK.nil)
            refine Kd.R_append_rows_step kRw (Rr := kRw.K (w4)) (w0 := Wz) Wz.heap.size (by rfl) (.tmp 38) (.tmp 44) 142 151 (.agg #[(.string ⟨#[]⟩), (.int .u64 0), (.int .i64 0), (.int .i64 0)]) 40 rfl Try.underlying142 infoRw rfl (by decide) (by omega) (.slice A4 (k + 1) c4) (l.take k ++ [p]) (l.drop k) (A9) (l.length - k) (c1 - k) (fun _ => True) (fun _ => False) (by rfl) (by rfl) (HR4.out) (Kd.C_below HCB.out HBR4.out) (fun _ _ h => h) (fun _ h => h.elim) (fun _ _ => trivial) (HBR4.out) (HBR4.out).size (by rw [List.length_append, HTL.out, List.length_singleton]; omega) ?_; intro v5 w5 h5 hb5 _ _; rw [← HIN.out] at h5; obtain ⟨A5, c5, rfl, hc5, _⟩ := Kd.R_reads h5; have hgb5 := blk_below HGZ.out hb5; replace s0 := (blk_cell hgb5 3).trans (rfl : _ = some (Value.slice A1 l.length c1)); have f0 := blk_frozen hgb5 3; have HG5 := Aside0.mk hgb5; have HR5 := Aside0.mk h5; have HBR5 := Aside0.mk hb5; replace t0 := pw_cell_below hb5 T00.out.1; replace t1 := pw_cell_below hb5 T00.out.2.1; replace t2 := pw_cell_below hb5 T00.out.2.2.1; replace t3 := pw_cell_below hb5 T00.out.2.2.2; clear h5 hb5 hgb5
            refine hK.out _ _ ⟨s0, t0, t1, t2, t3⟩ ?_
            clear hK K
            (try simp only [Act.put, List.setIfInBounds_toArray, List.set_cons_zero, List.set_cons_succ])
            refine wpAnyK_ready (rs := [19]) (by kernel_rfl) (by simp) (AllK.cons rfl (by decide) (fun K hK => ?_) AllK.nil)
            go_simp
            refine hK.out _ _ ⟨s0, t0, t1, t2, t3⟩ ?_
            clear hK K
            (try simp only [Act.put, List.setIfInBounds_toArray, List.set_cons_zero, List.set_cons_succ])
            refine wpAnyK_ready (rs := [20]) (by kernel_rfl) (by simp) (AllK.cons rfl (by decide) (fun K hK => ?_) AllK.nil)
            go_simp
            refine hK.out _ _ ⟨s0, t0, t1, t2, t3⟩ ?_
            clear hK K
            (try simp only [Act.put, List.setIfInBounds_toArray, List.set_cons_zero, List.set_cons_succ])
            refine wpAnyK_last rfl (by kernel_rfl) (by kernel_rfl) (fun K hK => ?_)
            go_simp
            refine hK.out _ _ ?_
            clear hK K
            go_wp2_with fail
            first | go_end0 | ((try simp only [Exit.inBlock, Exit.then]); refine bodyPost_ret (results_none rfl _ _ _) rfl ?_)
            exact ⟨rfl, ⟨⟨_, blk_put HG5.out 3 _ rfl, Kd.R_set (Kd.R_lower HR5.out (Nat.le_trans hbw HZ.out.size)) HG5.out (by intro q hq; have e9 : kRw.E = [] := rfl; rw [e9] at hq; simp at hq; omega) 3 _⟩, hg⟩, ((below_step HZ.out HBR5.out).mono hbw).setCell (p := ⟨g, 3, none⟩) hg _⟩
          · go_simp
            refine hK.out _ _ ⟨cell_al _ (cell_al _ s0), cell_al _ (cell_al _ t0), cell_al _ (cell_al _ t1), cell_al _ (cell_al _ t2), cell_al _ (cell_al _ t3)⟩ ?_
            clear hK K
            (try simp only [Act.put, List.setIfInBounds_toArray, List.set_cons_zero, List.set_cons_succ])
            refine wpAnyK_ready (rs := [8]) (by kernel_rfl) (by simp) (AllK.cons rfl (by decide) (fun K hK => ?_) AllK.nil)
            refine Kd.R_append_rows_step kRw (Rr := kRw.K (((Wz.alloc (.cells #[] 151)).alloc (.cells #[.string p.1, .int .u64 p.2.since, .int .i64 p.2.n, .int .i64 p.2.barred] 151)).drew)) (w0 := Wz) Wz.heap.size (by rfl) (.tmp 28) (.tmp 34) 142 151 (.agg #[(.string ⟨#[]⟩), (.int .u64 0), (.int .i64 0), (.int .i64 0)]) 40 rfl Try.underlying142 infoRw rfl (by decide) (by omega) (.slice (some ⟨Wz.heap.size, 0, none⟩) 0 0) ([]) (l.take k) (A1) (k) (c1) (fun _ => True) (fun _ => False) (by rfl) (by rfl) (HE2.out) (Kd.C_below HCA.out HBA2.out) (fun _ _ h => h) (fun _ h => h.elim) (fun _ _ => trivial) (HBA2.out) (HBA2.out).size (by simp; omega) ?_; intro v1 w1 h1 hb1 hg1 hat1; rw [List.nil_append] at h1; obtain ⟨A3, c3, rfl, hc3, _⟩ := Kd.R_reads h1; rw [HTL.out] at h1 hat1 hc3 ⊢; replace s0 := pw_cell_below hb1 S00.out; replace t0 := pw_cell_below hb1 T00.out.1; replace t1 := pw_cell_below hb1 T00.out.2.1; replace t2 := pw_cell_below hb1 T00.out.2.2.1; replace t3 := pw_cell_below hb1 T00.out.2.2.2; have s0e := cell_al (.cells #[.string p.1, .int .u64 p.2.since, .int .i64 p.2.n, .int .i64 p.2.barred] 151) s0; have HR1 := Aside0.mk h1; have HBR := Aside0.mk hb1; have HLT1 := Aside0.mk (C_own (Kd.R_grown HL2.out hg1 (fun q hq e => by subst hq; simp [Value.ownBlock] at e))); clear h1 hb1 hg1 hat1
            refine hK.out _ _ ⟨s0, t0, t1, t2, t3⟩ ?_
            clear hK K
            (try simp only [Act.put, List.setIfInBounds_toArray, List.set_cons_zero, List.set_cons_succ])
            refine wpAnyK_ready (rs := [11]) (by kernel_rfl) (by simp) (AllK.cons rfl (by decide) (fun K hK => ?_) AllK.nil)
            refine Kd.R_append_rows_step kRw (Rr := kRw.K (w1)) (w0 := Wz) Wz.heap.size (by rfl) (.tmp 35) (.tmp 37) 142 151 (.agg #[(.string ⟨#[]⟩), (.int .u64 0), (.int .i64 0), (.int .i64 0)]) 40 rfl Try.underlying142 infoRw rfl (by decide) (by omega) (.slice A3 k c3) (l.take k) ([p]) (some ⟨Wz.heap.size + 1, 0, none⟩) (1) (1) (fun _ => True) (fun _ => False) (by rfl) (by rfl) (HR1.out) (HLT1.out) (fun _ _ h => h) (fun _ h => h.elim) (fun _ _ => trivial) (HBR.out) (HBR.out).size (by rw [HTL.out]; omega) ?_; intro v4 w4 h4 hb4 _ _; obtain ⟨A4, c4, rfl, hc4, _⟩ := Kd.R_reads h4; rw [List.length_append, HTL.out, List.length_singleton] at h4 hc4 ⊢; replace s0 := pw_cell_below hb4 S00.out; replace t0 := pw_cell_below hb4 T00.out.1; replace t1 := pw_cell_below hb4 T00.out.2.1; replace t2 := pw_cell_below hb4 T00.out.2.2.1; replace t3 := pw_cell_below hb4 T00.out.2.2.2; have HR4 := Aside0.mk h4; have HBR4 := Aside0.mk hb4; clear h4 hb4
            refine hK.out _ _ ⟨s0, t0, t1, t2, t3⟩ ?_
            clear hK K
            (try simp only [Act.put, List.setIfInBounds_toArray, List.set_cons_zero, List.set_cons_succ])
            refine wpAnyK_ready (rs := [18]) (by kernel_rfl) (by simp) (AllK.cons rfl (by decide) (fun K hK => ?_) AllK.nil)
            refine Kd.R_append_rows_step kRw (Rr := kRw.K (w4)) (w0 := Wz) Wz.heap.size (by rfl) (.tmp 38) (.tmp 44) 142 151 (.agg #[(.string ⟨#[]⟩), (.int .u64 0), (.int .i64 0), (.int .i64 0)]) 40 rfl Try.underlying142 infoRw rfl (by decide) (by omega) (.slice A4 (k + 1) c4) (l.take k ++ [p]) (l.drop k) (A9) (l.length - k) (c1 - k) (fun _ => True) (fun _ => False) (by rfl) (by rfl) (HR4.out) (Kd.C_below HCB.out HBR4.out) (fun _ _ h => h) (fun _ h => h.elim) (fun _ _ => trivial) (HBR4.out) (HBR4.out).size (by rw [List.length_append, HTL.out, List.length_singleton]; omega) ?_; intro v5 w5 h5 hb5 _ _; rw [← HIN.out] at h5; obtain ⟨A5, c5, rfl, hc5, _⟩ := Kd.R_reads h5; have hgb5 := blk_below HGZ.out hb5; replace s0 := (blk_cell hgb5 3).trans (rfl : _ = some (Value.slice A1 l.length c1)); have f0 := blk_frozen hgb5 3; have HG5 := Aside0.mk hgb5; have HR5 := Aside0.mk h5; have HBR5 := Aside0.mk hb5; replace t0 := pw_cell_below hb5 T00.out.1; replace t1 := pw_cell_below hb5 T00.out.2.1; replace t2 := pw_cell_below hb5 T00.out.2.2.1; replace t3 := pw_cell_below hb5 T00.out.2.2.2; clear h5 hb5 hgb5
            refine hK.out _ _ ⟨s0, t0, t1, t2, t3⟩ ?_
            clear hK K
            (try simp only [Act.put, List.setIfInBounds_toArray, List.set_cons_zero, List.set_cons_succ])
            refine wpAnyK_ready (rs := [19]) (by kernel_rfl) (by simp) (AllK.cons rfl (by decide) (fun K hK => ?_) AllK.nil)
            go_simp
            refine hK.out _ _ ⟨s0, t0, t1, t2, t3⟩ ?_
            clear hK K
            (try simp only [Act.put, List.setIfInBounds_toArray, List.set_cons_zero, List.set_cons_succ])
            refine wpAnyK_ready (rs := [20]) (by kernel_rfl) (by simp) (AllK.cons rfl (by decide) (fun K hK => ?_) AllK.nil)
            go_simp
            refine hK.out _ _ ⟨s0, t0, t1, t2, t3⟩ ?_
            clear hK K
            (try simp only [Act.put, List.setIfInBounds_toArray, List.set_cons_zero, List.set_cons_succ])
            refine wpAnyK_last rfl (by kernel_rfl) (by kernel_rfl) (fun K hK => ?_)
            go_simp
            refine hK.out _ _ ?_
            clear hK K
            go_wp2_with fail
            first | go_end0 | ((try simp only [Exit.inBlock, Exit.then]); refine bodyPost_ret (results_none rfl _ _ _) rfl ?_)
            exact ⟨rfl, ⟨⟨_, blk_put HG5.out 3 _ rfl, Kd.R_set (Kd.R_lower HR5.out (Nat.le_trans hbw HZ.out.size)) HG5.out (by intro q hq; have e9 : kRw.E = [] := rfl; rw [e9] at hq; simp at hq; omega) 3 _⟩, hg⟩, ((below_step HZ.out HBR5.out).mono hbw).setCell (p := ⟨g, 3, none⟩) hg _⟩
        · go_simp
          refine hK.out _ _ ⟨cell_al _ s0, cell_al _ t0, cell_al _ t1, cell_al _ t2, cell_al _ t3⟩ ?_
          clear hK K
          (try simp only [Act.put, List.setIfInBounds_toArray, List.set_cons_zero, List.set_cons_succ])
          refine wpAnyK_ready (rs := [1]) (by kernel_rfl) (by simp) (AllK.cons rfl (by decide) (fun K hK => ?_) AllK.nil)
          go_simp
          refine hK.out _ _ ⟨cell_al _ (cell_al _ s0), cell_al _ (cell_al _ t0), cell_al _ (cell_al _ t1), cell_al _ (cell_al _ t2), cell_al _ (cell_al _ t3)⟩ ?_
          clear hK K
          (try simp only [Act.put, List.setIfInBounds_toArray, List.set_cons_zero, List.set_cons_succ])
          refine wpAnyK_ready (rs := [8]) (by kernel_rfl) (by simp) (AllK.cons rfl (by decide) (fun K hK => ?_) AllK.nil)
          refine Kd.R_append_rows_step kRw (Rr := kRw.K (((Wz.alloc (.cells #[.string p.1, .int .u64 p.2.since, .int .i64 p.2.n, .int .i64 p.2.barred] 151)).alloc (.cells #[] 151)).drew)) (w0 := Wz) Wz.heap.size (by rfl) (.tmp 28) (.tmp 34) 142 151 (.agg #[(.string ⟨#[]⟩), (.int .u64 0), (.int .i64 0), (.int .i64 0)]) 40 rfl Try.underlying142 infoRw rfl (by decide) (by omega) (.slice (some ⟨Wz.heap.size + 1, 0, none⟩) 0 0) ([]) (l.take k) (A1) (k) (c1) (fun _ => True) (fun _ => False) (by rfl) (by rfl) (HE3.out) (Kd.C_below HCA.out HBA3.out) (fun _ _ h => h) (fun _ h => h.elim) (fun _ _ => trivial) (HBA3.out) (HBA3.out).size (by simp; omega) ?_; intro v1 w1 h1 hb1 hg1 hat1; rw [List.nil_append] at h1; obtain ⟨A3, c3, rfl, hc3, _⟩ := Kd.R_reads h1; rw [HTL.out] at h1 hat1 hc3 ⊢; replace s0 := pw_cell_below hb1 S00.out; replace t0 := pw_cell_below hb1 T00.out.1; replace t1 := pw_cell_below hb1 T00.out.2.1; replace t2 := pw_cell_below hb1 T00.out.2.2.1; replace t3 := pw_cell_below hb1 T00.out.2.2.2; have s0e := cell_al (.cells #[.string p.1, .int .u64 p.2.since, .int .i64 p.2.n, .int .i64 p.2.barred] 151) s0; have HR1 := Aside0.mk h1; have HBR := Aside0.mk hb1; have HLT1 := Aside0.mk (C_own (Kd.R_grown HL3.out hg1 (fun q hq e => by subst hq; simp [Value.ownBlock] at e))); clear h1 hb1 hg1 hat1
          refine hK.out _ _ ⟨s0, t0, t1, t2, t3⟩ ?_
          clear hK K
          (try simp only [Act.put, List.setIfInBounds_toArray, List.set_cons_zero, List.set_cons_succ])
          refine wpAnyK_ready (rs := [11]) (by kernel_rfl) (by simp) (AllK.cons rfl (by decide) (fun K hK => ?_) AllK.nil)
          refine Kd.R_append_rows_step kRw (Rr := kRw.K (w1)) (w0 := Wz) Wz.heap.size (by rfl) (.tmp 35) (.tmp 37) 142 151 (.agg #[(.string ⟨#[]⟩), (.int .u64 0), (.int .i64 0), (.int .i64 0)]) 40 rfl Try.underlying142 infoRw rfl (by decide) (by omega) (.slice A3 k c3) (l.take k) ([p]) (some ⟨Wz.heap.size, 0, none⟩) (1) (1) (fun _ => True) (fun _ => False) (by rfl) (by rfl) (HR1.out) (HLT1.out) (fun _ _ h => h) (fun _ h => h.elim) (fun _ _ => trivial) (HBR.out) (HBR.out).size (by rw [HTL.out]; omega) ?_; intro v4 w4 h4 hb4 _ _; obtain ⟨A4, c4, rfl, hc4, _⟩ := Kd.R_reads h4; rw [List.length_append, HTL.out, List.length_singleton] at h4 hc4 ⊢; replace s0 := pw_cell_below hb4 S00.out; replace t0 := pw_cell_below hb4 T00.out.1; replace t1 := pw_cell_below hb4 T00.out.2.1; replace t2 := pw_cell_below hb4 T00.out.2.2.1; replace t3 := pw_cell_below hb4 T00.out.2.2.2; have HR4 := Aside0.mk h4; have HBR4 := Aside0.mk hb4; clear h4 hb4
          refine hK.out _ _ ⟨s0, t0, t1, t2, t3⟩ ?_
          clear hK K
          (try simp only [Act.put, List.setIfInBounds_toArray, List.set_cons_zero, List.set_cons_succ])
          refine wpAnyK_ready (rs := [18]) (by kernel_rfl) (by simp) (AllK.cons rfl (by decide) (fun K hK => ?_) AllK.nil)
          refine Kd.R_append_rows_step kRw (Rr := kRw.K (w4)) (w0 := Wz) Wz.heap.size (by rfl) (.tmp 38) (.tmp 44) 142 151 (.agg #[(.string ⟨#[]⟩), (.int .u64 0), (.int .i64 0), (.int .i64 0)]) 40 rfl Try.underlying142 infoRw rfl (by decide) (by omega) (.slice A4 (k + 1) c4) (l.take k ++ [p]) (l.drop k) (A9) (l.length - k) (c1 - k) (fun _ => True) (fun _ => False) (by rfl) (by rfl) (HR4.out) (Kd.C_below HCB.out HBR4.out) (fun _ _ h => h) (fun _ h => h.elim) (fun _ _ => trivial) (HBR4.out) (HBR4.out).size (by rw [List.length_append, HTL.out, List.length_singleton]; omega) ?_; intro v5 w5 h5 hb5 _ _; rw [← HIN.out] at h5; obtain ⟨A5, c5, rfl, hc5, _⟩ := Kd.R_reads h5; have hgb5 := blk_below HGZ.out hb5; replace s0 := (blk_cell hgb5 3).trans (rfl : _ = some (Value.slice A1 l.length c1)); have f0 := blk_frozen hgb5 3; have HG5 := Aside0.mk hgb5; have HR5 := Aside0.mk h5; have HBR5 := Aside0.mk hb5; replace t0 := pw_cell_below hb5 T00.out.1; replace t1 := pw_cell_below hb5 T00.out.2.1; replace t2 := pw_cell_below hb5 T00.out.2.2.1; replace t3 := pw_cell_below hb5 T00.out.2.2.2; clear h5 hb5 hgb5
          refine hK.out _ _ ⟨s0, t0, t1, t2, t3⟩ ?_
          clear hK K
          (try simp only [Act.put, List.setIfInBounds_toArray, List.set_cons_zero, List.set_cons_succ])
          refine wpAnyK_ready (rs := [19]) (by kernel_rfl) (by simp) (AllK.cons rfl (by decide) (fun K hK => ?_) AllK.nil)
          go_simp
          refine hK.out _ _ ⟨s0, t0, t1, t2, t3⟩ ?_
          clear hK K
          (try simp only [Act.put, List.setIfInBounds_toArray, List.set_cons_zero, List.set_cons_succ])
          refine wpAnyK_ready (rs := [20]) (by kernel_rfl) (by simp) (AllK.cons rfl (by decide) (fun K hK => ?_) AllK.nil)
          go_simp
          refine hK.out _ _ ⟨s0, t0, t1, t2, t3⟩ ?_
          clear hK K
          (try simp only [Act.put, List.setIfInBounds_toArray, List.set_cons_zero, List.set_cons_succ])
          refine wpAnyK_last rfl (by kernel_rfl) (by kernel_rfl) (fun K hK => ?_)
          go_simp
          refine hK.out _ _ ?_
          clear hK K
          go_wp2_with fail
          first | go_end0 | ((try simp only [Exit.inBlock, Exit.then]); refine bodyPost_ret (results_none rfl _ _ _) rfl ?_)
          exact ⟨rfl, ⟨⟨_, blk_put HG5.out 3 _ rfl, Kd.R_set (Kd.R_lower HR5.out (Nat.le_trans hbw HZ.out.size)) HG5.out (by intro q hq; have e9 : kRw.E = [] := rfl; rw [e9] at hq; simp at hq; omega) 3 _⟩, hg⟩, ((below_step HZ.out HBR5.out).mono hbw).setCell (p := ⟨g, 3, none⟩) hg _⟩
      · have d1 : decide (k < l.length) = false := decide_eq_false (by have := HKE.out; omega)
        go_wp2_with fail
        go_quiet (fail)
        go_wp2_with fail
        clear t0 s0 d1
        generalize hWz : World.drewN _ _ = Wz
        have HZ := Aside0.mk (show Below w.heap.size w Wz by rw [← hWz]; exact pw_below_drewN hbr.out _)
        have HNZ := Aside0.mk (show Wz.heap[pb]? = some (.cells #[.string p.1, .int .u64 p.2.since, .int .i64 p.2.n, .int .i64 p.2.barred] 151 (0, 0)) by rw [← hWz]; exact blk_drewN (blk_below HNB.out HB.out) _)
        clear hWz HRX
        have HRZ := Aside0.mk (Kd.R_below HR0.out HZ.out)
        have HGZ := Aside0.mk (blk_below HB0.out HZ.out)
        have s0 := (blk_cell HGZ.out 3).trans (rfl : _ = some (Value.slice A1 l.length c1))
        have t0 := (blk_cell HNZ.out 0).trans (rfl : _ = some (Value.string p.1))
        have t1 := (blk_cell HNZ.out 1).trans (rfl : _ = some (Value.int .u64 p.2.since))
        have t2 := (blk_cell HNZ.out 2).trans (rfl : _ = some (Value.int .i64 p.2.n))
        have t3 := (blk_cell HNZ.out 3).trans (rfl : _ = some (Value.int .i64 p.2.barred))
        have S00 := Aside0.mk s0
        have T00 := Aside0.mk (And.intro t0 (And.intro t1 (And.intro t2 t3)))
        obtain ⟨i0, hi0, hz0, hz1, hz2⟩ := info_parts infoRw
        have cutA : ∀ W : World, (Instr.slice 142 (.slice A1 l.length c1) none (some (.int .i64 (k : Int))) none).run Try.prog W = .ok (.slice A1 k c1) W := fun W => by
          have := cut_to (P := Try.prog) 142 151 .i64 Try.underlying142 hi0 A1 l.length c1 (k : Int) (by omega) (by omega) hlc W
          simpa using this
        obtain ⟨A9, hA9⟩ : ∃ A9, A9 = (if c1 = k then A1 else A1.map (·.add (k * 4))) := ⟨_, rfl⟩
        have cutB : ∀ W : World, (Instr.slice 142 (.slice A1 l.length c1) (some (.int .i64 (k : Int))) none none).run Try.prog W = .ok (.slice A9 (l.length - k) (c1 - k)) W := fun W => by
          have := cut_from (P := Try.prog) 142 151 .i64 Try.underlying142 hi0 4 hz1 A1 l.length c1 (k : Int) (by omega) (by omega) W
          rw [hA9]
          simpa using this
        have HTL := Aside0.mk (show (l.take k).length = k by rw [List.length_take]; omega)
        have HDL := Aside0.mk (show (l.drop k).length = l.length - k by rw [List.length_drop])
        have HCA := Aside0.mk (show Kd.C kRw Wz A1 k (l.take k) by have := Kd.C_take (m := k) (C_own HRZ.out) (by omega); rwa [HTL.out] at this)
        have HCB := Aside0.mk (show Kd.C kRw Wz A9 (l.length - k) (l.drop k) by have := Kd.C_drop (m := k) (C_own HRZ.out) (by omega) hlc; rwa [HDL.out, show kRw.sz = 4 from rfl, ← hA9] at this)
        have HBA1 := Aside0.mk (below_drew1 (below_alloc (Below.refl Wz.heap.size Wz) (.cells #[] 151)))
        have HBA2 := Aside0.mk (below_drew1 ((below_alloc (Below.refl Wz.heap.size Wz) (.cells #[] 151)).alloc (below_alloc (Below.refl Wz.heap.size Wz) (.cells #[] 151)).size (.cells #[.string p.1, .int .u64 p.2.since, .int .i64 p.2.n, .int .i64 p.2.barred] 151)))
        have HBA3 := Aside0.mk (below_drew1 ((below_alloc (Below.refl Wz.heap.size Wz) (.cells #[.string p.1, .int .u64 p.2.since, .int .i64 p.2.n, .int .i64 p.2.barred] 151)).alloc (below_alloc (Below.refl Wz.heap.size Wz) (.cells #[.string p.1, .int .u64 p.2.since, .int .i64 p.2.n, .int .i64 p.2.barred] 151)).size (.cells #[] 151)))
        have HE1 := Aside0.mk (Kd.R_drew (R_empty kRw 151 Wz Wz.heap.size (fun _ => True) trivial (Nat.le_refl _)))
        have HE2 := Aside0.mk (Kd.R_drew (Kd.R_alloc (R_empty kRw 151 Wz Wz.heap.size (fun _ => True) trivial (Nat.le_refl _)) (.cells #[.string p.1, .int .u64 p.2.since, .int .i64 p.2.n, .int .i64 p.2.barred] 151)))
        have HE3 := Aside0.mk (show Kd.R kRw 151 ((Wz.alloc (.cells #[.string p.1, .int .u64 p.2.since, .int .i64 p.2.n, .int .i64 p.2.barred] 151)).alloc (.cells #[] 151)).drew Wz.heap.size (fun _ => True) (.slice (some ⟨Wz.heap.size + 1, 0, none⟩) 0 0) [] by have h := Kd.R_drew (R_empty kRw 151 (Wz.alloc (.cells #[.string p.1, .int .u64 p.2.since, .int .i64 p.2.n, .int .i64 p.2.barred] 151)) Wz.heap.size (fun _ => True) trivial (by simp)); rwa [World.size_alloc] at h)
        have HL2 := Aside0.mk (show Kd.R kRw 151 ((Wz.alloc (.cells #[] 151)).alloc (.cells #[.string p.1, .int .u64 p.2.since, .int .i64 p.2.n, .int .i64 p.2.barred] 151)).drew Wz.heap.size (fun q => q = Wz.heap.size + 1) (.slice (some ⟨Wz.heap.size + 1, 0, none⟩) 1 1) [p] by have h := Kd.R_drew (rw_lit (W := Wz.alloc (.cells #[] 151)) (b := Wz.heap.size) (x := fun q => q = Wz.heap.size + 1) (by simp) (by simp) p); rwa [World.size_alloc] at h)
        have HL3 := Aside0.mk (show Kd.R kRw 151 ((Wz.alloc (.cells #[.string p.1, .int .u64 p.2.since, .int .i64 p.2.n, .int .i64 p.2.barred] 151)).alloc (.cells #[] 151)).drew Wz.heap.size (fun q => q = Wz.heap.size) (.slice (some ⟨Wz.heap.size, 0, none⟩) 1 1) [p] from Kd.R_drew (Kd.R_alloc (rw_lit (W := Wz) (b := Wz.heap.size) (x := fun q => q = Wz.heap.size) (Nat.le_refl _) rfl p) _))
        clear hi0 hz0 hz1 hz2 hA9 HRZ HR0
        have s0a := cell_al (.cells #[] 151) s0
        have t0a := cell_al (.cells #[] 151) t0
        have t1a := cell_al (.cells #[] 151) t1
        have t2a := cell_al (.cells #[] 151) t2
        have t3a := cell_al (.cells #[] 151) t3
        have s0b := cell_al (.cells #[.string p.1, .int .u64 p.2.since, .int .i64 p.2.n, .int .i64 p.2.barred] 151) s0
        have s0c := cell_al (.cells #[] 151) s0b
        have s0d := cell_al (.cells #[.string p.1, .int .u64 p.2.since, .int .i64 p.2.n, .int .i64 p.2.barred] 151) s0a
        refine wp_region_K (m := 22) (n := 21) (S := fun w' => w'.cell? ⟨g, 3, none⟩ = some (.slice A1 l.length c1) ∧ w'.cell? ⟨pb, 0, none⟩ = some (.string p.1) ∧ w'.cell? ⟨pb, 1, none⟩ = some (.int .u64 p.2.since) ∧ w'.cell? ⟨pb, 2, none⟩ = some (.int .i64 p.2.n) ∧ w'.cell? ⟨pb, 3, none⟩ = some (.int .i64 p.2.barred)) (by kernel_rfl) rfl (by simp) ?_
        intro inv
        have hH := And.intro s0 (And.intro t0 (And.intro t1 (And.intro t2 t3)))
        refine wpAnyK_take (i := 0) (v := ?v0b) rfl (by kernel_rfl) (by kernel_rfl) (by kernel_rfl) (by simp) (by decide) inv (by kernel_rfl) (by kernel_rfl) (fun _ _ _ h => h) (Or.inl ⟨by rfl, ?hy0b⟩) hH ?_
        case hy0b => (intro w hSw; obtain ⟨z0, z1, z2, z3, z4⟩ := hSw; go_simp; (try with_reducible rfl))
        clear inv; intro inv; (try simp only [Act.put, List.setIfInBounds_toArray, List.set_cons_zero, List.set_cons_succ])
        refine wpAnyK_take (i := 2) (v := ?v2b) rfl (by kernel_rfl) (by kernel_rfl) (by kernel_rfl) (by simp) (by decide) inv (by kernel_rfl) (by kernel_rfl) (fun _ _ _ h => h) (Or.inl ⟨by rfl, ?hy2b⟩) hH ?_
        case hy2b => (intro w hSw; obtain ⟨z0, z1, z2, z3, z4⟩ := hSw; go_simp; (try with_reducible rfl))
        clear inv; intro inv; (try simp only [Act.put, List.setIfInBounds_toArray, List.set_cons_zero, List.set_cons_succ])
        refine wpAnyK_take (i := 3) (v := ?v3b) rfl (by kernel_rfl) (by kernel_rfl) (by kernel_rfl) (by simp) (by decide) inv (by kernel_rfl) (by kernel_rfl) (fun _ _ _ h => h) (Or.inl ⟨by rfl, ?hy3b⟩) hH ?_
        case hy3b => (intro w hSw; obtain ⟨z0, z1, z2, z3, z4⟩ := hSw; go_simp; (try with_reducible rfl))
        clear inv; intro inv; (try simp only [Act.put, List.setIfInBounds_toArray, List.set_cons_zero, List.set_cons_succ])
        refine wpAnyK_take (i := 4) (v := ?v4b) rfl (by kernel_rfl) (by kernel_rfl) (by kernel_rfl) (by simp) (by decide) inv (by kernel_rfl) (by kernel_rfl) (fun _ _ _ h => h) (Or.inl ⟨by rfl, ?hy4b⟩) hH ?_
        case hy4b => (intro w hSw; obtain ⟨z0, z1, z2, z3, z4⟩ := hSw; go_simp; (try with_reducible rfl))
        clear inv; intro inv; (try simp only [Act.put, List.setIfInBounds_toArray, List.set_cons_zero, List.set_cons_succ])
        refine wpAnyK_take (i := 5) (v := ?v5b) rfl (by kernel_rfl) (by kernel_rfl) (by kernel_rfl) (by simp) (by decide) inv (by kernel_rfl) (by kernel_rfl) (fun _ _ _ h => h) (Or.inl ⟨by rfl, ?hy5b⟩) hH ?_
        case hy5b => (intro w hSw; obtain ⟨z0, z1, z2, z3, z4⟩ := hSw; go_simp; (try with_reducible rfl))
        clear inv; intro inv; (try simp only [Act.put, List.setIfInBounds_toArray, List.set_cons_zero, List.set_cons_succ])
        refine wpAnyK_take (i := 6) (v := ?v6b) rfl (by kernel_rfl) (by kernel_rfl) (by kernel_rfl) (by simp) (by decide) inv (by kernel_rfl) (by kernel_rfl) (fun _ _ _ h => h) (Or.inl ⟨by rfl, ?hy6b⟩) hH ?_
        case hy6b => (intro w hSw; obtain ⟨z0, z1, z2, z3, z4⟩ := hSw; go_simp; (try with_reducible rfl))
        clear inv; intro inv; (try simp only [Act.put, List.setIfInBounds_toArray, List.set_cons_zero, List.set_cons_succ])
        refine wpAnyK_take (i := 7) (v := ?v7b) rfl (by kernel_rfl) (by kernel_rfl) (by kernel_rfl) (by simp) (by decide) inv (by kernel_rfl) (by kernel_rfl) (fun _ _ _ h => h) (Or.inl ⟨by rfl, ?hy7b⟩) hH ?_
        case hy7b => (intro w hSw; obtain ⟨z0, z1, z2, z3, z4⟩ := hSw; go_simp; (try with_reducible rfl))
        clear inv; intro inv; (try simp only [Act.put, List.setIfInBounds_toArray, List.set_cons_zero, List.set_cons_succ])
        refine wpAnyK_take (i := 9) (v := ?v9b) rfl (by kernel_rfl) (by kernel_rfl) (by kernel_rfl) (by simp) (by decide) inv (by kernel_rfl) (by kernel_rfl) (fun _ _ _ h => h) (Or.inl ⟨by rfl, ?hy9b⟩) hH ?_
        case hy9b => (intro w hSw; obtain ⟨z0, z1, z2, z3, z4⟩ := hSw; go_simp; (try with_reducible rfl))
        clear inv; intro inv; (try simp only [Act.put, List.setIfInBounds_toArray, List.set_cons_zero, List.set_cons_succ])
        refine wpAnyK_take (i := 12) (v := ?v12b) rfl (by kernel_rfl) (by kernel_rfl) (by kernel_rfl) (by simp) (by decide) inv (by kernel_rfl) (by kernel_rfl) (fun _ _ _ h => h) (Or.inl ⟨by rfl, ?hy12b⟩) hH ?_
        case hy12b => (intro w hSw; obtain ⟨z0, z1, z2, z3, z4⟩ := hSw; go_simp; (try with_reducible rfl))
        clear inv; intro inv; (try simp only [Act.put, List.setIfInBounds_toArray, List.set_cons_zero, List.set_cons_succ])
        refine wpAnyK_take (i := 13) (v := ?v13b) rfl (by kernel_rfl) (by kernel_rfl) (by kernel_rfl) (by simp) (by decide) inv (by kernel_rfl) (by kernel_rfl) (fun _ _ _ h => h) (Or.inl ⟨by rfl, ?hy13b⟩) hH ?_
        case hy13b => (intro w hSw; obtain ⟨z0, z1, z2, z3, z4⟩ := hSw; go_simp; (try with_reducible rfl))
        clear inv; intro inv; (try simp only [Act.put, List.setIfInBounds_toArray, List.set_cons_zero, List.set_cons_succ])
        refine wpAnyK_take (i := 14) (v := ?v14b) rfl (by kernel_rfl) (by kernel_rfl) (by kernel_rfl) (by simp) (by decide) inv (by kernel_rfl) (by kernel_rfl) (fun _ _ _ h => h) (Or.inl ⟨by rfl, ?hy14b⟩) hH ?_
        case hy14b => (intro w hSw; obtain ⟨z0, z1, z2, z3, z4⟩ := hSw; go_simp; (try with_reducible rfl))
        clear inv; intro inv; (try simp only [Act.put, List.setIfInBounds_toArray, List.set_cons_zero, List.set_cons_succ])
        refine wpAnyK_take (i := 15) (v := ?v15b) rfl (by kernel_rfl) (by kernel_rfl) (by kernel_rfl) (by simp) (by decide) inv (by kernel_rfl) (by kernel_rfl) (fun _ _ _ h => h) (Or.inl ⟨by rfl, ?hy15b⟩) hH ?_
        case hy15b => (intro w hSw; obtain ⟨z0, z1, z2, z3, z4⟩ := hSw; go_simp; (try with_reducible rfl))
        clear inv; intro inv; (try simp only [Act.put, List.setIfInBounds_toArray, List.set_cons_zero, List.set_cons_succ])
        refine wpAnyK_take (i := 16) (v := ?v16b) rfl (by kernel_rfl) (by kernel_rfl) (by kernel_rfl) (by simp) (by decide) inv (by kernel_rfl) (by kernel_rfl) (fun _ _ _ h => h) (Or.inl ⟨by rfl, ?hy16b⟩) hH ?_
        case hy16b => (intro w hSw; obtain ⟨z0, z1, z2, z3, z4⟩ := hSw; go_simp; (try with_reducible rfl))
        clear inv; intro inv; (try simp only [Act.put, List.setIfInBounds_toArray, List.set_cons_zero, List.set_cons_succ])
        refine wpAnyK_take (i := 17) (v := ?v17b) rfl (by kernel_rfl) (by kernel_rfl) (by kernel_rfl) (by simp) (by decide) inv (by kernel_rfl) (by kernel_rfl) (fun _ _ _ h => h) (Or.inl ⟨by rfl, ?hy17b⟩) hH ?_
        case hy17b => (intro w hSw; obtain ⟨z0, z1, z2, z3, z4⟩ := hSw; go_simp; (try with_reducible rfl))
        clear inv; intro inv; (try simp only [Act.put, List.setIfInBounds_toArray, List.set_cons_zero, List.set_cons_succ])
        clear inv hH
        refine wpAnyK_ready (rs := [1, 10]) (by kernel_rfl) (by simp) (AllK.cons rfl (by decide) (fun K hK => ?_) (AllK.cons rfl (by decide) (fun K hK => ?_) AllK.nil))
        · go_simp
          refine hK.out _ _ ⟨cell_al _ s0, cell_al _ t0, cell_al _ t1, cell_al _ t2, cell_al _ t3⟩ ?_
          clear hK K
          (try simp only [Act.put, List.setIfInBounds_toArray, List.set_cons_zero, List.set_cons_succ])
          refine wpAnyK_ready (rs := [8, 10]) (by kernel_rfl) (by simp) (AllK.cons rfl (by decide) (fun K hK => ?_) (AllK.cons rfl (by decide) (fun K hK => ?_) AllK.nil))
          · refine Kd.R_append_rows_step kRw (Rr := kRw.K ((Wz.alloc (.cells #[] 151)).drew)) (w0 := Wz) Wz.heap.size (by rfl) (.tmp 28) (.tmp 34) 142 151 (.agg #[(.string ⟨#[]⟩), (.int .u64 0), (.int .i64 0), (.int .i64 0)]) 40 rfl Try.underlying142 infoRw rfl (by decide) (by omega) (.slice (some ⟨Wz.heap.size, 0, none⟩) 0 0) ([]) (l.take k) (A1) (k) (c1) (fun _ => True) (fun _ => False) (by rfl) (by rfl) (HE1.out) (Kd.C_below HCA.out HBA1.out) (fun _ _ h => h) (fun _ h => h.elim) (fun _ _ => trivial) (HBA1.out) (HBA1.out).size (by simp; omega) ?_; intro v1 w1 h1 hb1 hg1 hat1; rw [List.nil_append] at h1; obtain ⟨A3, c3, rfl, hc3, _⟩ := Kd.R_reads h1; rw [HTL.out] at h1 hat1 hc3 ⊢; replace s0 := pw_cell_below hb1 S00.out; replace t0 := pw_cell_below hb1 T00.out.1; replace t1 := pw_cell_below hb1 T00.out.2.1; replace t2 := pw_cell_below hb1 T00.out.2.2.1; replace t3 := pw_cell_below hb1 T00.out.2.2.2; have s0e := cell_al (.cells #[.string p.1, .int .u64 p.2.since, .int .i64 p.2.n, .int .i64 p.2.barred] 151) s0; have HR1 := Aside0.mk h1; have HBR := Aside0.mk hb1; clear h1 hb1 hg1 hat1
            refine hK.out _ _ ⟨s0, t0, t1, t2, t3⟩ ?_
            clear hK K
            (try simp only [Act.put, List.setIfInBounds_toArray, List.set_cons_zero, List.set_cons_succ])
            refine wpAnyK_ready (rs := [10]) (by kernel_rfl) (by simp) (AllK.cons rfl (by decide) (fun K hK => ?_) AllK.nil)
            go_simp
            refine hK.out _ _ ⟨cell_al _ s0, cell_al _ t0, cell_al _ t1, cell_al _ t2, cell_al _ t3⟩ ?_
            clear hK K
            (try simp only [Act.put, List.setIfInBounds_toArray, List.set_cons_zero, List.set_cons_succ])
            refine wpAnyK_ready (rs := [11]) (by kernel_rfl) (by simp) (AllK.cons rfl (by decide) (fun K hK => ?_) AllK.nil)
            refine Kd.R_append_rows_step kRw (Rr := kRw.K (w1.alloc (.cells #[.string p.1, .int .u64 p.2.since, .int .i64 p.2.n, .int .i64 p.2.barred] 151))) (w0 := Wz) Wz.heap.size (by rfl) (.tmp 35) (.tmp 37) 142 151 (.agg #[(.string ⟨#[]⟩), (.int .u64 0), (.int .i64 0), (.int .i64 0)]) 40 rfl Try.underlying142 infoRw rfl (by decide) (by omega) (.slice A3 k c3) (l.take k) ([p]) (some ⟨w1.heap.size, 0, none⟩) (1) (1) (fun _ => True) (fun _ => False) (by rfl) (by rfl) (Kd.R_alloc HR1.out _) (C_own (rw_lit (Nat.le_refl _) trivial p : kRw.R _ _ w1.heap.size (fun _ => True) _ _)) (fun _ _ h => h) (fun _ h => h.elim) (fun _ _ => trivial) (below_step HBR.out (below_alloc (Below.refl w1.heap.size w1) _)) (below_step HBR.out (below_alloc (Below.refl w1.heap.size w1) _)).size (by rw [HTL.out]; omega) ?_; intro v4 w4 h4 hb4 _ _; obtain ⟨A4, c4, rfl, hc4, _⟩ := Kd.R_reads h4; rw [List.length_append, HTL.out, List.length_singleton] at h4 hc4 ⊢; replace s0 := pw_cell_below hb4 S00.out; replace t0 := pw_cell_below hb4 T00.out.1; replace t1 := pw_cell_below hb4 T00.out.2.1; replace t2 := pw_cell_below hb4 T00.out.2.2.1; replace t3 := pw_cell_below hb4 T00.out.2.2.2; have HR4 := Aside0.mk h4; have HBR4 := Aside0.mk hb4; clear h4 hb4
            refine hK.out _ _ ⟨s0, t0, t1, t2, t3⟩ ?_
            clear hK K
            (try simp only [Act.put, List.setIfInBounds_toArray, List.set_cons_zero, List.set_cons_succ])
            refine wpAnyK_ready (rs := [18]) (by kernel_rfl) (by simp) (AllK.cons rfl (by decide) (fun K hK => ?_) AllK.nil)
            refine Kd.R_append_rows_step kRw (Rr := kRw.K (w4)) (w0 := Wz) Wz.heap.size (by rfl) (.tmp 38) (.tmp 44) 142 151 (.agg #[(.string ⟨#[]⟩), (.int .u64 0), (.int .i64 0), (.int .i64 0)]) 40 rfl Try.underlying142 infoRw rfl (by decide) (by omega) (.slice A4 (k + 1) c4) (l.take k ++ [p]) (l.drop k) (A9) (l.length - k) (c1 - k) (fun _ => True) (fun _ => False) (by rfl) (by rfl) (HR4.out) (Kd.C_below HCB.out HBR4.out) (fun _ _ h => h) (fun _ h => h.elim) (fun _ _ => trivial) (HBR4.out) (HBR4.out).size (by rw [List.length_append, HTL.out, List.length_singleton]; omega) ?_; intro v5 w5 h5 hb5 _ _; rw [← HIN.out] at h5; obtain ⟨A5, c5, rfl, hc5, _⟩ := Kd.R_reads h5; have hgb5 := blk_below HGZ.out hb5; replace s0 := (blk_cell hgb5 3).trans (rfl : _ = some (Value.slice A1 l.length c1)); have f0 := blk_frozen hgb5 3; have HG5 := Aside0.mk hgb5; have HR5 := Aside0.mk h5; have HBR5 := Aside0.mk hb5; replace t0 := pw_cell_below hb5 T00.out.1; replace t1 := pw_cell_below hb5 T00.out.2.1; replace t2 := pw_cell_below hb5 T00.out.2.2.1; replace t3 := pw_cell_below hb5 T00.out.2.2.2; clear h5 hb5 hgb5
            refine hK.out _ _ ⟨s0, t0, t1, t2, t3⟩ ?_
            clear hK K
            (try simp only [Act.put, List.setIfInBounds_toArray, List.set_cons_zero, List.set_cons_succ])
            refine wpAnyK_ready (rs := [19]) (by kernel_rfl) (by simp) (AllK.cons rfl (by decide) (fun K hK => ?_) AllK.nil)
            go_simp
            refine hK.out _ _ ⟨s0, t0, t1, t2, t3⟩ ?_
            clear hK K
            (try simp only [Act.put, List.setIfInBounds_toArray, List.set_cons_zero, List.set_cons_succ])
            refine wpAnyK_ready (rs := [20]) (by kernel_rfl) (by simp) (AllK.cons rfl (by decide) (fun K hK => ?_) AllK.nil)
            go_simp
            refine hK.out _ _ ⟨s0, t0, t1, t2, t3⟩ ?_
            clear hK K
            (try simp only [Act.put, List.setIfInBounds_toArray, List.set_cons_zero, List.set_cons_succ])
            refine wpAnyK_last rfl (by kernel_rfl) (by kernel_rfl) (fun K hK => ?_)
            go_simp
            refine hK.out _ _ ?_
            clear hK K
            go_wp2_with fail
            first | go_end0 | ((try simp only [Exit.inBlock, Exit.then]); refine bodyPost_ret (results_none rfl _ _ _) rfl ?_)
            exact ⟨rfl, ⟨⟨_, blk_put HG5.out 3 _ rfl, Kd.R_set (Kd.R_lower HR5.out (Nat.le_trans hbw HZ.out.size)) HG5.out (by intro q hq; have e9 : kRw.E = [] := rfl; rw [e9] at hq; simp at hq; omega) 3 _⟩, hg⟩, ((below_step HZ.out HBR5.out).mono hbw).setCell (p := ⟨g, 3, none⟩) hg _⟩
          · go_simp
            refine hK.out _ _ ⟨cell_al _ (cell_al _ s0), cell_al _ (cell_al _ t0), cell_al _ (cell_al _ t1), cell_al _ (cell_al _ t2), cell_al _ (cell_al _ t3)⟩ ?_
            clear hK K
            (try simp only [Act.put, List.setIfInBounds_toArray, List.set_cons_zero, List.set_cons_succ])
            refine wpAnyK_ready (rs := [8]) (by kernel_rfl) (by simp) (AllK.cons rfl (by decide) (fun K hK => ?_) AllK.nil)
            refine Kd.R_append_rows_step kRw (Rr := kRw.K (((Wz.alloc (.cells #[] 151)).alloc (.cells #[.string p.1, .int .u64 p.2.since, .int .i64 p.2.n, .int .i64 p.2.barred] 151)).drew)) (w0 := Wz) Wz.heap.size (by rfl) (.tmp 28) (.tmp 34) 142 151 (.agg #[(.string ⟨#[]⟩), (.int .u64 0), (.int .i64 0), (.int .i64 0)]) 40 rfl Try.underlying142 infoRw rfl (by decide) (by omega) (.slice (some ⟨Wz.heap.size, 0, none⟩) 0 0) ([]) (l.take k) (A1) (k) (c1) (fun _ => True) (fun _ => False) (by rfl) (by rfl) (HE2.out) (Kd.C_below HCA.out HBA2.out) (fun _ _ h => h) (fun _ h => h.elim) (fun _ _ => trivial) (HBA2.out) (HBA2.out).size (by simp; omega) ?_; intro v1 w1 h1 hb1 hg1 hat1; rw [List.nil_append] at h1; obtain ⟨A3, c3, rfl, hc3, _⟩ := Kd.R_reads h1; rw [HTL.out] at h1 hat1 hc3 ⊢; replace s0 := pw_cell_below hb1 S00.out; replace t0 := pw_cell_below hb1 T00.out.1; replace t1 := pw_cell_below hb1 T00.out.2.1; replace t2 := pw_cell_below hb1 T00.out.2.2.1; replace t3 := pw_cell_below hb1 T00.out.2.2.2; have s0e := cell_al (.cells #[.string p.1, .int .u64 p.2.since, .int .i64 p.2.n, .int .i64 p.2.barred] 151) s0; have HR1 := Aside0.mk h1; have HBR := Aside0.mk hb1; have HLT1 := Aside0.mk (C_own (Kd.R_grown HL2.out hg1 (fun q hq e => by subst hq; simp [Value.ownBlock] at e))); clear h1 hb1 hg1 hat1
            refine hK.out _ _ ⟨s0, t0, t1, t2, t3⟩ ?_
            clear hK K
            (try simp only [Act.put, List.setIfInBounds_toArray, List.set_cons_zero, List.set_cons_succ])
            refine wpAnyK_ready (rs := [11]) (by kernel_rfl) (by simp) (AllK.cons rfl (by decide) (fun K hK => ?_) AllK.nil)
            refine Kd.R_append_rows_step kRw (Rr := kRw.K (w1)) (w0 := Wz) Wz.heap.size (by rfl) (.tmp 35) (.tmp 37) 142 151 (.agg #[(.string ⟨#[]⟩), (.int .u64 0), (.int .i64 0), (.int .i64 0)]) 40 rfl Try.underlying142 infoRw rfl (by decide) (by omega) (.slice A3 k c3) (l.take k) ([p]) (some ⟨Wz.heap.size + 1, 0, none⟩) (1) (1) (fun _ => True) (fun _ => False) (by rfl) (by rfl) (HR1.out) (HLT1.out) (fun _ _ h => h) (fun _ h => h.elim) (fun _ _ => trivial) (HBR.out) (HBR.out).size (by rw [HTL.out]; omega) ?_; intro v4 w4 h4 hb4 _ _; obtain ⟨A4, c4, rfl, hc4, _⟩ := Kd.R_reads h4; rw [List.length_append, HTL.out, List.length_singleton] at h4 hc4 ⊢; replace s0 := pw_cell_below hb4 S00.out; replace t0 := pw_cell_below hb4 T00.out.1; replace t1 := pw_cell_below hb4 T00.out.2.1; replace t2 := pw_cell_below hb4 T00.out.2.2.1; replace t3 := pw_cell_below hb4 T00.out.2.2.2; have HR4 := Aside0.mk h4; have HBR4 := Aside0.mk hb4; clear h4 hb4
            refine hK.out _ _ ⟨s0, t0, t1, t2, t3⟩ ?_
            clear hK K
            (try simp only [Act.put, List.setIfInBounds_toArray, List.set_cons_zero, List.set_cons_succ])
            refine wpAnyK_ready (rs := [18]) (by kernel_rfl) (by simp) (AllK.cons rfl (by decide) (fun K hK => ?_) AllK.nil)
            refine Kd.R_append_rows_step kRw (Rr := kRw.K (w4)) (w0 := Wz) Wz.heap.size (by rfl) (.tmp 38) (.tmp 44) 142 151 (.agg #[(.string ⟨#[]⟩), (.int .u64 0), (.int .i64 0), (.int .i64 0)]) 40 rfl Try.underlying142 infoRw rfl (by decide) (by omega) (.slice A4 (k + 1) c4) (l.take k ++ [p]) (l.drop k) (A9) (l.length - k) (c1 - k) (fun _ => True) (fun _ => False) (by rfl) (by rfl) (HR4.out) (Kd.C_below HCB.out HBR4.out) (fun _ _ h => h) (fun _ h => h.elim) (fun _ _ => trivial) (HBR4.out) (HBR4.out).size (by rw [List.length_append, HTL.out, List.length_singleton]; omega) ?_; intro v5 w5 h5 hb5 _ _; rw [← HIN.out] at h5; obtain ⟨A5, c5, rfl, hc5, _⟩ := Kd.R_reads h5; have hgb5 := blk_below HGZ.out hb5; replace s0 := (blk_cell hgb5 3).trans (rfl : _ = some (Value.slice A1 l.length c1)); have f0 := blk_frozen hgb5 3; have HG5 := Aside0.mk hgb5; have HR5 := Aside0.mk h5; have HBR5 := Aside0.mk hb5; replace t0 := pw_cell_below hb5 T00.out.1; replace t1 := pw_cell_below hb5 T00.out.2.1; replace t2 := pw_cell_below hb5 T00.out.2.2.1; replace t3 := pw_cell_below hb5 T00.out.2.2.2; clear h5 hb5 hgb5
            refine hK.out _ _ ⟨s0, t0, t1, t2, t3⟩ ?_
            clear hK K
            (try simp only [Act.put, List.setIfInBounds_toArray, List.set_cons_zero, List.set_cons_succ])
            refine wpAnyK_ready (rs := [19]) (by kernel_rfl) (by simp) (AllK.cons rfl (by decide) (fun K hK => ?_) AllK.nil)
            go_simp
            refine hK.out _ _ ⟨s0, t0, t1, t2, t3⟩ ?_
            clear hK K
            (try simp only [Act.put, List.setIfInBounds_toArray, List.set_cons_zero, List.set_cons_succ])
            refine wpAnyK_ready (rs := [20]) (by kernel_rfl) (by simp) (AllK.cons rfl (by decide) (fun K hK => ?_) AllK.nil)
            go_simp
            refine hK.out _ _ ⟨s0, t0, t1, t2, t3⟩ ?_
            clear hK K
            (try simp only [Act.put, List.setIfInBounds_toArray, List.set_cons_zero, List.set_cons_succ])
            refine wpAnyK_last rfl (by kernel_rfl) (by kernel_rfl) (fun K hK => ?_)
            go_simp
            refine hK.out _ _ ?_
            clear hK K
            go_wp2_with fail
            first | go_end0 | ((try simp only [Exit.inBlock, Exit.then]); refine bodyPost_ret (results_none rfl _ _ _) rfl ?_)
            exact ⟨rfl, ⟨⟨_, blk_put HG5.out 3 _ rfl, Kd.R_set (Kd.R_lower HR5.out (Nat.le_trans hbw HZ.out.size)) HG5.out (by intro q hq; have e9 : kRw.E = [] := rfl; rw [e9] at hq; simp at hq; omega) 3 _⟩, hg⟩, ((below_step HZ.out HBR5.out).mono hbw).setCell (p := ⟨g, 3, none⟩) hg _⟩
        · go_simp
          refine hK.out _ _ ⟨cell_al _ s0, cell_al _ t0, cell_al _ t1, cell_al _ t2, cell_al _ t3⟩ ?_
          clear hK K
          (try simp only [Act.put, List.setIfInBounds_toArray, List.set_cons_zero, List.set_cons_succ])
          refine wpAnyK_ready (rs := [1]) (by kernel_rfl) (by simp) (AllK.cons rfl (by decide) (fun K hK => ?_) AllK.nil)
          go_simp
          refine hK.out _ _ ⟨cell_al _ (cell_al _ s0), cell_al _ (cell_al _ t0), cell_al _ (cell_al _ t1), cell_al _ (cell_al _ t2), cell_al _ (cell_al _ t3)⟩ ?_
          clear hK K
          (try simp only [Act.put, List.setIfInBounds_toArray, List.set_cons_zero, List.set_cons_succ])
          refine wpAnyK_ready (rs := [8]) (by kernel_rfl) (by simp) (AllK.cons rfl (by decide) (fun K hK => ?_) AllK.nil)
          refine Kd.R_append_rows_step kRw (Rr := kRw.K (((Wz.alloc (.cells #[.string p.1, .int .u64 p.2.since, .int .i64 p.2.n, .int .i64 p.2.barred] 151)).alloc (.cells #[] 151)).drew)) (w0 := Wz) Wz.heap.size (by rfl) (.tmp 28) (.tmp 34) 142 151 (.agg #[(.string ⟨#[]⟩), (.int .u64 0), (.int .i64 0), (.int .i64 0)]) 40 rfl Try.underlying142 infoRw rfl (by decide) (by omega) (.slice (some ⟨Wz.heap.size + 1, 0, none⟩) 0 0) ([]) (l.take k) (A1) (k) (c1) (fun _ => True) (fun _ => False) (by rfl) (by rfl) (HE3.out) (Kd.C_below HCA.out HBA3.out) (fun _ _ h => h) (fun _ h => h.elim) (fun _ _ => trivial) (HBA3.out) (HBA3.out).size (by simp; omega) ?_; intro v1 w1 h1 hb1 hg1 hat1; rw [List.nil_append] at h1; obtain ⟨A3, c3, rfl, hc3, _⟩ := Kd.R_reads h1; rw [HTL.out] at h1 hat1 hc3 ⊢; replace s0 := pw_cell_below hb1 S00.out; replace t0 := pw_cell_below hb1 T00.out.1; replace t1 := pw_cell_below hb1 T00.out.2.1; replace t2 := pw_cell_below hb1 T00.out.2.2.1; replace t3 := pw_cell_below hb1 T00.out.2.2.2; have s0e := cell_al (.cells #[.string p.1, .int .u64 p.2.since, .int .i64 p.2.n, .int .i64 p.2.barred] 151) s0; have HR1 := Aside0.mk h1; have HBR := Aside0.mk hb1; have HLT1 := Aside0.mk (C_own (Kd.R_grown HL3.out hg1 (fun q hq e => by subst hq; simp [Value.ownBlock] at e))); clear h1 hb1 hg1 hat1
          refine hK.out _ _ ⟨s0, t0, t1, t2, t3⟩ ?_
          clear hK K
          (try simp only [Act.put, List.setIfInBounds_toArray, List.set_cons_zero, List.set_cons_succ])
          refine wpAnyK_ready (rs := [11]) (by kernel_rfl) (by simp) (AllK.cons rfl (by decide) (fun K hK => ?_) AllK.nil)
          refine Kd.R_append_rows_step kRw (Rr := kRw.K (w1)) (w0 := Wz) Wz.heap.size (by rfl) (.tmp 35) (.tmp 37) 142 151 (.agg #[(.string ⟨#[]⟩), (.int .u64 0), (.int .i64 0), (.int .i64 0)]) 40 rfl Try.underlying142 infoRw rfl (by decide) (by omega) (.slice A3 k c3) (l.take k) ([p]) (some ⟨Wz.heap.size, 0, none⟩) (1) (1) (fun _ => True) (fun _ => False) (by rfl) (by rfl) (HR1.out) (HLT1.out) (fun _ _ h => h) (fun _ h => h.elim) (fun _ _ => trivial) (HBR.out) (HBR.out).size (by rw [HTL.out]; omega) ?_; intro v4 w4 h4 hb4 _ _; obtain ⟨A4, c4, rfl, hc4, _⟩ := Kd.R_reads h4; rw [List.length_append, HTL.out, List.length_singleton] at h4 hc4 ⊢; replace s0 := pw_cell_below hb4 S00.out; replace t0 := pw_cell_below hb4 T00.out.1; replace t1 := pw_cell_below hb4 T00.out.2.1; replace t2 := pw_cell_below hb4 T00.out.2.2.1; replace t3 := pw_cell_below hb4 T00.out.2.2.2; have HR4 := Aside0.mk h4; have HBR4 := Aside0.mk hb4; clear h4 hb4
          refine hK.out _ _ ⟨s0, t0, t1, t2, t3⟩ ?_
          clear hK K
          (try simp only [Act.put, List.setIfInBounds_toArray, List.set_cons_zero, List.set_cons_succ])
          refine wpAnyK_ready (rs := [18]) (by kernel_rfl) (by simp) (AllK.cons rfl (by decide) (fun K hK => ?_) AllK.nil)
          refine Kd.R_append_rows_step kRw (Rr := kRw.K (w4)) (w0 := Wz) Wz.heap.size (by rfl) (.tmp 38) (.tmp 44) 142 151 (.agg #[(.string ⟨#[]⟩), (.int .u64 0), (.int .i64 0), (.int .i64 0)]) 40 rfl Try.underlying142 infoRw rfl (by decide) (by omega) (.slice A4 (k + 1) c4) (l.take k ++ [p]) (l.drop k) (A9) (l.length - k) (c1 - k) (fun _ => True) (fun _ => False) (by rfl) (by rfl) (HR4.out) (Kd.C_below HCB.out HBR4.out) (fun _ _ h => h) (fun _ h => h.elim) (fun _ _ => trivial) (HBR4.out) (HBR4.out).size (by rw [List.length_append, HTL.out, List.length_singleton]; omega) ?_; intro v5 w5 h5 hb5 _ _; rw [← HIN.out] at h5; obtain ⟨A5, c5, rfl, hc5, _⟩ := Kd.R_reads h5; have hgb5 := blk_below HGZ.out hb5; replace s0 := (blk_cell hgb5 3).trans (rfl : _ = some (Value.slice A1 l.length c1)); have f0 := blk_frozen hgb5 3; have HG5 := Aside0.mk hgb5; have HR5 := Aside0.mk h5; have HBR5 := Aside0.mk hb5; replace t0 := pw_cell_below hb5 T00.out.1; replace t1 := pw_cell_below hb5 T00.out.2.1; replace t2 := pw_cell_below hb5 T00.out.2.2.1; replace t3 := pw_cell_below hb5 T00.out.2.2.2; clear h5 hb5 hgb5
          refine hK.out _ _ ⟨s0, t0, t1, t2, t3⟩ ?_
          clear hK K
          (try simp only [Act.put, List.setIfInBounds_toArray, List.set_cons_zero, List.set_cons_succ])
          refine wpAnyK_ready (rs := [19]) (by kernel_rfl) (by simp) (AllK.cons rfl (by decide) (fun K hK => ?_) AllK.nil)
          go_simp
          refine hK.out _ _ ⟨s0, t0, t1, t2, t3⟩ ?_
          clear hK K
          (try simp only [Act.put, List.setIfInBounds_toArray, List.set_cons_zero, List.set_cons_succ])
          refine wpAnyK_ready (rs := [20]) (by kernel_rfl) (by simp) (AllK.cons rfl (by decide) (fun K hK => ?_) AllK.nil)
          go_simp
          refine hK.out _ _ ⟨s0, t0, t1, t2, t3⟩ ?_
          clear hK K
          (try simp only [Act.put, List.setIfInBounds_toArray, List.set_cons_zero, List.set_cons_succ])
          refine wpAnyK_last rfl (by kernel_rfl) (by kernel_rfl) (fun K hK => ?_)
          go_simp
          refine hK.out _ _ ?_
          clear hK K
          go_wp2_with fail
          first | go_end0 | ((try simp only [Exit.inBlock, Exit.then]); refine bodyPost_ret (results_none rfl _ _ _) rfl ?_)
          exact ⟨rfl, ⟨⟨_, blk_put HG5.out 3 _ rfl, Kd.R_set (Kd.R_lower HR5.out (Nat.le_trans hbw HZ.out.size)) HG5.out (by intro q hq; have e9 : kRw.E = [] := rfl; rw [e9] at hq; simp at hq; omega) 3 _⟩, hg⟩, ((below_step HZ.out HBR5.out).mono hbw).setCell (p := ⟨g, 3, none⟩) hg _⟩
end Go.Proofs.Ytldiginkmmlojaa
