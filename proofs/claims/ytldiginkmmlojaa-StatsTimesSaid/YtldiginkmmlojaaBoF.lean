/- The reference's Boots. -/
import Derived.Test.YtldiginkmmlojaaBoE
namespace Go.Proofs.Ytldiginkmmlojaa
set_option linter.unusedVariables false
open Go.RowKit Go.Proofs.YtldiginkmmlojaaW.PrintWords
attribute [local go_sem] mx2 mn2 mxTwo mnTwo

theorem infoRBoot : (Try.prog.info? 40).map (fun i => (i.zero, i.size, i.bytes)) = some (some (.agg #[.int .u64 0, .int .u64 0, .int .u64 0, .int .i64 0]), 4, 32) := by kernel_rfl
theorem row_hit {W : World} {b e g cap : Nat} {L : List BV} {i : Nat} {s : Int} (h : W.ownsRow b e 4 (.slice (some ⟨g, 0, none⟩) L.length cap) L.length (cellsB L)) (hi : i < L.length) :
    ((W.setCell ⟨g, i * 4 + 2, none⟩ (.int .u64 s)).setCell ⟨g, i * 4 + 3, none⟩ (.int .i64 (wrap64 ((L.getD i zBV).n + 1)))).ownsRow b e 4 (.slice (some ⟨g, 0, none⟩) (hitB L i s).length cap) (hitB L i s).length (cellsB (hitB L i s)) ∧ b ≤ g := by
  obtain ⟨r1, _⟩ := h.stored (i * 4 + 2) (.int .u64 s)
  rw [cellsB_set L i 2 (.int .u64 s) ⟨(L.getD i zBV).id, (L.getD i zBV).first, s, (L.getD i zBV).n⟩ hi (by omega) rfl] at r1
  obtain ⟨r2, _⟩ := r1.stored (i * 4 + 3) (.int .i64 (wrap64 ((L.getD i zBV).n + 1)))
  rw [cellsB_set (L.set i ⟨(L.getD i zBV).id, (L.getD i zBV).first, s, (L.getD i zBV).n⟩) i 3 (.int .i64 (wrap64 ((L.getD i zBV).n + 1))) ⟨(L.getD i zBV).id, (L.getD i zBV).first, s, wrap64 ((L.getD i zBV).n + 1)⟩ (by rw [List.length_set]; exact hi) (by omega) (by simp [hi, cB]), List.set_set] at r2
  exact ⟨by rw [hitB_len]; exact r2, (h.lt g rfl).1⟩
theorem row_cells {W : World} {b e g cap : Nat} {L : List BV} {i : Nat} (h : W.ownsRow b e 4 (.slice (some ⟨g, 0, none⟩) L.length cap) L.length (cellsB L)) (hi : i < L.length) :
    W.cell? ⟨g, i * 4, none⟩ = some (.int .u64 (L.getD i zBV).id) ∧ W.cell? ⟨g, i * 4 + 1, none⟩ = some (.int .u64 (L.getD i zBV).first) ∧ W.cell? ⟨g, i * 4 + 2, none⟩ = some (.int .u64 (L.getD i zBV).last) ∧ W.cell? ⟨g, i * 4 + 3, none⟩ = some (.int .i64 (L.getD i zBV).n) ∧ W.frozen? ⟨g, i * 4 + 2, none⟩ = false ∧ W.frozen? ⟨g, i * 4 + 3, none⟩ = false :=
  ⟨(h.cellAt (i * 4 + 0) (by omega)).trans (cellsB_get L i 0 hi (by omega)), (h.cellAt (i * 4 + 1) (by omega)).trans (cellsB_get L i 1 hi (by omega)), (h.cellAt (i * 4 + 2) (by omega)).trans (cellsB_get L i 2 hi (by omega)), (h.cellAt (i * 4 + 3) (by omega)).trans (cellsB_get L i 3 hi (by omega)), h.frozenAt _, h.frozenAt _⟩
theorem row_form {W : World} {b e : Nat} {v : Value} {n : Nat} {xs : List Value} (h : W.ownsRow b e 4 v n xs) : ∃ A c, v = .slice A n c ∧ (0 < n → ∃ g, A = some ⟨g, 0, none⟩) := by
  rcases h.2 with ⟨h', h2⟩ | ⟨g', cap', cur, h', _⟩
  · exact ⟨none, 0, by rw [h', h2], fun h0 => by omega⟩
  · exact ⟨_, _, h', fun _ => ⟨g', rfl⟩⟩
set_option maxHeartbeats 1000000 in
set_option maxRecDepth 100000 in
theorem rboots_any (A : Option Addr) (c : Nat) (zs : List RecW) (w : World) (hr : Kd.C kRec w A zs.length zs) (hn : zs.length ≤ 1000) : Calls Try.prog 18 #[.slice A zs.length c] w fun e w' => ∃ v, e = .returned v ∧ w'.ownsRow w.heap.size 40 4 v (bootsF zs).length (cellsB (bootsF zs)) ∧ Below w.heap.size w w' := by
  have HR := Aside0.mk hr
  clear hr
  go_enter Try.func18, Try.ntmps18
  go_wp2
  go_loopg [3, 4] zs.length (fun g v3 v4 wr => ∃ (i m : Nat) (A3 : Option Addr) (c3 : Nat), v3 = .slice A3 m c3 ∧ v4 = .int .i64 (i : Nat) ∧ i ≤ zs.length ∧ Aside0 (g = zs.length - i) ∧ Aside0 (m = (bootsF (zs.take i)).length ∧ wr.ownsRow w.heap.size 40 4 (.slice A3 m c3) m (cellsB (bootsF (zs.take i)))) ∧ Aside0 (Below w.heap.size w wr))
  case atStart => exact ⟨0, 0, none, 0, rfl, rfl, Nat.zero_le _, ⟨rfl⟩, ⟨rfl, World.ownsRow_nil _ _ _ _⟩, ⟨Below.refl _ _⟩⟩
  case round =>
    obtain ⟨i, m, A3, c3, rfl, rfl, hi, hg, HO, HB⟩ := hrel
    by_cases hlt : i < zs.length
    · obtain ⟨ad, rfl, s0, _, _, s3, _⟩ := at_Rec HR.out i hlt
      have HT := Aside0.mk (show bootsF (zs.take (i + 1)) = stepB (bootsF (zs.take i)) (zs.getD i zRecW) by rw [take_one zs hlt, bootsF_snoc])
      have hol : (bootsF (zs.take i)).length ≤ i := Nat.le_trans (bootsF_len _) (by rw [List.length_take]; omega)
      obtain ⟨L, hL⟩ : ∃ L, L = bootsF (zs.take i) := ⟨_, rfl⟩
      obtain ⟨x, hx⟩ : ∃ x, x = zs.getD i zRecW := ⟨_, rfl⟩
      rw [← hL] at HO HT hol
      rw [← hx] at HT s0 s3
      clear hL hx
      obtain ⟨rfl, ho⟩ := HO.out
      clear HO
      have HO := Aside0.mk ho
      clear ho
      obtain ⟨sq, hsq⟩ : ∃ s, s = x.1.seq := ⟨_, rfl⟩
      obtain ⟨bo, hbo⟩ : ∃ s, s = x.1.boot := ⟨_, rfl⟩
      rw [← hsq] at s0
      rw [← hbo] at s3
      have HSQ := Aside0.mk hsq
      have HBO := Aside0.mk hbo
      clear hsq hbo
      have S0 := Aside0.mk s0
      have S3 := Aside0.mk s3
      clear s0 s3
      go_wp2
      go_loopg [5] L.length (fun g v5 wr' => ∃ k : Nat, v5 = .int .i64 (k : Nat) ∧ k ≤ L.length ∧ Aside0 (g = L.length - k) ∧ Aside0 (∀ j, j < k → (L.getD j zBV).id ≠ bo) ∧ Aside0 (wr'.ownsRow w.heap.size 40 4 (.slice A3 L.length c3) L.length (cellsB L)) ∧ Aside0 (Below w.heap.size w wr'))
      case atStart => exact ⟨0, rfl, Nat.zero_le _, ⟨rfl⟩, ⟨fun j hj => absurd hj (Nat.not_lt_zero _)⟩, HO, HB⟩
      case round =>
        clear HO HB
        obtain ⟨k, rfl, hk, hg2, HNO, HO, HB⟩ := hrel
        have s0 := pw_cell_below HB.out S0.out
        have s3 := pw_cell_below HB.out S3.out
        by_cases hkl : k < L.length
        · obtain ⟨g3, rfl⟩ : ∃ g, A3 = some ⟨g, 0, none⟩ := by
            obtain ⟨A, c, e, h⟩ := row_form HO.out
            obtain ⟨g, rfl⟩ := h (by omega)
            exact ⟨g, by injection e⟩
          obtain ⟨q0, q1, q2, q3, f2, f3⟩ := row_cells HO.out hkl
          obtain ⟨bv, hbv⟩ : ∃ b, b = L.getD k zBV := ⟨_, rfl⟩
          rw [← hbv] at q0 q1 q2 q3
          have HBV := Aside0.mk hbv
          clear hbv
          by_cases he : bv.id = bo
          · have hd : (bv.id != bo) = false := bne_eq_false_iff_eq.mpr he
            have HAT := Aside0.mk (atB_is L bo k (Nat.le_of_lt hkl) HNO.out (.inr (by rw [← HBV.out]; exact he)))
            clear he
            go_wp2_with fail
            go_quiet (fail)
            go_wp2_with fail
            have HST := Aside0.mk (show stepB L x = hitB L k sq by unfold stepB newB; rw [← HBO.out, ← HSQ.out, HAT.out, if_neg (by omega)])
            go_roundg (zs.length - (i + 1))
            case measure => have := hg.out; omega
            case rel =>
              obtain ⟨hrow, hbg⟩ := row_hit (s := sq) HO.out hkl
              rw [← HBV.out] at hrow
              refine ⟨i + 1, (hitB L k sq).length, some ⟨g3, 0, none⟩, c3, by rw [hitB_len], by go_num, by omega, ⟨rfl⟩, ⟨by rw [HT.out, HST.out], by rw [HT.out, HST.out]; exact hrow⟩, ⟨?_⟩⟩
              exact ((pw_below_drewN HB.out _).setCell (p := ⟨g3, k * 4 + 2, none⟩) hbg _).setCell (p := ⟨g3, k * 4 + 3, none⟩) hbg _
          · have hd : (bv.id != bo) = true := bne_iff_ne.mpr he
            have HNE := Aside0.mk he
            clear he
            go_wp2_with fail
            go_quiet (fail)
            go_wp2_with fail
            go_roundg (L.length - (k + 1))
            case measure => have := hg2.out; omega
            case rel => exact ⟨k + 1, by go_num, hkl, ⟨rfl⟩, ⟨fun j hj => by
                by_cases hjk : j < k
                · exact HNO.out j hjk
                · obtain rfl : j = k := by omega
                  rw [← HBV.out]
                  exact HNE.out⟩, ⟨show (World.drewN _ _).ownsRow _ _ _ _ _ _ from HO.out⟩, ⟨pw_below_drewN HB.out _⟩⟩
        · obtain rfl : k = L.length := by omega
          have HAT := Aside0.mk (atB_is L bo L.length (Nat.le_refl _) HNO.out (.inl rfl))
          go_wp2_with fail
          go_quiet (fail)
          go_wp2_with fail
          generalize hW6 : World.drewN _ _ = W6
          have HO6 := Aside0.mk (show W6.ownsRow w.heap.size 40 4 (.slice A3 L.length c3) L.length (cellsB L) by rw [← hW6]; exact HO.out)
          have HB6 := Aside0.mk (show Below w.heap.size w W6 by rw [← hW6]; exact pw_below_drewN HB.out _)
          clear hW6 s0 s3 HO HB
          have s0 := pw_cell_below HB6.out S0.out
          have s3 := pw_cell_below HB6.out S3.out
          have HST := Aside0.mk (show stepB L x = hitB (L ++ [⟨bo, sq, 0, 0⟩]) L.length sq by rw [← hit_new]; unfold newB0; rw [← HBO.out, ← HSQ.out, HAT.out, if_pos rfl])
          go_region_law (refine step_append_cells (W := W6.drew) (w0 := w) w.heap.size (by rfl) (.tmp 35) (.tmp 47) 31 40 (.agg #[.int .u64 0, .int .u64 0, .int .u64 0, .int .i64 0]) 4 32 rfl Try.underlying31 infoRBoot rfl (by decide) (by omega) (.slice A3 L.length c3) L.length (cellsB L) [.int .u64 bo, .int .u64 sq, .int .u64 0, .int .i64 0] (by rfl) (by rfl) rfl (by simp [Value.oneCell']) HO6.out (below_drew HB6.out) (below_size (below_drew HB6.out)) (by omega) ?_; intro v7 w7 ho7 hb7 _ _; obtain ⟨g', cap', rfl⟩ := ownsRow_succ ho7; have HO7 := Aside0.mk ho7; have HB7 := Aside0.mk hb7; have s07 := pw_cell_below hb7 S0.out; have q1 := (ho7.cellAt (L.length * 4 + 2) (by omega)).trans ((cells_next L _ 2).trans (rfl : _ = some (Value.int .u64 0))); have q2 := (ho7.cellAt (L.length * 4 + 3) (by omega)).trans ((cells_next L _ 3).trans (rfl : _ = some (Value.int .i64 0))); have f1 := ho7.frozenAt (L.length * 4 + 2); have f2 := ho7.frozenAt (L.length * 4 + 3); clear ho7 hb7)
          all_goals
            go_wp2_with fail
            go_roundg (zs.length - (i + 1))
            case measure => have := hg.out; omega
            case rel =>
              have hl2 : (L ++ [(⟨bo, sq, 0, 0⟩ : BV)]).length = L.length + 1 := by simp
              have hgd : (L ++ [(⟨bo, sq, 0, 0⟩ : BV)]).getD L.length zBV = ⟨bo, sq, 0, 0⟩ := by simp [List.getD_eq_getElem?_getD]
              obtain ⟨hrow, hbg⟩ := row_hit (s := sq) (L := L ++ [⟨bo, sq, 0, 0⟩]) (i := L.length) (by rw [hl2, cellsB_snoc]; exact HO7.out) (by rw [hl2]; omega)
              rw [hgd, show wrap64 ((⟨bo, sq, 0, 0⟩ : BV).n + 1) = 1 by simp [wrap64]] at hrow
              refine ⟨i + 1, (hitB (L ++ [⟨bo, sq, 0, 0⟩]) L.length sq).length, some ⟨g', 0, none⟩, cap', by rw [hitB_len, hl2], by go_num, by omega, ⟨rfl⟩, ⟨by rw [HT.out, HST.out], by rw [HT.out, HST.out]; exact hrow⟩, ⟨?_⟩⟩
              exact (HB7.out.setCell (p := ⟨g', L.length * 4 + 2, none⟩) hbg _).setCell (p := ⟨g', L.length * 4 + 3, none⟩) hbg _
    · obtain rfl : i = zs.length := by omega
      go_wp2_with fail
      go_ret
      obtain ⟨hm, ho⟩ := HO.out
      rw [List.take_length] at hm ho
      exact ⟨_, rfl, by rw [← hm]; exact ho, HB.out⟩
end Go.Proofs.Ytldiginkmmlojaa
