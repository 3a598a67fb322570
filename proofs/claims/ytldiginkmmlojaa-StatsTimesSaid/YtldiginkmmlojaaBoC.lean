/- stats.Boots: what a range over entries makes of it. -/
import Derived.Test.YtldiginkmmlojaaBoB
import Derived.Test.YtldiginkmmlojaaBoS
import Derived.Test.YtldiginkmmlojaaMapI
namespace Go.Proofs.Ytldiginkmmlojaa
set_option linter.unusedVariables false
set_option linter.unusedSimpArgs false
open Go.RowKit Go.Shelf Go.Proofs.YtldiginkmmlojaaW.PrintWords
attribute [local go_sem] Oper.semAt_some

theorem infoBoot : (Try.prog.info? 39).map (fun i => (i.zero, i.size, i.bytes)) = some (some (.agg #[.int .u64 0, .int .u64 0, .int .u64 0, .int .i64 0]), 4, 32) := by kernel_rfl
theorem lawU : Maps.Keyed Try.prog 37 := Maps.int_keyed Try.underlying37
theorem zeroInt (w : World) : (zeroValue 3).run Try.prog w = .ok (.int .i64 0) w := by kernel_rfl
theorem cells_new (w : World) (cs : List Value) (t : TypeId) : ∀ j u, cs[j]? = some u → (w.alloc (.cells cs.toArray t)).cell? ((⟨w.heap.size, 0, none⟩ : Addr).add j) = some u := fun j u h => by
  rw [add_plain, blk_cell (blk_new w _) j]
  simpa using h
theorem turned_below {w W W1 : World} {m : Nat} (h : W.mapTurned W1 m) (hm : w.heap.size ≤ m) (hb : Below w.heap.size w W) : Below w.heap.size W W1 := (Below.refl _ W).grown h.grown hb.size (fun k e => by cases e; exact hm)
set_option maxRecDepth 100000 in
set_option maxHeartbeats 4000000 in
theorem boots_in (F : Fence) (n : Nat) (h3 : F.fn 16) (h5 : F.fn 88) (hro : F.round = none) (hn : 3 ≤ n) (Bs : Nat) (sv : Value) (zs : List RecW) (hlen : zs.length ≤ 1000) (w : World) (hBs : Bs < w.heap.size) (hc : w.cell? ⟨Bs, 0, none⟩ = some sv) (hI : Recs w.heap.size w sv zs) :
    CallsIn F n Try.prog 16 #[.func (.func 88) #[] #[.pointer (some ⟨Bs, 0, none⟩)]] w fun e W' => ∃ v, e = .returned v ∧ W'.ownsRow w.heap.size 39 4 v (bootsF zs).length (cellsB (bootsF zs)) ∧ Below w.heap.size w W' := by
  have h1 : 1 ≤ n := by omega
  have hmm := @run_makeMap Try.prog
  obtain ⟨i0, hi, hz0, hz1, hz2⟩ := info_parts infoBoot
  refine callsIn_of_wp_marks Try.func16 rfl h3 ?_ hro
  simp only [Try.ntmps16, List.size_toArray, List.length_cons, List.length_nil, Nat.reduceAdd, Nat.reduceSub, Array.replicate_succ, Array.replicate_zero, List.push_toArray, List.append_toArray, List.nil_append, List.cons_append]
  gi_wp2
  have bO := ((Boxed.new w 26 (.slice none 0 0)).alloc (.map #[] 0)).alloc (.cells #[.map (some (w.heap.size + 1))] 119)
  have bM := Boxed.new ((w.alloc (.cells #[.slice none 0 0] 26)).alloc (.map #[] 0)) 119 (.map (some (w.heap.size + 1)))
  have hM0 := (MV.made (w.alloc (.cells #[.slice none 0 0] 26)) Try.prog 37).kept (World.grownBy_alloc _ (.cells #[.map (some (w.heap.size + 1))] 119) none) (by simp)
  simp only [World.size_alloc] at bM hM0
  have hB0 : Below w.heap.size w (((w.alloc (.cells #[.slice none 0 0] 26)).alloc (.map #[] 0)).alloc (.cells #[.map (some (w.heap.size + 1))] 119)) := (((Below.refl _ w).alloc (Nat.le_refl _) _).alloc (by simp) _).alloc (by simp; omega) _
  have hsz : (((w.alloc (.cells #[.slice none 0 0] 26)).alloc (.map #[] 0)).alloc (.cells #[.map (some (w.heap.size + 1))] 119)).heap.size = w.heap.size + 3 := by simp
  obtain ⟨W0, hW0⟩ : ∃ W0, ((w.alloc (.cells #[.slice none 0 0] 26)).alloc (.map #[] 0)).alloc (.cells #[.map (some (w.heap.size + 1))] 119) = W0 := ⟨_, rfl⟩
  rw [hW0] at bO bM hM0 hB0 hsz ⊢
  clear hW0
  refine wpIn_rangeFunc_ownH hro h1 (gf := 88) (lb := #[.pointer (some ⟨Bs, 0, none⟩)]) rfl h5 (enters_of Try.func88 (by kernel_rfl) rfl)
    (rvalues_stops F (n - 1) h5 hro (by omega) Bs w.heap.size sv zs (by omega) W0 (by omega) (by omega) ((hB0.cell (p := ⟨Bs, 0, none⟩) hBs).trans hc) (hI.below hB0)) belowK_t (belowK_b (by omega)) (Below.refl _ _) (fun _ => rfl)
    (fun pre W => ((∃ v, Boxed W w.heap.size 26 v ∧ W.ownsRow w.heap.size 39 4 v (bootsF pre).length (cellsB (bootsF pre)) ∧ True) ∧ Boxed W (w.heap.size + 1 + 1) 119 (.map (some (w.heap.size + 1))) ∧ MV W Try.prog 37 (w.heap.size + 1) pre.length (whereB (bootsF pre))) ∧ Below w.heap.size w W)
    (fun _ _ _ => False)
    (OwnFrom.and (OwnFrom.and (Own.from (holdsRow_own w.heap.size w.heap.size 26 39 4 (fun pre => (bootsF pre).length) (fun pre => cellsB (bootsF pre)) (fun _ v => True)) _) (OwnFrom.and (Own.from (boxed_own _ _ _) _) (mv_own _ _ (by omega) _ _ _ _))) (ownFrom_below (Nat.le_refl _) (by omega)))
    (fun _ _ _ _ _ hs _ _ => hs)
    ⟨⟨⟨_, bO, World.ownsRow_nil _ _ _ _, trivial⟩, bM, hM0.congr (fun q => by unfold whereB; split <;> simp [bootsF])⟩, hB0⟩
    (fun x a' W => ∃ Bx, w.heap.size + 2 < Bx ∧ W.heap[Bx]? = some (.cells #[.int .u64 x.1.seq, .int .u64 x.1.real, .int .u64 x.1.mono, .int .u64 x.1.boot, .slice x.1.A x.1.n x.1.c] 47 (0, 0)) ∧ a' = { tmps := #[.func (.func 88) #[] #[.pointer (some ⟨Bs, 0, none⟩)], undef, .slice none 0 0, .pointer (some ⟨w.heap.size, 0, none⟩), .pointer (some ⟨w.heap.size + 1 + 1, 0, none⟩), .pointer (some ⟨Bx, 0, none⟩), undef, undef, .map (some (w.heap.size + 1)), .func (.func 88) #[] #[.pointer (some ⟨Bs, 0, none⟩)], x.1.v, undef, undef, undef, undef, undef, undef, undef, undef, undef, undef, undef, undef, undef, undef, undef, undef, undef, undef, undef, undef, undef, undef, undef, undef, undef, undef, undef, undef, undef, undef, undef, undef, undef, undef, undef, undef, undef, undef, undef, undef], defers := [] })
    (fun x a' _ X Y row hs hg hr => by
      obtain ⟨Bx, h1, h2, h3⟩ := hs
      refine ⟨Bx, h1, (hg.block Bx (Array.getElem?_eq_some_iff.1 h2).1 (fun e' => ?_)).trans h2, h3⟩
      obtain ⟨o, ho, hc⟩ := (hr Bx e'.symm).2
      rw [h2] at ho; cases ho; cases hc)
    ?assign ?body ?done ?stop
  case assign =>
    rintro l pre x W K ⟨⟨⟨v, bO1, hrow, _⟩, bM1, hM1⟩, hB1⟩ hK
    simp only [RecV.v]
    gi_wp2
    exact hK _ _ ((KeepsOthers.alloc _ _).from _) ((Below.refl _ W).alloc hB1.size _) ⟨⟨⟨v, bO1.alloc _, hrow.alloc _, trivial⟩, bM1.alloc _, hM1.kept (World.grownBy_alloc _ _ none) (by simp)⟩, hB1.alloc hB1.size _⟩ ⟨W.heap.size, bM1.lt, World.alloc_heap_new W _, rfl⟩
  case body =>
    rintro l pre x a' W hl ⟨r, hr⟩ ⟨⟨⟨v, bO1, hrow, _⟩, bM1, hM1⟩, hB1⟩ ⟨Bx, hBx, bX, rfl⟩ hlt
    have HSZ := Aside0.mk hsz
    clear hsz
    have hol : (bootsF pre).length ≤ pre.length := bootsF_len pre
    have HS := Aside0.mk (bootsF_snoc pre x)
    obtain ⟨L, hL⟩ : ∃ L, L = bootsF pre := ⟨_, rfl⟩
    rw [← hL] at hrow hM1 hol
    obtain ⟨i, hI0⟩ : ∃ i, i = atB L x.1.boot := ⟨_, rfl⟩
    have hile : i ≤ L.length := by rw [hI0]; exact atB_le L x.1.boot
    have c0 : W.cell? ⟨Bx, 0, none⟩ = some (.int .u64 x.1.seq) := by simp [World.cell?, bX]
    have c3 : W.cell? ⟨Bx, 3, none⟩ = some (.int .u64 x.1.boot) := by simp [World.cell?, bX]
    have cO := bO1.cell
    have cM := bM1.cell
    have fO := bO1.frozen
    have hsW := hB1.size
    have HK := Aside0.mk (Maps.keyOf_int_mk (P := Try.prog) Try.underlying37 x.2.2)
    have HM := Aside0.mk hM1
    have FIN := Aside0.mk (show ∀ (W2 : World) (g cap : Nat) (L2 : List BV), L2 = newB L x → i < L2.length → Boxed W2 w.heap.size 26 (.slice (some ⟨g, 0, none⟩) L2.length cap) → W2.ownsRow w.heap.size 39 4 (.slice (some ⟨g, 0, none⟩) L2.length cap) L2.length (cellsB L2) → Boxed W2 (w.heap.size + 1 + 1) 119 (.map (some (w.heap.size + 1))) → MV W2 Try.prog 37 (w.heap.size + 1) (pre.length + 1) (whereB L2) → KeepsFrom W0.heap.size W W2 → Below w.heap.size W W2 →
        KeepsFrom W0.heap.size W ((W2.setCell ⟨g, i * 4 + 2, none⟩ (.int .u64 x.1.seq)).setCell ⟨g, i * 4 + 3, none⟩ (.int .i64 (wrap64 ((L2.getD i zBV).n + 1)))) ∧ Below w.heap.size W ((W2.setCell ⟨g, i * 4 + 2, none⟩ (.int .u64 x.1.seq)).setCell ⟨g, i * 4 + 3, none⟩ (.int .i64 (wrap64 ((L2.getD i zBV).n + 1)))) ∧
        ((∃ v, Boxed ((W2.setCell ⟨g, i * 4 + 2, none⟩ (.int .u64 x.1.seq)).setCell ⟨g, i * 4 + 3, none⟩ (.int .i64 (wrap64 ((L2.getD i zBV).n + 1)))) w.heap.size 26 v ∧ ((W2.setCell ⟨g, i * 4 + 2, none⟩ (.int .u64 x.1.seq)).setCell ⟨g, i * 4 + 3, none⟩ (.int .i64 (wrap64 ((L2.getD i zBV).n + 1)))).ownsRow w.heap.size 39 4 v (bootsF (pre ++ [x])).length (cellsB (bootsF (pre ++ [x]))) ∧ True) ∧ Boxed ((W2.setCell ⟨g, i * 4 + 2, none⟩ (.int .u64 x.1.seq)).setCell ⟨g, i * 4 + 3, none⟩ (.int .i64 (wrap64 ((L2.getD i zBV).n + 1)))) (w.heap.size + 1 + 1) 119 (.map (some (w.heap.size + 1))) ∧ MV ((W2.setCell ⟨g, i * 4 + 2, none⟩ (.int .u64 x.1.seq)).setCell ⟨g, i * 4 + 3, none⟩ (.int .i64 (wrap64 ((L2.getD i zBV).n + 1)))) Try.prog 37 (w.heap.size + 1) (pre ++ [x]).length (whereB (bootsF (pre ++ [x])))) ∧ Below w.heap.size w ((W2.setCell ⟨g, i * 4 + 2, none⟩ (.int .u64 x.1.seq)).setCell ⟨g, i * 4 + 3, none⟩ (.int .i64 (wrap64 ((L2.getD i zBV).n + 1)))) by
      intro W2 g cap L2 hL2 hi2 b1 r1 b2 m2 hk hb
      have hfin : bootsF (pre ++ [x]) = hitB L2 i x.1.seq := by rw [HS.out, ← hL]; unfold stepB; rw [← hL2, ← hI0]
      rw [hfin, whereB_hit, hitB_len]
      obtain ⟨cur, hcur⟩ : ∃ cur, W2.heap[g]? = some (.cells cur 39 (0, 0)) := by
        rcases r1.2 with ⟨h', _⟩ | ⟨g', cap', cur, h', _, hg, _⟩
        · simp at h'
        · simp only [Value.slice.injEq, Option.some.injEq, Addr.mk.injEq, and_true, true_and] at h'
          obtain ⟨rfl, rfl⟩ := h'
          exact ⟨cur, hg⟩
      have hgb : w.heap.size ≤ g := (r1.lt g rfl).1
      have n1 := b1.not_row (by decide) r1
      have n2 := b2.not_row (by decide) r1
      have n3 : some (w.heap.size + 1) ≠ some g := fun e => m2.ne hcur (by injection e)
      obtain ⟨r1', g1⟩ := r1.stored (i * 4 + 2) (.int .u64 x.1.seq)
      rw [cellsB_set L2 i 2 (.int .u64 x.1.seq) ⟨(L2.getD i zBV).id, (L2.getD i zBV).first, x.1.seq, (L2.getD i zBV).n⟩ hi2 (by omega) rfl] at r1'
      obtain ⟨r1'', g2⟩ := r1'.stored (i * 4 + 3) (.int .i64 (wrap64 ((L2.getD i zBV).n + 1)))
      rw [cellsB_set (L2.set i ⟨(L2.getD i zBV).id, (L2.getD i zBV).first, x.1.seq, (L2.getD i zBV).n⟩) i 3 (.int .i64 (wrap64 ((L2.getD i zBV).n + 1))) ⟨(L2.getD i zBV).id, (L2.getD i zBV).first, x.1.seq, wrap64 ((L2.getD i zBV).n + 1)⟩ (by rw [List.length_set]; exact hi2) (by omega) (by simp [hi2, cB]), List.set_set] at r1''
      have hbn := (hb.setCell (p := ⟨g, i * 4 + 2, none⟩) hgb (.int .u64 x.1.seq)).setCell (p := ⟨g, i * 4 + 3, none⟩) hgb (.int .i64 (wrap64 ((L2.getD i zBV).n + 1)))
      refine ⟨hk.trans (((KeepsOthers.setCell _ _ _).trans (KeepsOthers.setCell _ _ _)).from _), hbn, ⟨⟨_, (b1.kept g1 n1).kept g2 n1, r1'', trivial⟩, (b2.kept g1 n2).kept g2 n2, ?_⟩, hB1.trans hbn⟩
      rw [List.length_append, List.length_singleton]
      exact (m2.kept g1 n3).kept g2 n3)
    have HI0 := Aside0.mk hI0
    have HL := Aside0.mk hL
    clear hM1 hI0 hL
    by_cases hold : i < L.length
    · have HV := Aside0.mk (show (whereB L (.int .u64 x.1.boot)).getD (Value.int .i64 0) = .int .i64 (i : Nat) ∧ (whereB L (.int .u64 x.1.boot)).isSome = true by unfold whereB; dsimp only; rw [← HI0.out, if_pos hold]; exact ⟨rfl, rfl⟩)
      obtain ⟨g, cap, rfl⟩ : ∃ g cap, v = .slice (some ⟨g, 0, none⟩) L.length cap := by
        obtain ⟨g, cap, e, _⟩ := hrow.form (by omega)
        exact ⟨g, cap, e⟩
      have q2 := (hrow.cellAt (i * 4 + 3) (by omega)).trans (cellsB_get L i 3 hold (by omega))
      have q1 := (hrow.cellAt (i * 4 + 2) (by omega)).trans (cellsB_get L i 2 hold (by omega))
      have q3 := hrow.frozenAt (i * 4 + 2)
      have hgn : w.heap.size ≠ g := fun e => bO1.not_row (by decide) hrow (by rw [e]; rfl)
      have q4 := hrow.frozenAt (i * 4 + 3)
      simp only [cB, List.getElem?_cons_succ, List.getElem?_cons_zero] at q1 q2
      obtain ⟨bv, hbv⟩ : ∃ b, b = L.getD i zBV := ⟨_, rfl⟩
      rw [← hbv] at q1 q2
      have HBV := Aside0.mk hbv
      clear hbv
      have hmW : KeepsFrom W0.heap.size W W := KeepsFrom.refl _ _
      gi_wp2_with (gi_at_lookup; refine mvi_lookup_ok rfl _ _ 119 rfl 37 3 lawU Try.underlying119 (zeroInt _) (w.heap.size + 1) pre.length (whereB L) rfl HM.out _ (.int .u64 x.1.boot) rfl HK.out _ _ HV.out.1 HV.out.2 ?_)
      have hfin := FIN.out W g cap L (by unfold newB; rw [if_neg (by rw [← HI0.out]; omega)]) hold bO1 hrow bM1 (HM.out.mono (Nat.le_succ _)) hmW (Below.refl _ _)
      rw [← HBV.out] at hfin
      exact hfin
    · obtain rfl : i = L.length := by omega
      have HV := Aside0.mk (show (whereB L (.int .u64 x.1.boot)).getD (Value.int .i64 0) = .int .i64 0 ∧ (whereB L (.int .u64 x.1.boot)).isSome = false by unfold whereB; dsimp only; rw [← HI0.out, if_neg hold]; exact ⟨rfl, rfl⟩)
      obtain ⟨A, c, rfl⟩ : ∃ A c, v = .slice A L.length c := by
        rcases hrow.2 with ⟨h', h2⟩ | ⟨g', cap', cur, h', _⟩
        · exact ⟨none, 0, by rw [h', h2]⟩
        · exact ⟨_, _, h'⟩
      have hxb : some Bx ≠ (Value.slice A L.length c).ownBlock := by
        rcases hrow.2 with ⟨h', _⟩ | ⟨g', cap', cur, h', _, hg, _⟩
        · rw [h']; simp [Value.ownBlock]
        · rw [h']
          intro e'
          obtain rfl : Bx = g' := by simpa [Value.ownBlock] using e'
          have := bX.symm.trans hg
          simp at this
      have hmb : some (w.heap.size + 1) ≠ (Value.slice A L.length c).ownBlock := by
        rcases hrow.2 with ⟨h', _⟩ | ⟨g', cap', cur, h', _, hg, _⟩
        · rw [h']; simp [Value.ownBlock]
        · rw [h']
          intro e'
          obtain rfl : w.heap.size + 1 = g' := by simpa [Value.ownBlock] using e'
          exact HM.out.ne hg rfl
      have HXB := Aside0.mk hxb
      have HMB := Aside0.mk hmb
      clear hxb hmb
      gi_wp2_with (first
        | (gi_at_lookup; refine mvi_lookup_ok rfl _ _ 119 rfl 37 3 lawU Try.underlying119 (zeroInt _) (w.heap.size + 1) pre.length (whereB L) rfl HM.out _ (.int .u64 x.1.boot) rfl HK.out _ _ HV.out.1 HV.out.2 ?_)
        | (gi_at_mapUpdate; refine mvi_store rfl _ _ _ 119 rfl 37 3 lawU Try.underlying119 (w.heap.size + 1) pre.length (whereB L) rfl HM.out (by unfold maxLen; omega) _ _ (.int .u64 x.1.boot) rfl rfl HK.out ?_; intro w1 hm1 ht1; have HM1 := Aside0.mk hm1; have HT1 := Aside0.mk ht1; have bO2 := bO1.kept ht1.grown (by simp); have bM2 := bM1.kept ht1.grown (by simp); have hrow2 := hrow.kept ht1.grown (.inr (Ne.symm HMB.out)); have bX2 := blk_grown bX ht1.grown (show some Bx ≠ some (w.heap.size + 1) from fun e => by simp only [Option.some.injEq] at e; omega); have c02 := (blk_cell bX2 0).trans (rfl : _ = some (Value.int .u64 x.1.seq)); have c32 := (blk_cell bX2 3).trans (rfl : _ = some (Value.int .u64 x.1.boot)); have cO2 := bO2.cell; have fO2 := bO2.frozen; have hs1 := ht1.grown.size; clear hm1 ht1)
        | (gi_at_builtin; refine wpListIn_append_own_at _ rfl _ _ 26 rfl w.heap.size 39 i0 (.agg #[.int .u64 0, .int .u64 0, .int .u64 0, .int .i64 0]) 4 32 Try.underlying26 hi hz0 hz1 hz2 rfl (by decide) _ _ _ rfl (hrow2.alloc _) ⟨w1.heap.size, 0, none⟩ 1 1 [.int .u64 x.1.boot, .int .u64 x.1.seq, .int .u64 x.1.seq, .int .i64 0] rfl rfl (cells_new _ _ _) (by simp [Value.oneCell']) (by unfold maxLen; omega) (by omega) (by have := hB1.size; simp; omega) ?_; intro v' w2 hown' hgrow _ _; obtain ⟨g', cap', rfl⟩ := ownsRow_succ hown'; obtain ⟨hv1, hv2, hr2, hk2, hb2⟩ := bO2.appended (by decide) hrow2 (Nat.le_trans hsW hs1) (Nat.le_refl _) hown' hgrow; have HC := Aside0.mk (cellsB_snoc L ⟨x.1.boot, x.1.seq, x.1.seq, 0⟩); have HV2 := Aside0.mk hv2; have HR2 := Aside0.mk hr2; have HK2 := Aside0.mk hk2; have HB2 := Aside0.mk hb2; have HG := Aside0.mk hgrow; have hc1 := hv1.cell; have hf1 := hv1.frozen; have bX3 := blk_grown (blk_alloc bX2 (.cells #[.int .u64 x.1.boot, .int .u64 x.1.seq, .int .u64 x.1.seq, .int .i64 0] 39)) hgrow HXB.out; have c03 := (blk_cell bX3 0).trans (rfl : _ = some (Value.int .u64 x.1.seq)); have hgn : w.heap.size ≠ g' := (fun e => hv1.not_row (by decide) hown' (by rw [e]; rfl)); have hbn : Bx ≠ w.heap.size := (by omega); have hbg : Bx ≠ g' := (fun e => by rw [e] at bX3; have := bX3.symm.trans (own_typed hown' g' rfl).choose_spec; simp at this); have q1 := (hown'.cellAt (L.length * 4 + 2) (by omega)).trans ((cells_next L _ 2).trans (rfl : _ = some (Value.int .u64 x.1.seq))); have q2 := (hown'.cellAt (L.length * 4 + 3) (by omega)).trans ((cells_next L _ 3).trans (rfl : _ = some (Value.int .i64 0))); have q3 := hown'.frozenAt (L.length * 4 + 2); have q4 := hown'.frozenAt (L.length * 4 + 3); clear hv2 hr2 hk2 hb2 hgrow))
      have hl2 : (L ++ [(⟨x.1.boot, x.1.seq, x.1.seq, 0⟩ : BV)]).length = L.length + 1 := by simp
      have hgd : (L ++ [(⟨x.1.boot, x.1.seq, x.1.seq, 0⟩ : BV)]).getD L.length zBV = ⟨x.1.boot, x.1.seq, x.1.seq, 0⟩ := by simp [List.getD_eq_getElem?_getD]
      have hnb : newB L x = L ++ [⟨x.1.boot, x.1.seq, x.1.seq, 0⟩] := by unfold newB; rw [if_pos HI0.out.symm]
      have hm2 : MV (w2.setCell ⟨w.heap.size, 0, none⟩ (.slice (some ⟨g', 0, none⟩) (L.length + 1) cap')) Try.prog 37 (w.heap.size + 1) (pre.length + 1) (whereB (newB L x)) := by
        refine MV.congr (((HM1.out.kept (World.grownBy_alloc _ _ none) (by simp)).kept HG.out HMB.out).kept (grownBy_setCell' _ _ _) (by simp)) (fun q => ?_)
        rw [whereB_new L x HI0.out.symm]
        rfl
      have hb2 : Boxed (w2.setCell ⟨w.heap.size, 0, none⟩ (.slice (some ⟨g', 0, none⟩) (L.length + 1) cap')) (w.heap.size + 1 + 1) 119 (.map (some (w.heap.size + 1))) := ((bM2.alloc _).kept HG.out (bM2.not_row (by decide) hrow2)).other (by omega) _
      have hbw1 := turned_below HT1.out (Nat.le_succ _) hB1
      have hfin := FIN.out _ g' cap' (L ++ [⟨x.1.boot, x.1.seq, x.1.seq, 0⟩]) hnb.symm (by rw [hl2]; omega) (by rw [hl2]; exact HV2.out) (by rw [hl2, HC.out]; exact HR2.out) hb2 (by rw [← hnb]; exact hm2) ((KeepsFrom.of_grownBy HT1.out.grown (fun j e => by cases e; have := HSZ.out; omega)).trans (HK2.out.from _)) (hbw1.trans HB2.out)
      rw [hgd, show wrap64 ((⟨x.1.boot, x.1.seq, x.1.seq, 0⟩ : BV).n + 1) = 1 by simp [wrap64]] at hfin
      exact hfin
  case done =>
    rintro D ys W hD rfl ⟨⟨⟨v, bO1, hrow, _⟩, bM1, hM1⟩, hB1⟩ hK
    have hc := bO1.cell
    gi_wp2
    refine ⟨by simp, .inl ⟨_, _, rfl, run_takeDeferred hK, ?_⟩⟩
    exact ⟨_, results_tmp rfl _ _ _, v, rfl, ownsRow_putObj hrow _ hK rfl, hB1.trans (belowK_b (w := w) (Nat.le_refl _) W D _ _ (by omega) hK rfl rfl)⟩
  case stop =>
    rintro D c pre W _ _ h _
    exact h.elim
/-- stats.Boots over slices.Values of entries. -/
theorem boots_any (Bs : Nat) (sv : Value) (zs : List RecW) (hlen : zs.length ≤ 1000) (w : World) (hBs : Bs < w.heap.size) (hc : w.cell? ⟨Bs, 0, none⟩ = some sv) (hI : Recs w.heap.size w sv zs) :
    Calls Try.prog 16 #[.func (.func 88) #[] #[.pointer (some ⟨Bs, 0, none⟩)]] w fun e W' => ∃ v, e = .returned v ∧ W'.ownsRow w.heap.size 39 4 v (bootsF zs).length (cellsB (bootsF zs)) ∧ Below w.heap.size w W' :=
  (callsIn_wide (n := 3)).1 (boots_in Fence.wide 3 trivial trivial rfl (by omega) Bs sv zs hlen w hBs hc hI)
end Go.Proofs.Ytldiginkmmlojaa
