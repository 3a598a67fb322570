/- stats.Gaps: what a range over entries makes of it. -/
import Derived.Test.YtldiginkmmlojaaBoA
import Derived.Maps.AppendAt
import Derived.Maps.OwnIn
namespace Go.Proofs.Ytldiginkmmlojaa
set_option linter.unusedVariables false
set_option linter.unusedSimpArgs false
open Go.RowKit Go.Shelf Go.Proofs.YtldiginkmmlojaaW.PrintWords
attribute [local go_sem] Oper.semAt_some

theorem infoU64 : (Try.prog.info? 37).map (fun i => (i.zero, i.size, i.bytes)) = some (some (.int .u64 0), 1, 8) := by kernel_rfl
/-- Where numbers are missing: a round of it (what is out, the last number, whether there was none). -/
def stepG (s : List Int × Int × Bool) (x : RecW) : List Int × Int × Bool := (if s.2.2 = false ∧ 1 < IntKind.u64.wrap (x.1.seq - s.2.1) then s.1 ++ [s.2.1] else s.1, x.1.seq, false)
def gapsF (l : List RecW) : List Int × Int × Bool := l.foldl stepG ([], 0, true)
theorem gapsF_snoc (l : List RecW) (x : RecW) : gapsF (l ++ [x]) = stepG (gapsF l) x := by unfold gapsF; rw [List.foldl_append]; rfl
theorem gapsF_len (l : List RecW) : (gapsF l).1.length ≤ l.length := by
  unfold gapsF
  have h : ∀ (l : List RecW) (s : List Int × Int × Bool), (l.foldl stepG s).1.length ≤ s.1.length + l.length := by
    intro l
    induction l with
    | nil => intro s; simp
    | cons p t ih =>
      intro s
      rw [List.foldl_cons]
      have := ih (stepG s p)
      have h2 : (stepG s p).1.length ≤ s.1.length + 1 := by
        unfold stepG
        dsimp only
        split
        · simp
        · omega
      simp only [List.length_cons]
      omega
  simpa using h l ([], 0, true)
set_option maxRecDepth 100000 in
set_option maxHeartbeats 2000000 in
theorem gaps_in (F : Fence) (n : Nat) (h3 : F.fn 20) (h5 : F.fn 88) (hro : F.round = none) (hn : 3 ≤ n) (Bs : Nat) (sv : Value) (zs : List RecW) (hlen : zs.length ≤ 1000) (w : World) (hBs : Bs < w.heap.size) (hc : w.cell? ⟨Bs, 0, none⟩ = some sv) (hI : Recs w.heap.size w sv zs) :
    CallsIn F n Try.prog 20 #[.func (.func 88) #[] #[.pointer (some ⟨Bs, 0, none⟩)]] w fun e W' => ∃ v, e = .returned v ∧ W'.ownsRow w.heap.size 37 1 v (gapsF zs).1.length ((gapsF zs).1.map (Value.int .u64)) ∧ Below w.heap.size w W' := by
  have h1 : 1 ≤ n := by omega
  obtain ⟨i0, hi, hz0, hz1, hz2⟩ := info_parts infoU64
  refine callsIn_of_wp_marks Try.func20 rfl h3 ?_ hro
  simp only [Try.ntmps20, List.size_toArray, List.length_cons, List.length_nil, Nat.reduceAdd, Nat.reduceSub, Array.replicate_succ, Array.replicate_zero, List.push_toArray, List.append_toArray, List.nil_append, List.cons_append]
  gi_wp2
  have bO := ((Boxed.new w 34 (.slice none 0 0)).alloc (.cells #[.int .u64 0] 37)).alloc (.cells #[.bool true] 4)
  have bL := (Boxed.new (w.alloc (.cells #[.slice none 0 0] 34)) 37 (.int .u64 0)).alloc (.cells #[.bool true] 4)
  have bF := Boxed.new ((w.alloc (.cells #[.slice none 0 0] 34)).alloc (.cells #[.int .u64 0] 37)) 4 (.bool true)
  simp only [World.size_alloc] at bL bF
  have hB0 : Below w.heap.size w (((w.alloc (.cells #[.slice none 0 0] 34)).alloc (.cells #[.int .u64 0] 37)).alloc (.cells #[.bool true] 4)) := (((Below.refl _ w).alloc (Nat.le_refl _) _).alloc (by simp) _).alloc (by simp; omega) _
  have hsz : (((w.alloc (.cells #[.slice none 0 0] 34)).alloc (.cells #[.int .u64 0] 37)).alloc (.cells #[.bool true] 4)).heap.size = w.heap.size + 3 := by simp
  obtain ⟨W0, hW0⟩ : ∃ W0, ((w.alloc (.cells #[.slice none 0 0] 34)).alloc (.cells #[.int .u64 0] 37)).alloc (.cells #[.bool true] 4) = W0 := ⟨_, rfl⟩
  rw [hW0] at bO bL bF hB0 hsz ⊢
  clear hW0
  refine wpIn_rangeFunc_ownH hro h1 (gf := 88) (lb := #[.pointer (some ⟨Bs, 0, none⟩)]) rfl h5 (enters_of Try.func88 (by kernel_rfl) rfl)
    (rvalues_stops F (n - 1) h5 hro (by omega) Bs w.heap.size sv zs (by omega) W0 (by omega) (by omega) ((hB0.cell (p := ⟨Bs, 0, none⟩) hBs).trans hc) (hI.below hB0)) belowK_t (belowK_b (by omega)) (Below.refl _ _) (fun _ => rfl)
    (fun pre W => ((∃ v, Boxed W w.heap.size 34 v ∧ W.ownsRow w.heap.size 37 1 v (gapsF pre).1.length ((gapsF pre).1.map (Value.int .u64)) ∧ some (w.heap.size + 1) ≠ v.ownBlock) ∧ Boxed W (w.heap.size + 1) 37 (.int .u64 (gapsF pre).2.1) ∧ Boxed W (w.heap.size + 1 + 1) 4 (.bool (gapsF pre).2.2)) ∧ Below w.heap.size w W)
    (fun _ _ _ => False)
    (OwnFrom.and (OwnFrom.and (Own.from (holdsRow_own w.heap.size w.heap.size 34 37 1 (fun pre => (gapsF pre).1.length) (fun pre => (gapsF pre).1.map (Value.int .u64)) (fun _ v => some (w.heap.size + 1) ≠ v.ownBlock)) _) (OwnFrom.and (Own.from (boxed_own _ _ _) _) (Own.from (boxed_own _ _ _) _))) (ownFrom_below (Nat.le_refl _) (by omega)))
    (fun _ _ _ _ _ hs _ _ => hs)
    ⟨⟨⟨_, bO, World.ownsRow_nil _ _ _ _, by simp [Value.ownBlock]⟩, bL, bF⟩, hB0⟩
    (fun x a' W => ∃ Bx, w.heap.size + 2 < Bx ∧ W.heap[Bx]? = some (.cells #[.int .u64 x.1.seq, .int .u64 x.1.real, .int .u64 x.1.mono, .int .u64 x.1.boot, .slice x.1.A x.1.n x.1.c] 47 (0, 0)) ∧ a' = { tmps := #[.func (.func 88) #[] #[.pointer (some ⟨Bs, 0, none⟩)], undef, .slice none 0 0, .pointer (some ⟨w.heap.size, 0, none⟩), .pointer (some ⟨w.heap.size + 1, 0, none⟩), .pointer (some ⟨w.heap.size + 1 + 1, 0, none⟩), .pointer (some ⟨Bx, 0, none⟩), .func (.func 88) #[] #[.pointer (some ⟨Bs, 0, none⟩)], x.1.v, undef, undef, undef, undef, undef, undef, undef, undef, undef, undef, undef, undef, undef, undef, undef, undef], defers := [] })
    (fun x a' _ X Y row hs hg hr => by
      obtain ⟨Bx, h1, h2, h3⟩ := hs
      refine ⟨Bx, h1, (hg.block Bx (Array.getElem?_eq_some_iff.1 h2).1 (fun e' => ?_)).trans h2, h3⟩
      obtain ⟨o, ho, hc⟩ := (hr Bx e'.symm).2
      rw [h2] at ho; cases ho; cases hc)
    ?assign ?body ?done ?stop
  case assign =>
    rintro l pre x W K ⟨⟨⟨v, bO1, hrow, hvb⟩, bL1, bF1⟩, hB1⟩ hK
    simp only [RecV.v]
    gi_wp2
    exact hK _ _ ((KeepsOthers.alloc _ _).from _) ((Below.refl _ W).alloc hB1.size _) ⟨⟨⟨v, bO1.alloc _, hrow.alloc _, hvb⟩, bL1.alloc _, bF1.alloc _⟩, hB1.alloc hB1.size _⟩ ⟨W.heap.size, bF1.lt, World.alloc_heap_new W _, rfl⟩
  case body =>
    rintro l pre x a' W hl ⟨r, hr⟩ ⟨⟨⟨v, bO1, hrow, hvb0⟩, bL1, bF1⟩, hB1⟩ ⟨Bx, hBx, bX, rfl⟩ hlt
    have HSZ := Aside0.mk hsz
    clear hsz
    have HVB := Aside0.mk hvb0
    clear hvb0
    have hS := gapsF_snoc pre x
    have hol : (gapsF pre).1.length ≤ pre.length := gapsF_len pre
    obtain ⟨⟨o, la, fi⟩, hs⟩ : ∃ s, s = gapsF pre := ⟨_, rfl⟩
    rw [← hs] at hS hrow bL1 bF1 hol
    have HS := Aside0.mk hS
    clear hs hS
    dsimp only at hrow bL1 bF1 hol
    have c0 : W.cell? ⟨Bx, 0, none⟩ = some (.int .u64 x.1.seq) := by simp [World.cell?, bX]
    have cO := bO1.cell
    have cL := bL1.cell
    have cF := bF1.cell
    have fL := bL1.frozen
    have fF := bF1.frozen
    have fO := bO1.frozen
    have e1 : w.heap.size + 1 ≠ w.heap.size := by omega
    have e2 : w.heap.size + 1 + 1 ≠ w.heap.size := by omega
    have e3 : w.heap.size + 1 ≠ w.heap.size + 1 + 1 := by omega
    have hsW := hB1.size
    have fin : ∀ (W2 : World) (v2 : Value) (o2 : List Int) (fi2 : Unit), stepG (o, la, fi) x = (o2, x.1.seq, false) → Boxed W2 w.heap.size 34 v2 → W2.ownsRow w.heap.size 37 1 v2 o2.length (o2.map (Value.int .u64)) → Boxed W2 (w.heap.size + 1) 37 (.int .u64 la) → Boxed W2 (w.heap.size + 1 + 1) 4 (.bool fi) → KeepsFrom W0.heap.size W W2 → Below w.heap.size W W2 →
        (some (w.heap.size + 1) ≠ v2.ownBlock) →
        KeepsFrom W0.heap.size W ((W2.setCell ⟨w.heap.size + 1, 0, none⟩ (.int .u64 x.1.seq)).setCell ⟨w.heap.size + 1 + 1, 0, none⟩ (.bool false)) ∧ Below w.heap.size W ((W2.setCell ⟨w.heap.size + 1, 0, none⟩ (.int .u64 x.1.seq)).setCell ⟨w.heap.size + 1 + 1, 0, none⟩ (.bool false)) ∧
        ((∃ v, Boxed ((W2.setCell ⟨w.heap.size + 1, 0, none⟩ (.int .u64 x.1.seq)).setCell ⟨w.heap.size + 1 + 1, 0, none⟩ (.bool false)) w.heap.size 34 v ∧ ((W2.setCell ⟨w.heap.size + 1, 0, none⟩ (.int .u64 x.1.seq)).setCell ⟨w.heap.size + 1 + 1, 0, none⟩ (.bool false)).ownsRow w.heap.size 37 1 v (gapsF (pre ++ [x])).1.length ((gapsF (pre ++ [x])).1.map (Value.int .u64)) ∧ some (w.heap.size + 1) ≠ v.ownBlock) ∧ Boxed ((W2.setCell ⟨w.heap.size + 1, 0, none⟩ (.int .u64 x.1.seq)).setCell ⟨w.heap.size + 1 + 1, 0, none⟩ (.bool false)) (w.heap.size + 1) 37 (.int .u64 (gapsF (pre ++ [x])).2.1) ∧ Boxed ((W2.setCell ⟨w.heap.size + 1, 0, none⟩ (.int .u64 x.1.seq)).setCell ⟨w.heap.size + 1 + 1, 0, none⟩ (.bool false)) (w.heap.size + 1 + 1) 4 (.bool (gapsF (pre ++ [x])).2.2)) ∧ Below w.heap.size w ((W2.setCell ⟨w.heap.size + 1, 0, none⟩ (.int .u64 x.1.seq)).setCell ⟨w.heap.size + 1 + 1, 0, none⟩ (.bool false)) := by
      intro W2 v2 o2 fi2 hst b1 r1 b2 b3 hk hb hne
      rw [HS.out, hst]
      have b2' := b2.set (.int .u64 x.1.seq)
      have b3' := b3.other (B' := w.heap.size + 1) (by omega) (.int .u64 x.1.seq)
      have b1' := b1.other (B' := w.heap.size + 1) (by omega) (.int .u64 x.1.seq)
      have r1' := r1.kept (grownBy_setCell' W2 (w.heap.size + 1) (.int .u64 x.1.seq)) (.inr hne.symm)
      have r1'' := r1'.kept (grownBy_setCell' (W2.setCell ⟨w.heap.size + 1, 0, none⟩ (.int .u64 x.1.seq)) (w.heap.size + 1 + 1) (.bool false)) (.inr (b3'.not_row (by decide) r1').symm)
      have hbn := (hb.setCell (p := ⟨w.heap.size + 1, 0, none⟩) (by simp) (.int .u64 x.1.seq)).setCell (p := ⟨w.heap.size + 1 + 1, 0, none⟩) (by simp; omega) (.bool false)
      exact ⟨hk.trans (((KeepsOthers.setCell _ _ _).trans (KeepsOthers.setCell _ _ _)).from _), hbn, ⟨⟨v2, b1'.other (by omega) _, r1'', hne⟩, b2'.other (by omega) _, b3'.set _⟩, hB1.trans hbn⟩
    have FIN := Aside0.mk fin
    have hn0 : Bx ≠ w.heap.size := by omega
    have hn1 : Bx ≠ w.heap.size + 1 := by omega
    have hn2 : Bx ≠ w.heap.size + 1 + 1 := by omega
    have HNX := Aside0.mk (show some Bx ≠ v.ownBlock by
      rcases hrow.2 with ⟨rfl, _⟩ | ⟨g, cap, cur, rfl, _, hgb, _⟩
      · simp [Value.ownBlock]
      · intro e'
        obtain rfl : Bx = g := by simpa [Value.ownBlock] using e'
        have := bX.symm.trans hgb
        simp at this)
    clear fin
    cases fi
    · by_cases hcnd : 1 < IntKind.u64.wrap (x.1.seq - la)
      · have HST := Aside0.mk (show stepG (o, la, false) x = (o ++ [la], x.1.seq, false) by unfold stepG; simp [hcnd])
        gi_wp2_with (gi_at_builtin; refine wpListIn_append_own_at _ rfl _ _ 34 rfl w.heap.size 37 i0 (.int .u64 0) 1 8 Try.underlying34 hi hz0 hz1 hz2 rfl (by decide) _ _ _ rfl (hrow.alloc _) ⟨W.heap.size, 0, none⟩ 1 1 [.int .u64 la] rfl rfl (cell_one_new _ _ _) (by simp [Value.oneCell']) (by unfold maxLen; omega) (by omega) (by have := hB1.size; simp; omega) ?_; intro v' w1 hown' hgrow _ hvo; obtain ⟨g', cap', rfl⟩ := ownsRow_succ hown'; obtain ⟨hv1, hv2, hr2, hk2, hb2⟩ := bO1.appended (by decide) hrow hB1.size (Nat.le_refl _) hown' hgrow; have hc1 := hv1.cell; have hf1 := hv1.frozen; have bL2 := (bL1.alloc (.cells #[.int .u64 la] 37)).kept hgrow HVB.out; have HVN := Aside0.mk (show some (w.heap.size + 1) ≠ (Value.slice (some ⟨g', 0, none⟩) (o.length + 1) cap').ownBlock by rcases hvo with e | e; (rw [e]; exact HVB.out); (rw [e, World.size_alloc]; intro e9; injection e9 with e9; have := bL1.lt; omega)); clear hvo; have bF2 := (bF1.alloc (.cells #[.int .u64 la] 37)).kept hgrow (bF1.not_row (by decide) hrow); have cL2 := bL2.cell; have fL2 := bL2.frozen; have cF2 := bF2.cell; have fF2 := bF2.frozen; have cX2 : w1.cell? ⟨Bx, 0, none⟩ = some (.int .u64 x.1.seq) := by have := (hgrow.block Bx (Nat.lt_trans (Array.getElem?_eq_some_iff.1 bX).1 (by simp)) HNX.out).trans ((Below.heap_alloc W _ Bx (Array.getElem?_eq_some_iff.1 bX).1).trans bX); simp [World.cell?, this])
        exact FIN.out _ _ (o ++ [la]) () HST.out hv2 (by simpa using hr2) (bL2.other e1 _) (bF2.other e2 _) (hk2.from _) hb2 HVN.out
      · have HST := Aside0.mk (show stepG (o, la, false) x = (o, x.1.seq, false) by unfold stepG; simp [hcnd])
        gi_wp2_with fail
        exact FIN.out W v o () HST.out bO1 hrow bL1 bF1 (KeepsFrom.refl _ _) (Below.refl _ _) HVB.out
    · have HST := Aside0.mk (show stepG (o, la, true) x = (o, x.1.seq, false) by unfold stepG; simp)
      gi_wp2_with fail
      exact FIN.out W v o () HST.out bO1 hrow bL1 bF1 (KeepsFrom.refl _ _) (Below.refl _ _) HVB.out
  case done =>
    rintro D ys W hD rfl ⟨⟨⟨v, bO1, hrow, _⟩, bL1, bF1⟩, hB1⟩ hK
    have hc := bO1.cell
    gi_wp2
    refine ⟨by simp, .inl ⟨_, _, rfl, run_takeDeferred hK, ?_⟩⟩
    exact ⟨_, results_tmp rfl _ _ _, v, rfl, ownsRow_putObj hrow _ hK rfl, hB1.trans (belowK_b (w := w) (Nat.le_refl _) W D _ _ (by omega) hK rfl rfl)⟩
  case stop =>
    rintro D c pre W _ _ h _
    exact h.elim
/-- stats.Gaps over slices.Values of entries. -/
theorem gaps_any (Bs : Nat) (sv : Value) (zs : List RecW) (hlen : zs.length ≤ 1000) (w : World) (hBs : Bs < w.heap.size) (hc : w.cell? ⟨Bs, 0, none⟩ = some sv) (hI : Recs w.heap.size w sv zs) :
    Calls Try.prog 20 #[.func (.func 88) #[] #[.pointer (some ⟨Bs, 0, none⟩)]] w fun e W' => ∃ v, e = .returned v ∧ W'.ownsRow w.heap.size 37 1 v (gapsF zs).1.length ((gapsF zs).1.map (Value.int .u64)) ∧ Below w.heap.size w W' :=
  (callsIn_wide (n := 3)).1 (gaps_in Fence.wide 3 trivial trivial rfl (by omega) Bs sv zs hlen w hBs hc hI)
end Go.Proofs.Ytldiginkmmlojaa
