/- Merging: what is gone through, collected. -/
import Derived.Test.YtldiginkmmlojaaMeG
import Derived.OwnWalkIn
import Derived.Maps.OwnIn
namespace Go.Proofs.Ytldiginkmmlojaa
set_option linter.unusedVariables false
set_option linter.unusedSimpArgs false
open Go.RowKit Go.Proofs.YtldiginkmmlojaaW.PrintWords
attribute [local go_sem] Oper.semAt_some

theorem cells_one (w : World) (u : Value) (t : TypeId) : ∀ j x, [u][j]? = some x → (w.alloc (.cells #[u] t)).cell? ((⟨w.heap.size, 0, none⟩ : Addr).add j) = some x := fun j x h => by
  rw [add_plain, blk_cell (blk_new w _) j]
  simpa using h
theorem row_own {A C : World} {base e k : Nat} {v : Value} {ys : List Value} {R : Nat → Prop} {B : Nat} (h : A.ownsRow base e 1 v k ys) (hR : ∀ q, v.ownBlock = some q → R q) (hu : Unt B R A C) : C.ownsRow base e 1 v k ys := by
  refine ⟨h.1, h.2.imp id ?_⟩
  rintro ⟨g, cap, cur, e1, hb, hh, h9⟩
  exact ⟨g, cap, cur, e1, hb, (hu.block g (blk_lt hh) (.inr (hR g (by rw [e1]; rfl)))).trans hh, h9⟩
set_option maxHeartbeats 4000000 in
set_option maxRecDepth 100000 in
theorem collected_A (lb : Array Value) (xs : List Int) (N0 : Nat) (w0 w : World) (hseq : ∀ n, SeqX Fence.wide n Try.prog 71 lb (Value.int .i64) xs N0 w0) (hN0 : N0 ≤ w0.heap.size) (hb0 : Below w0.heap.size w0 w) (hxl : xs.length ≤ 1000000) :
    Calls Try.prog 41 #[.func (.func 71) #[] lb] w fun e w' => ∃ v, e = .returned v ∧ Kd.R (Kd.int .i64) 3 w' w.heap.size (fun _ => True) v xs ∧ Below w.heap.size w w' := by
  refine (callsIn_wide (n := 9)).1 ?_
  refine callsIn_of_wp_marks Try.func41 rfl trivial ?_ rfl
  simp only [Try.ntmps41, List.size_toArray, List.length_cons, List.length_nil, Nat.reduceAdd, Nat.reduceSub, Array.replicate_succ, Array.replicate_zero, List.push_toArray, List.append_toArray, List.nil_append, List.cons_append]
  have hs0 := hb0.size
  have qn : ∀ (f : FuncId) (bs : Array Value) (W : World), (binOp .eql 75 (.func (.func f) #[] bs) .nilFunc).run Try.prog W = .ok (.bool false) W := fun _ _ _ => by kernel_rfl
  gi_wp2
  obtain ⟨Wb, hWb⟩ : ∃ Wb, Wb = w.alloc (.cells #[.slice none 0 0] 70) := ⟨_, rfl⟩
  have hbx : Boxed Wb w.heap.size 70 (.slice none 0 0) := by rw [hWb]; exact Boxed.new _ _ _
  have hbb : Below w.heap.size w Wb := by rw [hWb]; exact below_alloc (Below.refl _ _) _
  have hsb : Wb.heap.size = w.heap.size + 1 := by rw [hWb]; simp
  obtain ⟨i0, hi, hz0, hz1, hz2⟩ := info_parts infoI64
  rw [← hWb]
  clear hWb
  refine wpIn_rangeX rfl (fun h => by simp [Fence.wide] at h) (gf := 71) (lb := lb) rfl trivial (enters_of Try.func71 (by kernel_rfl) rfl) (hseq (9 - 1)) (by omega) ((hb0.mono hN0).trans (hbb.mono (by omega))) rfl
    (fun R k X => ∃ v, Boxed X w.heap.size 70 v ∧ X.ownsRow w.heap.size 3 1 v k ((xs.take k).map (Value.int .i64)) ∧ (∀ q, v.ownBlock = some q → R q) ∧ Below w.heap.size w X ∧ k ≤ xs.length)
    (fun _ _ _ _ => False)
    ?s1 (fun _ _ _ _ _ h _ => h) ⟨_, hbx, World.ownsRow_nil _ _ _ _, fun q hq => by simp [Value.ownBlock] at hq, hbb, Nat.zero_le _⟩
    (fun x => { tmps := #[.func (.func 71) #[] lb, undef, .slice none 0 0, .pointer (some ⟨w.heap.size, 0, none⟩), .int .i64 x, .func (.func 71) #[] lb, .bool false, .func (.func 71) #[] lb, .int .i64 x, undef, undef, undef, undef, undef], defers := [] })
    ?assign ?body ?done ?stop
  case s1 =>
    rintro R k X C ⟨v, h1, h2, h3, h4, h5⟩ hu
    exact ⟨v, (hu.block _ h1.lt (.inl (by omega))).trans h1, row_own h2 h3 hu, h3, h4.trans (hu.below (by omega) h4.size), h5⟩
  case assign =>
    intro l2 x X K hK
    gi_wp2
    exact hK
  case body =>
    rintro l2 R k x A hx ⟨v, h1, h2, h3, h4, h5⟩ hR hA
    have hkx := (List.getElem?_eq_some_iff.1 hx).1
    have HT := Aside0.mk (show (xs.take (k + 1)).map (Value.int .i64) = (xs.take k).map (Value.int .i64) ++ [.int .i64 x] by rw [take_get hx, List.map_append]; rfl)
    have cO := h1.cell
    have fO := h1.frozen
    have hsW := h4.size
    have HROW := Aside0.mk h2
    have HBX := Aside0.mk h1
    clear h2 h1 hx
    gi_wp2_with (gi_at_builtin; refine wpListIn_append_own_at _ rfl _ _ 70 rfl w.heap.size 3 i0 (.int .i64 0) 1 8 Try.underlying70 hi hz0 hz1 hz2 rfl (by decide) _ _ _ rfl (HROW.out.alloc _) ⟨A.heap.size, 0, none⟩ 1 1 [.int .i64 x] rfl rfl (cells_one _ _ _) (by simp [Value.oneCell']) (by unfold maxLen; omega) (by omega) (by simp; omega) ?_; intro v' w2 hown' hgrow _ hat; obtain ⟨g', cap', rfl⟩ := ownsRow_succ hown'; obtain ⟨hv1, hv2, hr2, hk2, hb2⟩ := HBX.out.appended (by decide) HROW.out hsW (Nat.le_refl _) hown' hgrow; have HV2 := Aside0.mk hv2; have HR2 := Aside0.mk hr2; have HB2 := Aside0.mk hb2; have HG := Aside0.mk hgrow; have HAT := Aside0.mk hat; have hc1 := hv1.cell; have hf1 := hv1.frozen; clear hv1 hv2 hr2 hk2 hb2 hgrow hat hown')
    have hne : ∀ q, q < A.heap.size → ¬ R q → some q ≠ v.ownBlock := fun q _ hn e => hn (h3 q e.symm)
    have hlt' := HR2.out.lt g' rfl
    refine ⟨fun q => R q ∨ (A.heap.size ≤ q ∧ q < (w2.setCell ⟨w.heap.size, 0, none⟩ (.slice (some ⟨g', 0, none⟩) (k + 1) cap')).heap.size), ⟨HB2.out.mono (by omega), fun q hq hb hr => ?_, fun q hq => .inl hq, fun q hq => hq.imp id (fun h => h.1)⟩, _, HV2.out, by rw [HT.out]; exact HR2.out, fun q hq => ?_, h4.trans HB2.out, by omega⟩
    · refine (Below.heap_setCell w2 ⟨w.heap.size, 0, none⟩ _ q (by show q ≠ w.heap.size; omega)).trans ((HG.out.block q (by rw [World.size_alloc]; omega) (hne q hq hr)).trans (Below.heap_alloc A _ q hq))
    · have hqg : q = g' := by simp [Value.ownBlock] at hq; exact hq.symm
      subst hqg
      rcases HAT.out with e | e
      · exact .inl (h3 q ((show _ = v.ownBlock from e).symm.trans rfl))
      · refine .inr ⟨?_, hlt'.2⟩
        have : q = (A.alloc (.cells #[.int .i64 x] 3)).heap.size := by simpa [Value.ownBlock] using e
        rw [World.size_alloc] at this
        omega
  case done =>
    rintro D R C rfl hR ⟨v, h1, h2, h3, h4, h5⟩ hK
    have hc := h1.cell
    gi_wp2
    refine ⟨by simp, .inl ⟨_, _, rfl, run_takeDeferred hK, ?_⟩⟩
    rw [List.take_length] at h2
    exact ⟨_, results_tmp rfl _ _ _, v, rfl, Kd.R_of_own (ownsRow_putObj h2 _ hK rfl) (fun _ _ => trivial), h4.trans ⟨rfl, rfl, rfl, by simp, fun q hq => World.putObj_heap_other (by omega)⟩⟩
  case stop =>
    rintro D c R k C rfl hR hk h hK
    exact h.elim
set_option maxHeartbeats 4000000 in
set_option maxRecDepth 100000 in
theorem collected_F (lb : Array Value) (xs : List Int) (N0 : Nat) (w0 w : World) (hseq : ∀ n, SeqX Fence.wide n Try.prog 77 lb (Value.int .i64) xs N0 w0) (hN0 : N0 ≤ w0.heap.size) (hb0 : Below w0.heap.size w0 w) (hxl : xs.length ≤ 1000000) :
    Calls Try.prog 41 #[.func (.func 77) #[] lb] w fun e w' => ∃ v, e = .returned v ∧ Kd.R (Kd.int .i64) 3 w' w.heap.size (fun _ => True) v xs ∧ Below w.heap.size w w' := by
  refine (callsIn_wide (n := 9)).1 ?_
  refine callsIn_of_wp_marks Try.func41 rfl trivial ?_ rfl
  simp only [Try.ntmps41, List.size_toArray, List.length_cons, List.length_nil, Nat.reduceAdd, Nat.reduceSub, Array.replicate_succ, Array.replicate_zero, List.push_toArray, List.append_toArray, List.nil_append, List.cons_append]
  have hs0 := hb0.size
  have qn : ∀ (f : FuncId) (bs : Array Value) (W : World), (binOp .eql 75 (.func (.func f) #[] bs) .nilFunc).run Try.prog W = .ok (.bool false) W := fun _ _ _ => by kernel_rfl
  gi_wp2
  obtain ⟨Wb, hWb⟩ : ∃ Wb, Wb = w.alloc (.cells #[.slice none 0 0] 70) := ⟨_, rfl⟩
  have hbx : Boxed Wb w.heap.size 70 (.slice none 0 0) := by rw [hWb]; exact Boxed.new _ _ _
  have hbb : Below w.heap.size w Wb := by rw [hWb]; exact below_alloc (Below.refl _ _) _
  have hsb : Wb.heap.size = w.heap.size + 1 := by rw [hWb]; simp
  obtain ⟨i0, hi, hz0, hz1, hz2⟩ := info_parts infoI64
  rw [← hWb]
  clear hWb
  refine wpIn_rangeX rfl (fun h => by simp [Fence.wide] at h) (gf := 77) (lb := lb) rfl trivial (enters_of Try.func77 (by kernel_rfl) rfl) (hseq (9 - 1)) (by omega) ((hb0.mono hN0).trans (hbb.mono (by omega))) rfl
    (fun R k X => ∃ v, Boxed X w.heap.size 70 v ∧ X.ownsRow w.heap.size 3 1 v k ((xs.take k).map (Value.int .i64)) ∧ (∀ q, v.ownBlock = some q → R q) ∧ Below w.heap.size w X ∧ k ≤ xs.length)
    (fun _ _ _ _ => False)
    ?s1 (fun _ _ _ _ _ h _ => h) ⟨_, hbx, World.ownsRow_nil _ _ _ _, fun q hq => by simp [Value.ownBlock] at hq, hbb, Nat.zero_le _⟩
    (fun x => { tmps := #[.func (.func 77) #[] lb, undef, .slice none 0 0, .pointer (some ⟨w.heap.size, 0, none⟩), .int .i64 x, .func (.func 77) #[] lb, .bool false, .func (.func 77) #[] lb, .int .i64 x, undef, undef, undef, undef, undef], defers := [] })
    ?assign ?body ?done ?stop
  case s1 =>
    rintro R k X C ⟨v, h1, h2, h3, h4, h5⟩ hu
    exact ⟨v, (hu.block _ h1.lt (.inl (by omega))).trans h1, row_own h2 h3 hu, h3, h4.trans (hu.below (by omega) h4.size), h5⟩
  case assign =>
    intro l2 x X K hK
    gi_wp2
    exact hK
  case body =>
    rintro l2 R k x A hx ⟨v, h1, h2, h3, h4, h5⟩ hR hA
    have hkx := (List.getElem?_eq_some_iff.1 hx).1
    have HT := Aside0.mk (show (xs.take (k + 1)).map (Value.int .i64) = (xs.take k).map (Value.int .i64) ++ [.int .i64 x] by rw [take_get hx, List.map_append]; rfl)
    have cO := h1.cell
    have fO := h1.frozen
    have hsW := h4.size
    have HROW := Aside0.mk h2
    have HBX := Aside0.mk h1
    clear h2 h1 hx
    gi_wp2_with (gi_at_builtin; refine wpListIn_append_own_at _ rfl _ _ 70 rfl w.heap.size 3 i0 (.int .i64 0) 1 8 Try.underlying70 hi hz0 hz1 hz2 rfl (by decide) _ _ _ rfl (HROW.out.alloc _) ⟨A.heap.size, 0, none⟩ 1 1 [.int .i64 x] rfl rfl (cells_one _ _ _) (by simp [Value.oneCell']) (by unfold maxLen; omega) (by omega) (by simp; omega) ?_; intro v' w2 hown' hgrow _ hat; obtain ⟨g', cap', rfl⟩ := ownsRow_succ hown'; obtain ⟨hv1, hv2, hr2, hk2, hb2⟩ := HBX.out.appended (by decide) HROW.out hsW (Nat.le_refl _) hown' hgrow; have HV2 := Aside0.mk hv2; have HR2 := Aside0.mk hr2; have HB2 := Aside0.mk hb2; have HG := Aside0.mk hgrow; have HAT := Aside0.mk hat; have hc1 := hv1.cell; have hf1 := hv1.frozen; clear hv1 hv2 hr2 hk2 hb2 hgrow hat hown')
    have hne : ∀ q, q < A.heap.size → ¬ R q → some q ≠ v.ownBlock := fun q _ hn e => hn (h3 q e.symm)
    have hlt' := HR2.out.lt g' rfl
    refine ⟨fun q => R q ∨ (A.heap.size ≤ q ∧ q < (w2.setCell ⟨w.heap.size, 0, none⟩ (.slice (some ⟨g', 0, none⟩) (k + 1) cap')).heap.size), ⟨HB2.out.mono (by omega), fun q hq hb hr => ?_, fun q hq => .inl hq, fun q hq => hq.imp id (fun h => h.1)⟩, _, HV2.out, by rw [HT.out]; exact HR2.out, fun q hq => ?_, h4.trans HB2.out, by omega⟩
    · refine (Below.heap_setCell w2 ⟨w.heap.size, 0, none⟩ _ q (by show q ≠ w.heap.size; omega)).trans ((HG.out.block q (by rw [World.size_alloc]; omega) (hne q hq hr)).trans (Below.heap_alloc A _ q hq))
    · have hqg : q = g' := by simp [Value.ownBlock] at hq; exact hq.symm
      subst hqg
      rcases HAT.out with e | e
      · exact .inl (h3 q ((show _ = v.ownBlock from e).symm.trans rfl))
      · refine .inr ⟨?_, hlt'.2⟩
        have : q = (A.alloc (.cells #[.int .i64 x] 3)).heap.size := by simpa [Value.ownBlock] using e
        rw [World.size_alloc] at this
        omega
  case done =>
    rintro D R C rfl hR ⟨v, h1, h2, h3, h4, h5⟩ hK
    have hc := h1.cell
    gi_wp2
    refine ⟨by simp, .inl ⟨_, _, rfl, run_takeDeferred hK, ?_⟩⟩
    rw [List.take_length] at h2
    exact ⟨_, results_tmp rfl _ _ _, v, rfl, Kd.R_of_own (ownsRow_putObj h2 _ hK rfl) (fun _ _ => trivial), h4.trans ⟨rfl, rfl, rfl, by simp, fun q hq => World.putObj_heap_other (by omega)⟩⟩
  case stop =>
    rintro D c R k C rfl hR hk h hK
    exact h.elim
set_option maxHeartbeats 4000000 in
set_option maxRecDepth 100000 in
theorem collected_S (lb : Array Value) (xs : List Int) (N0 : Nat) (w0 w : World) (hseq : ∀ n, SeqX Fence.wide n Try.prog 78 lb (Value.int .i64) xs N0 w0) (hN0 : N0 ≤ w0.heap.size) (hb0 : Below w0.heap.size w0 w) (hxl : xs.length ≤ 1000000) :
    Calls Try.prog 41 #[.func (.func 78) #[] lb] w fun e w' => ∃ v, e = .returned v ∧ Kd.R (Kd.int .i64) 3 w' w.heap.size (fun _ => True) v xs ∧ Below w.heap.size w w' := by
  refine (callsIn_wide (n := 9)).1 ?_
  refine callsIn_of_wp_marks Try.func41 rfl trivial ?_ rfl
  simp only [Try.ntmps41, List.size_toArray, List.length_cons, List.length_nil, Nat.reduceAdd, Nat.reduceSub, Array.replicate_succ, Array.replicate_zero, List.push_toArray, List.append_toArray, List.nil_append, List.cons_append]
  have hs0 := hb0.size
  have qn : ∀ (f : FuncId) (bs : Array Value) (W : World), (binOp .eql 75 (.func (.func f) #[] bs) .nilFunc).run Try.prog W = .ok (.bool false) W := fun _ _ _ => by kernel_rfl
  gi_wp2
  obtain ⟨Wb, hWb⟩ : ∃ Wb, Wb = w.alloc (.cells #[.slice none 0 0] 70) := ⟨_, rfl⟩
  have hbx : Boxed Wb w.heap.size 70 (.slice none 0 0) := by rw [hWb]; exact Boxed.new _ _ _
  have hbb : Below w.heap.size w Wb := by rw [hWb]; exact below_alloc (Below.refl _ _) _
  have hsb : Wb.heap.size = w.heap.size + 1 := by rw [hWb]; simp
  obtain ⟨i0, hi, hz0, hz1, hz2⟩ := info_parts infoI64
  rw [← hWb]
  clear hWb
  refine wpIn_rangeX rfl (fun h => by simp [Fence.wide] at h) (gf := 78) (lb := lb) rfl trivial (enters_of Try.func78 (by kernel_rfl) rfl) (hseq (9 - 1)) (by omega) ((hb0.mono hN0).trans (hbb.mono (by omega))) rfl
    (fun R k X => ∃ v, Boxed X w.heap.size 70 v ∧ X.ownsRow w.heap.size 3 1 v k ((xs.take k).map (Value.int .i64)) ∧ (∀ q, v.ownBlock = some q → R q) ∧ Below w.heap.size w X ∧ k ≤ xs.length)
    (fun _ _ _ _ => False)
    ?s1 (fun _ _ _ _ _ h _ => h) ⟨_, hbx, World.ownsRow_nil _ _ _ _, fun q hq => by simp [Value.ownBlock] at hq, hbb, Nat.zero_le _⟩
    (fun x => { tmps := #[.func (.func 78) #[] lb, undef, .slice none 0 0, .pointer (some ⟨w.heap.size, 0, none⟩), .int .i64 x, .func (.func 78) #[] lb, .bool false, .func (.func 78) #[] lb, .int .i64 x, undef, undef, undef, undef, undef], defers := [] })
    ?assign ?body ?done ?stop
  case s1 =>
    rintro R k X C ⟨v, h1, h2, h3, h4, h5⟩ hu
    exact ⟨v, (hu.block _ h1.lt (.inl (by omega))).trans h1, row_own h2 h3 hu, h3, h4.trans (hu.below (by omega) h4.size), h5⟩
  case assign =>
    intro l2 x X K hK
    gi_wp2
    exact hK
  case body =>
    rintro l2 R k x A hx ⟨v, h1, h2, h3, h4, h5⟩ hR hA
    have hkx := (List.getElem?_eq_some_iff.1 hx).1
    have HT := Aside0.mk (show (xs.take (k + 1)).map (Value.int .i64) = (xs.take k).map (Value.int .i64) ++ [.int .i64 x] by rw [take_get hx, List.map_append]; rfl)
    have cO := h1.cell
    have fO := h1.frozen
    have hsW := h4.size
    have HROW := Aside0.mk h2
    have HBX := Aside0.mk h1
    clear h2 h1 hx
    gi_wp2_with (gi_at_builtin; refine wpListIn_append_own_at _ rfl _ _ 70 rfl w.heap.size 3 i0 (.int .i64 0) 1 8 Try.underlying70 hi hz0 hz1 hz2 rfl (by decide) _ _ _ rfl (HROW.out.alloc _) ⟨A.heap.size, 0, none⟩ 1 1 [.int .i64 x] rfl rfl (cells_one _ _ _) (by simp [Value.oneCell']) (by unfold maxLen; omega) (by omega) (by simp; omega) ?_; intro v' w2 hown' hgrow _ hat; obtain ⟨g', cap', rfl⟩ := ownsRow_succ hown'; obtain ⟨hv1, hv2, hr2, hk2, hb2⟩ := HBX.out.appended (by decide) HROW.out hsW (Nat.le_refl _) hown' hgrow; have HV2 := Aside0.mk hv2; have HR2 := Aside0.mk hr2; have HB2 := Aside0.mk hb2; have HG := Aside0.mk hgrow; have HAT := Aside0.mk hat; have hc1 := hv1.cell; have hf1 := hv1.frozen; clear hv1 hv2 hr2 hk2 hb2 hgrow hat hown')
    have hne : ∀ q, q < A.heap.size → ¬ R q → some q ≠ v.ownBlock := fun q _ hn e => hn (h3 q e.symm)
    have hlt' := HR2.out.lt g' rfl
    refine ⟨fun q => R q ∨ (A.heap.size ≤ q ∧ q < (w2.setCell ⟨w.heap.size, 0, none⟩ (.slice (some ⟨g', 0, none⟩) (k + 1) cap')).heap.size), ⟨HB2.out.mono (by omega), fun q hq hb hr => ?_, fun q hq => .inl hq, fun q hq => hq.imp id (fun h => h.1)⟩, _, HV2.out, by rw [HT.out]; exact HR2.out, fun q hq => ?_, h4.trans HB2.out, by omega⟩
    · refine (Below.heap_setCell w2 ⟨w.heap.size, 0, none⟩ _ q (by show q ≠ w.heap.size; omega)).trans ((HG.out.block q (by rw [World.size_alloc]; omega) (hne q hq hr)).trans (Below.heap_alloc A _ q hq))
    · have hqg : q = g' := by simp [Value.ownBlock] at hq; exact hq.symm
      subst hqg
      rcases HAT.out with e | e
      · exact .inl (h3 q ((show _ = v.ownBlock from e).symm.trans rfl))
      · refine .inr ⟨?_, hlt'.2⟩
        have : q = (A.alloc (.cells #[.int .i64 x] 3)).heap.size := by simpa [Value.ownBlock] using e
        rw [World.size_alloc] at this
        omega
  case done =>
    rintro D R C rfl hR ⟨v, h1, h2, h3, h4, h5⟩ hK
    have hc := h1.cell
    gi_wp2
    refine ⟨by simp, .inl ⟨_, _, rfl, run_takeDeferred hK, ?_⟩⟩
    rw [List.take_length] at h2
    exact ⟨_, results_tmp rfl _ _ _, v, rfl, Kd.R_of_own (ownsRow_putObj h2 _ hK rfl) (fun _ _ => trivial), h4.trans ⟨rfl, rfl, rfl, by simp, fun q hq => World.putObj_heap_other (by omega)⟩⟩
  case stop =>
    rintro D c R k C rfl hR hk h hK
    exact h.elim
end Go.Proofs.Ytldiginkmmlojaa
