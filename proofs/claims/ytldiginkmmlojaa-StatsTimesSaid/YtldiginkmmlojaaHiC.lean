/- A map's keys, collected and sorted. -/
import Derived.Test.YtldiginkmmlojaaHiB
import Derived.Test.YtldiginkmmlojaaSoM
import Derived.OwnWalkIn
import Derived.Maps.OwnIn
namespace Go.Proofs.Ytldiginkmmlojaa
set_option linter.unusedVariables false
set_option linter.unusedSimpArgs false
open Go.RowKit Go.Proofs.YtldiginkmmlojaaW.PrintWords
attribute [local go_sem] Oper.semAt_some

theorem row_own9 {A C : World} {base e k : Nat} {v : Value} {ys : List Value} {R : Nat → Prop} {B : Nat} (h : A.ownsRow base e 1 v k ys) (hR : ∀ q, v.ownBlock = some q → R q) (hu : Unt B R A C) : C.ownsRow base e 1 v k ys := by
  refine ⟨h.1, h.2.imp id ?_⟩
  rintro ⟨g, cap, cur, e1, hb, hh, h9⟩
  exact ⟨g, cap, cur, e1, hb, (hu.block g (blk_lt hh) (.inr (hR g (by rw [e1]; rfl)))).trans hh, h9⟩
set_option maxHeartbeats 4000000 in
set_option maxRecDepth 100000 in
theorem appseq_any (lb : Array Value) (ks : List Int) (bd N0 : Nat) (w0 w : World) (hseq : ∀ n, SeqD Fence.wide n Try.prog 91 lb (Value.int .u64) ks bd N0 w0) (hN0 : N0 ≤ w0.heap.size) (hb0 : Below w0.heap.size w0 w) (hbd : bd ≤ 1000) :
    Calls Try.prog 95 #[.slice none 0 0, .func (.func 91) #[] lb] w fun e w' => ∃ v ss, e = .returned v ∧ ss.Perm ks ∧ Kd.R (Kd.int .u64) 37 w' w.heap.size (fun _ => True) v ss ∧ Below w.heap.size w w' := by
  refine (callsIn_wide (n := 9)).1 ?_
  refine callsIn_of_wp_marks Try.func95 rfl trivial ?_ rfl
  simp only [Try.ntmps95, List.size_toArray, List.length_cons, List.length_nil, Nat.reduceAdd, Nat.reduceSub, Array.replicate_succ, Array.replicate_zero, List.push_toArray, List.append_toArray, List.nil_append, List.cons_append]
  have hs0 := hb0.size
  gi_wp2
  obtain ⟨Wb, hWb⟩ : ∃ Wb, Wb = w.alloc (.cells #[.slice none 0 0] 34) := ⟨_, rfl⟩
  have hbx : Boxed Wb w.heap.size 34 (.slice none 0 0) := by rw [hWb]; exact Boxed.new _ _ _
  have hbb : Below w.heap.size w Wb := by rw [hWb]; exact below_alloc (Below.refl _ _) _
  have hsb : Wb.heap.size = w.heap.size + 1 := by rw [hWb]; simp
  obtain ⟨i0, hi, hz0, hz1, hz2⟩ := info_parts infoU64
  rw [← hWb]
  clear hWb
  refine wpIn_rangeD rfl (fun h => by simp [Fence.wide] at h) (gf := 91) (lb := lb) rfl trivial (enters_of Try.func91 (by kernel_rfl) rfl) (hseq (9 - 1)) (by omega) ((hb0.mono hN0).trans (hbb.mono (by omega))) rfl
    (fun R pre X => ∃ v, Boxed X w.heap.size 34 v ∧ X.ownsRow w.heap.size 37 1 v pre.length (pre.map (Value.int .u64)) ∧ (∀ q, v.ownBlock = some q → R q) ∧ Below w.heap.size w X)
    ?s1 ⟨_, hbx, World.ownsRow_nil _ _ _ _, fun q hq => by simp [Value.ownBlock] at hq, hbb⟩
    (fun x => { tmps := #[.slice none 0 0, .func (.func 91) #[] lb, .pointer (some ⟨w.heap.size, 0, none⟩), undef, .slice none 0 0, .int .u64 x, .func (.func 91) #[] lb, .int .u64 x, undef, undef, undef, undef, undef], defers := [] })
    ?assign ?body ?done
  case s1 =>
    rintro R k X C ⟨v, h1, h2, h3, h4⟩ hu
    exact ⟨v, (hu.block _ h1.lt (.inl (by omega))).trans h1, row_own9 h2 h3 hu, h3, h4.trans (hu.below (by omega) h4.size)⟩
  case assign =>
    intro l2 x X K hK
    gi_wp2
    exact hK
  case body =>
    rintro l2 R pre x A hx hpl ⟨v, h1, h2, h3, h4⟩ hR hA
    have cO := h1.cell
    have fO := h1.frozen
    have hsW := h4.size
    have HROW := Aside0.mk h2
    have HBX := Aside0.mk h1
    clear h2 h1 hx
    gi_wp2_with (gi_at_builtin; refine wpListIn_append_own_at _ rfl _ _ 34 rfl w.heap.size 37 i0 (.int .u64 0) 1 8 Try.underlying34 hi hz0 hz1 hz2 rfl (by decide) _ _ _ rfl (HROW.out.alloc _) ⟨A.heap.size, 0, none⟩ 1 1 [.int .u64 x] rfl rfl (cells_new A [.int .u64 x] 37) (by simp [Value.oneCell']) (by unfold maxLen; omega) (by omega) (by simp; omega) ?_; intro v' w2 hown' hgrow _ hat; obtain ⟨g', cap', rfl⟩ := ownsRow_succ hown'; obtain ⟨hv1, hv2, hr2, hk2, hb2⟩ := HBX.out.appended (by decide) HROW.out hsW (Nat.le_refl _) hown' hgrow; have HV2 := Aside0.mk hv2; have HR2 := Aside0.mk hr2; have HB2 := Aside0.mk hb2; have HG := Aside0.mk hgrow; have HAT := Aside0.mk hat; have hc1 := hv1.cell; have hf1 := hv1.frozen; clear hv1 hv2 hr2 hk2 hb2 hgrow hat hown')
    have hne : ∀ q, q < A.heap.size → ¬ R q → some q ≠ v.ownBlock := fun q _ hn e => hn (h3 q e.symm)
    have hlt' := HR2.out.lt g' rfl
    have hmap : (pre ++ [x]).map (Value.int .u64) = pre.map (Value.int .u64) ++ [.int .u64 x] := by simp
    refine ⟨fun q => R q ∨ (A.heap.size ≤ q ∧ q < (w2.setCell ⟨w.heap.size, 0, none⟩ (.slice (some ⟨g', 0, none⟩) (pre.length + 1) cap')).heap.size), ⟨HB2.out.mono (by omega), fun q hq hb hr => ?_, fun q hq => .inl hq, fun q hq => hq.imp id (fun h => h.1)⟩, _, HV2.out, by rw [hmap, List.length_append]; exact HR2.out, fun q hq => ?_, h4.trans HB2.out⟩
    · refine (Below.heap_setCell w2 ⟨w.heap.size, 0, none⟩ _ q (by show q ≠ w.heap.size; omega)).trans ((HG.out.block q (by rw [World.size_alloc]; omega) (hne q hq hr)).trans (Below.heap_alloc A _ q hq))
    · have hqg : q = g' := by simp [Value.ownBlock] at hq; exact hq.symm
      subst hqg
      rcases HAT.out with e | e
      · exact .inl (h3 q ((show _ = v.ownBlock from e).symm.trans rfl))
      · refine .inr ⟨?_, hlt'.2⟩
        have : q = (A.alloc (.cells #[.int .u64 x] 37)).heap.size := by simpa [Value.ownBlock] using e
        rw [World.size_alloc] at this
        omega
  case done =>
    rintro D R ss C rfl hR hss ⟨v, h1, h2, h3, h4⟩ hK
    have hc := h1.cell
    gi_wp2
    refine ⟨by simp, .inl ⟨_, _, rfl, run_takeDeferred hK, ?_⟩⟩
    exact ⟨_, results_tmp rfl _ _ _, v, ss, rfl, hss, Kd.R_of_own (ownsRow_putObj h2 _ hK rfl) (fun _ _ => trivial), h4.trans ⟨rfl, rfl, rfl, by simp, fun q hq => World.putObj_heap_other (by omega)⟩⟩
theorem collect64_any (lb : Array Value) (ks : List Int) (bd N0 : Nat) (w0 w : World) (hseq : ∀ n, SeqD Fence.wide n Try.prog 91 lb (Value.int .u64) ks bd N0 w0) (hN0 : N0 ≤ w0.heap.size) (hb0 : Below w0.heap.size w0 w) (hbd : bd ≤ 1000) :
    Calls Try.prog 89 #[.func (.func 91) #[] lb] w fun e w' => ∃ v ss, e = .returned v ∧ ss.Perm ks ∧ Kd.R (Kd.int .u64) 37 w' w.heap.size (fun _ => True) v ss ∧ Below w.heap.size w w' := by
  have H := Aside0.mk (appseq_any lb ks bd N0 w0 w hseq hN0 hb0 hbd)
  clear hseq hN0 hb0
  go_enter Try.func89, Try.ntmps89
  go_wp2_with (go_at_call 95; refine H.out.mono ?_; rintro e w1 ⟨v, ss, rfl, hp, hr, hb⟩; have HP := Aside0.mk hp; have HR := Aside0.mk hr; have HB := Aside0.mk hb; clear hp hr hb)
  go_ret
  exact ⟨_, ss, rfl, HP.out, HR.out, HB.out⟩
theorem sorted64_perm {ss ks : List Int} (h : ss.Perm ks) : sorted64 ss = sorted64 ks := by
  have tr : ∀ a b c : Int, (fun x y : Int => decide (x ≤ y)) a b = true → (fun x y : Int => decide (x ≤ y)) b c = true → (fun x y : Int => decide (x ≤ y)) a c = true := fun a b c h1 h2 => by simp only [decide_eq_true_eq] at *; omega
  have tt : ∀ a b : Int, ((fun x y : Int => decide (x ≤ y)) a b || (fun x y : Int => decide (x ≤ y)) b a) = true := fun a b => by simp only [Bool.or_eq_true, decide_eq_true_eq]; omega
  unfold sorted64
  refine List.Perm.eq_of_pairwise (le := fun a b => (fun x y : Int => decide (x ≤ y)) a b = true) (fun a b _ _ h1 h2 => ?_) (List.pairwise_mergeSort tr tt ss) (List.pairwise_mergeSort tr tt ks) (((List.mergeSort_perm ss _).trans h).trans (List.mergeSort_perm ks _).symm)
  simp only [decide_eq_true_eq] at h1 h2
  omega
set_option maxRecDepth 100000 in
set_option maxHeartbeats 4000000 in
theorem ins0_any (A : Option Addr) (c : Nat) (w : World) : Calls Try.prog 100 #[.slice A 0 c, .int .i64 0, .int .i64 0] w fun e w' => e = .returned (.tuple #[]) ∧ w' = w := by
  go_enter Try.func100, Try.ntmps100
  go_wp2_with fail
  go_loopg [6] 1 (fun q v6 wr => v6 = .int .i64 1 ∧ Aside0 (q = 1) ∧ wr = w)
  case atStart => exact ⟨by go_num, ⟨rfl⟩, rfl⟩
  case round =>
    obtain ⟨rfl, _, rfl⟩ := hrel
    go_wp2_with fail
    first | go_end0 | ((try simp only [Exit.inBlock, Exit.then]); refine bodyPost_ret (results_none rfl _ _ _) rfl ?_)
    exact ⟨rfl, rfl⟩
set_option maxRecDepth 100000 in
set_option maxHeartbeats 4000000 in
theorem pdq0_any (A : Option Addr) (c k : Nat) (w : World) : Calls Try.prog 96 #[.slice A 0 c, .int .i64 0, .int .i64 0, .int .i64 (k : Int)] w fun e w' => e = .returned (.tuple #[]) ∧ w' = w := by
  go_enter Try.func96, Try.ntmps96
  go_wp2_with fail
  go_loopg [1, 2, 3, 8, 9] 1 (fun q v1 v2 v3 v8 v9 wr => v1 = .int .i64 0 ∧ v2 = .int .i64 0 ∧ v3 = .int .i64 (k : Int) ∧ v8 = .bool true ∧ v9 = .bool true ∧ Aside0 (q = 1) ∧ wr = w)
  case atStart => exact ⟨rfl, rfl, rfl, rfl, rfl, ⟨rfl⟩, rfl⟩
  case round =>
    obtain ⟨rfl, rfl, rfl, rfl, rfl, _, rfl⟩ := hrel
    go_wp2_with (go_at_call 100; refine (ins0_any A c _).mono ?_; rintro e w1 ⟨rfl, rfl⟩)
    first | go_end0 | ((try simp only [Exit.inBlock, Exit.then]); refine bodyPost_ret (results_none rfl _ _ _) rfl ?_)
    exact ⟨rfl, rfl⟩
set_option maxRecDepth 100000 in
theorem sort0_any (A : Option Addr) (c : Nat) (w : World) : Calls Try.prog 90 #[.slice A 0 c] w fun e w' => e = .returned (.tuple #[]) ∧ w' = w := by
  have HL := Aside0.mk (show ∀ W, Calls Try.prog 97 #[.int .u64 0] W fun e w' => e = .returned (.int .i64 0) ∧ w' = W from fun W => len_any 0 W (by omega) (by omega))
  go_enter Try.func90, Try.ntmps90
  go_wp2_with (first
    | (go_at_call 97; refine (HL.out _).mono ?_; rintro e w' ⟨rfl, rfl⟩)
    | (go_at_call 96; refine (pdq0_any A c 0 _).mono ?_; rintro e w1 ⟨rfl, rfl⟩))
  first | go_end0 | ((try simp only [Exit.inBlock, Exit.then]); refine bodyPost_ret (results_none rfl _ _ _) rfl ?_)
  exact ⟨rfl, rfl⟩
set_option maxHeartbeats 400000 in
set_option maxRecDepth 100000 in
theorem sortedK_any (bm m nn : Nat) (f : Lit → Option Value) (ks : List Int) (w : World) (hbm : w.cell? ⟨bm, 0, none⟩ = some (.map (some m))) (hM : MV w Try.prog 37 m nn f) (hk : ks.Nodup) (hks : ∀ x, x ∈ ks ↔ (f (.int .u64 x)).isSome = true) (hnn : nn ≤ 49) (hkn : ks.length ≤ 49) :
    Calls Try.prog 79 #[.func (.func 91) #[] #[.pointer (some ⟨bm, 0, none⟩)]] w fun e w' => ∃ A c, e = .returned (.slice A ks.length c) ∧ Kd.R (Kd.int .u64) 37 w' w.heap.size (fun _ => True) (.slice A ks.length c) (sorted64 ks) ∧ Below w.heap.size w w' := by
  have H := Aside0.mk (collect64_any #[.pointer (some ⟨bm, 0, none⟩)] ks nn w.heap.size w w (fun n => keys64_seq n bm m nn f ks w hbm hM hk hks) (Nat.le_refl _) (Below.refl _ _) (by omega))
  clear hbm hM hk hks
  go_enter Try.func79, Try.ntmps79
  go_upto_region 2 with (go_at_call 89; refine H.out.mono ?_; rintro e w1 ⟨v, ss, rfl, hp, hr, hb⟩; obtain ⟨A, c, rfl⟩ := Kd.R_slice hr; have HSL := Aside0.mk hp.length_eq; have HS := Aside0.mk (sorted64_perm hp); have HR := Aside0.mk hr; have HB := Aside0.mk hb; clear hp hr hb)
  by_cases h0 : ss.length = 0
  · obtain rfl := List.eq_nil_of_length_eq_zero h0
    have hk0 : ks = [] := List.eq_nil_of_length_eq_zero (by rw [← HSL.out]; rfl)
    subst hk0
    have HR2 := Aside0.mk (show Kd.R (Kd.int .u64) 37 w1 w.heap.size (fun _ => True) (.slice A 0 c) [] from HR.out)
    clear HSL HR HS H h0
    go_wp2_with (go_at_call 90; refine (sort0_any A c _).mono ?_; rintro e w2 ⟨rfl, rfl⟩)
    go_ret
    exact ⟨A, c, rfl, by unfold sorted64; simpa using HR2.out, HB.out⟩
  · obtain ⟨g, hge⟩ : ∃ g, A = some ⟨g, 0, none⟩ := by
      obtain ⟨g, cap, e, _⟩ := Kd.R_form HR.out (by omega)
      injection e with e _ _
      exact ⟨g, e⟩
    subst hge
    have hst := sort64_any w.heap.size g ss.length c ss w1 HR.out
    have HST := Aside0.mk (hst (by rw [HSL.out]; exact hkn))
    clear hst
    go_wp2_with (go_at_call 90; refine HST.out.mono ?_; rintro e w2 ⟨rfl, hr, hb⟩; rw [HS.out] at hr; have HR2 := Aside0.mk hr; have HB2 := Aside0.mk (HB.out.trans hb); clear hr hb)
    go_ret
    exact ⟨some ⟨g, 0, none⟩, c, by rw [← HSL.out]; rfl, by rw [← HSL.out]; exact HR2.out, HB2.out⟩
end Go.Proofs.Ytldiginkmmlojaa
