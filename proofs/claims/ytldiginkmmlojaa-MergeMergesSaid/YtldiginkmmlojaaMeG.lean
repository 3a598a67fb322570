/- Merging: the first ones of others. -/
import Derived.Test.YtldiginkmmlojaaMeF
namespace Go.Proofs.Ytldiginkmmlojaa
set_option linter.unusedVariables false
set_option linter.unusedSimpArgs false
open Go.RowKit Go.Proofs.YtldiginkmmlojaaW.PrintWords
attribute [local go_sem] Oper.semAt_some

theorem FrX.setCell {N0 B : Nat} {R : Nat → Prop} {A : World} {p : Addr} (h0 : N0 ≤ p.block) (hr : p.block < B) (u : Value) : FrX N0 B R R A (A.setCell p u) :=
  ⟨(Below.refl N0 A).setCell h0 u, fun q hq hb _ => Below.heap_setCell A p u q (by omega), fun _ h => h, fun _ h => .inl h⟩
set_option maxHeartbeats 4000000 in
set_option maxRecDepth 100000 in
theorem some_seq (n bn bs b1 b2 : Nat) (m : Int) (xs : List Int) (N0 : Nat) (w0 w1 : World) (hseq : ∀ n, SeqX Fence.wide n Try.prog 77 #[.pointer (some ⟨b1, 0, none⟩), .pointer (some ⟨b2, 0, none⟩)] (Value.int .i64) xs N0 w0) (hN0 : N0 ≤ w0.heap.size) (hb01 : Below w0.heap.size w0 w1) (hxl : xs.length ≤ 1000000)
    (hbs : w1.cell? ⟨bs, 0, none⟩ = some (.func (.func 77) #[] #[.pointer (some ⟨b1, 0, none⟩), .pointer (some ⟨b2, 0, none⟩)])) (hbn : w1.cell? ⟨bn, 0, none⟩ = some (.int .i64 m)) :
    SeqX Fence.wide n Try.prog 78 #[.pointer (some ⟨bn, 0, none⟩), .pointer (some ⟨bs, 0, none⟩)] (Value.int .i64) (xs.take m.toNat) w1.heap.size w1 := by
  intro l J Jx W hW hN hJ hJx hY h0
  obtain ⟨T, hT⟩ : ∃ T, T = xs.take m.toNat := ⟨_, rfl⟩
  rw [← hT] at hY ⊢
  have HTT := Aside0.mk hT
  have HTL := Aside0.mk (show T.length = min m.toNat xs.length by rw [hT, List.length_take])
  clear hT
  refine callsIn_of_wp_marks Try.func78 rfl trivial ?_ rfl
  simp only [Try.ntmps78, List.size_toArray, List.length_cons, List.length_nil, Nat.reduceAdd, Nat.reduceSub, Array.replicate_succ, Array.replicate_zero, List.push_toArray, List.append_toArray, List.nil_append, List.cons_append]
  have HY := Aside0.mk hY
  have H0 := Aside0.mk h0
  clear hY h0
  obtain ⟨Wb, hWb⟩ : ∃ Wb, Wb = (W.alloc (.cells #[.func (.yield l) #[] #[]] 61)).alloc (.cells #[.int .i64 0] 3) := ⟨_, rfl⟩
  have hyb : Wb.heap[W.heap.size]? = some (.cells #[.func (.yield l) #[] #[]] 61 (0, 0)) := by rw [hWb]; exact blk_alloc (blk_new _ _) _
  have hkb : Wb.heap[W.heap.size + 1]? = some (.cells #[.int .i64 ((0 : Nat) : Int)] 3 (0, 0)) := by
    have := blk_new (W.alloc (.cells #[.func (.yield l) #[] #[]] 61)) (.cells #[.int .i64 0] 3)
    rw [World.size_alloc] at this
    rw [hWb]
    exact this
  have hbb : Below W.heap.size W Wb := by rw [hWb]; exact (below_alloc (Below.refl _ _) _).alloc (by simp) _
  have hsb : Wb.heap.size = W.heap.size + 2 := by rw [hWb]; simp
  have hbw1 : Below w1.heap.size w1 Wb := hW.trans (hbb.mono hN)
  have c1 := pw_cell_below hbw1 hbn
  have c2 := pw_cell_below hbw1 hbs
  have HJ0 := Aside0.mk (hJ _ _ _ _ H0.out (Unt.of_below hbb))
  by_cases hm : m < 1
  · have d1 := decide_eq_true hm
    have HT := Aside0.mk (show T.length = 0 by rw [HTL.out, show m.toNat = 0 by omega]; exact Nat.zero_min _)
    rw [hWb] at c1 c2
    gi_wp2
    rw [← hWb]
    exact ⟨_, results_none rfl _ _ _, ⟨_, rfl⟩, fun _ => False, fun q hq => hq.elim, .inl (by rw [HT.out]; exact HJ0.out)⟩
  · have d1 := decide_eq_false hm
    rw [hWb] at c1 c2
    gi_wp2
    rw [← hWb] at c1 c2 ⊢
    clear hWb
    have hs1 := hb01.size
    refine wpIn_rangeX rfl (fun h => by simp [Fence.wide] at h) (gf := 77) (lb := #[.pointer (some ⟨b1, 0, none⟩), .pointer (some ⟨b2, 0, none⟩)]) rfl trivial (enters_of Try.func77 (by kernel_rfl) rfl) (hseq (n - 1)) (by omega) ((hb01.mono hN0).trans (hbw1.mono (by omega))) rfl
      (fun R k X => J R k X ∧ (k : Int) < m ∧ Below w1.heap.size w1 X ∧ X.heap[W.heap.size]? = some (.cells #[.func (.yield l) #[] #[]] 61 (0, 0)) ∧ X.heap[W.heap.size + 1]? = some (.cells #[.int .i64 (k : Int)] 3 (0, 0)))
      (fun c R k X => c = .ret ∧ (J R T.length X ∨ ∃ k, k ≤ T.length ∧ Jx R k X) ∧ ∀ q, R q → W.heap.size ≤ q)
      ?s1 ?s2 ⟨HJ0.out, by omega, hbw1, hyb, hkb⟩
      (fun x => { tmps := #[.func (.yield l) #[] #[], .pointer (some ⟨bn, 0, none⟩), .pointer (some ⟨bs, 0, none⟩), .pointer (some ⟨W.heap.size, 0, none⟩), .pointer (some ⟨W.heap.size + 1, 0, none⟩), .int .i64 x, .int .i64 m, .bool false, .func (.func 77) #[] #[.pointer (some ⟨b1, 0, none⟩), .pointer (some ⟨b2, 0, none⟩)], .int .i64 x, undef, undef, undef, undef, undef, undef, undef, undef, undef, undef, undef], defers := [] })
      ?assign ?body ?done ?stop
    case s1 =>
      rintro R k X C ⟨h1, h2, h3, h4, h5⟩ hu
      have hlt := blk_lt h5
      have := h3.size
      exact ⟨hJ _ _ _ _ h1 (hu.mono (by omega)), h2, h3.trans (hu.below (by omega) (by omega)), (hu.block _ (by omega) (.inl (by omega))).trans h4, (hu.block _ (by omega) (.inl (by omega))).trans h5⟩
    case s2 =>
      rintro c R k X C ⟨h0, h1, h3⟩ hu
      exact ⟨h0, h1.imp (fun h => hJ _ _ _ _ h (hu.mono (by omega))) (fun ⟨k', hk', h⟩ => ⟨k', hk', hJx _ _ _ _ h (hu.mono (by omega))⟩), h3⟩
    case assign =>
      intro l2 x X K hK
      gi_wp2
      exact hK
    case body =>
      rintro l2 R k x A hx ⟨h1, h2, h3, h4, h5⟩ hR hA
      have c1 := pw_cell_below h3 hbn
      have c3 := (blk_cell h4 0).trans (rfl : _ = some (Value.func (.yield l) #[] #[]))
      have c4 := (blk_cell h5 0).trans (rfl : _ = some (Value.int .i64 (k : Int)))
      have f4 := blk_frozen h5 0
      have hlt := blk_lt h5
      have hkx := (List.getElem?_eq_some_iff.1 hx).1
      have hnr0 : ¬ R W.heap.size := fun h => by have := hR _ h; omega
      have hnr1 : ¬ R (W.heap.size + 1) := fun h => by have := hR _ h; omega
      have hwf : ∀ f, Fence.wide.fn f := fun _ => trivial
      have hwd : Fence.wide.depth = none := rfl
      have hx2 : T[k]? = some x := by rw [HTT.out, List.getElem?_take_of_lt (by omega)]; exact hx
      have hbn9 : bn ≠ W.heap.size + 1 := fun e => by
        rw [e] at hbn
        have : W.heap.size + 1 < w1.heap.size := by
          rcases Nat.lt_or_ge (W.heap.size + 1) w1.heap.size with h | h
          · exact h
          · simp [World.cell?, Array.getElem?_eq_none h] at hbn
        omega
      obtain ⟨A1, hA1⟩ : ∃ A1, A1 = A.setCell ⟨W.heap.size + 1, 0, none⟩ (.int .i64 ((k : Int) + 1)) := ⟨_, rfl⟩
      have hfA : FrX w1.heap.size Wb.heap.size R R A A1 := by rw [hA1]; exact FrX.setCell (p := ⟨W.heap.size + 1, 0, none⟩) (by show _ ≤ W.heap.size + 1; omega) (by show W.heap.size + 1 < _; omega) _
      have h11 : J R k A1 := by rw [hA1]; exact hJ _ _ _ _ h1 (Unt.setCell (p := ⟨W.heap.size + 1, 0, none⟩) (by show _ ≤ W.heap.size + 1; omega) hnr1 _)
      have h41 : A1.heap[W.heap.size]? = some (.cells #[.func (.yield l) #[] #[]] 61 (0, 0)) := by rw [hA1]; exact blk_far h4 (p := ⟨W.heap.size + 1, 0, none⟩) (by show W.heap.size ≠ W.heap.size + 1; omega) _
      have h51 : A1.heap[W.heap.size + 1]? = some (.cells #[.int .i64 ((k + 1 : Nat) : Int)] 3 (0, 0)) := by rw [hA1]; exact blk_put h5 0 _ rfl
      obtain ⟨fn, tmps, assign, body, hy, hRd⟩ := HY.out R k A1 x hx2 h11 (fun q hq => by have := hR q hq; omega) (by have := hfA.low.size; omega)
      have HRD := Aside0.mk hRd
      have HFA := Aside0.mk hfA
      have H51 := Aside0.mk (And.intro h41 h51)
      have HA1 := Aside0.mk hA1
      have HKT := Aside0.mk (show k + 1 ≤ T.length by rw [HTL.out]; omega)
      rw [hA1] at hy
      clear hRd hfA h41 h51 h11 hA1 hx hx2
      have HBN := Aside0.mk (show ∀ C, Below w1.heap.size w1 C → C.cell? ⟨bn, 0, none⟩ = some (.int .i64 m) from fun C hC => pw_cell_below hC hbn)
      have H3 := Aside0.mk h3
      gi_wp2
      rw [← HA1.out]
      first | refine (roundIn_any HRD.out).mono ?_ | refine ⟨fun h => by simp [Fence.wide] at h, (roundIn_any HRD.out).mono ?_⟩
      rintro e C ⟨R', hf, (⟨rfl, hj⟩ | ⟨rfl, hj⟩)⟩
      · have HFC := Aside0.mk (HFA.out.trans (hf.weaken (Nat.le_refl _) (by omega)))
        have hy0 := (hf.own W.heap.size (blk_lt H51.out.1) (Nat.le_refl _) hnr0).trans H51.out.1
        have hy1 := (hf.own (W.heap.size + 1) (blk_lt H51.out.2) (by omega) hnr1).trans H51.out.2
        have e1 := (blk_cell hy1 0).trans (rfl : _ = some (Value.int .i64 ((k : Int) + 1)))
        have hl1 := H3.out.trans HFC.out.low
        have e2 := HBN.out C hl1
        have HC := Aside0.mk (And.intro hl1 (And.intro hy0 hy1))
        have HJC := Aside0.mk hj
        have HRR := Aside0.mk (show ∀ q, R' q → W.heap.size ≤ q from fun q hq => (HFC.out.new q hq).elim (fun h => by have := hR q h; omega) (fun h => by omega))
        clear hf hj hy hy0 hy1 hl1 c1 c3 c4 f4
        by_cases hge : m ≤ (k : Int) + 1
        · have dg : decide (m ≤ (k : Int) + 1) = true := decide_eq_true hge
          have HTK := Aside0.mk (show k + 1 = T.length by rw [HTL.out]; omega)
          gi_wp2
          exact ⟨R', HFC.out.weaken (by omega) (by omega), rfl, .inl (by rw [← HTK.out]; exact HJC.out), HRR.out⟩
        · have dg : decide (m ≤ (k : Int) + 1) = false := decide_eq_false hge
          gi_wp2
          exact ⟨R', HFC.out.weaken (by omega) (by omega), HJC.out, by omega, HC.out.1, HC.out.2.1, HC.out.2.2⟩
      · have HFC := Aside0.mk (HFA.out.trans (hf.weaken (Nat.le_refl _) (by omega)))
        have HRR := Aside0.mk (show ∀ q, R' q → W.heap.size ≤ q from fun q hq => (HFC.out.new q hq).elim (fun h => by have := hR q h; omega) (fun h => by omega))
        have HJC := Aside0.mk hj
        clear hf hj hy
        gi_wp2
        exact ⟨R', HFC.out.weaken (by omega) (by omega), rfl, .inr ⟨_, HKT.out, HJC.out⟩, HRR.out⟩
    case done =>
      rintro D R C rfl hR ⟨h1, h2, h3, h4, h5⟩ hK
      gi_wp2
      refine ⟨by simp, .inl ⟨_, _, rfl, run_takeDeferred hK, ?_⟩⟩
      exact ⟨_, results_none rfl _ _ _, ⟨_, rfl⟩, R, fun q hq => by have := hR q hq; omega, .inl (by rw [HTL.out, show min m.toNat xs.length = xs.length by omega]; exact hJ _ _ _ _ h1 (Unt.putObj _ (by omega) (fun h => by have := hR _ h; omega)))⟩
    case stop =>
      rintro D c R k C rfl hR hk ⟨rfl, h1, h2⟩ hK
      gi_wp2
      refine ⟨by simp, .inl ⟨_, _, rfl, run_takeDeferred hK, ?_⟩⟩
      exact ⟨_, results_none rfl _ _ _, ⟨_, rfl⟩, R, h2, h1.imp (fun h => hJ _ _ _ _ h (Unt.putObj _ (by omega) (fun h => by have := hR _ h; omega))) (fun ⟨k', hk', h⟩ => ⟨k', hk', hJx _ _ _ _ h (Unt.putObj _ (by omega) (fun h => by have := hR _ h; omega))⟩)⟩
end Go.Proofs.Ytldiginkmmlojaa
