/- Merging: those of others that a question lets through. -/
import Derived.Test.YtldiginkmmlojaaMeE
namespace Go.Proofs.Ytldiginkmmlojaa
set_option linter.unusedVariables false
set_option linter.unusedSimpArgs false
open Go.RowKit Go.Proofs.YtldiginkmmlojaaW.PrintWords
attribute [local go_sem] Oper.semAt_some

theorem roundIn_any {n m l l2 : Nat} {P : Program} {f : FuncId} {tmps : Array Value} {assign body : Code} {w : World} {R : Ending → World → Prop} (h : RoundIn Fence.wide n P l f tmps assign body w R) : RoundIn (Fence.wide.inRound l2) m P l f tmps assign body w R := ⟨trivial, fun c cs _ => h.2 c cs (room_wide _)⟩
theorem callsIn_any {m l2 : Nat} {P : Program} {f : FuncId} {args : Array Value} {w : World} {R : Ending → World → Prop} (h : Calls P f args w R) : CallsIn (Fence.wide.inRound l2) m P f args w R := CallsIn.inRound l2 (callsIn_wide.2 h)
theorem take_get {α : Type} {xs : List α} {k : Nat} {x : α} (h : xs[k]? = some x) : xs.take (k + 1) = xs.take k ++ [x] := by
  rw [List.take_add_one, h]
  rfl
theorem filter_get {α : Type} {p : α → Bool} {xs : List α} {k : Nat} {x : α} (h : xs[k]? = some x) (hp : p x = true) : (xs.filter p)[((xs.take k).filter p).length]? = some x := by
  have e : xs.take k ++ x :: xs.drop (k + 1) = xs := by
    obtain ⟨hk, rfl⟩ := List.getElem?_eq_some_iff.1 h
    rw [← List.drop_eq_getElem_cons hk, List.take_append_drop]
  have e2 : xs.filter p = (xs.take k).filter p ++ x :: (xs.drop (k + 1)).filter p := by
    rw [← List.filter_cons_of_pos hp, ← List.filter_append, e]
  rw [e2, List.getElem?_append_right (Nat.le_refl _), Nat.sub_self]
  rfl
set_option maxHeartbeats 4000000 in
set_option maxRecDepth 100000 in
theorem filter_seq (n bs bp bx : Nat) (lbp : Array Value) (xs : List Int) (p : Int → Bool) (N0 : Nat) (w0 w1 : World) (hseq : ∀ n, SeqX Fence.wide n Try.prog 71 #[.pointer (some ⟨bx, 0, none⟩)] (Value.int .i64) xs N0 w0) (hN0 : N0 ≤ w0.heap.size) (hb01 : Below w0.heap.size w0 w1)
    (hbs : w1.cell? ⟨bs, 0, none⟩ = some (.func (.func 71) #[] #[.pointer (some ⟨bx, 0, none⟩)])) (hbp : w1.cell? ⟨bp, 0, none⟩ = some (.func (.func 52) #[] lbp))
    (hp : ∀ x ∈ xs, ∀ X, Below w1.heap.size w1 X → Calls Try.prog 52 (#[.int .i64 x] ++ lbp) X fun e C => e = .returned (.bool (p x)) ∧ C = X) :
    SeqX Fence.wide n Try.prog 77 #[.pointer (some ⟨bs, 0, none⟩), .pointer (some ⟨bp, 0, none⟩)] (Value.int .i64) (xs.filter p) w1.heap.size w1 := by
  intro l J Jx W hW hN hJ hJx hY h0
  refine callsIn_of_wp_marks Try.func77 rfl trivial ?_ rfl
  simp only [Try.ntmps77, List.size_toArray, List.length_cons, List.length_nil, Nat.reduceAdd, Nat.reduceSub, Array.replicate_succ, Array.replicate_zero, List.push_toArray, List.append_toArray, List.nil_append, List.cons_append]
  have b1 := pw_cell_below hW hbs
  have b2 := pw_cell_below hW hbp
  have HY := Aside0.mk hY
  have HP := Aside0.mk hp
  have H0 := Aside0.mk h0
  clear hY hp h0
  obtain ⟨Wb, hWb⟩ : ∃ Wb, Wb = W.alloc (.cells #[.func (.yield l) #[] #[]] 61) := ⟨_, rfl⟩
  have hyb : Wb.heap[W.heap.size]? = some (.cells #[.func (.yield l) #[] #[]] 61 (0, 0)) := by rw [hWb]; exact blk_new _ _
  have hbb : Below W.heap.size W Wb := by rw [hWb]; exact below_alloc (Below.refl _ _) _
  have hsb : Wb.heap.size = W.heap.size + 1 := by rw [hWb]; simp
  have b1a := pw_cell_below hbb b1
  rw [hWb] at b1a
  gi_wp2
  rw [← hWb]
  clear hWb b1a b1
  have hbw1 : Below w1.heap.size w1 Wb := hW.trans (hbb.mono hN)
  refine wpIn_rangeX rfl (fun h => by simp [Fence.wide] at h) (gf := 71) (lb := #[.pointer (some ⟨bx, 0, none⟩)]) rfl trivial (enters_of Try.func71 (by kernel_rfl) rfl) (hseq (n - 1)) (by have := hb01.size; omega) ((hb01.mono hN0).trans (hbw1.mono (by have := hb01.size; omega))) rfl
    (fun R k X => J R ((xs.take k).filter p).length X ∧ Below w1.heap.size w1 X ∧ X.heap[W.heap.size]? = some (.cells #[.func (.yield l) #[] #[]] 61 (0, 0)) ∧ W.heap.size ≤ X.heap.size)
    (fun c R k X => c = .ret ∧ (∃ k, k ≤ (xs.filter p).length ∧ Jx R k X) ∧ ∀ q, R q → W.heap.size ≤ q)
    ?s1 ?s2 ⟨hJ _ _ _ _ H0.out (Unt.of_below hbb), hbw1, hyb, hbb.size⟩
    (fun x => { tmps := #[.func (.yield l) #[] #[], .pointer (some ⟨bs, 0, none⟩), .pointer (some ⟨bp, 0, none⟩), .pointer (some ⟨W.heap.size, 0, none⟩), .int .i64 x, .func (.func 71) #[] #[.pointer (some ⟨bx, 0, none⟩)], .int .i64 x, undef, undef, undef, undef, undef, undef, undef, undef, undef], defers := [] })
    ?assign ?body ?done ?stop
  case s1 =>
    rintro R k X C ⟨h1, h2, h3, h4⟩ hu
    have hsz := h2.size
    have hlt := blk_lt h3
    exact ⟨hJ _ _ _ _ h1 (hu.mono (by omega)), h2.trans (hu.below (by omega) (by omega)), (hu.block _ (by omega) (.inl (by omega))).trans h3, Nat.le_trans h4 hu.size⟩
  case s2 =>
    rintro c R k X C ⟨h0, ⟨k', h1, h2⟩, h3⟩ hu
    exact ⟨h0, ⟨k', h1, hJx _ _ _ _ h2 (hu.mono (by omega))⟩, h3⟩
  case assign =>
    intro l2 x X K hK
    gi_wp2
    exact hK
  case body =>
    rintro l2 R k x A hx ⟨h1, h2, h3, h4⟩ hR hA
    have hxm : x ∈ xs := List.mem_of_getElem? hx
    have c2 := pw_cell_below h2 hbp
    have c3 := (blk_cell h3 0).trans (rfl : _ = some (Value.func (.yield l) #[] #[]))
    have HPA := Aside0.mk (HP.out x hxm A h2)
    have hlt := blk_lt h3
    have hs1 := hb01.size
    have hnr : ¬ R W.heap.size := fun h => by have := hR _ h; omega
    have hwf : ∀ f, Fence.wide.fn f := fun _ => trivial
    have hwd : Fence.wide.depth = none := rfl
    cases hpx : p x with
    | false =>
      have HT := Aside0.mk (show (xs.take (k + 1)).filter p = (xs.take k).filter p by rw [take_get hx, List.filter_append]; simp [hpx])
      rw [hpx] at HPA
      gi_wp2_with (gi_at_call 52; refine (callsIn_any HPA.out).mono ?_; rintro e C ⟨rfl, rfl⟩)
      exact ⟨R, FrX.refl _ _ _ _, by rw [HT.out]; exact h1, h2, h3, h4⟩
    | true =>
      have HT := Aside0.mk (show ((xs.take (k + 1)).filter p).length = ((xs.take k).filter p).length + 1 by rw [take_get hx, List.filter_append]; simp [hpx])
      have hfg := filter_get hx hpx
      have HLE := Aside0.mk (show ((xs.take k).filter p).length + 1 ≤ (xs.filter p).length from (List.getElem?_eq_some_iff.1 hfg).1)
      obtain ⟨fn, tmps, assign, body, hy, hRd⟩ := HY.out R _ A x hfg h1 (fun q hq => by have := hR q hq; omega) h4
      have HRD := Aside0.mk hRd
      clear hRd
      rw [hpx] at HPA
      gi_wp2_with (gi_at_call 52; refine (callsIn_any HPA.out).mono ?_; rintro e C ⟨rfl, rfl⟩)
      first | refine (roundIn_any HRD.out).mono ?_ | refine ⟨fun h => by simp [Fence.wide] at h, (roundIn_any HRD.out).mono ?_⟩
      rintro e C ⟨R', hf, (⟨rfl, hj⟩ | ⟨rfl, hj⟩)⟩
      · gi_wp2
        refine ⟨R', hf.weaken (by omega) (by omega), by rw [HT.out]; exact hj, h2.trans hf.low, (hf.own _ hlt (Nat.le_refl _) hnr).trans h3, Nat.le_trans h4 hf.low.size⟩
      · gi_wp2
        exact ⟨R', hf.weaken (by omega) (by omega), rfl, ⟨_, HLE.out, hj⟩, fun q hq => (hf.new q hq).elim (fun h => by have := hR q h; omega) (fun h => by omega)⟩
  case done =>
    rintro D R C rfl hR ⟨h1, h2, h3, h4⟩ hK
    rw [List.take_length] at h1
    gi_wp2
    refine ⟨by simp, .inl ⟨_, _, rfl, run_takeDeferred hK, ?_⟩⟩
    exact ⟨_, results_none rfl _ _ _, ⟨_, rfl⟩, R, fun q hq => by have := hR q hq; omega, .inl (hJ _ _ _ _ h1 (Unt.putObj _ (by omega) (fun h => by have := hR _ h; omega)))⟩
  case stop =>
    rintro D c R k C rfl hR hk ⟨rfl, ⟨k', hk', h1⟩, h2⟩ hK
    gi_wp2
    refine ⟨by simp, .inl ⟨_, _, rfl, run_takeDeferred hK, ?_⟩⟩
    exact ⟨_, results_none rfl _ _ _, ⟨_, rfl⟩, R, h2, .inr ⟨k', hk', hJx _ _ _ _ h1 (Unt.putObj _ (by omega) (fun h => by have := hR _ h; omega))⟩⟩
end Go.Proofs.Ytldiginkmmlojaa
