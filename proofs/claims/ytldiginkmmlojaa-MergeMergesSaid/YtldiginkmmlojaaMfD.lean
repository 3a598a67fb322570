/- Merging: From goes through those that are not less than one. -/
import Derived.Test.YtldiginkmmlojaaMfC
import Derived.Test.YtldiginkmmlojaaMeI
namespace Go.Proofs.Ytldiginkmmlojaa
set_option linter.unusedVariables false
set_option linter.unusedSimpArgs false
open Go.RowKit Go.Proofs.YtldiginkmmlojaaW.PrintWords
attribute [local go_sem] Oper.semAt_some

theorem FrX.drew (N0 B : Nat) (R : Nat → Prop) (A : World) : FrX N0 B R R A A.drew := ⟨below_drew1 (Below.refl _ _), fun _ _ _ _ => rfl, fun _ h => h, fun _ h => .inl h⟩
theorem roundIn_wide {n m l : Nat} {P : Program} {f : FuncId} {tmps : Array Value} {assign body : Code} {w : World} {R : Ending → World → Prop} (h : RoundIn Fence.wide n P l f tmps assign body w R) : RoundIn Fence.wide m P l f tmps assign body w R := ⟨trivial, fun c cs _ => h.2 c cs (room_wide _)⟩
/-- Not less? -/
def pF (z x : Int) : Bool := decide (0 ≤ cT x z)
set_option maxHeartbeats 4000000 in
set_option maxRecDepth 100000 in
theorem from_seq (n bm bl gM c f0 : Nat) (A : Option Addr) (L : List (List Int)) (z : Int) (w1 : World) (hbm : w1.cell? ⟨bm, 0, none⟩ = some (.pointer (some ⟨gM, 0, none⟩))) (hbl : w1.cell? ⟨bl, 0, none⟩ = some (.int .i64 z)) (hlm : LM w1 gM 38 A c L) (hv : ∀ l ∈ L, ∀ x ∈ l, 0 ≤ x ∧ x ≤ 1000000) (hL : L.length ≤ 1000000) (hLl : ∀ l ∈ L, l.length ≤ 1000000) (hf0 : totF L ≤ f0) (hz : 0 ≤ z ∧ z ≤ 1000000) :
    SeqX Fence.wide n Try.prog 73 #[.pointer (some ⟨bm, 0, none⟩), .pointer (some ⟨bl, 0, none⟩)] (Value.int .i64) ((allF cT f0 L).filter (pF z)) w1.heap.size w1 := by
  intro l J Jx W hW hN hJ hJx hY h0
  refine callsIn_of_wp_marks Try.func73 rfl trivial ?_ rfl
  simp only [Try.ntmps73, List.size_toArray, List.length_cons, List.length_nil, Nat.reduceAdd, Nat.reduceSub, Array.replicate_succ, Array.replicate_zero, List.push_toArray, List.append_toArray, List.nil_append, List.cons_append]
  obtain ⟨xs, hxs⟩ : ∃ xs, xs = allF cT f0 L := ⟨_, rfl⟩
  have HSQ := Aside0.mk (fun n bx => all_P n bx gM c f0 A L w1 hlm hv hL hLl hf0)
  rw [← hxs] at HSQ hY ⊢
  have HXB := Aside0.mk (show ∀ x ∈ xs, 0 ≤ x ∧ x ≤ 1000000 from fun x hx => by
    rw [hxs] at hx
    obtain ⟨l9, hl9, hx9⟩ := allF_mem _ _ _ _ hx
    exact hv l9 hl9 x hx9)
  have HCE := Aside0.mk (show ∀ X, Below w1.heap.size w1 X → X.cell? ⟨bm, 0, none⟩ = some (.pointer (some ⟨gM, 0, none⟩)) ∧ X.cell? ⟨bl, 0, none⟩ = some (.int .i64 z) ∧ X.cell? ⟨gM, 0, none⟩ = some (.func (.func 38) #[] #[]) from fun X hX => ⟨pw_cell_below hX hbm, pw_cell_below hX hbl, (blk_cell (hlm.below hX).hb 0).trans rfl⟩)
  have HZ := Aside0.mk hz
  have HY := Aside0.mk hY
  have H0 := Aside0.mk h0
  clear hxs hlm hv hL hLl hf0 hY h0 hbm hbl hz
  obtain ⟨Wb, hWb⟩ : ∃ Wb, Wb = W.alloc (.cells #[.func (.yield l) #[] #[]] 61) := ⟨_, rfl⟩
  have hyb : Wb.heap[W.heap.size]? = some (.cells #[.func (.yield l) #[] #[]] 61 (0, 0)) := by rw [hWb]; exact blk_new _ _
  have hbb : Below W.heap.size W Wb := by rw [hWb]; exact below_alloc (Below.refl _ _) _
  have hsb : Wb.heap.size = W.heap.size + 1 := by rw [hWb]; simp
  have hbw1 : Below w1.heap.size w1 Wb := hW.trans (hbb.mono hN)
  have b1a := (HCE.out Wb hbw1).1
  rw [hWb] at b1a
  have hwf : ∀ f, Fence.wide.fn f := fun _ => trivial
  have hwd : Fence.wide.depth = none := rfl
  gi_wp2
  rw [← hWb]
  refine (callsIn_wide.2 (all_value gM _)).mono ?_
  rintro e w2 ⟨rfl, hw2⟩
  clear b1a
  have hb2 : Below Wb.heap.size Wb w2 := by rw [hw2]; exact below_alloc (Below.refl _ _) _
  have hm2 : w2.heap[W.heap.size + 1]? = some (.cells #[.pointer (some ⟨gM, 0, none⟩)] 67 (0, 0)) := by rw [hw2, ← hsb]; exact blk_new _ _
  have hs2 : w2.heap.size = W.heap.size + 2 := by rw [hw2]; simp; omega
  have hy2 := blk_below hyb hb2
  have hbw2 : Below w1.heap.size w1 w2 := below_step hbw1 hb2
  have hbW2 : Below W.heap.size W w2 := hbb.trans (hb2.mono (by omega))
  clear hWb hw2 hyb hbb hb2 hbw1
  gi_wp2
  refine wpIn_rangeP rfl (fun h => by simp [Fence.wide] at h) (gf := 71) (lb := #[.pointer (some ⟨W.heap.size + 1, 0, none⟩)]) rfl trivial (enters_of Try.func71 (by kernel_rfl) rfl) (HSQ.out (n - 1) (W.heap.size + 1)) (by omega) hbw2 rfl
    (fun R k X => J R ((xs.take k).filter (pF z)).length X ∧ Below w1.heap.size w1 X ∧ X.heap[W.heap.size]? = some (.cells #[.func (.yield l) #[] #[]] 61 (0, 0)) ∧ X.heap[W.heap.size + 1]? = some (.cells #[.pointer (some ⟨gM, 0, none⟩)] 67 (0, 0)))
    (fun c R k X => c = .ret ∧ (∃ k, k ≤ (xs.filter (pF z)).length ∧ Jx R k X) ∧ ∀ q, R q → W.heap.size ≤ q)
    (fun R k X h => (blk_cell h.2.2.2 0).trans rfl)
    ?s1 ?s2 ⟨hJ _ _ _ _ H0.out (Unt.of_below hbW2), hbw2, hy2, hm2⟩
    (fun x => { tmps := #[.func (.yield l) #[] #[], .pointer (some ⟨bm, 0, none⟩), .pointer (some ⟨bl, 0, none⟩), .pointer (some ⟨W.heap.size, 0, none⟩), .int .i64 x, .pointer (some ⟨gM, 0, none⟩), .func (.func 71) #[] #[.pointer (some ⟨W.heap.size + 1, 0, none⟩)], .int .i64 x, undef, undef, undef, undef, undef, undef, undef, undef, undef, undef, undef, undef, undef, undef], defers := [] })
    ?assign ?body ?done ?stop
  case s1 =>
    rintro R k X C ⟨h1, h2, h3, h4⟩ hu
    have hsz := h2.size
    have hlt := blk_lt h4
    exact ⟨hJ _ _ _ _ h1 (hu.mono (by omega)), h2.trans (hu.below (by omega) (by omega)), (hu.block _ (by omega) (.inl (by omega))).trans h3, (hu.block _ (by omega) (.inl (by omega))).trans h4⟩
  case s2 =>
    rintro c R k X C ⟨h0, ⟨k', h1, h2⟩, h3⟩ hu
    exact ⟨h0, ⟨k', h1, hJx _ _ _ _ h2 (hu.mono (by omega))⟩, h3⟩
  case assign =>
    intro l2 x X K hK
    gi_wp2
    exact hK
  case body =>
    rintro l2 R k x A9 hx ⟨h1, h2, h3, h4⟩ hR hA
    have hxm : x ∈ xs := List.mem_of_getElem? hx
    obtain ⟨c1, c2, c3⟩ := HCE.out A9 h2
    have c4 := (blk_cell h3 0).trans (rfl : _ = some (Value.func (.yield l) #[] #[]))
    have HXI := Aside0.mk (HXB.out x hxm)
    have hlt := blk_lt h4
    have hnr : ¬ R W.heap.size := fun h => by have := hR _ h; omega
    have hnr2 : ¬ R (W.heap.size + 1) := fun h => by have := hR _ h; omega
    by_cases hpx : 0 ≤ cT x z
    · have d1 : decide (0 ≤ cT x z) = true := decide_eq_true hpx
      have hpp : pF z x = true := d1
      have HT := Aside0.mk (show ((xs.take (k + 1)).filter (pF z)).length = ((xs.take k).filter (pF z)).length + 1 by rw [take_get hx, List.filter_append]; simp [hpp])
      have hfg := filter_get hx hpp
      have HLE := Aside0.mk (show ((xs.take k).filter (pF z)).length + 1 ≤ (xs.filter (pF z)).length from (List.getElem?_eq_some_iff.1 hfg).1)
      obtain ⟨fn, tmps, assign, body, hy, hRd⟩ := HY.out R _ A9.drew x hfg (hJ _ _ _ _ h1 (Unt.of_below (below_drew1 (Below.refl _ _)))) (fun q hq => by have := hR q hq; omega) (show W.heap.size ≤ A9.heap.size from Nat.le_trans (by omega) (Nat.le_of_lt hlt))
      have HRD := Aside0.mk hRd
      clear hRd hpx hpp hfg
      gi_wp2
      refine wpIn_region_round l2 (by kernel_rfl) rfl (by intro o ho; simp at ho; rcases ho with h | h | h | h | h | h | h | h | h | h | h | h | h | h <;> subst h <;> intro c <;> simp) ?_
      refine wpAnyIn_take (i := 4) (v := ?_) rfl rfl (by kernel_rfl) (by kernel_rfl) (by kernel_rfl) (fun _ _ _ h => h) ⟨Or.inl ⟨by rfl, ?_⟩, fun _ => rfl⟩ ?_
      rotate_left
      · intro w; go_simp <;> with_reducible rfl
      refine wpAnyIn_ready (rs := [0, 5]) (by kernel_rfl) (by simp) ?_
      refine AllReadyIn.cons rfl (fun K hK => ?_) ?_
      · skip
        (go_simp; refine hK _ _ ?_; clear hK K)
        refine wpAnyIn_take (i := 1) (v := ?_) rfl rfl (by kernel_rfl) (by kernel_rfl) (by kernel_rfl) (fun _ _ _ h => h) ⟨Or.inl ⟨by rfl, ?_⟩, fun _ => rfl⟩ ?_
        rotate_left
        · intro w; go_simp <;> with_reducible rfl
        refine wpAnyIn_take (i := 2) (v := ?_) rfl rfl (by kernel_rfl) (by kernel_rfl) (by kernel_rfl) (fun _ _ _ h => h) ⟨Or.inl ⟨by rfl, ?_⟩, fun _ => rfl⟩ ?_
        rotate_left
        · intro w; go_simp <;> with_reducible rfl
        refine wpAnyIn_ready (rs := [3, 5]) (by kernel_rfl) (by simp) ?_
        refine AllReadyIn.cons rfl (fun K hK => ?_) ?_
        · skip
          (go_simp; refine hK _ _ ?_; clear hK K)
          refine wpAnyIn_ready (rs := [5]) (by kernel_rfl) (by simp) ?_
          refine AllReadyIn.cons rfl (fun K hK => ?_) ?_
          · skip
            (go_simp; refine hK _ _ ?_; clear hK K)
            refine wpAnyIn_ready (rs := [6]) (by kernel_rfl) (by simp) ?_
            refine AllReadyIn.cons rfl (fun K hK => ?_) ?_
            · skip
              go_simp
              gi_wp2_with (gi_at_call 38; refine (callsIn_wide.2 (tens_any x z _ HXI.out HZ.out)).mono ?_; rintro e C ⟨rfl, rfl⟩)
              refine wpAnyIn_take (i := 7) (v := ?_) rfl rfl (by kernel_rfl) (by kernel_rfl) (by kernel_rfl) (fun _ _ _ h => h) ⟨Or.inl ⟨by rfl, ?_⟩, fun _ => rfl⟩ ?_
              rotate_left
              · intro w; go_simp <;> with_reducible rfl
              refine wpAnyIn_take (i := 8) (v := ?_) rfl rfl (by kernel_rfl) (by kernel_rfl) (by kernel_rfl) (fun _ _ _ h => h) ⟨Or.inl ⟨by rfl, ?_⟩, fun _ => rfl⟩ ?_
              rotate_left
              · intro w; go_simp <;> with_reducible rfl
              refine wpAnyIn_take (i := 10) (v := ?_) rfl rfl (by kernel_rfl) (by kernel_rfl) (by kernel_rfl) (fun _ _ _ h => h) ⟨Or.inl ⟨by rfl, ?_⟩, fun _ => rfl⟩ ?_
              rotate_left
              · intro w; go_simp <;> with_reducible rfl
              refine wpAnyIn_ready (rs := [9]) (by kernel_rfl) (by simp) ?_
              refine AllReadyIn.cons rfl (fun K hK => ?_) ?_
              · skip
                (go_simp; refine hK _ _ ?_; clear hK K)
                refine wpAnyIn_ready (rs := [11]) (by kernel_rfl) (by simp) ?_
                refine AllReadyIn.cons rfl (fun K hK => ?_) ?_
                · skip
                  go_simp
                  refine (roundIn_wide HRD.out).mono ?_
                  rintro e C ⟨R', hf, hj⟩
                  obtain ⟨bt, rfl, hj1, hj2⟩ : ∃ bt : Bool, e = .returned (.bool bt) ∧ (bt = true → J R' (((xs.take k).filter (pF z)).length + 1) C) ∧ (bt = false → Jx R' (((xs.take k).filter (pF z)).length + 1) C) := by
                    rcases hj with ⟨rfl, h⟩ | ⟨rfl, h⟩
                    · exact ⟨true, rfl, fun _ => h, fun h => by cases h⟩
                    · exact ⟨false, rfl, fun h => (by cases h), fun _ => h⟩
                  have HF := Aside0.mk hf
                  have HJ1 := Aside0.mk hj1
                  have HJ2 := Aside0.mk hj2
                  clear hj hf hj1 hj2
                  refine hK _ _ ?_
                  clear hK K
                  refine wpAnyIn_ready (rs := [12]) (by kernel_rfl) (by simp) ?_
                  refine AllReadyIn.cons rfl (fun K hK => ?_) ?_
                  · skip
                    (go_simp; refine hK _ _ ?_; clear hK K)
                    refine wpAnyIn_ready (rs := [13]) (by kernel_rfl) (by simp) ?_
                    refine AllReadyIn.cons rfl (fun K hK => ?_) ?_
                    · skip
                      (go_simp; refine hK _ _ ?_; clear hK K)
                      refine wpAnyIn_done (by kernel_rfl) ?_ _
                      cases bt with
                      | true =>
                        gi_wp2
                        have hf2 := (FrX.drew _ _ R A9).trans HF.out
                        exact ⟨R', hf2.weaken (Nat.le_refl _) (by omega), by rw [HT.out]; exact HJ1.out (by simp), h2.trans hf2.low, (hf2.own _ (by omega) (Nat.le_refl _) hnr).trans h3, (hf2.own _ hlt (by omega) hnr2).trans h4⟩
                      | false =>
                        gi_wp2
                        have hf2 := (FrX.drew _ _ R A9).trans HF.out
                        exact ⟨R', hf2.weaken (Nat.le_refl _) (by omega), rfl, ⟨_, HLE.out, HJ2.out (by simp)⟩, fun q hq => (hf2.new q hq).elim (fun h => by have := hR q h; omega) (fun h => by omega)⟩
                    · exact AllReadyIn.nil
                  · exact AllReadyIn.nil
                · exact AllReadyIn.nil
              · exact AllReadyIn.nil
            · exact AllReadyIn.nil
          · exact AllReadyIn.nil
        · refine AllReadyIn.cons rfl (fun K hK => ?_) ?_
          · skip
            (go_simp; refine hK _ _ ?_; clear hK K)
            refine wpAnyIn_ready (rs := [3]) (by kernel_rfl) (by simp) ?_
            refine AllReadyIn.cons rfl (fun K hK => ?_) ?_
            · skip
              (go_simp; refine hK _ _ ?_; clear hK K)
              refine wpAnyIn_ready (rs := [6]) (by kernel_rfl) (by simp) ?_
              refine AllReadyIn.cons rfl (fun K hK => ?_) ?_
              · skip
                go_simp
                gi_wp2_with (gi_at_call 38; refine (callsIn_wide.2 (tens_any x z _ HXI.out HZ.out)).mono ?_; rintro e C ⟨rfl, rfl⟩)
                refine wpAnyIn_take (i := 7) (v := ?_) rfl rfl (by kernel_rfl) (by kernel_rfl) (by kernel_rfl) (fun _ _ _ h => h) ⟨Or.inl ⟨by rfl, ?_⟩, fun _ => rfl⟩ ?_
                rotate_left
                · intro w; go_simp <;> with_reducible rfl
                refine wpAnyIn_take (i := 8) (v := ?_) rfl rfl (by kernel_rfl) (by kernel_rfl) (by kernel_rfl) (fun _ _ _ h => h) ⟨Or.inl ⟨by rfl, ?_⟩, fun _ => rfl⟩ ?_
                rotate_left
                · intro w; go_simp <;> with_reducible rfl
                refine wpAnyIn_take (i := 10) (v := ?_) rfl rfl (by kernel_rfl) (by kernel_rfl) (by kernel_rfl) (fun _ _ _ h => h) ⟨Or.inl ⟨by rfl, ?_⟩, fun _ => rfl⟩ ?_
                rotate_left
                · intro w; go_simp <;> with_reducible rfl
                refine wpAnyIn_ready (rs := [9]) (by kernel_rfl) (by simp) ?_
                refine AllReadyIn.cons rfl (fun K hK => ?_) ?_
                · skip
                  (go_simp; refine hK _ _ ?_; clear hK K)
                  refine wpAnyIn_ready (rs := [11]) (by kernel_rfl) (by simp) ?_
                  refine AllReadyIn.cons rfl (fun K hK => ?_) ?_
                  · skip
                    go_simp
                    refine (roundIn_wide HRD.out).mono ?_
                    rintro e C ⟨R', hf, hj⟩
                    obtain ⟨bt, rfl, hj1, hj2⟩ : ∃ bt : Bool, e = .returned (.bool bt) ∧ (bt = true → J R' (((xs.take k).filter (pF z)).length + 1) C) ∧ (bt = false → Jx R' (((xs.take k).filter (pF z)).length + 1) C) := by
                      rcases hj with ⟨rfl, h⟩ | ⟨rfl, h⟩
                      · exact ⟨true, rfl, fun _ => h, fun h => by cases h⟩
                      · exact ⟨false, rfl, fun h => (by cases h), fun _ => h⟩
                    have HF := Aside0.mk hf
                    have HJ1 := Aside0.mk hj1
                    have HJ2 := Aside0.mk hj2
                    clear hj hf hj1 hj2
                    refine hK _ _ ?_
                    clear hK K
                    refine wpAnyIn_ready (rs := [12]) (by kernel_rfl) (by simp) ?_
                    refine AllReadyIn.cons rfl (fun K hK => ?_) ?_
                    · skip
                      (go_simp; refine hK _ _ ?_; clear hK K)
                      refine wpAnyIn_ready (rs := [13]) (by kernel_rfl) (by simp) ?_
                      refine AllReadyIn.cons rfl (fun K hK => ?_) ?_
                      · skip
                        (go_simp; refine hK _ _ ?_; clear hK K)
                        refine wpAnyIn_done (by kernel_rfl) ?_ _
                        cases bt with
                        | true =>
                          gi_wp2
                          have hf2 := (FrX.drew _ _ R A9).trans HF.out
                          exact ⟨R', hf2.weaken (Nat.le_refl _) (by omega), by rw [HT.out]; exact HJ1.out (by simp), h2.trans hf2.low, (hf2.own _ (by omega) (Nat.le_refl _) hnr).trans h3, (hf2.own _ hlt (by omega) hnr2).trans h4⟩
                        | false =>
                          gi_wp2
                          have hf2 := (FrX.drew _ _ R A9).trans HF.out
                          exact ⟨R', hf2.weaken (Nat.le_refl _) (by omega), rfl, ⟨_, HLE.out, HJ2.out (by simp)⟩, fun q hq => (hf2.new q hq).elim (fun h => by have := hR q h; omega) (fun h => by omega)⟩
                      · exact AllReadyIn.nil
                    · exact AllReadyIn.nil
                  · exact AllReadyIn.nil
                · exact AllReadyIn.nil
              · exact AllReadyIn.nil
            · exact AllReadyIn.nil
          · exact AllReadyIn.nil
      · refine AllReadyIn.cons rfl (fun K hK => ?_) ?_
        · skip
          (go_simp; refine hK _ _ ?_; clear hK K)
          refine wpAnyIn_ready (rs := [0]) (by kernel_rfl) (by simp) ?_
          refine AllReadyIn.cons rfl (fun K hK => ?_) ?_
          · skip
            (go_simp; refine hK _ _ ?_; clear hK K)
            refine wpAnyIn_take (i := 1) (v := ?_) rfl rfl (by kernel_rfl) (by kernel_rfl) (by kernel_rfl) (fun _ _ _ h => h) ⟨Or.inl ⟨by rfl, ?_⟩, fun _ => rfl⟩ ?_
            rotate_left
            · intro w; go_simp <;> with_reducible rfl
            refine wpAnyIn_take (i := 2) (v := ?_) rfl rfl (by kernel_rfl) (by kernel_rfl) (by kernel_rfl) (fun _ _ _ h => h) ⟨Or.inl ⟨by rfl, ?_⟩, fun _ => rfl⟩ ?_
            rotate_left
            · intro w; go_simp <;> with_reducible rfl
            refine wpAnyIn_ready (rs := [3]) (by kernel_rfl) (by simp) ?_
            refine AllReadyIn.cons rfl (fun K hK => ?_) ?_
            · skip
              (go_simp; refine hK _ _ ?_; clear hK K)
              refine wpAnyIn_ready (rs := [6]) (by kernel_rfl) (by simp) ?_
              refine AllReadyIn.cons rfl (fun K hK => ?_) ?_
              · skip
                go_simp
                gi_wp2_with (gi_at_call 38; refine (callsIn_wide.2 (tens_any x z _ HXI.out HZ.out)).mono ?_; rintro e C ⟨rfl, rfl⟩)
                refine wpAnyIn_take (i := 7) (v := ?_) rfl rfl (by kernel_rfl) (by kernel_rfl) (by kernel_rfl) (fun _ _ _ h => h) ⟨Or.inl ⟨by rfl, ?_⟩, fun _ => rfl⟩ ?_
                rotate_left
                · intro w; go_simp <;> with_reducible rfl
                refine wpAnyIn_take (i := 8) (v := ?_) rfl rfl (by kernel_rfl) (by kernel_rfl) (by kernel_rfl) (fun _ _ _ h => h) ⟨Or.inl ⟨by rfl, ?_⟩, fun _ => rfl⟩ ?_
                rotate_left
                · intro w; go_simp <;> with_reducible rfl
                refine wpAnyIn_take (i := 10) (v := ?_) rfl rfl (by kernel_rfl) (by kernel_rfl) (by kernel_rfl) (fun _ _ _ h => h) ⟨Or.inl ⟨by rfl, ?_⟩, fun _ => rfl⟩ ?_
                rotate_left
                · intro w; go_simp <;> with_reducible rfl
                refine wpAnyIn_ready (rs := [9]) (by kernel_rfl) (by simp) ?_
                refine AllReadyIn.cons rfl (fun K hK => ?_) ?_
                · skip
                  (go_simp; refine hK _ _ ?_; clear hK K)
                  refine wpAnyIn_ready (rs := [11]) (by kernel_rfl) (by simp) ?_
                  refine AllReadyIn.cons rfl (fun K hK => ?_) ?_
                  · skip
                    go_simp
                    refine (roundIn_wide HRD.out).mono ?_
                    rintro e C ⟨R', hf, hj⟩
                    obtain ⟨bt, rfl, hj1, hj2⟩ : ∃ bt : Bool, e = .returned (.bool bt) ∧ (bt = true → J R' (((xs.take k).filter (pF z)).length + 1) C) ∧ (bt = false → Jx R' (((xs.take k).filter (pF z)).length + 1) C) := by
                      rcases hj with ⟨rfl, h⟩ | ⟨rfl, h⟩
                      · exact ⟨true, rfl, fun _ => h, fun h => by cases h⟩
                      · exact ⟨false, rfl, fun h => (by cases h), fun _ => h⟩
                    have HF := Aside0.mk hf
                    have HJ1 := Aside0.mk hj1
                    have HJ2 := Aside0.mk hj2
                    clear hj hf hj1 hj2
                    refine hK _ _ ?_
                    clear hK K
                    refine wpAnyIn_ready (rs := [12]) (by kernel_rfl) (by simp) ?_
                    refine AllReadyIn.cons rfl (fun K hK => ?_) ?_
                    · skip
                      (go_simp; refine hK _ _ ?_; clear hK K)
                      refine wpAnyIn_ready (rs := [13]) (by kernel_rfl) (by simp) ?_
                      refine AllReadyIn.cons rfl (fun K hK => ?_) ?_
                      · skip
                        (go_simp; refine hK _ _ ?_; clear hK K)
                        refine wpAnyIn_done (by kernel_rfl) ?_ _
                        cases bt with
                        | true =>
                          gi_wp2
                          have hf2 := (FrX.drew _ _ R A9).trans HF.out
                          exact ⟨R', hf2.weaken (Nat.le_refl _) (by omega), by rw [HT.out]; exact HJ1.out (by simp), h2.trans hf2.low, (hf2.own _ (by omega) (Nat.le_refl _) hnr).trans h3, (hf2.own _ hlt (by omega) hnr2).trans h4⟩
                        | false =>
                          gi_wp2
                          have hf2 := (FrX.drew _ _ R A9).trans HF.out
                          exact ⟨R', hf2.weaken (Nat.le_refl _) (by omega), rfl, ⟨_, HLE.out, HJ2.out (by simp)⟩, fun q hq => (hf2.new q hq).elim (fun h => by have := hR q h; omega) (fun h => by omega)⟩
                      · exact AllReadyIn.nil
                    · exact AllReadyIn.nil
                  · exact AllReadyIn.nil
                · exact AllReadyIn.nil
              · exact AllReadyIn.nil
            · exact AllReadyIn.nil
          · exact AllReadyIn.nil
        · exact AllReadyIn.nil
    · have d1 : decide (0 ≤ cT x z) = false := decide_eq_false hpx
      have hpp : pF z x = false := d1
      have HT := Aside0.mk (show (xs.take (k + 1)).filter (pF z) = (xs.take k).filter (pF z) by rw [take_get hx, List.filter_append]; simp [hpp])
      clear hpx hpp
      gi_wp2
      refine wpIn_region_round l2 (by kernel_rfl) rfl (by intro o ho; simp at ho; rcases ho with h | h | h | h | h | h | h | h | h | h | h | h | h | h <;> subst h <;> intro c <;> simp) ?_
      refine wpAnyIn_take (i := 4) (v := ?_) rfl rfl (by kernel_rfl) (by kernel_rfl) (by kernel_rfl) (fun _ _ _ h => h) ⟨Or.inl ⟨by rfl, ?_⟩, fun _ => rfl⟩ ?_
      rotate_left
      · intro w; go_simp <;> with_reducible rfl
      refine wpAnyIn_ready (rs := [0, 5]) (by kernel_rfl) (by simp) ?_
      refine AllReadyIn.cons rfl (fun K hK => ?_) ?_
      · skip
        (go_simp; refine hK _ _ ?_; clear hK K)
        refine wpAnyIn_take (i := 1) (v := ?_) rfl rfl (by kernel_rfl) (by kernel_rfl) (by kernel_rfl) (fun _ _ _ h => h) ⟨Or.inl ⟨by rfl, ?_⟩, fun _ => rfl⟩ ?_
        rotate_left
        · intro w; go_simp <;> with_reducible rfl
        refine wpAnyIn_take (i := 2) (v := ?_) rfl rfl (by kernel_rfl) (by kernel_rfl) (by kernel_rfl) (fun _ _ _ h => h) ⟨Or.inl ⟨by rfl, ?_⟩, fun _ => rfl⟩ ?_
        rotate_left
        · intro w; go_simp <;> with_reducible rfl
        refine wpAnyIn_ready (rs := [3, 5]) (by kernel_rfl) (by simp) ?_
        refine AllReadyIn.cons rfl (fun K hK => ?_) ?_
        · skip
          (go_simp; refine hK _ _ ?_; clear hK K)
          refine wpAnyIn_ready (rs := [5]) (by kernel_rfl) (by simp) ?_
          refine AllReadyIn.cons rfl (fun K hK => ?_) ?_
          · skip
            (go_simp; refine hK _ _ ?_; clear hK K)
            refine wpAnyIn_ready (rs := [6]) (by kernel_rfl) (by simp) ?_
            refine AllReadyIn.cons rfl (fun K hK => ?_) ?_
            · skip
              go_simp
              gi_wp2_with (gi_at_call 38; refine (callsIn_wide.2 (tens_any x z _ HXI.out HZ.out)).mono ?_; rintro e C ⟨rfl, rfl⟩)
              refine wpAnyIn_take (i := 7) (v := ?_) rfl rfl (by kernel_rfl) (by kernel_rfl) (by kernel_rfl) (fun _ _ _ h => h) ⟨Or.inl ⟨by rfl, ?_⟩, fun _ => rfl⟩ ?_
              rotate_left
              · intro w; go_simp <;> with_reducible rfl
              refine wpAnyIn_take (i := 8) (v := ?_) rfl rfl (by kernel_rfl) (by kernel_rfl) (by kernel_rfl) (fun _ _ _ h => h) ⟨Or.inl ⟨by rfl, ?_⟩, fun _ => rfl⟩ ?_
              rotate_left
              · intro w; go_simp <;> with_reducible rfl
              refine wpAnyIn_ready (rs := [9, 10]) (by kernel_rfl) (by simp) ?_
              refine AllReadyIn.cons rfl (fun K hK => ?_) ?_
              · skip
                (go_simp; refine hK _ _ ?_; clear hK K)
                refine wpAnyIn_ready (rs := [10]) (by kernel_rfl) (by simp) ?_
                refine AllReadyIn.cons rfl (fun K hK => ?_) ?_
                · skip
                  (go_simp; refine hK _ _ ?_; clear hK K)
                  refine wpAnyIn_ready (rs := [11]) (by kernel_rfl) (by simp) ?_
                  refine AllReadyIn.cons rfl (fun K hK => ?_) ?_
                  · skip
                    (go_simp; refine hK _ _ ?_; clear hK K)
                    refine wpAnyIn_ready (rs := [12]) (by kernel_rfl) (by simp) ?_
                    refine AllReadyIn.cons rfl (fun K hK => ?_) ?_
                    · skip
                      (go_simp; refine hK _ _ ?_; clear hK K)
                      refine wpAnyIn_ready (rs := [13]) (by kernel_rfl) (by simp) ?_
                      refine AllReadyIn.cons rfl (fun K hK => ?_) ?_
                      · skip
                        (go_simp; refine hK _ _ ?_; clear hK K)
                        refine wpAnyIn_done (by kernel_rfl) ?_ _
                        gi_wp2
                        exact ⟨R, FrX.drew _ _ _ _, by rw [HT.out]; exact hJ _ _ _ _ h1 (Unt.of_below (below_drew1 (Below.refl _ _))), below_drew1 h2, h3, h4⟩
                      · exact AllReadyIn.nil
                    · exact AllReadyIn.nil
                  · exact AllReadyIn.nil
                · exact AllReadyIn.nil
              · refine AllReadyIn.cons rfl (fun K hK => ?_) ?_
                · skip
                  (go_simp; refine hK _ _ ?_; clear hK K)
                  refine wpAnyIn_ready (rs := [9]) (by kernel_rfl) (by simp) ?_
                  refine AllReadyIn.cons rfl (fun K hK => ?_) ?_
                  · skip
                    (go_simp; refine hK _ _ ?_; clear hK K)
                    refine wpAnyIn_ready (rs := [11]) (by kernel_rfl) (by simp) ?_
                    refine AllReadyIn.cons rfl (fun K hK => ?_) ?_
                    · skip
                      (go_simp; refine hK _ _ ?_; clear hK K)
                      refine wpAnyIn_ready (rs := [12]) (by kernel_rfl) (by simp) ?_
                      refine AllReadyIn.cons rfl (fun K hK => ?_) ?_
                      · skip
                        (go_simp; refine hK _ _ ?_; clear hK K)
                        refine wpAnyIn_ready (rs := [13]) (by kernel_rfl) (by simp) ?_
                        refine AllReadyIn.cons rfl (fun K hK => ?_) ?_
                        · skip
                          (go_simp; refine hK _ _ ?_; clear hK K)
                          refine wpAnyIn_done (by kernel_rfl) ?_ _
                          gi_wp2
                          exact ⟨R, FrX.drew _ _ _ _, by rw [HT.out]; exact hJ _ _ _ _ h1 (Unt.of_below (below_drew1 (Below.refl _ _))), below_drew1 h2, h3, h4⟩
                        · exact AllReadyIn.nil
                      · exact AllReadyIn.nil
                    · exact AllReadyIn.nil
                  · exact AllReadyIn.nil
                · exact AllReadyIn.nil
            · exact AllReadyIn.nil
          · exact AllReadyIn.nil
        · refine AllReadyIn.cons rfl (fun K hK => ?_) ?_
          · skip
            (go_simp; refine hK _ _ ?_; clear hK K)
            refine wpAnyIn_ready (rs := [3]) (by kernel_rfl) (by simp) ?_
            refine AllReadyIn.cons rfl (fun K hK => ?_) ?_
            · skip
              (go_simp; refine hK _ _ ?_; clear hK K)
              refine wpAnyIn_ready (rs := [6]) (by kernel_rfl) (by simp) ?_
              refine AllReadyIn.cons rfl (fun K hK => ?_) ?_
              · skip
                go_simp
                gi_wp2_with (gi_at_call 38; refine (callsIn_wide.2 (tens_any x z _ HXI.out HZ.out)).mono ?_; rintro e C ⟨rfl, rfl⟩)
                refine wpAnyIn_take (i := 7) (v := ?_) rfl rfl (by kernel_rfl) (by kernel_rfl) (by kernel_rfl) (fun _ _ _ h => h) ⟨Or.inl ⟨by rfl, ?_⟩, fun _ => rfl⟩ ?_
                rotate_left
                · intro w; go_simp <;> with_reducible rfl
                refine wpAnyIn_take (i := 8) (v := ?_) rfl rfl (by kernel_rfl) (by kernel_rfl) (by kernel_rfl) (fun _ _ _ h => h) ⟨Or.inl ⟨by rfl, ?_⟩, fun _ => rfl⟩ ?_
                rotate_left
                · intro w; go_simp <;> with_reducible rfl
                refine wpAnyIn_ready (rs := [9, 10]) (by kernel_rfl) (by simp) ?_
                refine AllReadyIn.cons rfl (fun K hK => ?_) ?_
                · skip
                  (go_simp; refine hK _ _ ?_; clear hK K)
                  refine wpAnyIn_ready (rs := [10]) (by kernel_rfl) (by simp) ?_
                  refine AllReadyIn.cons rfl (fun K hK => ?_) ?_
                  · skip
                    (go_simp; refine hK _ _ ?_; clear hK K)
                    refine wpAnyIn_ready (rs := [11]) (by kernel_rfl) (by simp) ?_
                    refine AllReadyIn.cons rfl (fun K hK => ?_) ?_
                    · skip
                      (go_simp; refine hK _ _ ?_; clear hK K)
                      refine wpAnyIn_ready (rs := [12]) (by kernel_rfl) (by simp) ?_
                      refine AllReadyIn.cons rfl (fun K hK => ?_) ?_
                      · skip
                        (go_simp; refine hK _ _ ?_; clear hK K)
                        refine wpAnyIn_ready (rs := [13]) (by kernel_rfl) (by simp) ?_
                        refine AllReadyIn.cons rfl (fun K hK => ?_) ?_
                        · skip
                          (go_simp; refine hK _ _ ?_; clear hK K)
                          refine wpAnyIn_done (by kernel_rfl) ?_ _
                          gi_wp2
                          exact ⟨R, FrX.drew _ _ _ _, by rw [HT.out]; exact hJ _ _ _ _ h1 (Unt.of_below (below_drew1 (Below.refl _ _))), below_drew1 h2, h3, h4⟩
                        · exact AllReadyIn.nil
                      · exact AllReadyIn.nil
                    · exact AllReadyIn.nil
                  · exact AllReadyIn.nil
                · refine AllReadyIn.cons rfl (fun K hK => ?_) ?_
                  · skip
                    (go_simp; refine hK _ _ ?_; clear hK K)
                    refine wpAnyIn_ready (rs := [9]) (by kernel_rfl) (by simp) ?_
                    refine AllReadyIn.cons rfl (fun K hK => ?_) ?_
                    · skip
                      (go_simp; refine hK _ _ ?_; clear hK K)
                      refine wpAnyIn_ready (rs := [11]) (by kernel_rfl) (by simp) ?_
                      refine AllReadyIn.cons rfl (fun K hK => ?_) ?_
                      · skip
                        (go_simp; refine hK _ _ ?_; clear hK K)
                        refine wpAnyIn_ready (rs := [12]) (by kernel_rfl) (by simp) ?_
                        refine AllReadyIn.cons rfl (fun K hK => ?_) ?_
                        · skip
                          (go_simp; refine hK _ _ ?_; clear hK K)
                          refine wpAnyIn_ready (rs := [13]) (by kernel_rfl) (by simp) ?_
                          refine AllReadyIn.cons rfl (fun K hK => ?_) ?_
                          · skip
                            (go_simp; refine hK _ _ ?_; clear hK K)
                            refine wpAnyIn_done (by kernel_rfl) ?_ _
                            gi_wp2
                            exact ⟨R, FrX.drew _ _ _ _, by rw [HT.out]; exact hJ _ _ _ _ h1 (Unt.of_below (below_drew1 (Below.refl _ _))), below_drew1 h2, h3, h4⟩
                          · exact AllReadyIn.nil
                        · exact AllReadyIn.nil
                      · exact AllReadyIn.nil
                    · exact AllReadyIn.nil
                  · exact AllReadyIn.nil
              · exact AllReadyIn.nil
            · exact AllReadyIn.nil
          · exact AllReadyIn.nil
      · refine AllReadyIn.cons rfl (fun K hK => ?_) ?_
        · skip
          (go_simp; refine hK _ _ ?_; clear hK K)
          refine wpAnyIn_ready (rs := [0]) (by kernel_rfl) (by simp) ?_
          refine AllReadyIn.cons rfl (fun K hK => ?_) ?_
          · skip
            (go_simp; refine hK _ _ ?_; clear hK K)
            refine wpAnyIn_take (i := 1) (v := ?_) rfl rfl (by kernel_rfl) (by kernel_rfl) (by kernel_rfl) (fun _ _ _ h => h) ⟨Or.inl ⟨by rfl, ?_⟩, fun _ => rfl⟩ ?_
            rotate_left
            · intro w; go_simp <;> with_reducible rfl
            refine wpAnyIn_take (i := 2) (v := ?_) rfl rfl (by kernel_rfl) (by kernel_rfl) (by kernel_rfl) (fun _ _ _ h => h) ⟨Or.inl ⟨by rfl, ?_⟩, fun _ => rfl⟩ ?_
            rotate_left
            · intro w; go_simp <;> with_reducible rfl
            refine wpAnyIn_ready (rs := [3]) (by kernel_rfl) (by simp) ?_
            refine AllReadyIn.cons rfl (fun K hK => ?_) ?_
            · skip
              (go_simp; refine hK _ _ ?_; clear hK K)
              refine wpAnyIn_ready (rs := [6]) (by kernel_rfl) (by simp) ?_
              refine AllReadyIn.cons rfl (fun K hK => ?_) ?_
              · skip
                go_simp
                gi_wp2_with (gi_at_call 38; refine (callsIn_wide.2 (tens_any x z _ HXI.out HZ.out)).mono ?_; rintro e C ⟨rfl, rfl⟩)
                refine wpAnyIn_take (i := 7) (v := ?_) rfl rfl (by kernel_rfl) (by kernel_rfl) (by kernel_rfl) (fun _ _ _ h => h) ⟨Or.inl ⟨by rfl, ?_⟩, fun _ => rfl⟩ ?_
                rotate_left
                · intro w; go_simp <;> with_reducible rfl
                refine wpAnyIn_take (i := 8) (v := ?_) rfl rfl (by kernel_rfl) (by kernel_rfl) (by kernel_rfl) (fun _ _ _ h => h) ⟨Or.inl ⟨by rfl, ?_⟩, fun _ => rfl⟩ ?_
                rotate_left
                · intro w; go_simp <;> with_reducible rfl
                refine wpAnyIn_ready (rs := [9, 10]) (by kernel_rfl) (by simp) ?_
                refine AllReadyIn.cons rfl (fun K hK => ?_) ?_
                · skip
                  (go_simp; refine hK _ _ ?_; clear hK K)
                  refine wpAnyIn_ready (rs := [10]) (by kernel_rfl) (by simp) ?_
                  refine AllReadyIn.cons rfl (fun K hK => ?_) ?_
                  · skip
                    (go_simp; refine hK _ _ ?_; clear hK K)
                    refine wpAnyIn_ready (rs := [11]) (by kernel_rfl) (by simp) ?_
                    refine AllReadyIn.cons rfl (fun K hK => ?_) ?_
                    · skip
                      (go_simp; refine hK _ _ ?_; clear hK K)
                      refine wpAnyIn_ready (rs := [12]) (by kernel_rfl) (by simp) ?_
                      refine AllReadyIn.cons rfl (fun K hK => ?_) ?_
                      · skip
                        (go_simp; refine hK _ _ ?_; clear hK K)
                        refine wpAnyIn_ready (rs := [13]) (by kernel_rfl) (by simp) ?_
                        refine AllReadyIn.cons rfl (fun K hK => ?_) ?_
                        · skip
                          (go_simp; refine hK _ _ ?_; clear hK K)
                          refine wpAnyIn_done (by kernel_rfl) ?_ _
                          gi_wp2
                          exact ⟨R, FrX.drew _ _ _ _, by rw [HT.out]; exact hJ _ _ _ _ h1 (Unt.of_below (below_drew1 (Below.refl _ _))), below_drew1 h2, h3, h4⟩
                        · exact AllReadyIn.nil
                      · exact AllReadyIn.nil
                    · exact AllReadyIn.nil
                  · exact AllReadyIn.nil
                · refine AllReadyIn.cons rfl (fun K hK => ?_) ?_
                  · skip
                    (go_simp; refine hK _ _ ?_; clear hK K)
                    refine wpAnyIn_ready (rs := [9]) (by kernel_rfl) (by simp) ?_
                    refine AllReadyIn.cons rfl (fun K hK => ?_) ?_
                    · skip
                      (go_simp; refine hK _ _ ?_; clear hK K)
                      refine wpAnyIn_ready (rs := [11]) (by kernel_rfl) (by simp) ?_
                      refine AllReadyIn.cons rfl (fun K hK => ?_) ?_
                      · skip
                        (go_simp; refine hK _ _ ?_; clear hK K)
                        refine wpAnyIn_ready (rs := [12]) (by kernel_rfl) (by simp) ?_
                        refine AllReadyIn.cons rfl (fun K hK => ?_) ?_
                        · skip
                          (go_simp; refine hK _ _ ?_; clear hK K)
                          refine wpAnyIn_ready (rs := [13]) (by kernel_rfl) (by simp) ?_
                          refine AllReadyIn.cons rfl (fun K hK => ?_) ?_
                          · skip
                            (go_simp; refine hK _ _ ?_; clear hK K)
                            refine wpAnyIn_done (by kernel_rfl) ?_ _
                            gi_wp2
                            exact ⟨R, FrX.drew _ _ _ _, by rw [HT.out]; exact hJ _ _ _ _ h1 (Unt.of_below (below_drew1 (Below.refl _ _))), below_drew1 h2, h3, h4⟩
                          · exact AllReadyIn.nil
                        · exact AllReadyIn.nil
                      · exact AllReadyIn.nil
                    · exact AllReadyIn.nil
                  · exact AllReadyIn.nil
              · exact AllReadyIn.nil
            · exact AllReadyIn.nil
          · exact AllReadyIn.nil
        · exact AllReadyIn.nil
  case done =>
    rintro D R C rfl hR ⟨h1, h2, h3, h4⟩ hK
    rw [List.take_length] at h1
    gi_wp2
    refine ⟨by simp, .inl ⟨_, _, rfl, run_takeDeferred hK, ?_⟩⟩
    exact ⟨_, results_none rfl _ _ _, ⟨_, rfl⟩, R, fun q hq => by have := hR q hq; omega, .inl (hJ _ _ _ _ h1 (Unt.putObj _ (by omega) (fun h => by have := hR _ h; omega)))⟩
  case stop =>
    rintro D c R k C rfl hR hk ⟨rfl, ⟨k', hk', h1⟩, h2⟩ hK
    gi_wp2
    refine ⟨by simp, .inl ⟨_, _, rfl, run_takeDeferred hK, ?_⟩⟩
    exact ⟨_, results_none rfl _ _ _, ⟨_, rfl⟩, R, h2, .inr ⟨k', hk', hJx _ _ _ _ h1 (Unt.putObj _ (by omega) (fun h => by have := hR _ h; omega))⟩⟩
end Go.Proofs.Ytldiginkmmlojaa
