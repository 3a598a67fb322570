/- The reference's file: Read. -/
import Derived.Test.YtpnbjpkdbiiogaaFiH
namespace Go.Proofs.Ytpnbjpkdbiiogaa
set_option linter.unusedVariables false
open Go.RowKit Go.Proofs.YtpnbjpkdbiiogaaW.PrintWords
attribute [local go_sem] mx2 mn2 mxTwo mnTwo

set_option maxHeartbeats 1000000 in
set_option maxRecDepth 100000 in
theorem rread_any (b g : Nat) (vn vs vo : Value) (now safe : List Int) (ops : List FOp) (k n : Int) (w : World) (h : RF w b g vn vs vo now safe ops) (hl : now.length ≤ 1099511627776) : Calls Try.prog 91 #[.pointer (some ⟨g, 0, none⟩), .int .i64 k, .int .i64 n] w fun e w' => ∃ A' c', e = .returned (.slice A' (readL now k n).length c') ∧ Kd.C (Kd.int .u8) w' A' (readL now k n).length (readL now k n) ∧ Below w.heap.size w w' := by
  obtain ⟨A, c, rfl, hc, hC⟩ := Kd.R_reads h.hn
  have HC := Aside0.mk hC
  have hc0 := (blk_cell h.hb 0).trans (rfl : _ = some (Value.slice A now.length c))
  have HC0 := Aside0.mk hc0
  clear h hC
  by_cases h3 : n ≤ 0
  · skip
    have HE := Aside0.mk (show readL now k n = [] by unfold readL; rw [if_pos (by omega)])
    rw [HE.out]
    go_enter Try.func91, Try.ntmps91
    go_wp2
    refine wp_loop_rounds 1 ?_
    rw [rounds_succ]
    go_wp2_with fail
    all_goals
      go_ret
      have hC0 : Kd.C (Kd.int .u8) w none 0 [] := ⟨rfl, Nat.zero_le _, fun h => absurd h (by simp)⟩
      first | exact ⟨none, 0, rfl, hC0, Below.refl _ _⟩ | exact ⟨none, ⟨0, rfl⟩, hC0, Below.refl _ _⟩
  · by_cases h1 : k < 0
    · skip
      have HE := Aside0.mk (show readL now k n = [] by unfold readL; rw [if_pos (by omega)])
      rw [HE.out]
      go_enter Try.func91, Try.ntmps91
      go_wp2
      refine wp_loop_rounds 1 ?_
      rw [rounds_succ]
      go_wp2_with fail
      all_goals
        go_ret
        have hC0 : Kd.C (Kd.int .u8) w none 0 [] := ⟨rfl, Nat.zero_le _, fun h => absurd h (by simp)⟩
        first | exact ⟨none, 0, rfl, hC0, Below.refl _ _⟩ | exact ⟨none, ⟨0, rfl⟩, hC0, Below.refl _ _⟩
    · by_cases h2 : (now.length : Int) ≤ k
      · skip
        have HE := Aside0.mk (show readL now k n = [] by unfold readL; rw [if_pos (by omega)])
        rw [HE.out]
        go_enter Try.func91, Try.ntmps91
        go_wp2
        refine wp_loop_rounds 1 ?_
        rw [rounds_succ]
        go_wp2_with fail
        all_goals
          go_ret
          have hC0 : Kd.C (Kd.int .u8) w none 0 [] := ⟨rfl, Nat.zero_le _, fun h => absurd h (by simp)⟩
          first | exact ⟨none, 0, rfl, hC0, Below.refl _ _⟩ | exact ⟨none, ⟨0, rfl⟩, hC0, Below.refl _ _⟩
      · obtain ⟨q, rfl⟩ := Int.eq_ofNat_of_zero_le (show 0 ≤ k by omega)
        have HE := Aside0.mk (show readL now (q : Int) n = (now.drop q).take n.toNat by unfold readL; rw [if_neg (by omega), Int.toNat_natCast])
        go_enter Try.func91, Try.ntmps91
        go_wp2
        go_loopg [7, 8] now.length (fun z v7 v8 wr => ∃ i : Nat, v8 = .int .i64 (i : Int) ∧ (i : Int) ≤ n ∧ q + i ≤ now.length ∧ Aside0 (z = now.length - i) ∧ Aside0 (Kd.R (Kd.int .u8) 5 wr w.heap.size (fun _ => True) v7 ((now.drop q).take i)) ∧ Aside0 (Below w.heap.size w wr))
        case atStart => exact ⟨0, rfl, by omega, by omega, ⟨rfl⟩, ⟨Kd.R_nil _ _ _ _ _⟩, ⟨Below.refl _ _⟩⟩
        case round =>
          obtain ⟨i, rfl, hi, hqi, hz, HO, HB⟩ := hrel
          have hs0 := pw_cell_below HB.out HC0.out
          by_cases ha : (i : Int) < n
          · by_cases hb : q + i < now.length
            · have hb2 : (q : Int) < (now.length : Int) - (i : Int) := by omega
              obtain ⟨ad, rfl, hx⟩ := at_nat HC.out (q + i) hb
              have hxw := pw_cell_below HB.out hx
              have HKE := Aside0.mk (show (now.drop q).take (i + 1) = (now.drop q).take i ++ [rd now ((q + i : Nat) : Int)] by
                rw [take_snoc_rd _ i (by rw [List.length_drop]; omega)]
                unfold rd
                rw [Int.toNat_natCast, Int.toNat_natCast, List.getD_eq_getElem?_getD, List.getD_eq_getElem?_getD, List.getElem?_drop])
              obtain ⟨x, hxE⟩ : ∃ x, x = rd now ((q + i : Nat) : Int) := ⟨_, rfl⟩
              rw [← hxE] at hxw HKE
              have HLE := Aside0.mk (show ((now.drop q).take i).length = i by rw [List.length_take, List.length_drop]; omega)
              clear hxE hx
              go_wp2_with (at_builtin; refine Kd.R_append (Kd.int .u8) (w0 := w) w.heap.size rfl (.tmp 29) (.tmp 39) 22 5 (.int .u8 0) 1 rfl Try.underlying22 infoU8 rfl (by decide) (by omega) u7 _ x [.int .u8 x] (fun _ => True) (fun _ => False) rfl rfl rfl (fun _ h => h.elim) (fun _ _ => trivial) HO.out HB.out (below_size HB.out) (by rw [HLE.out]; omega) ?_; intro v1 w1 h1 hb1 _ _; rw [← HKE.out] at h1; have H1 := Aside0.mk h1; have HB1 := Aside0.mk hb1; clear h1 hb1)
              go_roundg (now.length - (i + 1))
              case measure => have := hz.out; omega
              case rel => exact ⟨i + 1, by go_num, by omega, by omega, ⟨rfl⟩, H1, HB1⟩
            · have hb2 : ¬ (q : Int) < (now.length : Int) - (i : Int) := by omega
              go_wp2_with fail
              obtain ⟨A', c', rfl, _, hC'⟩ := Kd.R_reads HO.out
              go_ret
              have e : (now.drop q).take i = readL now (q : Int) n := by rw [HE.out, List.take_of_length_le (by rw [List.length_drop]; omega), List.take_of_length_le (by rw [List.length_drop]; omega)]
              rw [e] at hC' ⊢
              first | exact ⟨_, _, rfl, hC', HB.out⟩ | exact ⟨_, ⟨_, rfl⟩, hC', HB.out⟩
          · have hin : i = n.toNat := by omega
            go_wp2_with fail
            all_goals
              obtain ⟨A', c', rfl, _, hC'⟩ := Kd.R_reads HO.out
              go_ret
              have e : (now.drop q).take i = readL now (q : Int) n := by rw [HE.out, hin]
              rw [e] at hC' ⊢
              first | exact ⟨_, _, rfl, hC', HB.out⟩ | exact ⟨_, ⟨_, rfl⟩, hC', HB.out⟩
end Go.Proofs.Ytpnbjpkdbiiogaa
