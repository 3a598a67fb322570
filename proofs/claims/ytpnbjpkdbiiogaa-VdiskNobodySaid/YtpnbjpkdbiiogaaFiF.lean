/- Files: Crash, Copy. -/
import Derived.Test.YtpnbjpkdbiiogaaFiE
namespace Go.Proofs.Ytpnbjpkdbiiogaa
set_option linter.unusedVariables false
open Go.RowKit Go.Proofs.YtpnbjpkdbiiogaaW.PrintWords
attribute [local go_sem] mx2 mn2 mxTwo mnTwo

theorem at_Op {w : World} {A : Option Addr} {n : Nat} {xs : List FOp} (h : Kd.C kOp w A n xs) (i : Nat) (h1 : i < n) : ∃ ad A2 c2, A = some ad ∧ w.cell? (ad.add (i * 3)) = some (.bool (xs.getD i zOp).sz) ∧ w.cell? ⟨(ad.add (i * 3)).block, (ad.add (i * 3)).off + 1, none⟩ = some (.int .i64 (xs.getD i zOp).n) ∧ w.cell? ⟨(ad.add (i * 3)).block, (ad.add (i * 3)).off + 2, none⟩ = some (.slice A2 (xs.getD i zOp).d.length c2) ∧ (xs.getD i zOp).d.length ≤ c2 ∧ (Kd.int .u8).C w A2 (xs.getD i zOp).d.length (xs.getD i zOp).d := by
  obtain ⟨ad, c, e, _, hK, hc0⟩ := Kd.C_get h zOp (i : Int) (by omega) (by omega)
  simp only [Int.toNat_natCast] at hK hc0
  have hc : ∀ j u, c[j]? = some u → w.cell? (ad.add (i * 3 + j)) = some u := hc0
  obtain ⟨_, _, rfl, rfl, ⟨_, _, rfl, rfl, ⟨A2, c2, rfl, l2, g2⟩⟩⟩ := hK
  exact ⟨ad, A2, c2, e, hc 0 _ rfl, by rw [← add_field _ _ 1 (by omega)]; exact hc 1 _ rfl, by rw [← add_field _ _ 2 (by omega)]; exact hc 2 _ rfl, l2, g2⟩
theorem at_bool {w : World} {A : Option Addr} {n : Nat} {xs : List Bool} (h : Kd.bool.C w A n xs) (i : Nat) (h1 : i < n) : ∃ ad, A = some ad ∧ w.cell? (ad.add i) = some (.bool (xs.getD i false)) := by
  obtain ⟨ad, c, e, _, hK, hc0⟩ := Kd.C_get h false (i : Int) (by omega) (by omega)
  simp only [Int.toNat_natCast] at hK hc0
  have hK' : c = [.bool (xs.getD i false)] := hK
  subst hK'
  exact ⟨ad, e, by have := hc0 0 _ rfl; rwa [show i * Kd.bool.sz + 0 = i from Nat.mul_one i] at this⟩
theorem fcrash_nil (A : Option Addr) (n c : Nat) (w : World) : Calls Try.prog 36 #[.pointer none, .slice A n c] w fun e w' => e = .returned (.pointer none) ∧ w' = w := by
  go_enter Try.func36, Try.ntmps36
  go_wp2
  go_ret
  exact ⟨rfl, rfl⟩
theorem fcopy_nil (w : World) : Calls Try.prog 39 #[.pointer none] w fun e w' => e = .returned (.pointer none) ∧ w' = w := by
  go_enter Try.func39, Try.ntmps39
  go_wp2
  go_ret
  exact ⟨rfl, rfl⟩
theorem fsync_nil (w : World) : Calls Try.prog 38 #[.pointer none] w fun e w' => e = .returned (.tuple #[]) ∧ w' = w := by
  go_enter Try.func38, Try.ntmps38
  go_wp2
  first | go_end0 | ((try simp only [Exit.inBlock, Exit.then]); refine bodyPost_ret (results_none rfl _ _ _) rfl ?_)
  exact ⟨rfl, rfl⟩

theorem keepF_len (bs : List Int) (o : FOp) (h : bs.length ≤ 1048576) (ho : o.n ≤ 1048576) : (keepF bs o).length ≤ 1048576 := by
  unfold keepF
  split
  · rw [sizeL_length]; omega
  · rw [setL_length]; exact h
theorem crashF_len (safe : List Int) (ops : List FOp) (kl : List Bool) (h : safe.length ≤ 1048576) (ho : ∀ o ∈ ops, o.n ≤ 1048576) : ∀ i, (crashF safe ops kl i).length ≤ 1048576
  | 0 => h
  | i + 1 => by
    have ih := crashF_len safe ops kl h ho i
    unfold crashF
    split
    · refine keepF_len _ _ ih ?_
      by_cases hi : i < ops.length
      · have e : ops.getD i zOp = ops[i] := by simp [List.getD_eq_getElem?_getD, hi]
        rw [e]
        exact ho _ (List.getElem_mem hi)
      · have e : ops.getD i zOp = zOp := by simp [List.getD_eq_getElem?_getD, List.getElem?_eq_none (Nat.le_of_not_lt hi)]
        rw [e]
        decide
    · exact ih
set_option maxHeartbeats 4000000 in
set_option maxRecDepth 100000 in
theorem fcrash_any (b g : Nat) (x : Nat → Prop) (vn vs vo : Value) (now safe : List Int) (ops : List FOp) (A : Option Addr) (n c : Nat) (kl : List Bool) (w : World) (h : FI w b g x vn vs vo now safe ops) (hk : Kd.bool.C w A n kl) (hsafe : safe.length ≤ 1048576) (hop : ∀ o ∈ ops, o.n ≤ 1048576 ∧ o.d.length ≤ 1048576) (hol : ops.length ≤ 2000000) :
    Calls Try.prog 36 #[.pointer (some ⟨g, 0, none⟩), .slice A n c] w fun e w' => ∃ g2 va vb, e = .returned (.pointer (some ⟨g2, 0, none⟩)) ∧ FI w' w.heap.size g2 (fun _ => True) va vb (.slice none 0 0) (crashF safe ops kl ops.length) (crashF safe ops kl ops.length) [] ∧ Below w.heap.size w w' := by
  obtain rfl : kl.length = n := hk.1
  have hkm := Kd.C_max hk
  obtain ⟨A1, c1, rfl, hc1, hC1⟩ := Kd.R_reads h.hs
  obtain ⟨A2, c2, rfl, hc2, hC2⟩ := Kd.R_reads h.ho
  have hc1' := (blk_cell h.hb 1).trans (rfl : _ = some (Value.slice A1 safe.length c1))
  have hc2' := (blk_cell h.hb 2).trans (rfl : _ = some (Value.slice A2 ops.length c2))
  have HK := Aside0.mk hk
  have HC1 := Aside0.mk hC1
  have HC2 := Aside0.mk hC2
  have HOP := Aside0.mk hop
  have HLEN := Aside0.mk (crashF_len safe ops kl hsafe (fun o ho => (hop o ho).1))
  clear h hk hC1 hC2 hop
  go_enter Try.func36, Try.ntmps36
  go_wp2
  go_loopg [5, 6, 7, 19] ops.length (fun q v5 v6 v7 v19 wr => ∃ (i N : Nat) (A5 : Option Addr) (c5 : Nat), v19 = .int .i64 (i : Int) ∧ v5 = .slice A5 N c5 ∧ N ≤ c5 ∧ i ≤ ops.length ∧ Aside0 (q = ops.length - i) ∧ Aside0 ((crashF safe ops kl i).length = N) ∧ Aside0 (Kd.C (Kd.int .u8) wr A5 N (crashF safe ops kl i)) ∧ Aside0 (Below w.heap.size w wr))
  case atStart => exact ⟨0, _, _, _, rfl, rfl, hc1, Nat.zero_le _, ⟨rfl⟩, ⟨rfl⟩, HC1, ⟨Below.refl _ _⟩⟩
  case round =>
    obtain ⟨i, N, A5, c5, rfl, rfl, hN, hi, hq, HN, HC, HB⟩ := hrel
    by_cases hlt : i < ops.length
    · obtain ⟨ad, A3, c3, e1, r1, r2, r3, hl3, r4⟩ := at_Op (Kd.C_below HC2.out HB.out) i hlt
      subst e1
      obtain ⟨o, ho⟩ : ∃ o, o = ops.getD i zOp := ⟨_, rfl⟩
      rw [← ho] at r1 r2 r3 hl3 r4
      have hoo := HOP.out o (by rw [ho]; simp [List.getD_eq_getElem?_getD, hlt])
      have HSTEP := Aside0.mk (show crashF safe ops kl (i + 1) = if kl.getD i false then keepF (crashF safe ops kl i) o else crashF safe ops kl i by rw [ho]; rfl)
      have hNl : N ≤ 1048576 := by rw [← HN.out]; exact HLEN.out i
      obtain ⟨ho1, ho2⟩ := hoo
      have R4 := Aside0.mk r4
      clear ho r4
      by_cases hkl : i < kl.length
      · obtain ⟨ad2, e2, hkb0⟩ := at_bool HK.out i hkl
        subst e2
        have hkb := cell_al (.cells #[.bool o.sz, .int .i64 o.n, .slice A3 o.d.length c3] 141) (pw_cell_below HB.out hkb0)
        clear hkb0
        cases hb : kl.getD i false with
        | false =>
          rw [hb] at hkb HSTEP
          go_wp2_with fail
          go_roundg (ops.length - (i + 1))
          case measure => have := hq.out; omega
          case rel => exact ⟨i + 1, _, _, _, by go_num, rfl, hN, by omega, ⟨rfl⟩, ⟨by rw [HSTEP.out]; exact HN.out⟩, ⟨by rw [HSTEP.out]; exact Kd.C_alloc HC.out _⟩, ⟨below_alloc HB.out _⟩⟩
        | true =>
          rw [hb] at hkb HSTEP
          cases hs : o.sz with
          | false =>
            have HE := Aside0.mk (show crashF safe ops kl (i + 1) = setL (crashF safe ops kl i) o.n o.d by rw [HSTEP.out, if_pos rfl]; unfold keepF; rw [hs]; rfl)
            rw [hs] at r1 hkb
            go_wp2_with (go_at_call 25; refine (set_any A5 N c5 (crashF safe ops kl i) o.n A3 o.d.length c3 o.d _ (Kd.C_alloc HC.out _) (by omega) (Kd.C_alloc R4.out _) hl3 (by omega)).mono ?_; rintro e w3 ⟨A6, c6, rfl, hc6, hv, hb3⟩; have HV := Aside0.mk (C_own hv); have HB3 := Aside0.mk (below_step (below_alloc HB.out _) hb3); clear hv hb3)
            go_roundg (ops.length - (i + 1))
            case measure => have := hq.out; omega
            case rel => exact ⟨i + 1, N, _, _, by go_num, rfl, hc6, by omega, ⟨rfl⟩, ⟨by rw [HE.out, setL_length]; exact HN.out⟩, ⟨by rw [HE.out]; exact HV.out⟩, HB3⟩
          | true =>
            have HE := Aside0.mk (show crashF safe ops kl (i + 1) = sizeL (crashF safe ops kl i) o.n by rw [HSTEP.out, if_pos rfl]; unfold keepF; rw [hs]; rfl)
            rw [hs] at r1 hkb
            go_wp2_with (go_at_call 21; refine (size_any A5 N c5 (crashF safe ops kl i) o.n _ (Kd.C_alloc HC.out _) (by omega) (by omega)).mono ?_; rintro e w3 ⟨A6, c6, rfl, hc6, hv, hb3⟩; have HV := Aside0.mk (C_own hv); have HB3 := Aside0.mk (below_step (below_alloc HB.out _) hb3); clear hv hb3)
            go_roundg (ops.length - (i + 1))
            case measure => have := hq.out; omega
            case rel => exact ⟨i + 1, o.n.toNat, _, _, by go_num, rfl, by first | exact hc6 | omega, by omega, ⟨rfl⟩, ⟨by rw [HE.out, sizeL_length]⟩, ⟨by rw [HE.out]; exact HV.out⟩, HB3⟩
      · have hb : kl.getD i false = false := by simp [List.getD_eq_getElem?_getD, List.getElem?_eq_none (Nat.le_of_not_lt hkl)]
        rw [hb] at HSTEP
        go_wp2_with fail
        go_roundg (ops.length - (i + 1))
        case measure => have := hq.out; omega
        case rel => exact ⟨i + 1, _, _, _, by go_num, rfl, hN, by omega, ⟨rfl⟩, ⟨by rw [HSTEP.out]; exact HN.out⟩, ⟨by rw [HSTEP.out]; exact Kd.C_alloc HC.out _⟩, ⟨below_alloc HB.out _⟩⟩
    · obtain rfl : i = ops.length := by omega
      have hNl : N ≤ 1048576 := by rw [← HN.out]; exact HLEN.out _
      go_wp2_with (first
        | (go_at_call 86; refine (clone_bytes A5 N c5 (crashF safe ops kl ops.length) _ HC.out (by omega)).mono ?_; rintro e w3 ⟨A6, c6, rfl, hc6, hv, hb3⟩; have HV := Aside0.mk hv; have HC3 := Aside0.mk (Kd.C_below HC.out hb3); have HB3 := Aside0.mk (below_step HB.out hb3); have HS3 := Aside0.mk (below_size HB.out); clear HC HB hv hb3)
        | (go_at_call 86; refine (clone_bytes A5 N c5 (crashF safe ops kl ops.length) _ HC3.out (by omega)).mono ?_; rintro e w4 ⟨A7, c7, rfl, hc7, hv, hb4⟩; have HV4 := Aside0.mk hv; have HV3 := Aside0.mk (Kd.R_below HV.out hb4); have HB4 := Aside0.mk (below_step HB3.out hb4); have HS4 := Aside0.mk (below_size HB3.out); clear HC3 hv hb4))
      go_ret
      exact ⟨_, _, _, rfl, ⟨blk_new _ _, Kd.R_alloc (Kd.R_lower HV3.out HS3.out) _, Kd.R_alloc (Kd.R_lower HV4.out HS4.out) _, Kd.R_nil _ _ _ _ _, below_size HB4.out⟩, below_alloc HB4.out _⟩
end Go.Proofs.Ytpnbjpkdbiiogaa
