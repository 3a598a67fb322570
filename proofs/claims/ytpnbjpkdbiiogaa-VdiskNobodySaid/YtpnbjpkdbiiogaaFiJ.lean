/- The reference's file: Crash. -/
import Derived.Test.YtpnbjpkdbiiogaaFiI
namespace Go.Proofs.Ytpnbjpkdbiiogaa
set_option linter.unusedVariables false
open Go.RowKit Go.Proofs.YtpnbjpkdbiiogaaW.PrintWords
attribute [local go_sem] mx2 mn2 mxTwo mnTwo

set_option maxHeartbeats 4000000 in
set_option maxRecDepth 100000 in
theorem rcrash_any (b g : Nat) (vn vs vo : Value) (now safe : List Int) (ops : List FOp) (A : Option Addr) (n c : Nat) (kl : List Bool) (f : Nat) (w : World) (h : RF w b g vn vs vo now safe ops) (hk : Kd.bool.C w A n kl) (hf : f ≤ 1099511627776) (hsafe : safe.length ≤ 1048576) (hop : ∀ o ∈ ops, o.n ≤ 1048576 ∧ o.d.length ≤ 1048576) (hol : ops.length ≤ 2000000) :
    Calls Try.prog 90 #[.pointer (some ⟨g, 0, none⟩), .slice A n c, .int .i64 (f : Int)] w fun e w' => ∃ g2 va vb, e = .returned (.pointer (some ⟨g2, 0, none⟩)) ∧ RF w' w.heap.size g2 va vb (.slice none 0 0) (crashF safe ops (kl.drop f) ops.length) (crashF safe ops (kl.drop f) ops.length) [] ∧ Below w.heap.size w w' := by
  obtain rfl : kl.length = n := hk.1
  have hkm := Kd.C_max hk
  obtain ⟨A1, c1, rfl, hc1, hC1⟩ := Kd.R_reads h.hs
  obtain ⟨A2, c2, rfl, hc2, hC2⟩ := Kd.R_reads h.ho
  have hbA := blk_alloc h.hb (.cells #[] 5)
  have hc1' := (blk_cell hbA 1).trans (rfl : _ = some (Value.slice A1 safe.length c1))
  have hc2' := (blk_cell h.hb 2).trans (rfl : _ = some (Value.slice A2 ops.length c2))
  have HC2' := Aside0.mk hc2'
  have HK := Aside0.mk hk
  have HC1 := Aside0.mk hC1
  have HC2 := Aside0.mk hC2
  have HOP := Aside0.mk hop
  have HLEN := Aside0.mk (crashF_len safe ops (kl.drop f) hsafe (fun o ho => (hop o ho).1))
  clear h hk hC1 hC2 hop hbA hc2'
  go_enter Try.func90, Try.ntmps90
  go_wp2_with (at_builtin; refine Kd.R_append_rows (Kd.int .u8) (Rr := (Kd.int .u8).K w) (w0 := w) w.heap.size rfl (.tmp 9) (.tmp 13) 22 5 (.int .u8 0) 1 rfl Try.underlying22 infoU8 rfl (by decide) (by omega) _ [] safe A1 safe.length c1 (fun _ => True) (fun _ => False) rfl rfl (R_empty _ _ _ _ _ trivial) (Kd.C_alloc HC1.out _) (fun _ _ h => h) (fun _ h => h.elim) (fun _ _ => trivial) (below_alloc (Below.refl _ _) _) (by simp) (by simp; omega) ?_; intro v1 w1 h1 hb1 _ _; rw [List.nil_append] at h1; obtain ⟨A3, c3, rfl, hc3, _⟩ := Kd.R_reads h1; have H1 := Aside0.mk h1; have HB1 := Aside0.mk hb1; clear h1 hb1)
  go_loopg [7, 8] ops.length (fun q v7 v8 wr => ∃ (i N : Nat) (A5 : Option Addr) (c5 : Nat), v8 = .int .i64 (i : Int) ∧ v7 = .slice A5 N c5 ∧ N ≤ c5 ∧ i ≤ ops.length ∧ Aside0 (q = ops.length - i) ∧ Aside0 ((crashF safe ops (kl.drop f) i).length = N) ∧ Aside0 (Kd.R (Kd.int .u8) 5 wr w.heap.size (fun _ => True) (.slice A5 N c5) (crashF safe ops (kl.drop f) i)) ∧ Aside0 (Below w.heap.size w wr))
  case atStart => exact ⟨0, _, _, _, rfl, rfl, hc3, Nat.zero_le _, ⟨rfl⟩, ⟨rfl⟩, H1, HB1⟩
  case round =>
    clear H1 HB1
    obtain ⟨i, N, A5, c5, rfl, rfl, hN, hi, hq, HN, HC, HB⟩ := hrel
    have s2 := pw_cell_below HB.out HC2'.out
    have hNl : N ≤ 1048576 := by rw [← HN.out]; exact HLEN.out _
    by_cases hlt : i < ops.length
    · obtain ⟨ad, A6, c6, e1, r1, r2, r3, hl3, r4⟩ := at_Op (Kd.C_below HC2.out HB.out) i hlt
      subst e1
      obtain ⟨o, ho⟩ : ∃ o, o = ops.getD i zOp := ⟨_, rfl⟩
      rw [← ho] at r1 r2 r3 hl3 r4
      have hoo := HOP.out o (by rw [ho]; simp [List.getD_eq_getElem?_getD, hlt])
      have hgd : (kl.drop f).getD i false = kl.getD (f + i) false := by rw [List.getD_eq_getElem?_getD, List.getElem?_drop, List.getD_eq_getElem?_getD]
      have HSTEP := Aside0.mk (show crashF safe ops (kl.drop f) (i + 1) = if kl.getD (f + i) false then keepF (crashF safe ops (kl.drop f) i) o else crashF safe ops (kl.drop f) i by rw [ho, ← hgd]; rfl)
      obtain ⟨ho1, ho2⟩ := hoo
      have R4 := Aside0.mk r4
      clear ho r4 hgd
      by_cases hkl : f + i < kl.length
      · obtain ⟨ad2, e2, hkb0⟩ := at_bool HK.out (f + i) hkl
        subst e2
        have hkb := pw_cell_below HB.out hkb0
        clear hkb0
        cases hb : kl.getD (f + i) false with
        | false =>
          rw [hb] at hkb HSTEP
          go_wp2_with fail
          go_roundg (ops.length - (i + 1))
          case measure => have := hq.out; omega
          case rel => exact ⟨i + 1, _, _, _, by go_num, rfl, hN, by omega, ⟨rfl⟩, ⟨by rw [HSTEP.out]; exact HN.out⟩, ⟨by rw [HSTEP.out]; exact HC.out⟩, HB⟩
        | true =>
          rw [hb] at hkb HSTEP
          cases hs : o.sz with
          | false =>
            have HE := Aside0.mk (show crashF safe ops (kl.drop f) (i + 1) = setL (crashF safe ops (kl.drop f) i) o.n o.d by rw [HSTEP.out, if_pos rfl]; unfold keepF; rw [hs]; rfl)
            rw [hs] at r1
            go_wp2_with fail
            go_region_held3 (fun w' => w'.cell? ⟨g, 2, none⟩ = some (.slice (some ad) ops.length c2) ∧ w'.cell? ⟨(ad.add (i * 3)).block, (ad.add (i * 3)).off + 1, none⟩ = some (.int .i64 o.n) ∧ w'.cell? ⟨(ad.add (i * 3)).block, (ad.add (i * 3)).off + 2, none⟩ = some (.slice A6 o.d.length c6)) (first | with_reducible exact ⟨s2, r2, r3⟩ | exact ⟨s2, r2, r3⟩) (first
              | (go_at_call 26; refine (rset_any A5 N c5 (crashF safe ops (kl.drop f) i) o.n A6 o.d.length c6 o.d _ (C_own (Kd.R_drew HC.out)) (by omega) (Kd.C_drew R4.out)).mono ?_; rintro e w3 ⟨A7, c7, rfl, hc7, hv, hb3⟩; replace s2 := pw_cell_below hb3 s2; replace r2 := pw_cell_below hb3 r2; replace r3 := pw_cell_below hb3 r3; have HV := Aside0.mk (Kd.R_lower hv (below_size (below_drew1 HB.out))); have HB3 := Aside0.mk (below_step (below_drew1 HB.out) hb3); clear hv hb3))
            all_goals
              go_wp2_with fail
              go_roundg (ops.length - (i + 1))
              case measure => have := hq.out; omega
              case rel => exact ⟨i + 1, N, _, _, by go_num, rfl, hc7, by omega, ⟨rfl⟩, ⟨by rw [HE.out, setL_length]; exact HN.out⟩, ⟨by rw [HE.out]; exact HV.out⟩, HB3⟩
          | true =>
            have HE := Aside0.mk (show crashF safe ops (kl.drop f) (i + 1) = sizeL (crashF safe ops (kl.drop f) i) o.n by rw [HSTEP.out, if_pos rfl]; unfold keepF; rw [hs]; rfl)
            rw [hs] at r1
            go_wp2_with (go_at_call 22; refine (rsize_any A5 N c5 (crashF safe ops (kl.drop f) i) o.n _ (C_own HC.out) (by omega) (by omega)).mono ?_; rintro e w3 ⟨A7, c7, rfl, hc7, hv, hb3⟩; have HV := Aside0.mk (Kd.R_lower hv (below_size HB.out)); have HB3 := Aside0.mk (below_step HB.out hb3); clear hv hb3)
            go_roundg (ops.length - (i + 1))
            case measure => have := hq.out; omega
            case rel => exact ⟨i + 1, o.n.toNat, _, _, by go_num, rfl, by first | exact hc7 | omega, by omega, ⟨rfl⟩, ⟨by rw [HE.out, sizeL_length]⟩, ⟨by rw [HE.out]; exact HV.out⟩, HB3⟩
      · have hb : kl.getD (f + i) false = false := by simp [List.getD_eq_getElem?_getD, List.getElem?_eq_none (Nat.le_of_not_lt hkl)]
        rw [hb] at HSTEP
        go_wp2_with fail
        go_roundg (ops.length - (i + 1))
        case measure => have := hq.out; omega
        case rel => exact ⟨i + 1, _, _, _, by go_num, rfl, hN, by omega, ⟨rfl⟩, ⟨by rw [HSTEP.out]; exact HN.out⟩, ⟨by rw [HSTEP.out]; exact HC.out⟩, HB⟩
    · obtain rfl : i = ops.length := by omega
      have hlen : N = (crashF safe ops (kl.drop f) ops.length).length := HN.out.symm
      have HLN := Aside0.mk hlen
      clear hlen
      go_wp2_with (at_builtin; refine Kd.R_append_rows (Kd.int .u8) (Rr := (Kd.int .u8).K wr) (w0 := wr) wr.heap.size rfl (.tmp 76) (.tmp 77) 22 5 (.int .u8 0) 1 rfl Try.underlying22 infoU8 rfl (by decide) (by omega) _ [] (crashF safe ops (kl.drop f) ops.length) A5 N c5 (fun _ => True) (fun _ => False) rfl rfl (R_empty _ _ _ _ _ trivial) (Kd.C_alloc (C_own HC.out) _) (fun _ _ h => h) (fun _ h => h.elim) (fun _ _ => trivial) (below_alloc (Below.refl _ _) _) (by simp) (by simp; omega) ?_; intro v3 w3 h3 hb3 _ _; rw [List.nil_append] at h3; obtain ⟨A8, c8, rfl, hc8, _⟩ := Kd.R_reads h3; have H3 := Aside0.mk h3; have HB3 := Aside0.mk hb3; clear h3 hb3)
      go_ret
      have hn9 := Kd.R_below HC.out HB3.out
      have hb9 := below_step HB.out HB3.out
      have hs9 : Kd.R (Kd.int .u8) 5 w3 w.heap.size (fun k => some k ≠ (Value.slice A5 N c5).ownBlock) (.slice A8 (crashF safe ops (kl.drop f) ops.length).length c8) (crashF safe ops (kl.drop f) ops.length) := freshU H3.out (below_size HB.out) (fun k hk e => by have := R_lt HC.out k e.symm; omega)
      exact ⟨_, _, _, rfl, ⟨blk_new _ _, Kd.R_alloc hn9 _, Kd.R_alloc hs9 _, Kd.R_nil _ _ _ _ _, below_size hb9⟩, below_alloc hb9 _⟩
end Go.Proofs.Ytpnbjpkdbiiogaa
