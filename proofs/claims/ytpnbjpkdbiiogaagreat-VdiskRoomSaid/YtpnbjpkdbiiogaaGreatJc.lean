/- The reference's file: Crash. -/
import Derived.Test.YtpnbjpkdbiiogaaGreatJb
import Derived.WalkLawsBesides
namespace Go.Proofs.YtpnbjpkdbiiogaaGreat
set_option linter.unusedVariables false
open Go.RowKit Go.Proofs.YtpnbjpkdbiiogaaGreatW.PrintWords
attribute [local go_sem] mx2 mn2 mxTwo mnTwo

set_option maxHeartbeats 4000000 in
set_option maxRecDepth 100000 in
theorem rcrash_any (b g : Nat) (vn vs vo : Value) (now safe : List Int) (ops : List FOp) (A : Option Addr) (n c : Nat) (kl : List Bool) (f : Nat) (w : World) (h : RF w b g vn vs vo now safe ops) (hk : Kd.bool.C w A n kl) (hf : f ≤ 1099511627776) (hsafe : safe.length ≤ 1048576) (hop : ∀ o ∈ ops, o.n ≤ 1048576 ∧ o.d.length ≤ 1048576) (hol : ops.length ≤ 2000000) :
    Calls Tryz.prog 73 #[.pointer (some ⟨g, 0, none⟩), .slice A n c, .int .i64 (f : Int)] w fun e w' => ∃ g2 va vb, e = .returned (.pointer (some ⟨g2, 0, none⟩)) ∧ RF w' w.heap.size g2 va vb (.slice none 0 0) (crashF safe ops (kl.drop f) ops.length) (crashF safe ops (kl.drop f) ops.length) [] ∧ Below w.heap.size w w' := by
  obtain rfl : kl.length = n := hk.1
  have hkm := Kd.C_max hk
  obtain ⟨A1, c1, rfl, hc1, hC1⟩ := Kd.R_reads h.hs
  obtain ⟨A2, c2, rfl, hc2, hC2⟩ := Kd.R_reads h.ho
  have hbA := blk_alloc h.hb (.cells #[] 5)
  have hc1' := (blk_cell hbA 1).trans (rfl : _ = some (Value.slice A1 safe.length c1))
  have hc2' := (blk_cell h.hb 2).trans (rfl : _ = some (Value.slice A2 ops.length c2))
  have HC2' := Aside0.mk hc2'
  have HK := Aside0.mk hk
  have HC1 := Aside0.mk hC1
  have HC2 := Aside0.mk hC2
  have HOP := Aside0.mk hop
  have HLEN := Aside0.mk (crashF_len safe ops (kl.drop f) hsafe (fun o ho => (hop o ho).1))
  clear h hk hC1 hC2 hop hbA hc2'
  go_enter Tryz.func73, Tryz.ntmps73
  go_wp2_with (at_builtin; refine Kd.R_append_rows (Kd.int .u8) (Rr := (Kd.int .u8).K w) (w0 := w) w.heap.size rfl (.tmp 9) (.tmp 13) 30 5 (.int .u8 0) 1 rfl Tryz.underlying30 infoU8 rfl (by decide) (by omega) _ [] safe A1 safe.length c1 (fun _ => True) (fun _ => False) rfl rfl (R_empty _ _ _ _ _ trivial) (Kd.C_alloc HC1.out _) (fun _ _ h => h) (fun _ h => h.elim) (fun _ _ => trivial) (below_alloc (Below.refl _ _) _) (by simp) (by simp; omega) ?_; intro v1 w1 h1 hb1 _ _; rw [List.nil_append] at h1; obtain ⟨A3, c3, rfl, hc3, _⟩ := Kd.R_reads h1; have H1 := Aside0.mk h1; have HB1 := Aside0.mk hb1; clear h1 hb1)
  go_loopg [7, 8] ops.length (fun q v7 v8 wr => ∃ (i N : Nat) (A5 : Option Addr) (c5 : Nat), v8 = .int .i64 (i : Int) ∧ v7 = .slice A5 N c5 ∧ N ≤ c5 ∧ i ≤ ops.length ∧ Aside0 (q = ops.length - i) ∧ Aside0 ((crashF safe ops (kl.drop f) i).length = N) ∧ Aside0 (Kd.R (Kd.int .u8) 5 wr w.heap.size (fun _ => True) (.slice A5 N c5) (crashF safe ops (kl.drop f) i)) ∧ Aside0 (Below w.heap.size w wr))
  case atStart => exact ⟨0, _, _, _, rfl, rfl, hc3, Nat.zero_le _, ⟨rfl⟩, ⟨rfl⟩, H1, HB1⟩
  case round =>
    clear H1 HB1
    obtain ⟨i, N, A5, c5, rfl, rfl, hN, hi, hq, HN, HC, HB⟩ := hrel
    have s2 := pw_cell_below HB.out HC2'.out
    have hNl : N ≤ 1048576 := by rw [← HN.out]; exact HLEN.out _
    by_cases hlt : i < ops.length
    · obtain ⟨ad, A6, c6, e1, r1, r2, r3, hl3, r4⟩ := at_Op (Kd.C_below HC2.out HB.out) i hlt
      subst e1
      obtain ⟨o, ho⟩ : ∃ o, o = ops.getD i zOp := ⟨_, rfl⟩
      rw [← ho] at r1 r2 r3 hl3 r4
      have hoo := HOP.out o (by rw [ho]; simp [List.getD_eq_getElem?_getD, hlt])
      have hgd : (kl.drop f).getD i false = kl.getD (f + i) false := by rw [List.getD_eq_getElem?_getD, List.getElem?_drop, List.getD_eq_getElem?_getD]
      have HSTEP := Aside0.mk (show crashF safe ops (kl.drop f) (i + 1) = if kl.getD (f + i) false then keepF (crashF safe ops (kl.drop f) i) o else crashF safe ops (kl.drop f) i by rw [ho, ← hgd]; rfl)
      obtain ⟨ho1, ho2⟩ := hoo
      have R4 := Aside0.mk r4
      clear ho r4 hgd
      by_cases hkl : f + i < kl.length
      · obtain ⟨ad2, e2, hkb0⟩ := at_bool HK.out (f + i) hkl
        subst e2
        have hkb := pw_cell_below HB.out hkb0
        clear hkb0
        cases hb : kl.getD (f + i) false with
        | false =>
          rw [hb] at hkb HSTEP
          go_wp2_with fail
          go_roundg (ops.length - (i + 1))
          case measure => have := hq.out; omega
          case rel => exact ⟨i + 1, _, _, _, by go_num, rfl, hN, by omega, ⟨rfl⟩, ⟨by rw [HSTEP.out]; exact HN.out⟩, ⟨by rw [HSTEP.out]; exact HC.out⟩, HB⟩
        | true =>
          rw [hb] at hkb HSTEP
          cases hs : o.sz with
          | false =>
            have HE := Aside0.mk (show crashF safe ops (kl.drop f) (i + 1) = setL (crashF safe ops (kl.drop f) i) o.n o.d by rw [HSTEP.out, if_pos rfl]; unfold keepF; rw [hs]; rfl)
            rw [hs] at r1
            go_wp2_with fail
            go_region_held3 (fun w' => w'.cell? ⟨g, 2, none⟩ = some (.slice (some ad) ops.length c2) ∧ w'.cell? ⟨(ad.add (i * 3)).block, (ad.add (i * 3)).off + 1, none⟩ = some (.int .i64 o.n) ∧ w'.cell? ⟨(ad.add (i * 3)).block, (ad.add (i * 3)).off + 2, none⟩ = some (.slice A6 o.d.length c6)) (first | with_reducible exact ⟨s2, r2, r3⟩ | exact ⟨s2, r2, r3⟩) (first
              | (go_at_call 97; refine (rset_any A5 N c5 (crashF safe ops (kl.drop f) i) o.n A6 o.d.length c6 o.d _ (C_own (Kd.R_drew HC.out)) (by omega) (Kd.C_drew R4.out)).mono ?_; rintro e w3 ⟨A7, c7, rfl, hc7, hv, hb3⟩; replace s2 := pw_cell_below hb3 s2; replace r2 := pw_cell_below hb3 r2; replace r3 := pw_cell_below hb3 r3; have HV := Aside0.mk (Kd.R_lower hv (below_size (below_drew1 HB.out))); have HB3 := Aside0.mk (below_step (below_drew1 HB.out) hb3); clear hv hb3))
            all_goals
              go_wp2_with fail
              go_roundg (ops.length - (i + 1))
              case measure => have := hq.out; omega
              case rel => exact ⟨i + 1, N, _, _, by go_num, rfl, hc7, by omega, ⟨rfl⟩, ⟨by rw [HE.out, setL_length]; exact HN.out⟩, ⟨by rw [HE.out]; exact HV.out⟩, HB3⟩
          | true =>
            have HE := Aside0.mk (show crashF safe ops (kl.drop f) (i + 1) = sizeL (crashF safe ops (kl.drop f) i) o.n by rw [HSTEP.out, if_pos rfl]; unfold keepF; rw [hs]; rfl)
            rw [hs] at r1
            go_wp2_with (go_at_call 95; refine (rsize_any A5 N c5 (crashF safe ops (kl.drop f) i) o.n _ (C_own HC.out) (by omega) (by omega)).mono ?_; rintro e w3 ⟨A7, c7, rfl, hc7, hv, hb3⟩; have HV := Aside0.mk (Kd.R_lower hv (below_size HB.out)); have HB3 := Aside0.mk (below_step HB.out hb3); clear hv hb3)
            go_roundg (ops.length - (i + 1))
            case measure => have := hq.out; omega
            case rel => exact ⟨i + 1, o.n.toNat, _, _, by go_num, rfl, by first | exact hc7 | omega, by omega, ⟨rfl⟩, ⟨by rw [HE.out, sizeL_length]⟩, ⟨by rw [HE.out]; exact HV.out⟩, HB3⟩
      · have hb : kl.getD (f + i) false = false := by simp [List.getD_eq_getElem?_getD, List.getElem?_eq_none (Nat.le_of_not_lt hkl)]
        rw [hb] at HSTEP
        go_wp2_with fail
        go_roundg (ops.length - (i + 1))
        case measure => have := hq.out; omega
        case rel => exact ⟨i + 1, _, _, _, by go_num, rfl, hN, by omega, ⟨rfl⟩, ⟨by rw [HSTEP.out]; exact HN.out⟩, ⟨by rw [HSTEP.out]; exact HC.out⟩, HB⟩
    · obtain rfl : i = ops.length := by omega
      have hlen : N = (crashF safe ops (kl.drop f) ops.length).length := HN.out.symm
      have HLN := Aside0.mk hlen
      clear hlen
      go_wp2_with (at_builtin; refine Kd.R_append_rows (Kd.int .u8) (Rr := (Kd.int .u8).K wr) (w0 := wr) wr.heap.size rfl (.tmp 76) (.tmp 77) 30 5 (.int .u8 0) 1 rfl Tryz.underlying30 infoU8 rfl (by decide) (by omega) _ [] (crashF safe ops (kl.drop f) ops.length) A5 N c5 (fun _ => True) (fun _ => False) rfl rfl (R_empty _ _ _ _ _ trivial) (Kd.C_alloc (C_own HC.out) _) (fun _ _ h => h) (fun _ h => h.elim) (fun _ _ => trivial) (below_alloc (Below.refl _ _) _) (by simp) (by simp; omega) ?_; intro v3 w3 h3 hb3 _ _; rw [List.nil_append] at h3; obtain ⟨A8, c8, rfl, hc8, _⟩ := Kd.R_reads h3; have H3 := Aside0.mk h3; have HB3 := Aside0.mk hb3; clear h3 hb3)
      go_ret
      have hn9 := Kd.R_below HC.out HB3.out
      have hb9 := below_step HB.out HB3.out
      have hs9 : Kd.R (Kd.int .u8) 5 w3 w.heap.size (fun k => some k ≠ (Value.slice A5 N c5).ownBlock) (.slice A8 (crashF safe ops (kl.drop f) ops.length).length c8) (crashF safe ops (kl.drop f) ops.length) := freshU H3.out (below_size HB.out) (fun k hk e => by have := R_lt HC.out k e.symm; omega)
      exact ⟨_, _, _, rfl, ⟨blk_new _ _, Kd.R_alloc hn9 _, Kd.R_alloc hs9 _, Kd.R_nil _ _ _ _ _, below_size hb9⟩, below_alloc hb9 _⟩
end Go.Proofs.YtpnbjpkdbiiogaaGreat
/- The reference's file: what holds in Write. -/
namespace Go.Proofs.YtpnbjpkdbiiogaaGreat
set_option linter.unusedVariables false
open Go.RowKit Go.Proofs.YtpnbjpkdbiiogaaGreatW.PrintWords

/-- All but a block and two rows stay. -/
def Keep3 (w w' : World) (g : Nat) (r1 r2 : Option Nat) : Prop := w.heap.size ≤ w'.heap.size ∧ ∀ i, i < w.heap.size → i ≠ g → some i ≠ r1 → some i ≠ r2 → w'.heap[i]? = w.heap[i]?
theorem Keep3.refl (w : World) (g : Nat) (r1 r2 : Option Nat) : Keep3 w w g r1 r2 := ⟨Nat.le_refl _, fun _ _ _ _ _ => rfl⟩
theorem Keep3.step {w W W' : World} {g : Nat} {r1 r2 q1 q2 : Option Nat} (h : Keep3 w W g r1 r2) (hs : W.heap.size ≤ W'.heap.size) (hm : ∀ i, i < W.heap.size → i ≠ g → some i ≠ q1 → some i ≠ q2 → W'.heap[i]? = W.heap[i]?) (h1 : q1 = r1 ∨ q1 = none ∨ ∃ k, q1 = some k ∧ w.heap.size ≤ k) (h2 : q2 = r2 ∨ q2 = none ∨ ∃ k, q2 = some k ∧ w.heap.size ≤ k) : Keep3 w W' g r1 r2 := by
  refine ⟨Nat.le_trans h.1 hs, fun i hi hg e1 e2 => (hm i (Nat.lt_of_lt_of_le hi h.1) hg ?_ ?_).trans (h.2 i hi hg e1 e2)⟩
  · rcases h1 with rfl | rfl | ⟨k, rfl, hk⟩
    · exact e1
    · simp
    · intro e; injection e with e; omega
  · rcases h2 with rfl | rfl | ⟨k, rfl, hk⟩
    · exact e2
    · simp
    · intro e; injection e with e; omega
theorem RF.store {W : World} {b g gN n c : Nat} {vs vo : Value} {now safe : List Int} {ops : List FOp} (h : RF W b g (.slice (some ⟨gN, 0, none⟩) n c) vs vo now safe ops) (j : Nat) (x : Int) : RF (W.setCell ⟨gN, j, none⟩ (.int .u8 x)) b g (.slice (some ⟨gN, 0, none⟩) n c) vs vo (now.set j x) safe ops := by
  have hne : g ≠ gN := fun e => by
    have := Kd.R_ne h.hn h.hb (by omega)
    exact this (by rw [e]; rfl)
  have hk : ∀ k, some k ≠ (Value.slice (some ⟨gN, 0, none⟩) n c).ownBlock → k ≠ gN := fun k hk e => hk (by rw [e]; rfl)
  exact ⟨blk_far h.hb (p := ⟨gN, j, none⟩) hne _, R_putN h.hn j x, Kd.R_far h.hs (p := ⟨gN, j, none⟩) hk _, Kd.R_far h.ho (p := ⟨gN, j, none⟩) hk _, h.hg⟩
structure RW (w : World) (b g : Nat) (v0 u0 : Value) (gN n c : Nat) (W : World) (vs vo : Value) (now safe : List Int) (ops : List FOp) : Prop where
  f : RF W b g (.slice (some ⟨gN, 0, none⟩) n c) vs vo now safe ops
  k : Keep3 w W g v0.ownBlock u0.ownBlock
  v : some gN = v0.ownBlock ∨ w.heap.size ≤ gN
  u : vo.ownBlock = u0.ownBlock ∨ ∃ k, vo.ownBlock = some k ∧ w.heap.size ≤ k
  l : Below b w W
section
variable {w W W1 : World} {b g gN n c : Nat} {v0 u0 vs vo v1 : Value} {now safe : List Int} {ops : List FOp} {o : FOp}
theorem RW.below (h : RW w b g v0 u0 gN n c W vs vo now safe ops) (hb : Below W.heap.size W W1) : RW w b g v0 u0 gN n c W1 vs vo now safe ops :=
  ⟨h.f.below hb, h.k.step (q1 := none) (q2 := none) hb.size (fun i hi _ _ _ => hb.block i hi) (.inr (.inl rfl)) (.inr (.inl rfl)), h.v, h.u, h.l.trans (hb.mono (Nat.le_trans h.f.hg (Nat.le_of_lt (blk_lt h.f.hb))))⟩
theorem RW.store (h : RW w b g v0 u0 gN n c W vs vo now safe ops) (j : Nat) (x : Int) : RW w b g v0 u0 gN n c (W.setCell ⟨gN, j, none⟩ (.int .u8 x)) vs vo (now.set j x) safe ops := by
  refine ⟨h.f.store j x, h.k.step (q1 := some gN) (q2 := none) (by simp) (fun i hi _ h1 _ => Below.heap_setCell W ⟨gN, j, none⟩ _ i (fun e => h1 (by rw [e]))) ?_ (.inr (.inl rfl)), h.v, h.u, h.l.setCell (p := ⟨gN, j, none⟩) (Kd.R_base h.f.hn gN rfl) _⟩
  rcases h.v with e | e
  · exact .inl e
  · exact .inr (.inr ⟨gN, rfl, e⟩)
theorem RW.addOp (h : RW w b g v0 u0 gN n c W vs vo now safe ops) (ho : Kd.R kOp 142 W1 b (fun k => some k ≠ (Value.slice (some ⟨gN, 0, none⟩) n c).ownBlock) v1 (ops ++ [o])) (hg : W.grownBy W1 vo.ownBlock) (hl : Below b W W1) (hat : v1.ownBlock = vo.ownBlock ∨ ∃ k, v1.ownBlock = some k ∧ W.heap.size ≤ k) : RW w b g v0 u0 gN n c (W1.setCell ⟨g, 2, none⟩ v1) vs v1 now safe (ops ++ [o]) := by
  refine ⟨h.f.addOp ho hg, h.k.step (q1 := none) (q2 := vo.ownBlock) (by simp; exact hg.size) (fun i hi hne _ h2 => (Below.heap_setCell W1 ⟨g, 2, none⟩ v1 i hne).trans (hg.block i hi h2)) (.inr (.inl rfl)) ?_, h.v, ?_, (h.l.trans hl).setCell (p := ⟨g, 2, none⟩) h.f.hg _⟩
  · rcases h.u with e | e
    · exact .inl e
    · exact .inr (.inr e)
  · rcases hat with e | ⟨k, e, hk⟩
    · rw [e]; exact h.u
    · exact .inr ⟨k, e, Nat.le_trans h.k.1 hk⟩
end
end Go.Proofs.YtpnbjpkdbiiogaaGreat
/- The reference's file: the walk of Write. -/
namespace Go.Proofs.YtpnbjpkdbiiogaaGreat
set_option linter.unusedVariables false
open Go.RowKit Go.Proofs.YtpnbjpkdbiiogaaGreatW.PrintWords
attribute [local go_sem] mx2 mn2 mxTwo mnTwo

theorem rwrite_bad (g : Nat) (k : Int) (A : Option Addr) (n c : Nat) (w : World) (hn : n ≤ 9223372036854775807) (hk : k < 0 ∨ 0 ≤ k ∧ 1048576 < k ∨ 0 ≤ k ∧ k ≤ 1048576 ∧ 1048576 - k < n) : Calls Tryz.prog 65 #[.pointer (some ⟨g, 0, none⟩), .int .i64 k, .slice A n c] w fun e w' => e = .returned (.int .i64 1) ∧ w' = w := by
  rcases hk with hk | ⟨hk, hk2⟩ | ⟨hk, hk2, hk3⟩
  · go_enter Tryz.func65, Tryz.ntmps65
    go_wp2
    go_ret
    exact ⟨rfl, rfl⟩
  · go_enter Tryz.func65, Tryz.ntmps65
    go_wp2
    go_ret
    exact ⟨rfl, rfl⟩
  · go_enter Tryz.func65, Tryz.ntmps65
    go_wp2
    go_ret
    exact ⟨rfl, rfl⟩
set_option maxHeartbeats 4000000 in
set_option maxRecDepth 100000 in
theorem rwrite_any (b g : Nat) (vn vs vo : Value) (now safe : List Int) (ops : List FOp) (k : Nat) (A : Option Addr) (n c : Nat) (l : List Int) (w : World) (h : RF w b g vn vs vo now safe ops)
    (hl : l.length = n) (hst : ∀ W', Keep3 w W' g vn.ownBlock vo.ownBlock → Below b w W' → Kd.C (Kd.int .u8) W' A n l) (hk : k ≤ 1048576) (hn : n + k ≤ 1048576) (hnow : now.length ≤ 1048576) (hops : ops.length ≤ 500000) :
    Calls Tryz.prog 65 #[.pointer (some ⟨g, 0, none⟩), .int .i64 (k : Int), .slice A n c] w fun e w' => e = .returned (.int .i64 0) ∧ ∃ vn' vo', RF w' b g vn' vs vo' (writeF (now, ops) k l).1 safe (writeF (now, ops) k l).2 ∧ (vn'.ownBlock = vn.ownBlock ∨ vn'.ownBlock = none ∨ ∃ k, vn'.ownBlock = some k ∧ w.heap.size ≤ k) ∧ Keep3 w w' g vn.ownBlock vo.ownBlock ∧ Below b w w' := by
  subst hl
  have hbw : b ≤ w.heap.size := Nat.le_trans h.hg (Nat.le_of_lt (blk_lt h.hb))
  obtain ⟨A1, c1, hvn⟩ := Kd.R_slice h.hn
  obtain ⟨A2, c2, hvo⟩ := Kd.R_slice h.ho
  have hC := C_own (hvn ▸ h.hn : Kd.R (Kd.int .u8) 5 w b (fun _ => True) (.slice A1 now.length c1) now)
  have hc0 := (blk_cell h.hb 0).trans (rfl : _ = some vn)
  rw [hvn] at hc0
  have HC := Aside0.mk hC
  have HST := Aside0.mk hst
  have HVN := Aside0.mk hvn
  have HVO := Aside0.mk hvo
  have H := Aside0.mk h
  clear h hst hvn hvo hC
  by_cases hgrow : 0 < l.length ∧ now.length < k + l.length
  · obtain ⟨hg1, hg2⟩ := hgrow
    go_enter Tryz.func65, Tryz.ntmps65
    go_wp2_with (first
      | (go_at_call 95; refine (rsize_any A1 now.length c1 now ((k : Int) + (l.length : Int)) _ HC.out (by omega) (by omega)).mono ?_; rintro e w1 ⟨A3, c3, hEE, hc3, hv, hb1⟩; rw [show ((k : Int) + (l.length : Int)).toNat = k + l.length by omega] at hEE hc3 hv; rw [show ((k : Int) + (l.length : Int)) = ((k + l.length : Nat) : Int) by omega] at hv; subst hEE; have hbk := blk_below H.out.hb hb1; have k0 := (blk_cell hbk 0).trans (rfl : _ = some vn); have k2 := (blk_cell hbk 2).trans (rfl : _ = some vo); rw [HVN.out] at k0; rw [HVO.out] at k2; have f0 := blk_frozen hbk 0; have f2 := blk_frozen hbk 2; obtain ⟨gN, cN, hE, hgNb, _, _⟩ := Kd.R_form hv (by rw [sizeL_length]; omega); rw [sizeL_length, Int.toNat_natCast] at hE; cases hE; have HNW := Aside0.mk (H.out.setNow hb1 hv); have HVB := Aside0.mk (Kd.R_base hv); have HVL := Aside0.mk (R_lt hv); have HB := Aside0.mk hb1; clear hv hb1 hbk)
      | (at_builtin; refine Kd.R_append kOp (w0 := _) b rfl (.tmp 53) (.tmp 59) 58 142 (.agg #[(.bool false), (.int .i64 0), (.slice none 0 0)]) 40 rfl Tryz.underlying58 infoRop rfl (by decide) (by omega) (.slice A2 ops.length c2) ops ⟨true, (k : Int) + (l.length : Int), []⟩ [.bool true, .int .i64 ((k : Int) + (l.length : Int)), .slice none 0 0] (fun q => some q ≠ (Value.slice (some ⟨gN, 0, none⟩) (k + l.length) c3).ownBlock) (fun _ => False) rfl (congrArg (fun s => Value.slice (some ⟨s, 0, none⟩) 1 1) (setsz w1 ⟨g, 0, none⟩ (.slice (some ⟨gN, 0, none⟩) (k + l.length) c3)).symm) (kOp_mkM _ _ _ ⟨true, (k : Int) + (l.length : Int), []⟩ (Kd.R_nil _ _ _ _ _)) (fun _ h => h.elim) (fun q hq e => absurd (HVL.out q e.symm) (by rw [setsz] at hq; omega)) (HVO.out ▸ HNW.out.ho) (Below.refl _ _) (Nat.le_trans hbw (by simpa using HB.out.size)) (by omega) ?_; intro v2 w2 ho2 hbl2 hgr2 hat2; obtain ⟨g2, c4, e4, _, _, _⟩ := Kd.R_form ho2 (by simp); rw [List.length_append, List.length_singleton] at e4; subst e4; rw [← HVO.out] at hgr2 hat2; have hb2 := blk_grown HNW.out.hb hgr2 (Kd.R_ne HNW.out.ho HNW.out.hb (by omega)); have k2' := (blk_cell hb2 2).trans (rfl : _ = some vo); rw [HVO.out] at k2'; have f2' := blk_frozen hb2 2; have HF := Aside0.mk (HNW.out.addOp ho2 hgr2); have HBL := Aside0.mk hbl2; have HGR := Aside0.mk hgr2; have HAT := Aside0.mk hat2; clear hb2 ho2 hbl2 hgr2 hat2))
    obtain ⟨W5, hW5⟩ : ∃ W5, W5 = w2.setCell ⟨g, 2, none⟩ (.slice (some ⟨g2, 0, none⟩) (ops.length + 1) c4) := ⟨_, rfl⟩
    have hk1 := (Keep3.refl w g vn.ownBlock vo.ownBlock).step (q1 := none) (q2 := none) (W' := w1) HB.out.size (fun i hi _ _ _ => HB.out.block i hi) (.inr (.inl rfl)) (.inr (.inl rfl))
    have hk2 := hk1.step (q1 := none) (q2 := none) (W' := w1.setCell ⟨g, 0, none⟩ (.slice (some ⟨gN, 0, none⟩) (k + l.length) c3)) (by simp) (fun i hi hg _ _ => Below.heap_setCell _ ⟨g, 0, none⟩ _ i hg) (.inr (.inl rfl)) (.inr (.inl rfl))
    have hk3 := hk2.step (q1 := none) (q2 := vo.ownBlock) (W' := w2) HGR.out.size (fun i hi _ _ h2 => HGR.out.block i hi h2) (.inr (.inl rfl)) (.inl rfl)
    have hk4 := hk3.step (q1 := none) (q2 := none) (W' := W5) (by rw [hW5, setsz]; exact Nat.le_refl _) (fun i hi hg _ _ => by rw [hW5]; exact Below.heap_setCell _ ⟨g, 2, none⟩ _ i hg) (.inr (.inl rfl)) (.inr (.inl rfl))
    have hl4 : Below b w W5 := by rw [hW5]; exact (((HB.out.mono hbw).setCell (p := ⟨g, 0, none⟩) H.out.hg _).trans HBL.out).setCell (p := ⟨g, 2, none⟩) H.out.hg _
    have hf5 := HF.out
    rw [← hW5, show (k : Int) + (l.length : Int) = ((k + l.length : Nat) : Int) by omega] at hf5
    rw [← hW5]
    clear hW5
    obtain ⟨N1, hN1⟩ : ∃ N1, N1 = sizeL now ((k + l.length : Nat) : Int) := ⟨_, rfl⟩
    obtain ⟨O1, hO1⟩ : ∃ O1, O1 = (ops ++ [⟨true, ((k + l.length : Nat) : Int), []⟩] : List FOp) := ⟨_, rfl⟩
    have hlN : N1.length = k + l.length := by rw [hN1, sizeL_length]; omega
    have hGW : growF (now, ops) k l.length = (N1, O1) := by unfold growF; rw [if_pos ⟨hg1, hg2⟩, hN1, hO1]
    have hn2 : O1.length ≤ 500001 := by rw [hO1, List.length_append, List.length_singleton]; omega
    rw [← hN1, ← hO1, ← hlN] at hf5
    have HW := Aside0.mk (RW.mk (v0 := vn) (u0 := vo) hf5 hk4 (.inr hgNb) (by
      rcases HAT.out with e | ⟨q, e, hq⟩
      · exact .inl e
      · exact .inr ⟨q, e, Nat.le_trans HB.out.size (by rw [setsz] at hq; exact hq)⟩) hl4)
    have HGW := Aside0.mk hGW
    have hroom : k + l.length ≤ N1.length := by omega
    have hn1 : N1.length ≤ 1048576 := by omega
    have HLN := Aside0.mk hlN
    clear hN1 hO1 hlN hGW hf5 hk1 hk2 hk3 hk4 hl4 HF HGR HAT HBL HB HNW HVB HVL k0 k2 f0 f2 k2' f2' hg2
    go_loopg [7, 8] l.length (fun q v7 v8 wr => ∃ (i : Nat) (vo' : Value) (now' : List Int) (ops' : List FOp), v7 = .int .i64 (i : Int) ∧ i ≤ l.length ∧ Aside0 (q = l.length - i) ∧ ops'.length ≤ 500001 + i ∧ Aside0 ((pieces (k + i) (l.drop i)).foldl putF (now', ops') = (pieces k l).foldl putF (N1, O1)) ∧ Aside0 (now' = overlay N1 k (l.take i)) ∧ Aside0 (RW w b g vn vo gN (N1).length c3 wr vs vo' now' safe ops'))
    case atStart => exact ⟨0, _, _, _, rfl, Nat.zero_le _, ⟨rfl⟩, hn2, ⟨rfl⟩, ⟨by rw [List.take_zero, overlay_nil]⟩, HW⟩
    case round =>
      clear HW hn2
      obtain ⟨i, vo', now', ops', rfl, hi, hq, hlo, HF, HN, HW⟩ := hrel
      by_cases hlt : i < l.length
      · obtain ⟨m, hm⟩ : ∃ m, m = min (64 - (k + i) % 64) (l.length - i) := ⟨_, rfl⟩
        have hm1 : 0 < m := by omega
        have hm2 : i + m ≤ l.length := by omega
        have hm3 : (k + i) % 64 + m ≤ 64 := by omega
        have hm4 : m = 64 - (k + i) % 64 ∨ m = l.length - i := by omega
        have HM := Aside0.mk hm
        clear hm
        go_wp2_with fail
        obtain ⟨wo, rfl⟩ : ∃ wo : World, wo = wr := ⟨_, rfl⟩
        have hlN1 : now'.length = (N1).length := by rw [HN.out, overlay_length (by omega)]
        go_loopg [7] m (fun q2 v7 wr2 => ∃ (p : Nat) (now2 : List Int), v7 = .int .i64 (p : Int) ∧ i ≤ p ∧ p ≤ i + m ∧ Aside0 (q2 = i + m - p) ∧ Aside0 (now2 = overlay now' (k + i) ((l.drop i).take (p - i))) ∧ Aside0 (RW w b g vn vo gN (N1).length c3 wr2 vs vo' now2 safe ops'))
        case atStart => exact ⟨i, now', rfl, Nat.le_refl _, Nat.le_add_right _ _, ⟨by omega⟩, ⟨by rw [Nat.sub_self, List.take_zero, overlay_nil]⟩, HW⟩
        case round =>
          clear HW
          obtain ⟨p, now2, rfl, hip, hpm, hq2, HN2, HW⟩ := hrel
          have hl2 : now2.length = (N1).length := by rw [HN2.out, overlay_length (by omega), hlN1]
          have s0 := (blk_cell HW.out.f.hb 0).trans (rfl : _ = some (Value.slice (some ⟨gN, 0, none⟩) (N1).length c3))
          by_cases hpm2 : p < i + m
          · have hpl : p < l.length := by omega
            have hpk : k + p < (N1).length := by omega
            have e1 : (((k : Int) + (p : Int)) / 64 == ((k : Int) + (i : Int)) / 64) = true := by rw [beq_iff_eq]; omega
            obtain ⟨ad, rfl, hx⟩ := at_nat (HST.out _ HW.out.k HW.out.l) p hpl
            obtain ⟨hc1', hc2'⟩ := R_cellN HW.out.f.hn (k + p) hpk
            have hset := HW.out.store (k + p) (rd l (p : Int))
            have hov := overlay_step (x := now') (y := l.drop i) (k := k + i) (i := p - i) (by omega) (by rw [List.length_drop]; omega)
            rw [show k + i + (p - i) = k + p by omega, show rd (l.drop i) ((p - i : Nat) : Int) = rd l (p : Int) by (unfold rd; rw [Int.toNat_natCast, Int.toNat_natCast, List.getD_eq_getElem?_getD, List.getD_eq_getElem?_getD, List.getElem?_drop, show i + (p - i) = p by omega]), ← HN2.out, show p - i + 1 = p + 1 - i by omega] at hov
            rw [← hov] at hset
            obtain ⟨x, hx2⟩ : ∃ x, x = rd l (p : Int) := ⟨_, rfl⟩
            rw [← hx2] at hset hx
            have HSET := Aside0.mk hset
            clear hset hx2 hov HW
            go_wp2_with fail
            go_region
            all_goals
              go_wp2_with fail
              go_roundg (i + m - (p + 1))
              case measure => have := hq2.out; omega
              case rel => exact ⟨p + 1, _, by go_num, by omega, by omega, ⟨rfl⟩, ⟨rfl⟩, ⟨HSET.out.below (below_drew1 (Below.refl _ _))⟩⟩
          · have hpE : p = i + m := by omega
            have hpi : p - i = m := by omega
            have hp1 : i < p := by omega
            have hp2 : p ≤ l.length := by omega
            rw [hpi] at HN2
            have hdl : ((l.drop i).take m).length = m := by rw [List.length_take, List.length_drop]; omega
            have hput := putF_at now' ops' (k + i) ((l.drop i).take m) (by rw [hdl]; omega) (by rw [hdl]; omega) (by omega)
            rw [← HN2.out, Int.natCast_add] at hput
            have hstep := pieces_step (k + i) (l.drop i) m (by rw [List.length_drop]; exact HM.out) (by rw [List.length_drop]; omega)
            rw [Int.natCast_add] at hstep
            have hF2 : (pieces (k + p) (l.drop p)).foldl putF (now2, ops' ++ [⟨false, ((k : Int) + (i : Int)) / 64, atL now2 (((k : Int) + (i : Int)) / 64)⟩]) = (pieces k l).foldl putF (N1, O1) := by
              rw [← HF.out, hstep, List.foldl_cons, hput, List.drop_drop, Nat.add_assoc, hpE]
            have hN2 : now2 = overlay N1 k (l.take p) := by
              rw [HN2.out, HN.out, hpE]
              have := overlay_two N1 (l.take (i + m)) k i (by rw [List.length_take]; omega) (by rw [List.length_take]; omega)
              rw [List.take_take, Nat.min_eq_left (by omega), List.drop_take, Nat.add_sub_cancel_left] at this
              exact this
            have HF2 := Aside0.mk hF2
            have HNN := Aside0.mk hN2
            obtain ⟨A11, c11, hvo⟩ := Kd.R_slice HW.out.f.ho
            have s2 := (blk_cell HW.out.f.hb 2).trans (rfl : _ = some vo')
            rw [hvo] at s2
            have z2 := blk_frozen HW.out.f.hb 2
            have hoA : Kd.R kOp 142 wr b (fun q => some q ≠ (Value.slice (some ⟨gN, 0, none⟩) (N1).length c3).ownBlock) (.slice A11 ops'.length c11) ops' := hvo ▸ HW.out.f.ho
            have HOA := Aside0.mk hoA
            have HFR := Aside0.mk (show ∀ q, wr.heap.size ≤ q → some q ≠ (Value.slice (some ⟨gN, 0, none⟩) (N1).length c3).ownBlock ∧ some q ≠ (Value.slice A11 ops'.length c11).ownBlock from fun q hq => ⟨fun e => by have := R_lt HW.out.f.hn q e.symm; omega, fun e => by have := R_lt hoA q e.symm; omega⟩)
            have HG0 := Aside0.mk (Kd.R_ne hoA HW.out.f.hb (by omega))
            have HBS := Aside0.mk (show b ≤ wr.heap.size from Nat.le_trans HW.out.f.hg (Nat.le_of_lt (blk_lt HW.out.f.hb)))
            have HVO2 := Aside0.mk hvo
            clear hput hstep hF2 hN2 hvo HF HN2 hoA hpi
            by_cases hend : p < l.length
            · have e2 : (((k : Int) + (p : Int)) / 64 == ((k : Int) + (i : Int)) / 64) = false := by rw [beq_eq_false_iff_ne]; omega
              clear hpE
              go_wp2_with fail
              go_region_law (first
                | (go_simp; go_at_call 96; refine (rat_any (some ⟨gN, 0, none⟩) (N1).length c3 now2 (((k : Int) + (i : Int)) / 64) _ (Kd.C_drew (C_own HW.out.f.hn)) (by omega)).mono ?_; rintro e w5 ⟨g5, c5, rfl, hc5, hg5, hv, hb⟩; replace s0 := pw_cell_below hb s0; replace s2 := pw_cell_below hb s2; have hw5 := (HW.out.below (below_drew1 (Below.refl _ _))).below hb; have z5 := blk_frozen hw5.f.hb 2; have s2a := cell_al (.cells #[.bool false, .int .i64 (((k : Int) + (i : Int)) / 64), .slice (some ⟨g5, 0, none⟩) 64 c5] 142) s2; have hd := freshU hv HBS.out (x := fun q => some q ≠ (Value.slice (some ⟨gN, 0, none⟩) (N1).length c3).ownBlock ∧ some q ≠ (Value.slice A11 ops'.length c11).ownBlock) (fun q hq => HFR.out q hq); have ho5 := Kd.R_below (Kd.R_drew HOA.out) hb; have hz5 := hb.size; have HD := Aside0.mk hd; have HO5 := Aside0.mk ho5; have HZ5 := Aside0.mk hz5; clear HW; have HW := Aside0.mk hw5; clear hv hb hw5 hd ho5 hz5)
                | ((refine Kd.R_append_step kOp (W := w5) (w0 := w5) b (by rfl) (.tmp 101) (.tmp 110) 58 142 (.agg #[(.bool false), (.int .i64 0), (.slice none 0 0)]) 40 rfl Tryz.underlying58 infoRop rfl (by decide) (by omega) (.slice A11 ops'.length c11) ops' ⟨false, ((k : Int) + (i : Int)) / 64, atL now2 (((k : Int) + (i : Int)) / 64)⟩ [.bool false, .int .i64 (((k : Int) + (i : Int)) / 64), .slice (some ⟨g5, 0, none⟩) 64 c5] (fun q => some q ≠ (Value.slice (some ⟨gN, 0, none⟩) (N1).length c3).ownBlock) (fun q => some q ≠ (Value.slice (some ⟨gN, 0, none⟩) (N1).length c3).ownBlock ∧ some q ≠ (Value.slice A11 ops'.length c11).ownBlock) (by rfl) (by rfl) (kOp_mkM _ _ _ ⟨false, ((k : Int) + (i : Int)) / 64, atL now2 (((k : Int) + (i : Int)) / 64)⟩ HD.out) (fun q hq => hq) (fun q hq => (HFR.out q (Nat.le_trans HZ5.out hq)).1) HO5.out (Below.refl _ _) (Nat.le_trans HBS.out HZ5.out) (by omega) ?_); intro v7 w7 ho7 hl7 hg7 hat7; obtain ⟨g7, c7', e7, _, _, _⟩ := Kd.R_form ho7 (by simp); rw [List.length_append, List.length_singleton] at e7; subst e7; have hb7 := blk_grown HW.out.f.hb hg7 HG0.out; have s7 := (blk_cell hb7 2).trans (rfl : _ = some vo'); rw [HVO2.out] at s7; have z7 := blk_frozen hb7 2; have HO7 := Aside0.mk ho7; have HL7 := Aside0.mk hl7; have HG7 := Aside0.mk hg7; have HAT7 := Aside0.mk hat7; clear ho7 hl7 hg7 hat7 hb7))
              all_goals
                go_wp2_with fail
                go_roundg (l.length - p)
                case measure => have := hq.out; omega
                case rel =>
                  have hg7 := HG7.out
                  have hat7 := HAT7.out
                  rw [← HVO2.out] at hg7 hat7
                  have hfin := HW.out.addOp HO7.out hg7 HL7.out hat7
                  exact ⟨p, _, _, _, rfl, hp2, ⟨rfl⟩, by rw [List.length_append, List.length_singleton]; omega, HF2, HNN, ⟨hfin⟩⟩
            · clear hpE
              go_wp2_with fail
              go_region_law (first
                | (go_simp; go_at_call 96; refine (rat_any (some ⟨gN, 0, none⟩) (N1).length c3 now2 (((k : Int) + (i : Int)) / 64) _ (Kd.C_drew (C_own HW.out.f.hn)) (by omega)).mono ?_; rintro e w5 ⟨g5, c5, rfl, hc5, hg5, hv, hb⟩; replace s0 := pw_cell_below hb s0; replace s2 := pw_cell_below hb s2; have hw5 := (HW.out.below (below_drew1 (Below.refl _ _))).below hb; have z5 := blk_frozen hw5.f.hb 2; have s2a := cell_al (.cells #[.bool false, .int .i64 (((k : Int) + (i : Int)) / 64), .slice (some ⟨g5, 0, none⟩) 64 c5] 142) s2; have hd := freshU hv HBS.out (x := fun q => some q ≠ (Value.slice (some ⟨gN, 0, none⟩) (N1).length c3).ownBlock ∧ some q ≠ (Value.slice A11 ops'.length c11).ownBlock) (fun q hq => HFR.out q hq); have ho5 := Kd.R_below (Kd.R_drew HOA.out) hb; have hz5 := hb.size; have HD := Aside0.mk hd; have HO5 := Aside0.mk ho5; have HZ5 := Aside0.mk hz5; clear HW; have HW := Aside0.mk hw5; clear hv hb hw5 hd ho5 hz5)
                | ((refine Kd.R_append_step kOp (W := w5) (w0 := w5) b (by rfl) (.tmp 101) (.tmp 110) 58 142 (.agg #[(.bool false), (.int .i64 0), (.slice none 0 0)]) 40 rfl Tryz.underlying58 infoRop rfl (by decide) (by omega) (.slice A11 ops'.length c11) ops' ⟨false, ((k : Int) + (i : Int)) / 64, atL now2 (((k : Int) + (i : Int)) / 64)⟩ [.bool false, .int .i64 (((k : Int) + (i : Int)) / 64), .slice (some ⟨g5, 0, none⟩) 64 c5] (fun q => some q ≠ (Value.slice (some ⟨gN, 0, none⟩) (N1).length c3).ownBlock) (fun q => some q ≠ (Value.slice (some ⟨gN, 0, none⟩) (N1).length c3).ownBlock ∧ some q ≠ (Value.slice A11 ops'.length c11).ownBlock) (by rfl) (by rfl) (kOp_mkM _ _ _ ⟨false, ((k : Int) + (i : Int)) / 64, atL now2 (((k : Int) + (i : Int)) / 64)⟩ HD.out) (fun q hq => hq) (fun q hq => (HFR.out q (Nat.le_trans HZ5.out hq)).1) HO5.out (Below.refl _ _) (Nat.le_trans HBS.out HZ5.out) (by omega) ?_); intro v7 w7 ho7 hl7 hg7 hat7; obtain ⟨g7, c7', e7, _, _, _⟩ := Kd.R_form ho7 (by simp); rw [List.length_append, List.length_singleton] at e7; subst e7; have hb7 := blk_grown HW.out.f.hb hg7 HG0.out; have s7 := (blk_cell hb7 2).trans (rfl : _ = some vo'); rw [HVO2.out] at s7; have z7 := blk_frozen hb7 2; have HO7 := Aside0.mk ho7; have HL7 := Aside0.mk hl7; have HG7 := Aside0.mk hg7; have HAT7 := Aside0.mk hat7; clear ho7 hl7 hg7 hat7 hb7))
              all_goals
                go_wp2_with fail
                go_roundg (l.length - p)
                case measure => have := hq.out; omega
                case rel =>
                  have hg7 := HG7.out
                  have hat7 := HAT7.out
                  rw [← HVO2.out] at hg7 hat7
                  have hfin := HW.out.addOp HO7.out hg7 HL7.out hat7
                  exact ⟨p, _, _, _, rfl, hp2, ⟨rfl⟩, by rw [List.length_append, List.length_singleton]; omega, HF2, HNN, ⟨hfin⟩⟩
      · obtain rfl : i = l.length := by omega
        go_wp2_with fail
        go_ret
        have e : writeF (now, ops) k l = (now', ops') := by
          unfold writeF
          rw [HGW.out, ← HF.out, List.drop_length, pieces_nil]
          rfl
        rw [e]
        refine ⟨rfl, _, _, HW.out.f, ?_, HW.out.k, HW.out.l⟩
        rcases HW.out.v with h | h
        · exact .inl h
        · exact .inr (.inr ⟨_, rfl, h⟩)
  · have hgw : growF (now, ops) k l.length = (now, ops) := by unfold growF; rw [if_neg hgrow]
    have HGW := Aside0.mk hgw
    clear hgw
    by_cases h0 : 0 < l.length
    · have hroom : k + l.length ≤ now.length := by
        have hng : now.length < k + l.length → False := fun h => hgrow ⟨h0, h⟩
        omega
      have hn1 := hnow
      have hn2 : ops.length ≤ 500001 := by omega
      have h2 := H.out
      obtain ⟨gN, cN, hE, hgNb, _, _⟩ := Kd.R_form h2.hn (by omega)
      have hvE : vn = .slice (some ⟨gN, 0, none⟩) now.length cN := hE
      rw [hvE] at h2 ⊢
      rw [hvE] at HST
      have HW := Aside0.mk (RW.mk (v0 := .slice (some ⟨gN, 0, none⟩) now.length cN) (u0 := vo) h2 (Keep3.refl _ _ _ _) (.inl rfl) (.inl rfl) (Below.refl _ _))
      have hc2 := (blk_cell h2.hb 0).trans (rfl : _ = some (Value.slice (some ⟨gN, 0, none⟩) now.length cN))
      clear hgrow h2 HC hc0 hE hvE H HVN
      go_enter Tryz.func65, Tryz.ntmps65
      go_wp2_with fail
      go_loopg [7, 8] l.length (fun q v7 v8 wr => ∃ (i : Nat) (vo' : Value) (now' : List Int) (ops' : List FOp), v7 = .int .i64 (i : Int) ∧ i ≤ l.length ∧ Aside0 (q = l.length - i) ∧ ops'.length ≤ 500001 + i ∧ Aside0 ((pieces (k + i) (l.drop i)).foldl putF (now', ops') = (pieces k l).foldl putF (now, ops)) ∧ Aside0 (now' = overlay now k (l.take i)) ∧ Aside0 (RW w b g (.slice (some ⟨gN, 0, none⟩) now.length cN) vo gN (now).length cN wr vs vo' now' safe ops'))
      case atStart => exact ⟨0, _, _, _, rfl, Nat.zero_le _, ⟨rfl⟩, hn2, ⟨rfl⟩, ⟨by rw [List.take_zero, overlay_nil]⟩, HW⟩
      case round =>
        clear HW hn2
        obtain ⟨i, vo', now', ops', rfl, hi, hq, hlo, HF, HN, HW⟩ := hrel
        by_cases hlt : i < l.length
        · obtain ⟨m, hm⟩ : ∃ m, m = min (64 - (k + i) % 64) (l.length - i) := ⟨_, rfl⟩
          have hm1 : 0 < m := by omega
          have hm2 : i + m ≤ l.length := by omega
          have hm3 : (k + i) % 64 + m ≤ 64 := by omega
          have hm4 : m = 64 - (k + i) % 64 ∨ m = l.length - i := by omega
          have HM := Aside0.mk hm
          clear hm
          go_wp2_with fail
          obtain ⟨wo, rfl⟩ : ∃ wo : World, wo = wr := ⟨_, rfl⟩
          have hlN1 : now'.length = (now).length := by rw [HN.out, overlay_length (by omega)]
          go_loopg [7] m (fun q2 v7 wr2 => ∃ (p : Nat) (now2 : List Int), v7 = .int .i64 (p : Int) ∧ i ≤ p ∧ p ≤ i + m ∧ Aside0 (q2 = i + m - p) ∧ Aside0 (now2 = overlay now' (k + i) ((l.drop i).take (p - i))) ∧ Aside0 (RW w b g (.slice (some ⟨gN, 0, none⟩) now.length cN) vo gN (now).length cN wr2 vs vo' now2 safe ops'))
          case atStart => exact ⟨i, now', rfl, Nat.le_refl _, Nat.le_add_right _ _, ⟨by omega⟩, ⟨by rw [Nat.sub_self, List.take_zero, overlay_nil]⟩, HW⟩
          case round =>
            clear HW
            obtain ⟨p, now2, rfl, hip, hpm, hq2, HN2, HW⟩ := hrel
            have hl2 : now2.length = (now).length := by rw [HN2.out, overlay_length (by omega), hlN1]
            have s0 := (blk_cell HW.out.f.hb 0).trans (rfl : _ = some (Value.slice (some ⟨gN, 0, none⟩) (now).length cN))
            by_cases hpm2 : p < i + m
            · have hpl : p < l.length := by omega
              have hpk : k + p < (now).length := by omega
              have e1 : (((k : Int) + (p : Int)) / 64 == ((k : Int) + (i : Int)) / 64) = true := by rw [beq_iff_eq]; omega
              obtain ⟨ad, rfl, hx⟩ := at_nat (HST.out _ HW.out.k HW.out.l) p hpl
              obtain ⟨hc1', hc2'⟩ := R_cellN HW.out.f.hn (k + p) hpk
              have hset := HW.out.store (k + p) (rd l (p : Int))
              have hov := overlay_step (x := now') (y := l.drop i) (k := k + i) (i := p - i) (by omega) (by rw [List.length_drop]; omega)
              rw [show k + i + (p - i) = k + p by omega, show rd (l.drop i) ((p - i : Nat) : Int) = rd l (p : Int) by (unfold rd; rw [Int.toNat_natCast, Int.toNat_natCast, List.getD_eq_getElem?_getD, List.getD_eq_getElem?_getD, List.getElem?_drop, show i + (p - i) = p by omega]), ← HN2.out, show p - i + 1 = p + 1 - i by omega] at hov
              rw [← hov] at hset
              obtain ⟨x, hx2⟩ : ∃ x, x = rd l (p : Int) := ⟨_, rfl⟩
              rw [← hx2] at hset hx
              have HSET := Aside0.mk hset
              clear hset hx2 hov HW
              go_wp2_with fail
              go_region
              all_goals
                go_wp2_with fail
                go_roundg (i + m - (p + 1))
                case measure => have := hq2.out; omega
                case rel => exact ⟨p + 1, _, by go_num, by omega, by omega, ⟨rfl⟩, ⟨rfl⟩, ⟨HSET.out.below (below_drew1 (Below.refl _ _))⟩⟩
            · have hpE : p = i + m := by omega
              have hpi : p - i = m := by omega
              have hp1 : i < p := by omega
              have hp2 : p ≤ l.length := by omega
              rw [hpi] at HN2
              have hdl : ((l.drop i).take m).length = m := by rw [List.length_take, List.length_drop]; omega
              have hput := putF_at now' ops' (k + i) ((l.drop i).take m) (by rw [hdl]; omega) (by rw [hdl]; omega) (by omega)
              rw [← HN2.out, Int.natCast_add] at hput
              have hstep := pieces_step (k + i) (l.drop i) m (by rw [List.length_drop]; exact HM.out) (by rw [List.length_drop]; omega)
              rw [Int.natCast_add] at hstep
              have hF2 : (pieces (k + p) (l.drop p)).foldl putF (now2, ops' ++ [⟨false, ((k : Int) + (i : Int)) / 64, atL now2 (((k : Int) + (i : Int)) / 64)⟩]) = (pieces k l).foldl putF (now, ops) := by
                rw [← HF.out, hstep, List.foldl_cons, hput, List.drop_drop, Nat.add_assoc, hpE]
              have hN2 : now2 = overlay now k (l.take p) := by
                rw [HN2.out, HN.out, hpE]
                have := overlay_two now (l.take (i + m)) k i (by rw [List.length_take]; omega) (by rw [List.length_take]; omega)
                rw [List.take_take, Nat.min_eq_left (by omega), List.drop_take, Nat.add_sub_cancel_left] at this
                exact this
              have HF2 := Aside0.mk hF2
              have HNN := Aside0.mk hN2
              obtain ⟨A11, c11, hvo⟩ := Kd.R_slice HW.out.f.ho
              have s2 := (blk_cell HW.out.f.hb 2).trans (rfl : _ = some vo')
              rw [hvo] at s2
              have z2 := blk_frozen HW.out.f.hb 2
              have hoA : Kd.R kOp 142 wr b (fun q => some q ≠ (Value.slice (some ⟨gN, 0, none⟩) (now).length cN).ownBlock) (.slice A11 ops'.length c11) ops' := hvo ▸ HW.out.f.ho
              have HOA := Aside0.mk hoA
              have HFR := Aside0.mk (show ∀ q, wr.heap.size ≤ q → some q ≠ (Value.slice (some ⟨gN, 0, none⟩) (now).length cN).ownBlock ∧ some q ≠ (Value.slice A11 ops'.length c11).ownBlock from fun q hq => ⟨fun e => by have := R_lt HW.out.f.hn q e.symm; omega, fun e => by have := R_lt hoA q e.symm; omega⟩)
              have HG0 := Aside0.mk (Kd.R_ne hoA HW.out.f.hb (by omega))
              have HBS := Aside0.mk (show b ≤ wr.heap.size from Nat.le_trans HW.out.f.hg (Nat.le_of_lt (blk_lt HW.out.f.hb)))
              have HVO2 := Aside0.mk hvo
              clear hput hstep hF2 hN2 hvo HF HN2 hoA hpi
              by_cases hend : p < l.length
              · have e2 : (((k : Int) + (p : Int)) / 64 == ((k : Int) + (i : Int)) / 64) = false := by rw [beq_eq_false_iff_ne]; omega
                clear hpE
                go_wp2_with fail
                go_region_law (first
                  | (go_simp; go_at_call 96; refine (rat_any (some ⟨gN, 0, none⟩) (now).length cN now2 (((k : Int) + (i : Int)) / 64) _ (Kd.C_drew (C_own HW.out.f.hn)) (by omega)).mono ?_; rintro e w5 ⟨g5, c5, rfl, hc5, hg5, hv, hb⟩; replace s0 := pw_cell_below hb s0; replace s2 := pw_cell_below hb s2; have hw5 := (HW.out.below (below_drew1 (Below.refl _ _))).below hb; have z5 := blk_frozen hw5.f.hb 2; have s2a := cell_al (.cells #[.bool false, .int .i64 (((k : Int) + (i : Int)) / 64), .slice (some ⟨g5, 0, none⟩) 64 c5] 142) s2; have hd := freshU hv HBS.out (x := fun q => some q ≠ (Value.slice (some ⟨gN, 0, none⟩) (now).length cN).ownBlock ∧ some q ≠ (Value.slice A11 ops'.length c11).ownBlock) (fun q hq => HFR.out q hq); have ho5 := Kd.R_below (Kd.R_drew HOA.out) hb; have hz5 := hb.size; have HD := Aside0.mk hd; have HO5 := Aside0.mk ho5; have HZ5 := Aside0.mk hz5; clear HW; have HW := Aside0.mk hw5; clear hv hb hw5 hd ho5 hz5)
                  | ((refine Kd.R_append_step kOp (W := w5) (w0 := w5) b (by rfl) (.tmp 101) (.tmp 110) 58 142 (.agg #[(.bool false), (.int .i64 0), (.slice none 0 0)]) 40 rfl Tryz.underlying58 infoRop rfl (by decide) (by omega) (.slice A11 ops'.length c11) ops' ⟨false, ((k : Int) + (i : Int)) / 64, atL now2 (((k : Int) + (i : Int)) / 64)⟩ [.bool false, .int .i64 (((k : Int) + (i : Int)) / 64), .slice (some ⟨g5, 0, none⟩) 64 c5] (fun q => some q ≠ (Value.slice (some ⟨gN, 0, none⟩) (now).length cN).ownBlock) (fun q => some q ≠ (Value.slice (some ⟨gN, 0, none⟩) (now).length cN).ownBlock ∧ some q ≠ (Value.slice A11 ops'.length c11).ownBlock) (by rfl) (by rfl) (kOp_mkM _ _ _ ⟨false, ((k : Int) + (i : Int)) / 64, atL now2 (((k : Int) + (i : Int)) / 64)⟩ HD.out) (fun q hq => hq) (fun q hq => (HFR.out q (Nat.le_trans HZ5.out hq)).1) HO5.out (Below.refl _ _) (Nat.le_trans HBS.out HZ5.out) (by omega) ?_); intro v7 w7 ho7 hl7 hg7 hat7; obtain ⟨g7, c7', e7, _, _, _⟩ := Kd.R_form ho7 (by simp); rw [List.length_append, List.length_singleton] at e7; subst e7; have hb7 := blk_grown HW.out.f.hb hg7 HG0.out; have s7 := (blk_cell hb7 2).trans (rfl : _ = some vo'); rw [HVO2.out] at s7; have z7 := blk_frozen hb7 2; have HO7 := Aside0.mk ho7; have HL7 := Aside0.mk hl7; have HG7 := Aside0.mk hg7; have HAT7 := Aside0.mk hat7; clear ho7 hl7 hg7 hat7 hb7))
                all_goals
                  go_wp2_with fail
                  go_roundg (l.length - p)
                  case measure => have := hq.out; omega
                  case rel =>
                    have hg7 := HG7.out
                    have hat7 := HAT7.out
                    rw [← HVO2.out] at hg7 hat7
                    have hfin := HW.out.addOp HO7.out hg7 HL7.out hat7
                    exact ⟨p, _, _, _, rfl, hp2, ⟨rfl⟩, by rw [List.length_append, List.length_singleton]; omega, HF2, HNN, ⟨hfin⟩⟩
              · clear hpE
                go_wp2_with fail
                go_region_law (first
                  | (go_simp; go_at_call 96; refine (rat_any (some ⟨gN, 0, none⟩) (now).length cN now2 (((k : Int) + (i : Int)) / 64) _ (Kd.C_drew (C_own HW.out.f.hn)) (by omega)).mono ?_; rintro e w5 ⟨g5, c5, rfl, hc5, hg5, hv, hb⟩; replace s0 := pw_cell_below hb s0; replace s2 := pw_cell_below hb s2; have hw5 := (HW.out.below (below_drew1 (Below.refl _ _))).below hb; have z5 := blk_frozen hw5.f.hb 2; have s2a := cell_al (.cells #[.bool false, .int .i64 (((k : Int) + (i : Int)) / 64), .slice (some ⟨g5, 0, none⟩) 64 c5] 142) s2; have hd := freshU hv HBS.out (x := fun q => some q ≠ (Value.slice (some ⟨gN, 0, none⟩) (now).length cN).ownBlock ∧ some q ≠ (Value.slice A11 ops'.length c11).ownBlock) (fun q hq => HFR.out q hq); have ho5 := Kd.R_below (Kd.R_drew HOA.out) hb; have hz5 := hb.size; have HD := Aside0.mk hd; have HO5 := Aside0.mk ho5; have HZ5 := Aside0.mk hz5; clear HW; have HW := Aside0.mk hw5; clear hv hb hw5 hd ho5 hz5)
                  | ((refine Kd.R_append_step kOp (W := w5) (w0 := w5) b (by rfl) (.tmp 101) (.tmp 110) 58 142 (.agg #[(.bool false), (.int .i64 0), (.slice none 0 0)]) 40 rfl Tryz.underlying58 infoRop rfl (by decide) (by omega) (.slice A11 ops'.length c11) ops' ⟨false, ((k : Int) + (i : Int)) / 64, atL now2 (((k : Int) + (i : Int)) / 64)⟩ [.bool false, .int .i64 (((k : Int) + (i : Int)) / 64), .slice (some ⟨g5, 0, none⟩) 64 c5] (fun q => some q ≠ (Value.slice (some ⟨gN, 0, none⟩) (now).length cN).ownBlock) (fun q => some q ≠ (Value.slice (some ⟨gN, 0, none⟩) (now).length cN).ownBlock ∧ some q ≠ (Value.slice A11 ops'.length c11).ownBlock) (by rfl) (by rfl) (kOp_mkM _ _ _ ⟨false, ((k : Int) + (i : Int)) / 64, atL now2 (((k : Int) + (i : Int)) / 64)⟩ HD.out) (fun q hq => hq) (fun q hq => (HFR.out q (Nat.le_trans HZ5.out hq)).1) HO5.out (Below.refl _ _) (Nat.le_trans HBS.out HZ5.out) (by omega) ?_); intro v7 w7 ho7 hl7 hg7 hat7; obtain ⟨g7, c7', e7, _, _, _⟩ := Kd.R_form ho7 (by simp); rw [List.length_append, List.length_singleton] at e7; subst e7; have hb7 := blk_grown HW.out.f.hb hg7 HG0.out; have s7 := (blk_cell hb7 2).trans (rfl : _ = some vo'); rw [HVO2.out] at s7; have z7 := blk_frozen hb7 2; have HO7 := Aside0.mk ho7; have HL7 := Aside0.mk hl7; have HG7 := Aside0.mk hg7; have HAT7 := Aside0.mk hat7; clear ho7 hl7 hg7 hat7 hb7))
                all_goals
                  go_wp2_with fail
                  go_roundg (l.length - p)
                  case measure => have := hq.out; omega
                  case rel =>
                    have hg7 := HG7.out
                    have hat7 := HAT7.out
                    rw [← HVO2.out] at hg7 hat7
                    have hfin := HW.out.addOp HO7.out hg7 HL7.out hat7
                    exact ⟨p, _, _, _, rfl, hp2, ⟨rfl⟩, by rw [List.length_append, List.length_singleton]; omega, HF2, HNN, ⟨hfin⟩⟩
        · obtain rfl : i = l.length := by omega
          go_wp2_with fail
          go_ret
          have e : writeF (now, ops) k l = (now', ops') := by
            unfold writeF
            rw [HGW.out, ← HF.out, List.drop_length, pieces_nil]
            rfl
          rw [e]
          refine ⟨rfl, _, _, HW.out.f, ?_, HW.out.k, HW.out.l⟩
          rcases HW.out.v with h | h
          · exact .inl h
          · exact .inr (.inr ⟨_, rfl, h⟩)
    · obtain rfl := List.eq_nil_of_length_eq_zero (show l.length = 0 by omega)
      have HWN := Aside0.mk (show writeF (now, ops) k [] = (now, ops) by unfold writeF; rw [pieces_nil]; exact HGW.out)
      clear hgrow h0
      go_enter Tryz.func65, Tryz.ntmps65
      go_wp2_with fail
      refine wp_loop_rounds 1 ?_
      rw [rounds_succ]
      go_wp2_with fail
      go_ret
      rw [HWN.out]
      exact ⟨rfl, _, _, H.out, .inl rfl, Keep3.refl _ _ _ _, Below.refl _ _⟩
end Go.Proofs.YtpnbjpkdbiiogaaGreat
/- Files: Copy. -/
namespace Go.Proofs.YtpnbjpkdbiiogaaGreat
set_option linter.unusedVariables false
open Go.RowKit Go.Proofs.YtpnbjpkdbiiogaaGreatW.PrintWords
attribute [local go_sem] mx2 mn2 mxTwo mnTwo

end Go.Proofs.YtpnbjpkdbiiogaaGreat
/- Files, the law's state: both files in memory; light. -/
namespace Go.Proofs.YtpnbjpkdbiiogaaGreat
set_option linter.unusedVariables false
open Go.RowKit Go.Proofs.YtpnbjpkdbiiogaaGreatW.PrintWords
attribute [local go_sem] mx2 mn2 mxTwo mnTwo

/-- A call of a statement on files. -/
structure FAct where
  kd : Int
  at_ : Int
  b : List Int
  keep : List Bool
def zAct : FAct := ⟨0, 0, [], []⟩
def kAct : Kd FAct := Kd.iso (Kd.pair (Kd.int .i64) (Kd.pair (Kd.int .i64) (Kd.pair (Kd.slice 5 (Kd.int .u8)) (Kd.slice 4 Kd.bool)))) (fun x : FAct => (x.kd, x.at_, x.b, x.keep))
theorem at_Act {w : World} {A : Option Addr} {n : Nat} {xs : List FAct} (h : Kd.C kAct w A n xs) (i : Nat) (h1 : i < n) : ∃ ad A2 c2 A3 c3, A = some ad ∧ w.cell? (ad.add (i * 4)) = some (.int .i64 (xs.getD i zAct).kd) ∧ w.cell? ⟨(ad.add (i * 4)).block, (ad.add (i * 4)).off + 1, none⟩ = some (.int .i64 (xs.getD i zAct).at_) ∧ w.cell? ⟨(ad.add (i * 4)).block, (ad.add (i * 4)).off + 2, none⟩ = some (.slice A2 (xs.getD i zAct).b.length c2) ∧ w.cell? ⟨(ad.add (i * 4)).block, (ad.add (i * 4)).off + 3, none⟩ = some (.slice A3 (xs.getD i zAct).keep.length c3) ∧ (xs.getD i zAct).b.length ≤ c2 ∧ (Kd.int .u8).C w A2 (xs.getD i zAct).b.length (xs.getD i zAct).b ∧ (xs.getD i zAct).keep.length ≤ c3 ∧ Kd.bool.C w A3 (xs.getD i zAct).keep.length (xs.getD i zAct).keep := by
  obtain ⟨ad, c, e, _, hK, hc0⟩ := Kd.C_get h zAct (i : Int) (by omega) (by omega)
  simp only [Int.toNat_natCast] at hK hc0
  have hc : ∀ j u, c[j]? = some u → w.cell? (ad.add (i * 4 + j)) = some u := hc0
  obtain ⟨_, _, rfl, rfl, ⟨_, _, rfl, rfl, ⟨_, _, rfl, ⟨A2, c2, rfl, l2, g2⟩, ⟨A3, c3, rfl, l3, g3⟩⟩⟩⟩ := hK
  exact ⟨ad, A2, c2, A3, c3, e, hc 0 _ rfl, by rw [← add_field _ _ 1 (by omega)]; exact hc 1 _ rfl, by rw [← add_field _ _ 2 (by omega)]; exact hc 2 _ rfl, by rw [← add_field _ _ 3 (by omega)]; exact hc 3 _ rfl, l2, g2, l3, g3⟩
/-- Both files. -/
structure FS (W : World) (b g r : Nat) (vn vs vo rn rs ro : Value) (now safe : List Int) (ops : List FOp) : Prop where
  f : FI W b g (fun k => some k ≠ rn.ownBlock) vn vs vo now safe ops
  r : RF W b r rn rs ro now safe ops
/-- The blocks that they write, but for those whose types are the reference's own. -/
def Own3 (g : Nat) (vo rn : Value) (i : Nat) : Prop := i = g ∨ some i = vo.ownBlock ∨ some i = rn.ownBlock
/-- A block whose type is not the reference's own. -/
def NotRef (w : World) (i : Nat) : Prop := ∀ c q, w.heap[i]? = some (.cells c q (0, 0)) → q ≠ 142 ∧ q ≠ 60
/-- From w to W no other block is turned; S: the blocks at the start, T: now. -/
structure Fr (w W : World) (S T : Nat → Prop) : Prop where
  sz : w.heap.size ≤ W.heap.size
  keep : ∀ i, i < w.heap.size → ¬ S i → NotRef w i → W.heap[i]? = w.heap[i]?
  own : ∀ i, T i → i < w.heap.size → S i
theorem Fr.refl (w : World) (S : Nat → Prop) : Fr w w S S := ⟨Nat.le_refl _, fun _ _ _ _ => rfl, fun _ h _ => h⟩
theorem Fr.trans {w W W1 : World} {S T U : Nat → Prop} (h : Fr w W S T) (k : Fr W W1 T U) : Fr w W1 S U :=
  ⟨Nat.le_trans h.sz k.sz, fun i hi hs hn => by
    have e := h.keep i hi hs hn
    exact (k.keep i (Nat.lt_of_lt_of_le hi h.sz) (fun ht => hs (h.own i ht hi)) (fun c q hc => hn c q (e ▸ hc))).trans e, fun i hu hi => h.own i (k.own i hu (Nat.lt_of_lt_of_le hi h.sz)) hi⟩
theorem Fr.below {w W : World} {S T : Nat → Prop} (h : Below w.heap.size w W) (ho : ∀ i, T i → i < w.heap.size → S i) : Fr w W S T := ⟨h.size, fun i hi _ _ => h.block i hi, ho⟩
theorem Fr.then_below {w W W1 : World} {S T : Nat → Prop} (h : Fr w W S T) (k : Below W.heap.size W W1) : Fr w W1 S T := h.trans (Fr.below k (fun _ ht _ => ht))
theorem FS.below {W W1 : World} {b g r : Nat} {vn vs vo rn rs ro : Value} {now safe : List Int} {ops : List FOp} (h : FS W b g r vn vs vo rn rs ro now safe ops) (hb : Below W.heap.size W W1) : FS W1 b g r vn vs vo rn rs ro now safe ops := ⟨h.f.below hb, h.r.below hb⟩
section
variable {W W1 : World} {b g r : Nat} {vn vs vo rn rs ro vn1 vs1 vo1 rn1 rs1 ro1 : Value} {now safe now1 safe1 : List Int} {ops ops1 : List FOp} {x : Nat → Prop}
/-- The code's file is turned: the reference's stays. -/
theorem RF.other (h : RF W b r rn rs ro now1 safe1 ops1) (hf : FI W b g x vn vs vo now safe ops) (hk : KeepBut W W1 g vo.ownBlock) : RF W1 b r rn rs ro now1 safe1 ops1 := by
  have hne := blk_ne h.hb hf.hb (by decide)
  have hvo : ∀ k, vo.ownBlock = some k → ∃ cells, W.heap[k]? = some (.cells cells 129 (0, 0)) := fun k hk => own_typed hf.ho.2.choose_spec.1 k hk
  have step : ∀ q (k : Nat), (∃ cells, W.heap[k]? = some (.cells cells q (0, 0))) → q ≠ 119 → q ≠ 129 → k < W.heap.size → W1.heap[k]? = W.heap[k]? := by
    intro q k ⟨cells, hc⟩ h1 h2 hlt
    refine hk.2 k hlt (blk_ne hc hf.hb h1) (fun e => ?_)
    obtain ⟨c2, hc2⟩ := hvo k e.symm
    exact (blk_ne hc hc2 h2) rfl
  refine ⟨(step 60 r ⟨_, h.hb⟩ (by decide) (by decide) (blk_lt h.hb)).trans h.hb, ?_, ?_, ?_, h.hg⟩
  · exact Kd.R_mono (Kd.R_step (Kd.R_bound h.hn) (fun k ho hlt => by
      obtain ⟨_, _, _, q, hq, hc⟩ := ho
      exact step q k hc (u8E _ (by omega) q hq) (u8E _ (by omega) q hq) hlt)) (fun k hk => hk.1)
  · exact Kd.R_mono (Kd.R_step (Kd.R_bound h.hs) (fun k ho hlt => by
      obtain ⟨_, _, _, q, hq, hc⟩ := ho
      exact step q k hc (u8E _ (by omega) q hq) (u8E _ (by omega) q hq) hlt)) (fun k hk => hk.1)
  · exact Kd.R_mono (Kd.R_step (Kd.R_bound h.ho) (fun k ho hlt => by
      obtain ⟨_, _, _, q, hq, hc⟩ := ho
      exact step q k hc (ropE _ (by omega) (by omega) q hq) (ropE _ (by omega) (by omega) q hq) hlt)) (fun k hk => hk.1)
/-- The reference's file is turned: the code's stays. -/
theorem FI.other (h : FI W b g (fun k => some k ≠ rn.ownBlock) vn vs vo now safe ops) (hr : RF W b r rn rs ro now1 safe1 ops1) (hk : Keep3 W W1 r rn.ownBlock ro.ownBlock) (hn : rn1.ownBlock = rn.ownBlock ∨ rn1.ownBlock = none ∨ ∃ k, rn1.ownBlock = some k ∧ W.heap.size ≤ k) : FI W1 b g (fun k => some k ≠ rn1.ownBlock) vn vs vo now safe ops := by
  have hro : ∀ k, ro.ownBlock = some k → ∃ cells, W.heap[k]? = some (.cells cells 142 (0, 0)) := fun k hk => own_typed hr.ho.2.choose_spec.1 k hk
  have hrn : ∀ k, rn.ownBlock = some k → ∃ cells, W.heap[k]? = some (.cells cells 5 (0, 0)) := fun k hk => own_typed hr.hn.2.choose_spec.1 k hk
  have step : ∀ q (k : Nat), (∃ cells, W.heap[k]? = some (.cells cells q (0, 0))) → q ≠ 60 → q ≠ 142 → some k ≠ rn.ownBlock → k < W.heap.size → W1.heap[k]? = W.heap[k]? := by
    intro q k ⟨cells, hc⟩ h1 h2 h3 hlt
    refine hk.2 k hlt (blk_ne hc hr.hb h1) h3 (fun e => ?_)
    obtain ⟨c2, hc2⟩ := hro k e.symm
    exact (blk_ne hc hc2 h2) rfl
  have hok : ∀ k, k < W.heap.size → some k ≠ rn.ownBlock → some k ≠ rn1.ownBlock := by
    intro k hlt hne e
    rcases hn with e1 | e1 | ⟨q, e1, hq⟩
    · exact hne (e.trans e1)
    · rw [e1] at e; cases e
    · rw [e1] at e; cases e; omega
  refine ⟨(step 119 g ⟨_, h.hb⟩ (by decide) (by decide) (fun e => ?_) (blk_lt h.hb)).trans h.hb, ?_, ?_, ?_, h.hg⟩
  · obtain ⟨c2, hc2⟩ := hrn g e.symm
    exact (blk_ne h.hb hc2 (by decide)) rfl
  · exact Kd.R_mono (Kd.R_step (Kd.R_bound h.hn) (fun k ho hlt => by
      obtain ⟨hx, _, _, q, hq, hc⟩ := ho
      exact step q k hc (u8E _ (by omega) q hq) (u8E _ (by omega) q hq) hx hlt)) (fun k hk => hok k hk.2.2.1 hk.1)
  · exact Kd.R_mono (Kd.R_step (Kd.R_bound h.hs) (fun k ho hlt => by
      obtain ⟨hx, _, _, q, hq, hc⟩ := ho
      exact step q k hc (u8E _ (by omega) q hq) (u8E _ (by omega) q hq) hx hlt)) (fun k hk => hok k hk.2.2.1 hk.1)
  · exact Kd.R_mono (Kd.R_step (Kd.R_bound h.ho) (fun k ho hlt => by
      obtain ⟨hx, _, _, q, hq, hc⟩ := ho
      exact step q k hc (opE _ (by omega) (by omega) q hq) (opE _ (by omega) (by omega) q hq) hx hlt)) (fun k hk => hok k hk.2.2.1 hk.1)
/-- Both are turned, one behind the other. -/
theorem FS.turned {W2 : World} (h : FS W b g r vn vs vo rn rs ro now safe ops) (hf : FI W1 b g (fun k => some k ≠ rn.ownBlock) vn1 vs1 vo1 now1 safe1 ops1) (hk : KeepBut W W1 g vo.ownBlock) (hv : vo1.ownBlock = vo.ownBlock ∨ vo1.ownBlock = none ∨ ∃ k, vo1.ownBlock = some k ∧ W.heap.size ≤ k)
    (hr : RF W2 b r rn1 rs1 ro1 now1 safe1 ops1) (hk2 : Keep3 W1 W2 r rn.ownBlock ro.ownBlock) (hn : rn1.ownBlock = rn.ownBlock ∨ rn1.ownBlock = none ∨ ∃ k, rn1.ownBlock = some k ∧ W1.heap.size ≤ k) :
    FS W2 b g r vn1 vs1 vo1 rn1 rs1 ro1 now1 safe1 ops1 ∧ Fr W W2 (Own3 g vo rn) (Own3 g vo1 rn1) := by
  have hr1 := h.r.other h.f hk
  have hro : ∀ k, ro.ownBlock = some k → ∃ cells, W.heap[k]? = some (.cells cells 142 (0, 0)) := fun k hk => own_typed h.r.ho.2.choose_spec.1 k hk
  refine ⟨⟨hf.other hr1 hk2 hn, hr⟩, Nat.le_trans hk.1 hk2.1, fun i hi hs hnr => ?_, fun i ht hi => ?_⟩
  · have h1 : W1.heap[i]? = W.heap[i]? := hk.2 i hi (fun e => hs (.inl e)) (fun e => hs (.inr (.inl e)))
    refine (hk2.2 i (Nat.lt_of_lt_of_le hi hk.1) (fun e => ?_) (fun e => hs (.inr (.inr e))) (fun e => ?_)).trans h1
    · subst e
      exact (hnr _ _ h.r.hb).2 rfl
    · obtain ⟨c, hc⟩ := hro i e.symm
      exact (hnr _ _ hc).1 rfl
  · rcases ht with e | e | e
    · exact .inl e
    · rcases hv with e1 | e1 | ⟨k, e1, hk1⟩
      · exact .inr (.inl (e.trans e1))
      · rw [e1] at e; cases e
      · rw [e1] at e; cases e; omega
    · rcases hn with e1 | e1 | ⟨k, e1, hk1⟩
      · exact .inr (.inr (e.trans e1))
      · rw [e1] at e; cases e
      · rw [e1] at e; cases e; have := hk.1; omega
end
/-- What a file is. -/
structure FSt where
  now : List Int
  safe : List Int
  ops : List FOp
/-- What a call makes of it. -/
def stepF (s : FSt) (a : FAct) : FSt :=
  if a.kd = 0 then (if 0 ≤ a.at_ ∧ a.at_ ≤ 1048576 ∧ (a.b.length : Int) ≤ 1048576 - a.at_ then ⟨(writeF (s.now, s.ops) a.at_.toNat a.b).1, s.safe, (writeF (s.now, s.ops) a.at_.toNat a.b).2⟩ else s)
  else if a.kd = 1 then (if 0 ≤ a.at_ ∧ a.at_ ≤ 1048576 then ⟨(sizeF (s.now, s.ops) a.at_).1, s.safe, (sizeF (s.now, s.ops) a.at_).2⟩ else s)
  else if a.kd = 2 then ⟨s.now, s.now, []⟩
  else ⟨crashF s.safe s.ops a.keep s.ops.length, crashF s.safe s.ops a.keep s.ops.length, []⟩
/-- Its bounds. -/
structure Bd (s : FSt) (k : Nat) : Prop where
  now : s.now.length ≤ 1048576
  safe : s.safe.length ≤ 1048576
  op : ∀ o ∈ s.ops, o.n ≤ 1048576 ∧ o.d.length ≤ 1048576
  ops : s.ops.length ≤ 500 * k
end Go.Proofs.YtpnbjpkdbiiogaaGreat
/- Files: a call, done to both. -/
namespace Go.Proofs.YtpnbjpkdbiiogaaGreat
set_option linter.unusedVariables false
open Go.RowKit Go.Proofs.YtpnbjpkdbiiogaaGreatW.PrintWords
attribute [local go_sem] mx2 mn2 mxTwo mnTwo

theorem FI.to {W : World} {b b' g : Nat} {x x' : Nat → Prop} {vn vs vo : Value} {now safe : List Int} {ops : List FOp} (h : FI W b g x vn vs vo now safe ops) (hb : b' ≤ b) (hx : ∀ k, b ≤ k → k < W.heap.size → x k → x' k) : FI W b' g x' vn vs vo now safe ops :=
  ⟨h.hb, Kd.R_lower (Kd.R_mono (Kd.R_bound h.hn) (fun k hk => hx k hk.2.1 hk.2.2.1 hk.1)) hb, Kd.R_lower (Kd.R_mono (Kd.R_bound h.hs) (fun k hk => hx k hk.2.1 hk.2.2.1 hk.1)) hb, Kd.R_lower (Kd.R_mono (Kd.R_bound h.ho) (fun k hk => hx k hk.2.1 hk.2.2.1 hk.1)) hb, Nat.le_trans hb h.hg⟩
theorem RF.to {W : World} {b b' g : Nat} {vn vs vo : Value} {now safe : List Int} {ops : List FOp} (h : RF W b g vn vs vo now safe ops) (hb : b' ≤ b) : RF W b' g vn vs vo now safe ops :=
  ⟨h.hb, Kd.R_lower h.hn hb, Kd.R_lower h.hs hb, Kd.R_lower h.ho hb, Nat.le_trans hb h.hg⟩
theorem putF_n (s : List Int × List FOp) (p : Pc) (hp : p.s ≤ 1048576) (h : ∀ o ∈ s.2, o.n ≤ 1048576 ∧ o.d.length ≤ 1048576) : ∀ o ∈ (putF s p).2, o.n ≤ 1048576 ∧ o.d.length ≤ 1048576 := by
  intro o ho
  rcases List.mem_append.1 ho with ho | ho
  · exact h o ho
  · rw [List.mem_singleton.1 ho]
    refine ⟨hp, ?_⟩
    show (layL (atL s.1 p.s) p.f p.d).length ≤ 1048576
    unfold layL
    split
    · rw [overlay_length (by rw [sizeL_length]; omega), sizeL_length]; decide
    · rw [sizeL_length]; decide
theorem pieces_s : ∀ (g : Nat) (b : List Int) (a : Nat), b.length ≤ g → a + b.length ≤ 1048576 → ∀ p ∈ pieces a b, p.s ≤ 1048576
  | 0, b, a, hg, _ => by
    obtain rfl := List.eq_nil_of_length_eq_zero (Nat.le_zero.1 hg)
    intro p hp
    rw [pieces_nil] at hp
    simp at hp
  | g + 1, b, a, hg, ha => by
    by_cases h0 : 0 < b.length
    · obtain ⟨n, hne⟩ : ∃ n, n = min (64 - a % 64) b.length := ⟨_, rfl⟩
      rw [pieces_step a b n hne h0]
      intro p hp
      rcases List.mem_cons.1 hp with rfl | hp
      · show (a : Int) / 64 ≤ 1048576
        omega
      · exact pieces_s g (b.drop n) (a + n) (by rw [List.length_drop]; omega) (by rw [List.length_drop]; omega) p hp
    · obtain rfl := List.eq_nil_of_length_eq_zero (Nat.eq_zero_of_not_pos h0)
      intro p hp
      rw [pieces_nil] at hp
      simp at hp
theorem puts_bd (P : List Pc) (hP : ∀ p ∈ P, p.s ≤ 1048576) : ∀ (s : List Int × List FOp), (∀ o ∈ s.2, o.n ≤ 1048576 ∧ o.d.length ≤ 1048576) → (P.foldl putF s).1.length = s.1.length ∧ (P.foldl putF s).2.length = s.2.length + P.length ∧ ∀ o ∈ (P.foldl putF s).2, o.n ≤ 1048576 ∧ o.d.length ≤ 1048576 := by
  induction P with
  | nil => intro s h; exact ⟨rfl, rfl, h⟩
  | cons p P ih =>
    intro s h
    obtain ⟨h1, h2, h3⟩ := ih (fun q hq => hP q (List.mem_cons_of_mem _ hq)) (putF s p) (putF_n s p (hP p (List.mem_cons_self ..)) h)
    have h4 := putF_len s p
    rw [List.foldl_cons, List.length_cons]
    exact ⟨h1.trans h4.1, by omega, h3⟩
theorem stepF_bd (s : FSt) (a : FAct) (k : Nat) (h : Bd s k) (hb : a.b.length ≤ 400) : Bd (stepF s a) (k + 1) := by
  obtain ⟨h1, h2, h3, h4⟩ := h
  unfold stepF
  by_cases q0 : a.kd = 0
  · rw [if_pos q0]
    by_cases qa : 0 ≤ a.at_ ∧ a.at_ ≤ 1048576 ∧ (a.b.length : Int) ≤ 1048576 - a.at_
    · rw [if_pos qa]
      have hg : (growF (s.now, s.ops) a.at_.toNat a.b.length).1.length ≤ 1048576 ∧ (growF (s.now, s.ops) a.at_.toNat a.b.length).2.length ≤ s.ops.length + 1 ∧ ∀ o ∈ (growF (s.now, s.ops) a.at_.toNat a.b.length).2, o.n ≤ 1048576 ∧ o.d.length ≤ 1048576 := by
        unfold growF
        by_cases qg : 0 < a.b.length ∧ s.now.length < a.at_.toNat + a.b.length
        · rw [if_pos qg]
          refine ⟨by rw [sizeL_length]; omega, by simp, fun o ho => ?_⟩
          rcases List.mem_append.1 ho with ho | ho
          · exact h3 o ho
          · rw [List.mem_singleton.1 ho]
            exact ⟨by show ((a.at_.toNat + a.b.length : Nat) : Int) ≤ 1048576; omega, Nat.zero_le _⟩
        · rw [if_neg qg]
          exact ⟨h1, Nat.le_succ _, h3⟩
      obtain ⟨p1, p2, p3⟩ := puts_bd (pieces a.at_.toNat a.b) (pieces_s _ a.b a.at_.toNat (Nat.le_refl _) (by omega)) _ hg.2.2
      have hp := pieces_len a.b.length a.b a.at_.toNat (Nat.le_refl _)
      exact ⟨Nat.le_trans (Nat.le_of_eq p1) hg.1, h2, p3, by show (writeF (s.now, s.ops) a.at_.toNat a.b).2.length ≤ _; unfold writeF; rw [p2]; have := hg.2.1; omega⟩
    · rw [if_neg qa]
      exact ⟨h1, h2, h3, by omega⟩
  · rw [if_neg q0]
    by_cases q1 : a.kd = 1
    · rw [if_pos q1]
      by_cases qa : 0 ≤ a.at_ ∧ a.at_ ≤ 1048576
      · rw [if_pos qa]
        by_cases qs : a.at_ = (s.now.length : Int)
        · have e : sizeF (s.now, s.ops) a.at_ = (s.now, s.ops) := by unfold sizeF; rw [if_pos qs]
          rw [e]
          exact ⟨h1, h2, h3, by show s.ops.length ≤ _; omega⟩
        · have e : sizeF (s.now, s.ops) a.at_ = (sizeL s.now a.at_, s.ops ++ [⟨true, a.at_, []⟩]) := by unfold sizeF; rw [if_neg qs]
          rw [e]
          refine ⟨by show (sizeL s.now a.at_).length ≤ _; rw [sizeL_length]; omega, h2, fun o ho => ?_, by show (s.ops ++ [(⟨true, a.at_, []⟩ : FOp)]).length ≤ _; rw [List.length_append, List.length_singleton]; omega⟩
          rcases List.mem_append.1 ho with ho | ho
          · exact h3 o ho
          · rw [List.mem_singleton.1 ho]
            exact ⟨qa.2, Nat.zero_le _⟩
      · rw [if_neg qa]
        exact ⟨h1, h2, h3, by omega⟩
    · rw [if_neg q1]
      by_cases q2 : a.kd = 2
      · rw [if_pos q2]
        exact ⟨h1, h1, fun o ho => by simp at ho, Nat.zero_le _⟩
      · rw [if_neg q2]
        have hc := crashF_len s.safe s.ops a.keep h2 (fun o ho => (h3 o ho).1) s.ops.length
        exact ⟨hc, hc, fun o ho => by simp at ho, Nat.zero_le _⟩
end Go.Proofs.YtpnbjpkdbiiogaaGreat
/- Files: shows; the chapter's example. -/
namespace Go.Proofs.YtpnbjpkdbiiogaaGreat
set_option linter.unusedVariables false
open Go.RowKit Go.Proofs.YtpnbjpkdbiiogaaGreatW.PrintWords
attribute [local go_sem] mx2 mn2 mxTwo mnTwo

theorem readL_all (now : List Int) (h : now.length ≤ 1048576) : readL now 0 1048576 = now := by
  unfold readL
  by_cases h0 : now = []
  · subst h0; rfl
  · have : 0 < now.length := List.length_pos_iff.2 h0
    rw [if_neg (by omega)]
    exact List.take_of_length_le h
theorem writeF_awake : (writeF ([], []) 63 [1, 2]).2.length = 3 ∧ (writeF ([], []) 63 [1, 2]).1.length = 65 := by decide +kernel
theorem lit_kept (w1 : World) (g : Nat) (hg : g < w1.heap.size) : ∀ W', KeepBut (w1.alloc (.cells #[.int .u8 1, .int .u8 2] 5)) W' g none → Kd.C (Kd.int .u8) W' (some ⟨w1.heap.size, 0, none⟩) 2 [1, 2] := by
  intro W' hk
  exact Kd.C_keep (0 : Int) (C_lit w1 5 .u8 [1, 2] (by decide)) hk (fun ad e _ => by cases e; show w1.heap.size ≠ g; omega)
end Go.Proofs.YtpnbjpkdbiiogaaGreat
/- Directories: the reference's without, with, Get, Did. -/
namespace Go.Proofs.YtpnbjpkdbiiogaaGreat
set_option linter.unusedVariables false
open Go.RowKit Go.Proofs.YtpnbjpkdbiiogaaGreatW.PrintWords
attribute [local go_sem] mx2 mn2 mxTwo mnTwo

def kDN : Kd DN := Kd.pair Kd.string (Kd.int .i64)
theorem kDN_mkM (w : World) (base : Nat) (ok : Nat → Prop) (x : DN) : kDN.M w base ok x [.string x.1, .int .i64 x.2] := ⟨[.string x.1], [.int .i64 x.2], rfl, rfl, rfl⟩
theorem infoName : (Tryz.prog.info? 80).map (fun i => (i.zero, i.size, i.bytes)) = some (some (.agg #[(.string ⟨#[]⟩), (.int .i64 0)]), 2, 24) := by kernel_rfl
def zDN : DN := (⟨#[]⟩, 0)
theorem at_DN {w : World} {A : Option Addr} {n : Nat} {xs : List DN} (h : Kd.C kDN w A n xs) (i : Nat) (h1 : i < n) : ∃ ad, A = some ad ∧ w.cell? (ad.add (i * 2)) = some (.string (xs.getD i zDN).1) ∧ w.cell? ⟨(ad.add (i * 2)).block, (ad.add (i * 2)).off + 1, none⟩ = some (.int .i64 (xs.getD i zDN).2) := by
  obtain ⟨ad, c, e, _, hK, hc0⟩ := Kd.C_get h zDN (i : Int) (by omega) (by omega)
  simp only [Int.toNat_natCast] at hK hc0
  have hc : ∀ j u, c[j]? = some u → w.cell? (ad.add (i * 2 + j)) = some u := hc0
  obtain ⟨_, _, rfl, rfl, rfl⟩ := hK
  exact ⟨ad, e, hc 0 _ rfl, by rw [← add_field _ _ 1 (by omega)]; exact hc 1 _ rfl⟩
/-- Two texts, asked for being alike. -/
theorem bs_eq (a b : ByteArray) (h : a = b) : (a.toList == b.toList) = true := by simp [h]
theorem bs_ne (a b : ByteArray) (h : a ≠ b) : (a.toList == b.toList) = false := by
  rw [beq_eq_false_iff_ne]
  intro e
  exact h (Go.WideShapes.bytes_inj (by rw [← ByteArray.toList_eq a, ← ByteArray.toList_eq b]; exact e))
theorem take_succ_getD (l : List DN) (i : Nat) (h : i < l.length) : l.take (i + 1) = l.take i ++ [l.getD i zDN] := by
  rw [List.take_succ_eq_append_getElem h]
  simp [List.getD_eq_getElem?_getD, h]
theorem without_take (l : List DN) (s : ByteArray) (i : Nat) (h : i < l.length) : withoutL (l.take (i + 1)) s = withoutL (l.take i) s ++ (if (l.getD i zDN).1 = s then [] else [l.getD i zDN]) := by
  rw [take_succ_getD l i h]
  unfold withoutL
  rw [List.filter_append]
  generalize l.getD i zDN = p
  by_cases e : p.1 = s
  · rw [if_pos e, List.filter_cons_of_neg (by simp [e]), List.filter_nil]
  · rw [if_neg e, List.filter_cons_of_pos (by simp [e]), List.filter_nil]
theorem getN_take (l : List DN) (s : ByteArray) : ∀ (i : Nat), i < l.length → getN (l.take i) s = none → getN (l.take (i + 1)) s = if (l.getD i zDN).1 = s then some (l.getD i zDN).2 else none := by
  intro i h e
  rw [take_succ_getD l i h]
  unfold getN at e ⊢
  rw [Option.map_eq_none_iff] at e
  rw [List.find?_append, e]
  generalize l.getD i zDN = p
  by_cases q : p.1 = s
  · rw [if_pos q, Option.none_or, List.find?_cons_of_pos (by simp [q])]
    rfl
  · rw [if_neg q, Option.none_or, List.find?_cons_of_neg (by simp [q])]
    rfl
theorem getN_found (l : List DN) (s : ByteArray) (i : Nat) (y : Int) (h : getN (l.take i) s = some y) : getN l s = some y := by
  unfold getN at h ⊢
  obtain ⟨p, hp, rfl⟩ := Option.map_eq_some_iff.1 h
  have : l.find? (fun p => decide (p.1 = s)) = some p := by
    conv => lhs; rw [← List.take_append_drop i l]
    rw [List.find?_append, hp]
    rfl
  rw [this]
  rfl
theorem getN_all (l : List DN) (s : ByteArray) (i : Nat) (h : l.length ≤ i) : getN (l.take i) s = getN l s := by rw [List.take_of_length_le h]
set_option maxHeartbeats 1000000 in
theorem rget_any (A : Option Addr) (n c : Nat) (l : List DN) (s : ByteArray) (w : World) (hr : Kd.C kDN w A n l) :
    Calls Tryz.prog 53 #[.slice A n c, .string s] w fun e w' => e = .returned (.tuple #[.int .i64 ((getN l s).getD 0), .bool (getN l s).isSome]) ∧ w = w' := by
  obtain rfl : l.length = n := hr.1
  have hm := Kd.C_max hr
  have HR := Aside0.mk hr
  clear hr
  go_enter Tryz.func53, Tryz.ntmps53
  go_wp2
  go_loopg [6] l.length (fun q v6 wr => ∃ i : Nat, v6 = .int .i64 (i : Int) ∧ i ≤ l.length ∧ Aside0 (q = l.length - i) ∧ Aside0 (getN (l.take i) s = none) ∧ wr = w)
  case atStart => exact ⟨0, rfl, Nat.zero_le _, ⟨rfl⟩, ⟨rfl⟩, rfl⟩
  case round =>
    obtain ⟨i, rfl, hi, hq, HN, rfl⟩ := hrel
    by_cases hlt : i < l.length
    · obtain ⟨ad, e1, r1, r2⟩ := at_DN HR.out i hlt
      subst e1
      have hgt := getN_take l s i hlt HN.out
      obtain ⟨p, hp⟩ : ∃ p, p = l.getD i zDN := ⟨_, rfl⟩
      rw [← hp] at r1 r2 hgt
      clear hp
      by_cases hs : p.1 = s
      · rw [if_pos hs] at hgt
        have HG := Aside0.mk (getN_found l s (i + 1) _ hgt)
        have q1 := bs_eq _ _ hs
        clear hs hgt
        go_wp2
        go_ret2
        rw [HG.out]
        exact ⟨rfl, rfl⟩
      · rw [if_neg hs] at hgt
        have HG := Aside0.mk hgt
        have q1 := bs_ne _ _ hs
        clear hs hgt
        go_wp2
        go_roundg (l.length - (i + 1))
        case measure => have := hq.out; omega
        case rel => exact ⟨i + 1, by go_num, by omega, ⟨rfl⟩, HG, rfl⟩
    · have e := HN.out
      rw [getN_all l s i (by omega)] at e
      have HG := Aside0.mk e
      clear e
      go_wp2
      go_ret2
      rw [HG.out]
      exact ⟨rfl, rfl⟩
set_option maxHeartbeats 1000000 in
theorem rwithout_any (A : Option Addr) (n c : Nat) (l : List DN) (s : ByteArray) (w : World) (hr : Kd.C kDN w A n l) (hn : n ≤ 1000000) :
    Calls Tryz.prog 106 #[.slice A n c, .string s] w fun e w' => ∃ v, e = .returned v ∧ Kd.R kDN 80 w' w.heap.size (fun _ => True) v (withoutL l s) ∧ Below w.heap.size w w' := by
  obtain rfl : l.length = n := hr.1
  have HR := Aside0.mk hr
  clear hr
  go_enter Tryz.func106, Tryz.ntmps106
  go_wp2
  go_loopg [5, 6] l.length (fun q v5 v6 wr => ∃ i : Nat, v6 = .int .i64 (i : Int) ∧ i ≤ l.length ∧ Aside0 (q = l.length - i) ∧ Aside0 (Kd.R kDN 80 wr w.heap.size (fun _ => True) v5 (withoutL (l.take i) s)) ∧ Aside0 (Below w.heap.size w wr))
  case atStart => exact ⟨0, rfl, Nat.zero_le _, ⟨rfl⟩, ⟨Kd.R_nil _ _ _ _ _⟩, ⟨Below.refl _ _⟩⟩
  case round =>
    obtain ⟨i, rfl, hi, hq, HO, HB⟩ := hrel
    by_cases hlt : i < l.length
    · obtain ⟨ad, e1, r1, r2⟩ := at_DN HR.out i hlt
      subst e1
      replace r1 := pw_cell_below HB.out r1
      replace r2 := pw_cell_below HB.out r2
      have hgt := without_take l s i hlt
      have hlb : (withoutL (l.take i) s).length ≤ l.length := Nat.le_trans (withoutL_len _ _) (by rw [List.length_take]; omega)
      obtain ⟨p, hp⟩ : ∃ p, p = l.getD i zDN := ⟨_, rfl⟩
      rw [← hp] at r1 r2 hgt
      have HLB := Aside0.mk hlb
      clear hp hlb
      by_cases hs : p.1 = s
      · rw [if_pos hs, List.append_nil] at hgt
        have HG := Aside0.mk hgt
        have q1 := bs_eq _ _ hs
        clear hs hgt
        go_wp2_with fail
        go_roundg (l.length - (i + 1))
        case measure => have := hq.out; omega
        case rel => exact ⟨i + 1, by go_num, by omega, ⟨rfl⟩, ⟨by rw [HG.out]; exact HO.out⟩, HB⟩
      · rw [if_neg hs] at hgt
        have HG := Aside0.mk hgt
        have q1 := bs_ne _ _ hs
        clear hs hgt
        go_wp2_with (at_builtin; refine Kd.R_append kDN (w0 := w) w.heap.size rfl (.tmp 20) (.tmp 25) 37 80 (.agg #[(.string ⟨#[]⟩), (.int .i64 0)]) 24 rfl Tryz.underlying37 infoName rfl (by decide) (by omega) u5 _ p [.string (p).1, .int .i64 (p).2] (fun _ => True) (fun _ => False) rfl rfl (kDN_mkM _ _ _ (p)) (fun _ h => h.elim) (fun _ _ => trivial) HO.out HB.out (below_size HB.out) (by have := HLB.out; omega) ?_; intro v1 w1 h1 hb1 _ _; clear HO HB; have HO := Aside0.mk h1; have HB := Aside0.mk hb1; clear h1 hb1)
        go_roundg (l.length - (i + 1))
        case measure => have := hq.out; omega
        case rel => exact ⟨i + 1, by go_num, by omega, ⟨rfl⟩, ⟨by rw [HG.out]; exact HO.out⟩, HB⟩
    · have h9 := HO.out
      rw [List.take_of_length_le (by omega)] at h9
      have HO9 := Aside0.mk h9
      clear h9
      go_wp2_with fail
      go_ret
      exact ⟨_, rfl, HO9.out, HB.out⟩
theorem insW_take (s : ByteArray) (a : Int) (l : List DN) (i : Nat) (h : i < l.length) : (l.take (i + 1)).foldl (insW s a) ([], false) = insW s a ((l.take i).foldl (insW s a) ([], false)) (l.getD i zDN) := by
  rw [take_succ_getD l i h, List.foldl_append]
  rfl
theorem gtS_true {a b : ByteArray} (h : gtS a b = true) : Op.bytesLess a.toList b.toList = false ∧ (a.toList == b.toList) = false := by
  unfold gtS at h
  cases h1 : Op.bytesLess a.toList b.toList <;> cases h2 : (a.toList == b.toList) <;> simp [h1, h2] at h ⊢
theorem gtS_false {a b : ByteArray} (h : gtS a b = false) : Op.bytesLess a.toList b.toList = true ∨ Op.bytesLess a.toList b.toList = false ∧ (a.toList == b.toList) = true := by
  unfold gtS at h
  cases h1 : Op.bytesLess a.toList b.toList <;> cases h2 : (a.toList == b.toList) <;> simp [h1, h2] at h ⊢
set_option maxHeartbeats 2000000 in
set_option maxRecDepth 100000 in
theorem rwith_any (A : Option Addr) (n c : Nat) (l0 : List DN) (s : ByteArray) (id : Int) (w : World) (hr : Kd.C kDN w A n l0) (hn : n ≤ 1000000) :
    Calls Tryz.prog 105 #[.slice A n c, .string s, .int .i64 id] w fun e w' => ∃ v, e = .returned v ∧ Kd.R kDN 80 w' w.heap.size (fun _ => True) v (withL l0 s id) ∧ Below w.heap.size w w' := by
  obtain rfl : l0.length = n := hr.1
  have HR0 := Aside0.mk hr
  clear hr
  go_enter Tryz.func105, Tryz.ntmps105
  go_wp2_with (go_at_call 106; refine (rwithout_any A l0.length c l0 s _ HR0.out hn).mono ?_; rintro e w0 ⟨v0, rfl, hv, hb⟩; obtain ⟨A1, c1, rfl, _, hC⟩ := Kd.R_reads hv; have HR := Aside0.mk hC; have HB := Aside0.mk hb; clear hv hb hC)
  have hl0 := withoutL_len l0 s
  have HWD := Aside0.mk (show withL l0 s id = insEnd s id ((withoutL l0 s).foldl (insW s id) ([], false)) by rw [insW_end]; rfl)
  obtain ⟨l, hl⟩ : ∃ l, l = withoutL l0 s := ⟨_, rfl⟩
  rw [← hl] at HR hl0 HWD ⊢
  clear hl
  have HB0 := HB
  clear HB
  go_loopg [7, 8, 9] l.length (fun q v7 v8 v9 wr => ∃ (i : Nat) (out : List DN) (d : Bool), v9 = .int .i64 (i : Int) ∧ v8 = .bool d ∧ i ≤ l.length ∧ Aside0 (q = l.length - i) ∧ Aside0 ((l.take i).foldl (insW s id) ([], false) = (out, d)) ∧ out.length ≤ i + d.toNat ∧ Aside0 (Kd.R kDN 80 wr w0.heap.size (fun _ => True) v7 out) ∧ Aside0 (Below w0.heap.size w0 wr))
  case atStart => exact ⟨0, [], false, rfl, rfl, Nat.zero_le _, ⟨rfl⟩, ⟨rfl⟩, Nat.zero_le _, ⟨Kd.R_nil _ _ _ _ _⟩, ⟨Below.refl _ _⟩⟩
  case round =>
    obtain ⟨i, out, d, rfl, rfl, hi, hq, HF, hol, HO, HB⟩ := hrel
    by_cases hlt : i < l.length
    · obtain ⟨ad, e1, r1, r2⟩ := at_DN HR.out i hlt
      subst e1
      have hgt := insW_take s id l i hlt
      rw [HF.out] at hgt
      obtain ⟨p, hp⟩ : ∃ p, p = l.getD i zDN := ⟨_, rfl⟩
      rw [← hp] at r1 r2 hgt
      have HC1 := Aside0.mk r1
      have HC2 := Aside0.mk r2
      replace r1 := pw_cell_below HB.out r1
      replace r2 := pw_cell_below HB.out r2
      clear hp
      cases d with
      | true =>
        replace hol : out.length ≤ i + 1 := hol
        have HG := Aside0.mk hgt
        clear hgt
        go_wp2_with (at_builtin; refine Kd.R_append kDN (w0 := w0) w0.heap.size rfl (.tmp 36) (.tmp 41) 37 80 (.agg #[(.string ⟨#[]⟩), (.int .i64 0)]) 24 rfl Tryz.underlying37 infoName rfl (by decide) (by omega) u7 out p [.string (p).1, .int .i64 (p).2] (fun _ => True) (fun _ => False) rfl rfl (kDN_mkM _ _ _ (p)) (fun _ h => h.elim) (fun _ _ => trivial) HO.out HB.out (below_size HB.out) (by first | omega | (rw [List.length_append, List.length_singleton]; omega)) ?_; intro v1 w1 h1 hb1 hg1 _; skip; clear HO HB; have HO := Aside0.mk h1; have HB := Aside0.mk hb1; clear h1 hb1 hg1)
        go_roundg (l.length - (i + 1))
        case measure => have := hq.out; omega
        case rel => exact ⟨i + 1, out ++ [p], true, by go_num, rfl, by omega, ⟨rfl⟩, ⟨by rw [HG.out]; rfl⟩, by rw [List.length_append, List.length_singleton, Bool.toNat_true]; omega, HO, HB⟩
      | false =>
        replace hol : out.length ≤ i := hol
        have hg : gtS p.1 s = true ∨ gtS p.1 s = false := by cases gtS p.1 s <;> simp
        rcases hg with hg | hg
        · obtain ⟨q1, q2⟩ := gtS_true hg
          have HG := Aside0.mk (show (l.take (i + 1)).foldl (insW s id) ([], false) = (out ++ [(s, id)] ++ [p], true) by rw [hgt]; unfold insW; rw [hg]; rfl)
          have T1 := Aside0.mk trivial
          clear hgt hg
          go_wp2_with (first
            | (have gate := T1.out; (at_builtin; refine Kd.R_append kDN (w0 := w0) w0.heap.size rfl (.tmp 30) (.tmp 34) 37 80 (.agg #[(.string ⟨#[]⟩), (.int .i64 0)]) 24 rfl Tryz.underlying37 infoName rfl (by decide) (by omega) u7 out ((s, id) : DN) [.string (((s, id) : DN)).1, .int .i64 (((s, id) : DN)).2] (fun _ => True) (fun _ => False) rfl rfl (kDN_mkM _ _ _ (((s, id) : DN))) (fun _ h => h.elim) (fun _ _ => trivial) HO.out HB.out (below_size HB.out) (by first | omega | (rw [List.length_append, List.length_singleton]; omega)) ?_; intro v1 w1 h1 hb1 hg1 _; have r1 := pw_cell_below hb1 HC1.out; have r2 := pw_cell_below hb1 HC2.out; clear HO HB; have HO := Aside0.mk h1; have HB := Aside0.mk hb1; clear h1 hb1 hg1); clear T1 gate)
            | (at_builtin; refine Kd.R_append kDN (w0 := w0) w0.heap.size rfl (.tmp 36) (.tmp 41) 37 80 (.agg #[(.string ⟨#[]⟩), (.int .i64 0)]) 24 rfl Tryz.underlying37 infoName rfl (by decide) (by omega) v1 (out ++ [((s, id) : DN)]) p [.string (p).1, .int .i64 (p).2] (fun _ => True) (fun _ => False) rfl rfl (kDN_mkM _ _ _ (p)) (fun _ h => h.elim) (fun _ _ => trivial) HO.out HB.out (below_size HB.out) (by first | omega | (rw [List.length_append, List.length_singleton]; omega)) ?_; intro v1 w1 h1 hb1 hg1 _; skip; clear HO HB; have HO := Aside0.mk h1; have HB := Aside0.mk hb1; clear h1 hb1 hg1))
          go_roundg (l.length - (i + 1))
          case measure => have := hq.out; omega
          case rel => exact ⟨i + 1, _, true, by go_num, rfl, by omega, ⟨rfl⟩, ⟨HG.out⟩, by simp; omega, HO, HB⟩
        · have HG := Aside0.mk (show (l.take (i + 1)).foldl (insW s id) ([], false) = (out ++ [p], false) by rw [hgt]; unfold insW; rw [hg]; rfl)
          have hgf := gtS_false hg
          clear hgt hg
          rcases hgf with q1 | ⟨q1, q2⟩
          all_goals
            go_wp2_with (at_builtin; refine Kd.R_append kDN (w0 := w0) w0.heap.size rfl (.tmp 36) (.tmp 41) 37 80 (.agg #[(.string ⟨#[]⟩), (.int .i64 0)]) 24 rfl Tryz.underlying37 infoName rfl (by decide) (by omega) u7 out p [.string (p).1, .int .i64 (p).2] (fun _ => True) (fun _ => False) rfl rfl (kDN_mkM _ _ _ (p)) (fun _ h => h.elim) (fun _ _ => trivial) HO.out HB.out (below_size HB.out) (by first | omega | (rw [List.length_append, List.length_singleton]; omega)) ?_; intro v1 w1 h1 hb1 hg1 _; skip; clear HO HB; have HO := Aside0.mk h1; have HB := Aside0.mk hb1; clear h1 hb1 hg1)
            go_roundg (l.length - (i + 1))
            case measure => have := hq.out; omega
            case rel => exact ⟨i + 1, _, false, by go_num, rfl, by omega, ⟨rfl⟩, ⟨HG.out⟩, by simp; omega, HO, HB⟩
    · have h9 := HF.out
      rw [List.take_of_length_le (by omega)] at h9
      rw [h9] at HWD
      clear h9
      cases d with
      | true =>
        replace hol : out.length ≤ i + 1 := hol
        go_wp2_with fail
        go_ret
        exact ⟨_, rfl, by rw [HWD.out]; exact Kd.R_lower HO.out HB0.out.size, HB0.out.trans (HB.out.mono HB0.out.size)⟩
      | false =>
        replace hol : out.length ≤ i := hol
        go_wp2_with (at_builtin; refine Kd.R_append kDN (w0 := w0) w0.heap.size rfl (.tmp 45) (.tmp 49) 37 80 (.agg #[(.string ⟨#[]⟩), (.int .i64 0)]) 24 rfl Tryz.underlying37 infoName rfl (by decide) (by omega) u7 out ((s, id) : DN) [.string (((s, id) : DN)).1, .int .i64 (((s, id) : DN)).2] (fun _ => True) (fun _ => False) rfl rfl (kDN_mkM _ _ _ (((s, id) : DN))) (fun _ h => h.elim) (fun _ _ => trivial) HO.out HB.out (below_size HB.out) (by first | omega | (rw [List.length_append, List.length_singleton]; omega)) ?_; intro v1 w1 h1 hb1 hg1 _; skip; clear HO HB; have HO := Aside0.mk h1; have HB := Aside0.mk hb1; clear h1 hb1 hg1)
        go_ret
        exact ⟨_, rfl, by rw [HWD.out]; exact Kd.R_lower HO.out HB0.out.size, HB0.out.trans (HB.out.mono HB0.out.size)⟩
end Go.Proofs.YtpnbjpkdbiiogaaGreat
