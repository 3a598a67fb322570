/- Streams: the walk of Write. -/
import Derived.Test.YtldiginkmmlojaaSmB
namespace Go.Proofs.Ytldiginkmmlojaa
set_option linter.unusedVariables false
open Go.RowKit Go.Proofs.YtldiginkmmlojaaW.PrintWords
attribute [local go_sem] mx2 mn2 mxTwo mnTwo

set_option maxHeartbeats 4000000 in
set_option maxRecDepth 100000 in
theorem swrite_any (b g : Nat) (v : Value) (r0 : List Int) (mo : Int) (A : Option Addr) (n c : Nat) (l : List Int) (w : World) (hb : w.heap[g]? = some (.cells #[v, .int .i64 mo, .bool false] 130 (0, 0))) (hR : Kd.R (Kd.int .u8) 5 w b (fun k => k ≠ g) v r0) (hg : b ≤ g)
    (hl : l.length = n) (hst : ∀ W', KeepBut w W' g v.ownBlock → Below b w W' → Kd.C (Kd.int .u8) W' A n l) (hn : n ≤ 1000000) (hr0 : r0.length ≤ 1000000) :
    Calls Try.prog 45 #[.pointer (some ⟨g, 0, none⟩), .slice A n c] w fun e w' => ∃ vr vo, e = .returned vo ∧ WI w b g v mo w' vr vo (writeL mo r0 l).1 (writeL mo r0 l).2 := by
  subst hl
  have hbw : b ≤ w.heap.size := Nat.le_trans hg (Nat.le_of_lt (blk_lt hb))
  have HI0 := Aside0.mk (WI.mk (w := w) (b := b) (g := g) (v0 := v) (mo := mo) (W := w) (vr := v) (vo := .slice none 0 0) (r := r0) (out := []) hb hR (Kd.R_nil _ _ _ _ _) (KeepBut.refl _ _ _) (.inl rfl) (Below.refl _ _))
  have hd0 := (blk_cell hb 2).trans (rfl : _ = some (Value.bool false))
  have HST := Aside0.mk hst
  clear hst hb hR
  go_enter Try.func45, Try.ntmps45
  go_wp2
  go_loopg [5, 18] l.length (fun q v5 v18 wr => ∃ (i : Nat) (vr : Value) (r : List Int) (out : List Ln), v18 = .int .i64 (i : Int) ∧ i ≤ l.length ∧ Aside0 (q = l.length - i) ∧ r.length ≤ r0.length + i ∧ out.length ≤ i ∧ Aside0 (((l.take i).foldl (stepW mo) (r0, [])) = (r, out)) ∧ Aside0 (WI w b g v mo wr vr v5 r out))
  case atStart => exact ⟨0, v, r0, [], rfl, Nat.zero_le _, ⟨rfl⟩, by omega, Nat.le_refl _, ⟨rfl⟩, HI0⟩
  case round =>
    clear HI0 hd0
    obtain ⟨i, vr, r, out, rfl, hi, hq, hlr, hlo, HF, HI⟩ := hrel
    by_cases hlt : i < l.length
    · obtain ⟨ad, rfl, hx⟩ := at_nat (HST.out _ HI.out.hk HI.out.hl) i hlt
      have HFS := Aside0.mk (foldW_snoc mo (r0, []) l i hlt)
      obtain ⟨x, hxE⟩ : ∃ x, x = rd l (i : Int) := ⟨_, rfl⟩
      rw [← hxE] at hx HFS
      clear hxE
      by_cases h10 : x = 10
      · subst h10
        go_wp2_with (first
          | (go_at_call 74; refine (scut_any b g _ _ mo false 1 _ HI.out.hb HI.out.hr hg).mono ?_; rintro e w1 ⟨rfl, hb1, hk1, hl1⟩; have hi1 := HI.out.cut hb1 hk1 hl1; clear HI; have HI := Aside0.mk hi1; clear hi1 hb1 hk1 hl1)
          | (at_builtin; refine Kd.R_append kLn (w0 := _) w.heap.size rfl (.tmp 25) (.tmp 28) 83 59 (.agg #[(.string ⟨#[]⟩), (.int .i64 0)]) 24 rfl Try.underlying83 infoLnZ rfl (by decide) (by omega) u5 out ⟨strOfNums (trim r), 1⟩ [.string (strOfNums (trim r)), .int .i64 1] (fun _ => True) (fun _ => False) rfl rfl (kLn_mkM _ _ _ _) (fun _ h => h.elim) (fun _ _ => trivial) HI.out.ho (Below.refl _ _) HI.out.hk.1 (by omega) ?_; intro v2 w2 ho2 hbl2 hgr2 _; have hi2 := HI.out.line hbw ho2 hbl2 hgr2; clear HI; have HI := Aside0.mk hi2; clear hi2 ho2 hbl2 hgr2))
        go_roundg (l.length - (i + 1))
        case measure => have := hq.out; omega
        case rel => exact ⟨i + 1, _, [], _, by go_num, by omega, ⟨rfl⟩, by simp, by simp; omega, ⟨by rw [HFS.out, HF.out]; rfl⟩, HI⟩
      · have q10 : (x == 10) = false := beq_eq_false_iff_ne.mpr h10
        by_cases h00 : x = 0
        · subst h00
          go_wp2_with (first
            | (go_at_call 74; refine (scut_any b g _ _ mo false 2 _ HI.out.hb HI.out.hr hg).mono ?_; rintro e w1 ⟨rfl, hb1, hk1, hl1⟩; have hi1 := HI.out.cut hb1 hk1 hl1; clear HI; have HI := Aside0.mk hi1; clear hi1 hb1 hk1 hl1)
            | (at_builtin; refine Kd.R_append kLn (w0 := _) w.heap.size rfl (.tmp 33) (.tmp 36) 83 59 (.agg #[(.string ⟨#[]⟩), (.int .i64 0)]) 24 rfl Try.underlying83 infoLnZ rfl (by decide) (by omega) u5 out ⟨strOfNums (trim r), 2⟩ [.string (strOfNums (trim r)), .int .i64 2] (fun _ => True) (fun _ => False) rfl rfl (kLn_mkM _ _ _ _) (fun _ h => h.elim) (fun _ _ => trivial) HI.out.ho (Below.refl _ _) HI.out.hk.1 (by omega) ?_; intro v2 w2 ho2 hbl2 hgr2 _; have hi2 := HI.out.line hbw ho2 hbl2 hgr2; clear HI; have HI := Aside0.mk hi2; clear hi2 ho2 hbl2 hgr2))
          go_roundg (l.length - (i + 1))
          case measure => have := hq.out; omega
          case rel => exact ⟨i + 1, _, [], _, by go_num, by omega, ⟨rfl⟩, by simp, by simp; omega, ⟨by rw [HFS.out, HF.out]; rfl⟩, HI⟩
        · have q00 : (x == 0) = false := beq_eq_false_iff_ne.mpr h00
          obtain ⟨A5, c5, hvr⟩ := Kd.R_slice HI.out.hr
          have k0 := (blk_cell HI.out.hb 0).trans (rfl : _ = some vr)
          have f0 := blk_frozen HI.out.hb 0
          have hbs : b ≤ wr.heap.size := Nat.le_trans hg (Nat.le_of_lt (blk_lt HI.out.hb))
          have hgs := blk_lt HI.out.hb
          rw [hvr] at k0
          have HVR := Aside0.mk hvr
          clear hvr
          go_wp2_with (first
            | (at_builtin; refine Kd.R_append (Kd.int .u8) (w0 := _) b rfl (.tmp 42) (.tmp 44) 82 5 (.int .u8 0) 1 rfl Try.underlying82 infoU8 rfl (by decide) (by omega) vr r x [.int .u8 x] (fun k => k ≠ g) (fun _ => False) HVR.out.symm rfl rfl (fun _ h => h.elim) (fun k hk => (by omega)) HI.out.hr (Below.refl _ _) hbs (by omega) ?_; intro v3 w3 ho3 hbl3 hgr3 hat3; obtain ⟨g3, c3, e3, _, _, _⟩ := Kd.R_form ho3 (by simp); rw [List.length_append, List.length_singleton] at e3; subst e3; have hb3 := blk_grown HI.out.hb hgr3 (fun e => HI.out.hr.1 g e.symm rfl); have k3 := (blk_cell hb3 0).trans (rfl : _ = some vr); rw [HVR.out] at k3; have f3 := blk_frozen hb3 0; have hi3 := HI.out.add hg ho3 hbl3 hgr3 hat3; clear HI; have HI := Aside0.mk hi3; clear hi3 ho3 hbl3 hgr3 hat3 hb3))
          obtain ⟨W4, hW4⟩ : ∃ W4, W4 = w3.setCell ⟨g, 0, none⟩ (.slice (some ⟨g3, 0, none⟩) (r.length + 1) c3) := ⟨_, rfl⟩
          rw [← hW4] at HI ⊢
          clear hW4 k3 f3 k0 f0 hbs hgs
          have k0 := (blk_cell HI.out.hb 0).trans (rfl : _ = some (Value.slice (some ⟨g3, 0, none⟩) (r.length + 1) c3))
          have k1 := (blk_cell HI.out.hb 1).trans (rfl : _ = some (Value.int .i64 mo))
          by_cases hfull : mo ≤ (r.length : Int) + 1
          · have hdf := decide_eq_true hfull
            go_quiet (fail)
            have hid := HI.out.drewN nq
            clear HI
            have HI := Aside0.mk hid
            clear hid k0 k1
            go_wp2_with (first
              | (go_at_call 74; refine (scut_any b g _ _ mo false 3 _ HI.out.hb HI.out.hr hg).mono ?_; rintro e w1 ⟨rfl, hb1, hk1, hl1⟩; have hi1 := HI.out.cut hb1 hk1 hl1; clear HI; have HI := Aside0.mk hi1; clear hi1 hb1 hk1 hl1)
              | (at_builtin; refine Kd.R_append kLn (w0 := _) w.heap.size rfl (.tmp 58) (.tmp 61) 83 59 (.agg #[(.string ⟨#[]⟩), (.int .i64 0)]) 24 rfl Try.underlying83 infoLnZ rfl (by decide) (by omega) u5 out ⟨strOfNums (trim (r ++ [x])), 3⟩ [.string (strOfNums (trim (r ++ [x]))), .int .i64 3] (fun _ => True) (fun _ => False) rfl rfl (kLn_mkM _ _ _ _) (fun _ h => h.elim) (fun _ _ => trivial) HI.out.ho (Below.refl _ _) HI.out.hk.1 (by omega) ?_; intro v2 w2 ho2 hbl2 hgr2 _; have hi2 := HI.out.line hbw ho2 hbl2 hgr2; clear HI; have HI := Aside0.mk hi2; clear hi2 ho2 hbl2 hgr2))
            go_roundg (l.length - (i + 1))
            case measure => have := hq.out; omega
            case rel => exact ⟨i + 1, _, [], _, by go_num, by omega, ⟨rfl⟩, by simp, by simp; omega, ⟨by rw [HFS.out, HF.out]; unfold stepW; rw [if_neg h10, if_neg h00, if_pos (by show mo ≤ ((r.length + 1 : Nat) : Int); omega)]⟩, HI⟩
          · have hdf := decide_eq_false hfull
            go_quiet (fail)
            have hid := HI.out.drewN nq
            clear HI
            have HI := Aside0.mk hid
            clear hid k0 k1
            go_wp2_with fail
            go_roundg (l.length - (i + 1))
            case measure => have := hq.out; omega
            case rel => exact ⟨i + 1, _, _, _, by go_num, by omega, ⟨rfl⟩, by simp; omega, by omega, ⟨by rw [HFS.out, HF.out]; unfold stepW; rw [if_neg h10, if_neg h00, if_neg (by show ¬ mo ≤ ((r.length + 1 : Nat) : Int); omega)]⟩, HI⟩
    · go_wp2_with fail
      go_ret
      refine ⟨vr, u5, rfl, ?_⟩
      have e : writeL mo r0 l = (r, out) := by rw [← HF.out, List.take_of_length_le (by omega)]; rfl
      rw [e]
      exact HI.out
end Go.Proofs.Ytldiginkmmlojaa
