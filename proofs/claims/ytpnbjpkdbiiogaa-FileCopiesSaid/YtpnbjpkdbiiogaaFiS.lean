/- The walk of the law FileCopies: it answers true. -/
import Derived.Test.YtpnbjpkdbiiogaaFiR
namespace Go.Proofs.Ytpnbjpkdbiiogaa
set_option linter.unusedVariables false
open Go.RowKit Go.Proofs.YtpnbjpkdbiiogaaW.PrintWords
attribute [local go_sem] mx2 mn2 mxTwo mnTwo

/-- The copy stays while the others are turned. -/
theorem FI.fr {W W1 : World} {b g g2 : Nat} {va vb vc vo rn : Value} {now safe : List Int} {ops : List FOp} {T : Nat → Prop} (h : FI W b g2 (fun k => some k ≠ rn.ownBlock ∧ some k ≠ vo.ownBlock) va vb vc now safe ops) (hg : g2 ≠ g ∧ some g2 ≠ vo.ownBlock ∧ some g2 ≠ rn.ownBlock) (hgt : ∃ cells, W.heap[g]? = some (.cells cells 137 (0, 0))) (hf : Fr W W1 (Own3 g vo rn) T) : FI W1 b g2 (fun k => some k ≠ rn.ownBlock ∧ some k ≠ vo.ownBlock) va vb vc now safe ops := by
  have nr : ∀ q k, q ≠ 178 → q ≠ 46 → (∃ cells, W.heap[k]? = some (.cells cells q (0, 0))) → NotRef W k := by
    intro q k h1 h2 ⟨cells, hc⟩ c q2 hc2
    rw [hc] at hc2
    cases hc2
    exact ⟨h1, h2⟩
  have step : ∀ q (k : Nat), q ≠ 178 → q ≠ 46 → q ≠ 137 → (∃ cells, W.heap[k]? = some (.cells cells q (0, 0))) → some k ≠ rn.ownBlock ∧ some k ≠ vo.ownBlock → k < W.heap.size → W1.heap[k]? = W.heap[k]? := by
    intro q k h1 h2 h3 hc hx hlt
    refine hf.keep k hlt (fun ho => ?_) (nr q k h1 h2 hc)
    obtain ⟨c1, hc1⟩ := hc
    obtain ⟨c2, hc2⟩ := hgt
    rcases ho with e | e | e
    · exact (blk_ne hc1 hc2 h3) e
    · exact hx.2 e
    · exact hx.1 e
  refine ⟨(hf.keep g2 (blk_lt h.hb) (fun ho => ?_) (nr 137 g2 (by decide) (by decide) ⟨_, h.hb⟩)).trans h.hb, ?_, ?_, ?_, h.hg⟩
  · rcases ho with e | e | e
    · exact hg.1 e
    · exact hg.2.1 e
    · exact hg.2.2 e
  · exact Kd.R_mono (Kd.R_step (Kd.R_bound h.hn) (fun k ho hlt => by
      obtain ⟨hx, _, _, q, hq, hc⟩ := ho
      exact step q k (u8E _ (by omega) q hq) (u8E _ (by omega) q hq) (u8E _ (by omega) q hq) hc hx hlt)) (fun k hk => hk.1)
  · exact Kd.R_mono (Kd.R_step (Kd.R_bound h.hs) (fun k ho hlt => by
      obtain ⟨hx, _, _, q, hq, hc⟩ := ho
      exact step q k (u8E _ (by omega) q hq) (u8E _ (by omega) q hq) (u8E _ (by omega) q hq) hc hx hlt)) (fun k hk => hk.1)
  · exact Kd.R_mono (Kd.R_step (Kd.R_bound h.ho) (fun k ho hlt => by
      obtain ⟨hx, _, _, q, hq, hc⟩ := ho
      exact step q k (opE _ (by omega) (by omega) q hq) (opE _ (by omega) (by omega) q hq) (opE _ (by omega) (by omega) q hq) hc hx hlt)) (fun k hk => hk.1)
theorem R_fr {W W1 : World} {b : Nat} {v : Value} {xs : List Int} {S T : Nat → Prop} (h : Kd.R (Kd.int .u8) 5 W b (fun _ => True) v xs) (hs : ∀ k, b ≤ k → k < W.heap.size → ¬ S k) (hf : Fr W W1 S T) : Kd.R (Kd.int .u8) 5 W1 b (fun _ => True) v xs :=
  Kd.R_mono (Kd.R_step (Kd.R_bound h) (fun k ho hlt => by
    obtain ⟨_, hb, hl, q, hq, cells, hc⟩ := ho
    refine hf.keep k hlt (hs k hb hl) (fun c q2 hc2 => ?_)
    rw [hc] at hc2
    cases hc2
    exact ⟨u8E _ (by omega) q hq, u8E _ (by omega) q hq⟩)) (fun _ _ => trivial)
theorem grown_R {α : Type} {d : Kd α} {e : Nat} {W W1 : World} {b : Nat} {x : Nat → Prop} {v : Value} {xs : List α} (h : d.R e W b x v xs) {k : Nat} (hg : W.grownBy W1 (some k)) (hx : ∀ q, x q → q ≠ k) : d.R e W1 b x v xs := Kd.R_grown h hg (fun q hq e => hx q hq (by injection e))
/-- A row beyond some blocks is written: a file all of whose blocks are others stays. -/
theorem grown_FI {W W1 : World} {b g k : Nat} {x y : Nat → Prop} {vn vs vo : Value} {now safe : List Int} {ops : List FOp} (h : FI W b g (fun q => (x q ∧ q ≠ k) ∧ y q) vn vs vo now safe ops) (hg : W.grownBy W1 (some k)) (hne : k < g) : FI W1 b g (fun q => (x q ∧ q ≠ k) ∧ y q) vn vs vo now safe ops :=
  ⟨blk_grown h.hb hg (fun e => by injection e; omega), grown_R h.hn hg (fun q hq => hq.1.2), grown_R h.hs hg (fun q hq => hq.1.2), grown_R h.ho hg (fun q hq => hq.1.2), h.hg⟩
/-- The copy in memory, and the bytes that lie beside it. -/
structure CpS (W : World) (b m g2 : Nat) (va vb vc vo rn vv : Value) (s : FSt) : Prop where
  f : FI W b g2 (fun k => some k ≠ rn.ownBlock ∧ some k ≠ vo.ownBlock) va vb vc s.now s.safe s.ops
  v : Kd.R (Kd.int .u8) 5 W m (fun _ => True) vv s.now
  hg : m ≤ g2
theorem CpS.fr {W W1 : World} {b m g g2 : Nat} {va vb vc vo rn vv : Value} {s : FSt} {T : Nat → Prop} (h : CpS W b m g2 va vb vc vo rn vv s) (hl : ∀ k, m ≤ k → ¬ Own3 g vo rn k) (hgt : ∃ cells, W.heap[g]? = some (.cells cells 137 (0, 0))) (hf : Fr W W1 (Own3 g vo rn) T) : CpS W1 b m g2 va vb vc vo rn vv s :=
  ⟨h.f.fr ⟨fun e => hl g2 h.hg (.inl e), fun e => hl g2 h.hg (.inr (.inl e)), fun e => hl g2 h.hg (.inr (.inr e))⟩ hgt hf, R_fr h.v (fun k hk _ => hl k hk) hf, h.hg⟩
set_option maxHeartbeats 4000000 in
set_option maxRecDepth 100000 in
theorem fcopies_walk (A : Option Addr) (c : Nat) (xs : List FAct) (A0 : Option Addr) (c0 : Nat) (ys : List FAct) (w : World) (hp : Kd.C kAct w A xs.length xs) (hc : xs.length ≤ c) (hg : ∀ x ∈ xs, goodAct x) (hp2 : Kd.C kAct w A0 ys.length ys) (hc2 : ys.length ≤ c0) (hg2 : ∀ x ∈ ys, goodAct x) :
    Calls Try.prog 8 #[.slice A xs.length c, .slice A0 ys.length c0] w fun e w' => e = .returned (.bool true) ∧ Below w.heap.size w w' := by
  have hm := Kd.C_max hp
  have hmk := Kd.C_max hp2
  have HP := Aside0.mk hp
  have HP2 := Aside0.mk hp2
  clear hp hg hp2 hg2
  go_enter Try.func8, Try.ntmps8
  go_wp2_with (first
    | (go_at_call 30; refine (fnew_any w.heap.size (fun _ => True) w (Nat.le_refl _)).mono ?_; rintro e W0 ⟨rfl, hf, hb⟩; have HF0 := Aside0.mk hf; have HB := Aside0.mk hb; clear hf hb))
  have hfs : FS (W0.alloc (.cells #[.slice none 0 0, .slice none 0 0, .slice none 0 0] 46)) w.heap.size w.heap.size W0.heap.size (.slice none 0 0) (.slice none 0 0) (.slice none 0 0) (.slice none 0 0) (.slice none 0 0) (.slice none 0 0) [] [] [] := ⟨(FI.to HF0.out (Nat.le_refl _) (fun q _ _ _ => by simp [Value.ownBlock])).below (below_alloc (Below.refl _ _) _), ⟨blk_new _ _, Kd.R_nil _ _ _ _ _, Kd.R_nil _ _ _ _ _, Kd.R_nil _ _ _ _ _, HB.out.size⟩⟩
  have HS := Aside0.mk hfs
  have hbn := below_alloc HB.out (.cells #[.slice none 0 0, .slice none 0 0, .slice none 0 0] 46)
  clear HB hfs HF0
  have HB := Aside0.mk hbn
  clear hbn
  go_loopg [5, 6, 7] 12 (fun q v7 v8 v9 wr => ∃ (i g r : Nat) (vn vs vo rn rs ro : Value) (s : FSt), v9 = .int .i64 (i : Int) ∧ v7 = .pointer (some ⟨g, 0, none⟩) ∧ v8 = .pointer (some ⟨r, 0, none⟩) ∧ i ≤ (xs).length ∧ i ≤ 12 ∧ Aside0 (q = 12 - i) ∧ Aside0 (Bd s i) ∧ Aside0 (FS wr w.heap.size g r vn vs vo rn rs ro s.now s.safe s.ops) ∧ Aside0 (Below w.heap.size w wr))
  case atStart => exact ⟨0, _, _, _, _, _, _, _, _, ⟨[], [], []⟩, rfl, rfl, rfl, Nat.zero_le _, Nat.zero_le _, ⟨rfl⟩, ⟨⟨by simp, by simp, by simp, by simp⟩⟩, HS, HB⟩
  case round =>
    clear HS HB
    obtain ⟨i, g, r, vn, vs, vo, rn, rs, ro, s, rfl, rfl, rfl, hi, hi2, hq, HBD, HS, HB⟩ := hrel
    by_cases hgo : i < (xs).length ∧ i < 12
    · obtain ⟨hlt, h20⟩ := hgo
      obtain ⟨ad, A2, c2, A3, c3, e1, r1, r2, r3, r4, hlc, hC2, _, hC3⟩ := at_Act HP.out i hlt
      subst e1
      obtain ⟨a, ha⟩ : ∃ a, a = (xs).getD i zAct := ⟨_, rfl⟩
      rw [← ha] at r1 r2 r3 r4 hlc hC2 hC3
      have HC2 := Aside0.mk hC2
      have HC3 := Aside0.mk hC3
      replace r1 := pw_cell_below HB.out r1
      replace r2 := pw_cell_below HB.out r2
      replace r3 := pw_cell_below HB.out r3
      replace r4 := pw_cell_below HB.out r4
      clear ha hC2 hC3
      by_cases hl : a.b.length ≤ 400 ∧ a.keep.length ≤ 200 ∧ (a.at_ ≤ 2000 ∨ 1048576 < a.at_)
      · obtain ⟨hl1, hl2, hl3⟩ := hl
        have HLK := Aside0.mk (show a.at_ ≤ 2000 ∨ ¬ a.at_ ≤ 2000 ∧ 1048576 < a.at_ by omega)
        clear hl3
        go_wp2_with (first
          | (go_at_call 32; refine (light_yes a.kd a.at_ A2 A3 a.b.length c2 a.keep.length c3 _ hl1 hl2 HLK.out).mono ?_; rintro e w1 ⟨rfl, hb⟩; replace r1 := pw_cell_below hb r1; replace r2 := pw_cell_below hb r2; replace r3 := pw_cell_below hb r3; replace r4 := pw_cell_below hb r4; have hs := HS.out.below hb; have hbn := below_step HB.out hb; clear HS HB; have HS := Aside0.mk hs; have HB := Aside0.mk hbn; clear hs hbn hb)
          | (go_at_call 33; refine (does_any w.heap.size g r vn vs vo rn rs ro s a i A2 A3 c2 c3 _ HS.out HBD.out (by omega) hl1 hlc (fun W' hb' => Kd.C_below HC2.out (HB.out.trans hb')) (Kd.C_below HC3.out HB.out)).mono ?_; rintro e w2 ⟨g', r', vn1, vs1, vo1, rn1, rs1, ro1, rfl, hfs, _, hbl⟩; have hbn := HB.out.trans hbl; have HBD2 := Aside0.mk (stepF_bd s a i HBD.out hl1); clear HS HB; have HS := Aside0.mk hfs; have HB := Aside0.mk hbn; clear hfs hbn hbl))
        go_roundg (12 - (i + 1))
        case measure => have := hq.out; omega
        case rel => exact ⟨i + 1, _, _, _, _, _, _, _, _, _, by go_num, rfl, rfl, by omega, by omega, ⟨rfl⟩, HBD2, HS, HB⟩
      · have HNL := Aside0.mk hl
        clear hl
        go_wp2_with (first
          | (go_at_call 32; refine (light_no a.kd a.at_ A2 A3 a.b.length c2 a.keep.length c3 _ HNL.out).mono ?_; rintro e w1 ⟨rfl, hb⟩; have hbn := below_step HB.out hb; clear HB; have HB := Aside0.mk hbn; clear hbn hb)
          | (go_at_call 31; refine (awake06_any _).mono ?_; rintro e W9 ⟨rfl, hb⟩; have hbn := below_step HB.out hb; clear HB; have HB := Aside0.mk hbn; clear hb hbn))
        go_ret
        exact ⟨rfl, HB.out⟩
    · by_cases hlt : i < xs.length
      · obtain rfl : i = 12 := by omega
        clear hgo
        obtain ⟨An, cn, hrn, _, hCn⟩ := Kd.R_reads HS.out.r.hn
        subst hrn
        obtain ⟨Ao, co, hro⟩ := Kd.R_slice HS.out.r.ho
        subst hro
        have s0 := (blk_cell HS.out.r.hb 0).trans (rfl : _ = some (Value.slice An s.now.length cn))
        have s2 := (blk_cell HS.out.r.hb 2).trans (rfl : _ = some (Value.slice Ao s.ops.length co))
        have HCN := Aside0.mk hCn
        have hbd := HBD.out
        have hnl := hbd.now
        have hol : s.ops.length ≤ 6000 := Nat.le_trans hbd.ops (by omega)
        clear hCn
        have HBS := Aside0.mk hbd
        clear hbd
        have HLT := Aside0.mk (show ∀ k, wr.heap.size ≤ k → ¬ Own3 g vo (Value.slice An s.now.length cn) k from fun k hk ho => by
          rcases ho with e | e | e
          · exact absurd (blk_lt HS.out.f.hb) (by omega)
          · exact absurd (R_lt HS.out.f.ho k e.symm) (by omega)
          · exact absurd (R_lt HS.out.r.hn k e.symm) (by omega))
        have hxx : ∀ q, wr.heap.size ≤ q → some q ≠ (Value.slice An s.now.length cn).ownBlock := fun q hq e => HLT.out q hq (.inr (.inr e))
        have hvv : ∀ q, wr.heap.size ≤ q → some q ≠ vo.ownBlock := fun q hq e => HLT.out q hq (.inr (.inl e))
        have HC1 := Aside0.mk (fcopy_any w.heap.size g (fun k => some k ≠ (Value.slice An s.now.length cn).ownBlock) vn vs vo s.now s.safe s.ops wr.drew HS.out.f.drew hxx hnl HBS.out.safe (by omega))
        have HE0 := Aside0.mk (Kd.R_drew (R_empty (Kd.int .u8) 5 wr wr.heap.size (fun _ => True) trivial (Nat.le_refl _)))
        have HBA := Aside0.mk (below_drew1 (below_alloc (Below.refl wr.heap.size wr) (.cells #[] 5)))
        have HC2 := Aside0.mk (fcopy_any w.heap.size g (fun k => some k ≠ (Value.slice An s.now.length cn).ownBlock ∧ k ≠ wr.heap.size) vn vs vo s.now s.safe s.ops (wr.alloc (.cells #[] 5)).drew (FI.drew ((FI.to HS.out.f (Nat.le_refl _) (fun k _ hlt hx => ⟨hx, Nat.ne_of_lt hlt⟩)).below (below_alloc (Below.refl _ _) _))) (fun q hq => ⟨hxx q (Nat.le_trans HBA.out.size hq), fun e => by have h9 : wr.heap.size + 1 ≤ q := Nat.le_trans (by rw [← World.size_alloc]; exact Nat.le_refl _) hq; omega⟩) hnl HBS.out.safe (by omega))
        clear hxx hvv
        go_wp2_with fail
        go_region_held3 (fun w' => w'.cell? ⟨r, 0, none⟩ = some (.slice An s.now.length cn) ∧ w'.cell? ⟨r, 2, none⟩ = some (.slice Ao s.ops.length co)) (first | with_reducible exact ⟨s0, s2⟩ | exact ⟨s0, s2⟩ | exact ⟨cell_al _ s0, cell_al _ s2⟩) (first
          | (go_at_call 39; (with_reducible refine HC1.out.mono ?_); rintro e w3 ⟨g2, va, vb, vc, rfl, hg2, hf, hb⟩; have hbw := (below_drew1 (Below.refl wr.heap.size wr)).trans hb; replace s0 := pw_cell_below hbw s0; replace s2 := pw_cell_below hbw s2; have HNE := Aside0.mk (show wr.heap.size ≤ g2 from hg2); have HBW := Aside0.mk hbw; have HF := Aside0.mk hf; clear HC1 HC2 HE0 HBA hbw hf hb hg2)
          | (go_at_call 39; (with_reducible refine HC2.out.mono ?_); rintro e w3 ⟨g2, va, vb, vc, rfl, hg2, hf, hb⟩; have hbw := HBA.out.trans (hb.mono HBA.out.size); replace s0 := pw_cell_below hbw s0; replace s2 := pw_cell_below hbw s2; have HNE := Aside0.mk (show wr.heap.size < g2 from Nat.lt_of_lt_of_le (by rw [World.size_drew, World.size_alloc]; exact Nat.lt_succ_self _) hg2); have HE := Aside0.mk (Kd.R_below HE0.out hb); have HBW := Aside0.mk hbw; have HF := Aside0.mk hf; clear HC1 HC2 HE0 HBA hbw hf hb hg2)
          | (refine Kd.R_append_rows_step (Kd.int .u8) (Rr := (Kd.int .u8).K w3) (w0 := w3) wr.heap.size (by rfl) (.tmp 54) (.tmp 58) 22 5 (.int .u8 0) 1 rfl Try.underlying22 infoU8 rfl (by decide) (by omega) (.slice (some ⟨wr.heap.size, 0, none⟩) 0 0) [] s.now An s.now.length cn (fun _ => True) (fun _ => False) (by rfl) (by rfl) HE.out (Kd.C_below HCN.out HBW.out) (fun _ _ h => h) (fun _ h => h.elim) (fun _ _ => trivial) (Below.refl _ _) HBW.out.size (by simp; omega) ?_; intro v4 w4 h4 hb4 hg4 _; rw [List.nil_append] at h4; obtain ⟨A4, c4, rfl, hc4, _⟩ := Kd.R_reads h4; have hbw := HBW.out.trans hb4; have hs := HS.out.below hbw; replace s0 := (blk_cell hs.r.hb 0).trans (rfl : _ = some (Value.slice An s.now.length cn)); replace s2 := (blk_cell hs.r.hb 2).trans (rfl : _ = some (Value.slice Ao s.ops.length co)); have hf := grown_FI HF.out hg4 HNE.out; clear HF HBW HE; have HBW := Aside0.mk hbw; have HF := Aside0.mk hf; have HV := Aside0.mk h4; clear hs hbw hf h4 hb4 hg4)
          | (refine Kd.R_append_rows_step (Kd.int .u8) (Rr := (Kd.int .u8).K w3) (w0 := w3) w3.heap.size (by rfl) (.tmp 54) (.tmp 58) 22 5 (.int .u8 0) 1 rfl Try.underlying22 infoU8 rfl (by decide) (by omega) (.slice (some ⟨w3.heap.size, 0, none⟩) 0 0) [] s.now An s.now.length cn (fun _ => True) (fun _ => False) (by rfl) (by rfl) (R_empty _ _ _ _ _ trivial) (Kd.C_alloc (Kd.C_below HCN.out HBW.out) _) (fun _ _ h => h) (fun _ h => h.elim) (fun _ _ => trivial) (below_alloc (Below.refl _ _) _) (by simp) (by simp; omega) ?_; intro v4 w4 h4 hb4 _ _; rw [List.nil_append] at h4; obtain ⟨A4, c4, rfl, hc4, _⟩ := Kd.R_reads h4; replace s0 := pw_cell_below hb4 s0; replace s2 := pw_cell_below hb4 s2; have hbw := below_step HBW.out hb4; have hf := HF.out.below hb4; have hv := Kd.R_lower h4 HBW.out.size; clear HF HBW; have HBW := Aside0.mk hbw; have HF := Aside0.mk hf; have HV := Aside0.mk hv; clear hbw hf hv h4 hb4))
        all_goals
          go_wp2_with fail
          clear s0 s2
          have hcp : CpS w4 w.heap.size wr.heap.size g2 va vb vc vo (Value.slice An s.now.length cn) (Value.slice A4 s.now.length c4) s := by
            first
            | exact ⟨HF.out, HV.out, HNE.out⟩
            | exact ⟨FI.to HF.out (Nat.le_refl _) (fun k _ _ hk => ⟨hk.1.1, hk.2⟩), HV.out, Nat.le_of_lt HNE.out⟩
          have hs4 := HS.out.below HBW.out
          have hb4 := below_step HB.out HBW.out
          have HGT := Aside0.mk (show ∃ cells, w4.heap[g]? = some (.cells cells 137 (0, 0)) from ⟨_, hs4.f.hb⟩)
          have HRD := Aside0.mk (readL_all s.now hnl)
          have HCP := Aside0.mk hcp
          clear HS HB HBW HF HV HNE HCN hcp HBS
          have HS := Aside0.mk hs4
          have HB := Aside0.mk hb4
          clear hs4 hb4
          obtain ⟨s1, hs1E⟩ : ∃ s1, s1 = s := ⟨_, rfl⟩
          have HBD1 : Aside0 (Bd s1 12) := ⟨by rw [hs1E]; exact ⟨HBD.out.now, HBD.out.safe, HBD.out.op, Nat.le_trans HBD.out.ops (by omega)⟩⟩
          have HS1 : Aside0 (FS w4 w.heap.size g r vn vs vo (.slice An s.now.length cn) rs (.slice Ao s.ops.length co) s1.now s1.safe s1.ops) := ⟨by rw [hs1E]; exact HS.out⟩
          have HFR0 := Aside0.mk (Fr.refl w4 (Own3 g vo (Value.slice An s.now.length cn)))
          obtain ⟨gf, hgf⟩ : ∃ gf, gf = g := ⟨_, rfl⟩
          obtain ⟨rf, hrf⟩ : ∃ rf, rf = r := ⟨_, rfl⟩
          rw [← hgf, ← hrf] at HS1
          rw [← hgf, ← hrf]
          have HFR1 : Aside0 (Fr w4 w4 (Own3 g vo (Value.slice An s.now.length cn)) (Own3 gf vo (Value.slice An s.now.length cn))) := ⟨by rw [hgf]; exact HFR0.out⟩
          clear HS HFR0 hs1E hgf hrf HBD
          go_loopg [5, 6, 14] 12 (fun q v7 v8 v9 wq => ∃ (i g5 r5 : Nat) (vn5 vs5 vo5 rn5 rs5 ro5 : Value) (s5 : FSt), v9 = .int .i64 (i : Int) ∧ v7 = .pointer (some ⟨g5, 0, none⟩) ∧ v8 = .pointer (some ⟨r5, 0, none⟩) ∧ i ≤ ys.length ∧ i ≤ 12 ∧ Aside0 (q = 12 - i) ∧ Aside0 (Bd s5 (12 + i)) ∧ Aside0 (FS wq w.heap.size g5 r5 vn5 vs5 vo5 rn5 rs5 ro5 s5.now s5.safe s5.ops) ∧ Aside0 (Fr w4 wq (Own3 g vo (Value.slice An s.now.length cn)) (Own3 g5 vo5 rn5)) ∧ Aside0 (Below w.heap.size w wq))
          case atStart => exact ⟨0, _, _, _, _, _, _, _, _, s1, rfl, rfl, rfl, Nat.zero_le _, Nat.zero_le _, ⟨rfl⟩, HBD1, HS1, HFR1, HB⟩
          case round =>
            clear HS1 HB HBD1 HFR1
            obtain ⟨i5, g5, r5, vn5, vs5, vo5, rn5, rs5, ro5, s5, rfl, rfl, rfl, hi5, hi25, hq5, HBD, HS, HFR, HB⟩ := hrel
            by_cases hgo : i5 < ys.length ∧ i5 < 12
            · obtain ⟨hlt5, h205⟩ := hgo
              obtain ⟨ad, A2, c2, A3, c3, e1, r1, r2, r3, r4, hlc, hC2, _, hC3⟩ := at_Act HP2.out i5 hlt5
              subst e1
              obtain ⟨a, ha⟩ : ∃ a, a = ys.getD i5 zAct := ⟨_, rfl⟩
              rw [← ha] at r1 r2 r3 r4 hlc hC2 hC3
              have HC2 := Aside0.mk hC2
              have HC3 := Aside0.mk hC3
              replace r1 := pw_cell_below HB.out r1
              replace r2 := pw_cell_below HB.out r2
              replace r3 := pw_cell_below HB.out r3
              replace r4 := pw_cell_below HB.out r4
              clear ha hC2 hC3
              by_cases hl : a.b.length ≤ 400 ∧ a.keep.length ≤ 200 ∧ (a.at_ ≤ 2000 ∨ 1048576 < a.at_)
              · obtain ⟨hl1, hl2, hl3⟩ := hl
                have HLK := Aside0.mk (show a.at_ ≤ 2000 ∨ ¬ a.at_ ≤ 2000 ∧ 1048576 < a.at_ by omega)
                clear hl3
                go_wp2_with (first
                  | (go_at_call 32; refine (light_yes a.kd a.at_ A2 A3 a.b.length c2 a.keep.length c3 _ hl1 hl2 HLK.out).mono ?_; rintro e w1 ⟨rfl, hb⟩; replace r1 := pw_cell_below hb r1; replace r2 := pw_cell_below hb r2; replace r3 := pw_cell_below hb r3; replace r4 := pw_cell_below hb r4; have hs := HS.out.below hb; have hbn := below_step HB.out hb; have hfr := HFR.out.then_below hb; clear HS HB HFR; have HS := Aside0.mk hs; have HB := Aside0.mk hbn; have HFR := Aside0.mk hfr; clear hs hbn hb hfr)
                  | (go_at_call 33; refine (does_any w.heap.size g5 r5 vn5 vs5 vo5 rn5 rs5 ro5 s5 a (12 + i5) A2 A3 c2 c3 _ HS.out HBD.out (by omega) hl1 hlc (fun W' hb' => Kd.C_below HC2.out (HB.out.trans hb')) (Kd.C_below HC3.out HB.out)).mono ?_; rintro e w2 ⟨g', r', vn1, vs1, vo1, rn1, rs1, ro1, rfl, hfs, hfr0, hbl⟩; have hbn := HB.out.trans hbl; have hfr := HFR.out.trans hfr0; have HBD2 := Aside0.mk (stepF_bd s5 a (12 + i5) HBD.out hl1); clear HS HB HFR; have HS := Aside0.mk hfs; have HB := Aside0.mk hbn; have HFR := Aside0.mk hfr; clear hfs hbn hbl hfr hfr0))
                go_roundg (12 - (i5 + 1))
                case measure => have := hq5.out; omega
                case rel => exact ⟨i5 + 1, _, _, _, _, _, _, _, _, _, by go_num, rfl, rfl, by omega, by omega, ⟨rfl⟩, HBD2, HS, HFR, HB⟩
              · have HNL := Aside0.mk hl
                clear hl
                go_wp2_with (first
                  | (go_at_call 32; refine (light_no a.kd a.at_ A2 A3 a.b.length c2 a.keep.length c3 _ HNL.out).mono ?_; rintro e w1 ⟨rfl, hb⟩; have hbn := below_step HB.out hb; clear HB; have HB := Aside0.mk hbn; clear hbn hb)
                  | (go_at_call 31; refine (awake06_any _).mono ?_; rintro e W9 ⟨rfl, hb⟩; have hbn := below_step HB.out hb; clear HB; have HB := Aside0.mk hbn; clear hb hbn))
                go_ret
                exact ⟨rfl, HB.out⟩
            · have hcq := HCP.out.fr HLT.out HGT.out HFR.out
              have HCF := Aside0.mk hcq.f
              have HCV := Aside0.mk (C_own hcq.v)
              have h5n := HBD.out.now
              clear hcq HFR HCP
              by_cases hlt5 : i5 < ys.length
              · obtain rfl : i5 = 12 := by omega
                clear hgo
                go_wp2_with (first
                  | (go_at_call 40; (with_reducible refine (flen_nil _).mono ?_); rintro e wa ⟨rfl, rfl⟩)
                  | (go_at_call 37; (with_reducible refine (fread_nil 0 5 _).mono ?_); rintro e wb ⟨rfl, rfl⟩)
                  | (go_at_call 41; refine (fwrite_nil 0 _ 1 1 _).mono ?_; rintro e wc ⟨rfl, hw⟩; have hb9 : Below wb.heap.size wb wc := (by rw [hw]; exact below_alloc (Below.refl _ _) _); have hs := HS.out.below hb9; have hbn := below_step HB.out hb9; have hcf := HCF.out.below hb9; have hcv := Kd.C_below HCV.out hb9; clear HS HB HCF HCV hw; have HS := Aside0.mk hs; have HB := Aside0.mk hbn; have HCF := Aside0.mk hcf; have HCV := Aside0.mk hcv; clear hs hbn hcf hcv hb9)
                  | (go_at_call 42; refine (ftrunc_nil 5 _).mono ?_; rintro e wd ⟨rfl, rfl⟩)
                  | (go_at_call 35; (with_reducible refine (fpending_nil _).mono ?_); rintro e we ⟨rfl, rfl⟩)
                  | (go_at_call 39; refine (fcopy_nil _).mono ?_; rintro e wf ⟨rfl, rfl⟩)
                  | (go_at_call 36; refine (fcrash_nil none 0 0 _).mono ?_; rintro e wg ⟨rfl, rfl⟩)
                  | (go_at_call 38; refine (fsync_nil _).mono ?_; rintro e wh ⟨rfl, rfl⟩)
                  | (go_at_call 37; (with_reducible refine (fread_any w.heap.size g2 _ va vb vc s.now s.safe s.ops 0 1048576 _ HCF.out (by omega)).mono ?_); rw [HRD.out]; rintro e w7 ⟨A7, c7, rfl, hc, hb⟩; have hs := HS.out.below hb; have hbn := below_step HB.out hb; have hcf := HCF.out.below hb; have hcv := Kd.C_below HCV.out hb; clear HS HB HCF HCV; have HS := Aside0.mk hs; have HB := Aside0.mk hbn; have HCF := Aside0.mk hcf; have HCV := Aside0.mk hcv; have HX := Aside0.mk hc; clear hs hbn hcf hcv hb hc)
                  | (go_at_call 20; refine (same_any A7 A4 _ _ c7 c4 _ _ HX.out HCV.out).mono ?_; rintro e w8 ⟨rfl, rfl⟩; clear HX)
                  | (go_at_call 35; (with_reducible refine (fpending_any w.heap.size g2 _ va vb vc s.now s.safe s.ops _ HCF.out).mono ?_); rintro e w9 ⟨rfl, rfl⟩)
                  | (go_at_call 34; refine (shows_any w.heap.size g5 r5 vn5 vs5 vo5 rn5 rs5 ro5 s5.now s5.safe s5.ops 0 10 _ HS.out h5n).mono ?_; rintro e w10 ⟨rfl, hb⟩; have hbn := below_step HB.out hb; clear HB; have HB := Aside0.mk hbn; clear hbn hb)
                  | (go_at_call 31; refine (awake06_any _).mono ?_; rintro e W9 ⟨rfl, hb⟩; have hbn := below_step HB.out hb; clear HB; have HB := Aside0.mk hbn; clear hb hbn))
                go_ret
                exact ⟨rfl, HB.out⟩
              · obtain rfl : i5 = ys.length := by omega
                clear hgo
                go_wp2_with (first
                  | (go_at_call 40; (with_reducible refine (flen_nil _).mono ?_); rintro e wa ⟨rfl, rfl⟩)
                  | (go_at_call 37; (with_reducible refine (fread_nil 0 5 _).mono ?_); rintro e wb ⟨rfl, rfl⟩)
                  | (go_at_call 41; refine (fwrite_nil 0 _ 1 1 _).mono ?_; rintro e wc ⟨rfl, hw⟩; have hb9 : Below wb.heap.size wb wc := (by rw [hw]; exact below_alloc (Below.refl _ _) _); have hs := HS.out.below hb9; have hbn := below_step HB.out hb9; have hcf := HCF.out.below hb9; have hcv := Kd.C_below HCV.out hb9; clear HS HB HCF HCV hw; have HS := Aside0.mk hs; have HB := Aside0.mk hbn; have HCF := Aside0.mk hcf; have HCV := Aside0.mk hcv; clear hs hbn hcf hcv hb9)
                  | (go_at_call 42; refine (ftrunc_nil 5 _).mono ?_; rintro e wd ⟨rfl, rfl⟩)
                  | (go_at_call 35; (with_reducible refine (fpending_nil _).mono ?_); rintro e we ⟨rfl, rfl⟩)
                  | (go_at_call 39; refine (fcopy_nil _).mono ?_; rintro e wf ⟨rfl, rfl⟩)
                  | (go_at_call 36; refine (fcrash_nil none 0 0 _).mono ?_; rintro e wg ⟨rfl, rfl⟩)
                  | (go_at_call 38; refine (fsync_nil _).mono ?_; rintro e wh ⟨rfl, rfl⟩)
                  | (go_at_call 37; (with_reducible refine (fread_any w.heap.size g2 _ va vb vc s.now s.safe s.ops 0 1048576 _ HCF.out (by omega)).mono ?_); rw [HRD.out]; rintro e w7 ⟨A7, c7, rfl, hc, hb⟩; have hs := HS.out.below hb; have hbn := below_step HB.out hb; have hcf := HCF.out.below hb; have hcv := Kd.C_below HCV.out hb; clear HS HB HCF HCV; have HS := Aside0.mk hs; have HB := Aside0.mk hbn; have HCF := Aside0.mk hcf; have HCV := Aside0.mk hcv; have HX := Aside0.mk hc; clear hs hbn hcf hcv hb hc)
                  | (go_at_call 20; refine (same_any A7 A4 _ _ c7 c4 _ _ HX.out HCV.out).mono ?_; rintro e w8 ⟨rfl, rfl⟩; clear HX)
                  | (go_at_call 35; (with_reducible refine (fpending_any w.heap.size g2 _ va vb vc s.now s.safe s.ops _ HCF.out).mono ?_); rintro e w9 ⟨rfl, rfl⟩)
                  | (go_at_call 34; refine (shows_any w.heap.size g5 r5 vn5 vs5 vo5 rn5 rs5 ro5 s5.now s5.safe s5.ops 0 10 _ HS.out h5n).mono ?_; rintro e w10 ⟨rfl, hb⟩; have hbn := below_step HB.out hb; clear HB; have HB := Aside0.mk hbn; clear hbn hb)
                  | (go_at_call 31; refine (awake06_any _).mono ?_; rintro e W9 ⟨rfl, hb⟩; have hbn := below_step HB.out hb; clear HB; have HB := Aside0.mk hbn; clear hb hbn))
                go_ret
                exact ⟨rfl, HB.out⟩
      · obtain rfl : i = xs.length := by omega
        clear hgo
        obtain ⟨An, cn, hrn, _, hCn⟩ := Kd.R_reads HS.out.r.hn
        subst hrn
        obtain ⟨Ao, co, hro⟩ := Kd.R_slice HS.out.r.ho
        subst hro
        have s0 := (blk_cell HS.out.r.hb 0).trans (rfl : _ = some (Value.slice An s.now.length cn))
        have s2 := (blk_cell HS.out.r.hb 2).trans (rfl : _ = some (Value.slice Ao s.ops.length co))
        have HCN := Aside0.mk hCn
        have hbd := HBD.out
        have hnl := hbd.now
        have hol : s.ops.length ≤ 6000 := Nat.le_trans hbd.ops (by omega)
        clear hCn
        have HBS := Aside0.mk hbd
        clear hbd
        have HLT := Aside0.mk (show ∀ k, wr.heap.size ≤ k → ¬ Own3 g vo (Value.slice An s.now.length cn) k from fun k hk ho => by
          rcases ho with e | e | e
          · exact absurd (blk_lt HS.out.f.hb) (by omega)
          · exact absurd (R_lt HS.out.f.ho k e.symm) (by omega)
          · exact absurd (R_lt HS.out.r.hn k e.symm) (by omega))
        have hxx : ∀ q, wr.heap.size ≤ q → some q ≠ (Value.slice An s.now.length cn).ownBlock := fun q hq e => HLT.out q hq (.inr (.inr e))
        have hvv : ∀ q, wr.heap.size ≤ q → some q ≠ vo.ownBlock := fun q hq e => HLT.out q hq (.inr (.inl e))
        have HC1 := Aside0.mk (fcopy_any w.heap.size g (fun k => some k ≠ (Value.slice An s.now.length cn).ownBlock) vn vs vo s.now s.safe s.ops wr.drew HS.out.f.drew hxx hnl HBS.out.safe (by omega))
        have HE0 := Aside0.mk (Kd.R_drew (R_empty (Kd.int .u8) 5 wr wr.heap.size (fun _ => True) trivial (Nat.le_refl _)))
        have HBA := Aside0.mk (below_drew1 (below_alloc (Below.refl wr.heap.size wr) (.cells #[] 5)))
        have HC2 := Aside0.mk (fcopy_any w.heap.size g (fun k => some k ≠ (Value.slice An s.now.length cn).ownBlock ∧ k ≠ wr.heap.size) vn vs vo s.now s.safe s.ops (wr.alloc (.cells #[] 5)).drew (FI.drew ((FI.to HS.out.f (Nat.le_refl _) (fun k _ hlt hx => ⟨hx, Nat.ne_of_lt hlt⟩)).below (below_alloc (Below.refl _ _) _))) (fun q hq => ⟨hxx q (Nat.le_trans HBA.out.size hq), fun e => by have h9 : wr.heap.size + 1 ≤ q := Nat.le_trans (by rw [← World.size_alloc]; exact Nat.le_refl _) hq; omega⟩) hnl HBS.out.safe (by omega))
        clear hxx hvv
        go_wp2_with fail
        go_region_held3 (fun w' => w'.cell? ⟨r, 0, none⟩ = some (.slice An s.now.length cn) ∧ w'.cell? ⟨r, 2, none⟩ = some (.slice Ao s.ops.length co)) (first | with_reducible exact ⟨s0, s2⟩ | exact ⟨s0, s2⟩ | exact ⟨cell_al _ s0, cell_al _ s2⟩) (first
          | (go_at_call 39; (with_reducible refine HC1.out.mono ?_); rintro e w3 ⟨g2, va, vb, vc, rfl, hg2, hf, hb⟩; have hbw := (below_drew1 (Below.refl wr.heap.size wr)).trans hb; replace s0 := pw_cell_below hbw s0; replace s2 := pw_cell_below hbw s2; have HNE := Aside0.mk (show wr.heap.size ≤ g2 from hg2); have HBW := Aside0.mk hbw; have HF := Aside0.mk hf; clear HC1 HC2 HE0 HBA hbw hf hb hg2)
          | (go_at_call 39; (with_reducible refine HC2.out.mono ?_); rintro e w3 ⟨g2, va, vb, vc, rfl, hg2, hf, hb⟩; have hbw := HBA.out.trans (hb.mono HBA.out.size); replace s0 := pw_cell_below hbw s0; replace s2 := pw_cell_below hbw s2; have HNE := Aside0.mk (show wr.heap.size < g2 from Nat.lt_of_lt_of_le (by rw [World.size_drew, World.size_alloc]; exact Nat.lt_succ_self _) hg2); have HE := Aside0.mk (Kd.R_below HE0.out hb); have HBW := Aside0.mk hbw; have HF := Aside0.mk hf; clear HC1 HC2 HE0 HBA hbw hf hb hg2)
          | (refine Kd.R_append_rows_step (Kd.int .u8) (Rr := (Kd.int .u8).K w3) (w0 := w3) wr.heap.size (by rfl) (.tmp 54) (.tmp 58) 22 5 (.int .u8 0) 1 rfl Try.underlying22 infoU8 rfl (by decide) (by omega) (.slice (some ⟨wr.heap.size, 0, none⟩) 0 0) [] s.now An s.now.length cn (fun _ => True) (fun _ => False) (by rfl) (by rfl) HE.out (Kd.C_below HCN.out HBW.out) (fun _ _ h => h) (fun _ h => h.elim) (fun _ _ => trivial) (Below.refl _ _) HBW.out.size (by simp; omega) ?_; intro v4 w4 h4 hb4 hg4 _; rw [List.nil_append] at h4; obtain ⟨A4, c4, rfl, hc4, _⟩ := Kd.R_reads h4; have hbw := HBW.out.trans hb4; have hs := HS.out.below hbw; replace s0 := (blk_cell hs.r.hb 0).trans (rfl : _ = some (Value.slice An s.now.length cn)); replace s2 := (blk_cell hs.r.hb 2).trans (rfl : _ = some (Value.slice Ao s.ops.length co)); have hf := grown_FI HF.out hg4 HNE.out; clear HF HBW HE; have HBW := Aside0.mk hbw; have HF := Aside0.mk hf; have HV := Aside0.mk h4; clear hs hbw hf h4 hb4 hg4)
          | (refine Kd.R_append_rows_step (Kd.int .u8) (Rr := (Kd.int .u8).K w3) (w0 := w3) w3.heap.size (by rfl) (.tmp 54) (.tmp 58) 22 5 (.int .u8 0) 1 rfl Try.underlying22 infoU8 rfl (by decide) (by omega) (.slice (some ⟨w3.heap.size, 0, none⟩) 0 0) [] s.now An s.now.length cn (fun _ => True) (fun _ => False) (by rfl) (by rfl) (R_empty _ _ _ _ _ trivial) (Kd.C_alloc (Kd.C_below HCN.out HBW.out) _) (fun _ _ h => h) (fun _ h => h.elim) (fun _ _ => trivial) (below_alloc (Below.refl _ _) _) (by simp) (by simp; omega) ?_; intro v4 w4 h4 hb4 _ _; rw [List.nil_append] at h4; obtain ⟨A4, c4, rfl, hc4, _⟩ := Kd.R_reads h4; replace s0 := pw_cell_below hb4 s0; replace s2 := pw_cell_below hb4 s2; have hbw := below_step HBW.out hb4; have hf := HF.out.below hb4; have hv := Kd.R_lower h4 HBW.out.size; clear HF HBW; have HBW := Aside0.mk hbw; have HF := Aside0.mk hf; have HV := Aside0.mk hv; clear hbw hf hv h4 hb4))
        all_goals
          go_wp2_with fail
          clear s0 s2
          have hcp : CpS w4 w.heap.size wr.heap.size g2 va vb vc vo (Value.slice An s.now.length cn) (Value.slice A4 s.now.length c4) s := by
            first
            | exact ⟨HF.out, HV.out, HNE.out⟩
            | exact ⟨FI.to HF.out (Nat.le_refl _) (fun k _ _ hk => ⟨hk.1.1, hk.2⟩), HV.out, Nat.le_of_lt HNE.out⟩
          have hs4 := HS.out.below HBW.out
          have hb4 := below_step HB.out HBW.out
          have HGT := Aside0.mk (show ∃ cells, w4.heap[g]? = some (.cells cells 137 (0, 0)) from ⟨_, hs4.f.hb⟩)
          have HRD := Aside0.mk (readL_all s.now hnl)
          have HCP := Aside0.mk hcp
          clear HS HB HBW HF HV HNE HCN hcp HBS
          have HS := Aside0.mk hs4
          have HB := Aside0.mk hb4
          clear hs4 hb4
          obtain ⟨s1, hs1E⟩ : ∃ s1, s1 = s := ⟨_, rfl⟩
          have HBD1 : Aside0 (Bd s1 12) := ⟨by rw [hs1E]; exact ⟨HBD.out.now, HBD.out.safe, HBD.out.op, Nat.le_trans HBD.out.ops (by omega)⟩⟩
          have HS1 : Aside0 (FS w4 w.heap.size g r vn vs vo (.slice An s.now.length cn) rs (.slice Ao s.ops.length co) s1.now s1.safe s1.ops) := ⟨by rw [hs1E]; exact HS.out⟩
          have HFR0 := Aside0.mk (Fr.refl w4 (Own3 g vo (Value.slice An s.now.length cn)))
          obtain ⟨gf, hgf⟩ : ∃ gf, gf = g := ⟨_, rfl⟩
          obtain ⟨rf, hrf⟩ : ∃ rf, rf = r := ⟨_, rfl⟩
          rw [← hgf, ← hrf] at HS1
          rw [← hgf, ← hrf]
          have HFR1 : Aside0 (Fr w4 w4 (Own3 g vo (Value.slice An s.now.length cn)) (Own3 gf vo (Value.slice An s.now.length cn))) := ⟨by rw [hgf]; exact HFR0.out⟩
          clear HS HFR0 hs1E hgf hrf HBD
          go_loopg [5, 6, 14] 12 (fun q v7 v8 v9 wq => ∃ (i g5 r5 : Nat) (vn5 vs5 vo5 rn5 rs5 ro5 : Value) (s5 : FSt), v9 = .int .i64 (i : Int) ∧ v7 = .pointer (some ⟨g5, 0, none⟩) ∧ v8 = .pointer (some ⟨r5, 0, none⟩) ∧ i ≤ ys.length ∧ i ≤ 12 ∧ Aside0 (q = 12 - i) ∧ Aside0 (Bd s5 (12 + i)) ∧ Aside0 (FS wq w.heap.size g5 r5 vn5 vs5 vo5 rn5 rs5 ro5 s5.now s5.safe s5.ops) ∧ Aside0 (Fr w4 wq (Own3 g vo (Value.slice An s.now.length cn)) (Own3 g5 vo5 rn5)) ∧ Aside0 (Below w.heap.size w wq))
          case atStart => exact ⟨0, _, _, _, _, _, _, _, _, s1, rfl, rfl, rfl, Nat.zero_le _, Nat.zero_le _, ⟨rfl⟩, HBD1, HS1, HFR1, HB⟩
          case round =>
            clear HS1 HB HBD1 HFR1
            obtain ⟨i5, g5, r5, vn5, vs5, vo5, rn5, rs5, ro5, s5, rfl, rfl, rfl, hi5, hi25, hq5, HBD, HS, HFR, HB⟩ := hrel
            by_cases hgo : i5 < ys.length ∧ i5 < 12
            · obtain ⟨hlt5, h205⟩ := hgo
              obtain ⟨ad, A2, c2, A3, c3, e1, r1, r2, r3, r4, hlc, hC2, _, hC3⟩ := at_Act HP2.out i5 hlt5
              subst e1
              obtain ⟨a, ha⟩ : ∃ a, a = ys.getD i5 zAct := ⟨_, rfl⟩
              rw [← ha] at r1 r2 r3 r4 hlc hC2 hC3
              have HC2 := Aside0.mk hC2
              have HC3 := Aside0.mk hC3
              replace r1 := pw_cell_below HB.out r1
              replace r2 := pw_cell_below HB.out r2
              replace r3 := pw_cell_below HB.out r3
              replace r4 := pw_cell_below HB.out r4
              clear ha hC2 hC3
              by_cases hl : a.b.length ≤ 400 ∧ a.keep.length ≤ 200 ∧ (a.at_ ≤ 2000 ∨ 1048576 < a.at_)
              · obtain ⟨hl1, hl2, hl3⟩ := hl
                have HLK := Aside0.mk (show a.at_ ≤ 2000 ∨ ¬ a.at_ ≤ 2000 ∧ 1048576 < a.at_ by omega)
                clear hl3
                go_wp2_with (first
                  | (go_at_call 32; refine (light_yes a.kd a.at_ A2 A3 a.b.length c2 a.keep.length c3 _ hl1 hl2 HLK.out).mono ?_; rintro e w1 ⟨rfl, hb⟩; replace r1 := pw_cell_below hb r1; replace r2 := pw_cell_below hb r2; replace r3 := pw_cell_below hb r3; replace r4 := pw_cell_below hb r4; have hs := HS.out.below hb; have hbn := below_step HB.out hb; have hfr := HFR.out.then_below hb; clear HS HB HFR; have HS := Aside0.mk hs; have HB := Aside0.mk hbn; have HFR := Aside0.mk hfr; clear hs hbn hb hfr)
                  | (go_at_call 33; refine (does_any w.heap.size g5 r5 vn5 vs5 vo5 rn5 rs5 ro5 s5 a (12 + i5) A2 A3 c2 c3 _ HS.out HBD.out (by omega) hl1 hlc (fun W' hb' => Kd.C_below HC2.out (HB.out.trans hb')) (Kd.C_below HC3.out HB.out)).mono ?_; rintro e w2 ⟨g', r', vn1, vs1, vo1, rn1, rs1, ro1, rfl, hfs, hfr0, hbl⟩; have hbn := HB.out.trans hbl; have hfr := HFR.out.trans hfr0; have HBD2 := Aside0.mk (stepF_bd s5 a (12 + i5) HBD.out hl1); clear HS HB HFR; have HS := Aside0.mk hfs; have HB := Aside0.mk hbn; have HFR := Aside0.mk hfr; clear hfs hbn hbl hfr hfr0))
                go_roundg (12 - (i5 + 1))
                case measure => have := hq5.out; omega
                case rel => exact ⟨i5 + 1, _, _, _, _, _, _, _, _, _, by go_num, rfl, rfl, by omega, by omega, ⟨rfl⟩, HBD2, HS, HFR, HB⟩
              · have HNL := Aside0.mk hl
                clear hl
                go_wp2_with (first
                  | (go_at_call 32; refine (light_no a.kd a.at_ A2 A3 a.b.length c2 a.keep.length c3 _ HNL.out).mono ?_; rintro e w1 ⟨rfl, hb⟩; have hbn := below_step HB.out hb; clear HB; have HB := Aside0.mk hbn; clear hbn hb)
                  | (go_at_call 31; refine (awake06_any _).mono ?_; rintro e W9 ⟨rfl, hb⟩; have hbn := below_step HB.out hb; clear HB; have HB := Aside0.mk hbn; clear hb hbn))
                go_ret
                exact ⟨rfl, HB.out⟩
            · have hcq := HCP.out.fr HLT.out HGT.out HFR.out
              have HCF := Aside0.mk hcq.f
              have HCV := Aside0.mk (C_own hcq.v)
              have h5n := HBD.out.now
              clear hcq HFR HCP
              by_cases hlt5 : i5 < ys.length
              · obtain rfl : i5 = 12 := by omega
                clear hgo
                go_wp2_with (first
                  | (go_at_call 40; (with_reducible refine (flen_nil _).mono ?_); rintro e wa ⟨rfl, rfl⟩)
                  | (go_at_call 37; (with_reducible refine (fread_nil 0 5 _).mono ?_); rintro e wb ⟨rfl, rfl⟩)
                  | (go_at_call 41; refine (fwrite_nil 0 _ 1 1 _).mono ?_; rintro e wc ⟨rfl, hw⟩; have hb9 : Below wb.heap.size wb wc := (by rw [hw]; exact below_alloc (Below.refl _ _) _); have hs := HS.out.below hb9; have hbn := below_step HB.out hb9; have hcf := HCF.out.below hb9; have hcv := Kd.C_below HCV.out hb9; clear HS HB HCF HCV hw; have HS := Aside0.mk hs; have HB := Aside0.mk hbn; have HCF := Aside0.mk hcf; have HCV := Aside0.mk hcv; clear hs hbn hcf hcv hb9)
                  | (go_at_call 42; refine (ftrunc_nil 5 _).mono ?_; rintro e wd ⟨rfl, rfl⟩)
                  | (go_at_call 35; (with_reducible refine (fpending_nil _).mono ?_); rintro e we ⟨rfl, rfl⟩)
                  | (go_at_call 39; refine (fcopy_nil _).mono ?_; rintro e wf ⟨rfl, rfl⟩)
                  | (go_at_call 36; refine (fcrash_nil none 0 0 _).mono ?_; rintro e wg ⟨rfl, rfl⟩)
                  | (go_at_call 38; refine (fsync_nil _).mono ?_; rintro e wh ⟨rfl, rfl⟩)
                  | (go_at_call 37; (with_reducible refine (fread_any w.heap.size g2 _ va vb vc s.now s.safe s.ops 0 1048576 _ HCF.out (by omega)).mono ?_); rw [HRD.out]; rintro e w7 ⟨A7, c7, rfl, hc, hb⟩; have hs := HS.out.below hb; have hbn := below_step HB.out hb; have hcf := HCF.out.below hb; have hcv := Kd.C_below HCV.out hb; clear HS HB HCF HCV; have HS := Aside0.mk hs; have HB := Aside0.mk hbn; have HCF := Aside0.mk hcf; have HCV := Aside0.mk hcv; have HX := Aside0.mk hc; clear hs hbn hcf hcv hb hc)
                  | (go_at_call 20; refine (same_any A7 A4 _ _ c7 c4 _ _ HX.out HCV.out).mono ?_; rintro e w8 ⟨rfl, rfl⟩; clear HX)
                  | (go_at_call 35; (with_reducible refine (fpending_any w.heap.size g2 _ va vb vc s.now s.safe s.ops _ HCF.out).mono ?_); rintro e w9 ⟨rfl, rfl⟩)
                  | (go_at_call 34; refine (shows_any w.heap.size g5 r5 vn5 vs5 vo5 rn5 rs5 ro5 s5.now s5.safe s5.ops 0 10 _ HS.out h5n).mono ?_; rintro e w10 ⟨rfl, hb⟩; have hbn := below_step HB.out hb; clear HB; have HB := Aside0.mk hbn; clear hbn hb)
                  | (go_at_call 31; refine (awake06_any _).mono ?_; rintro e W9 ⟨rfl, hb⟩; have hbn := below_step HB.out hb; clear HB; have HB := Aside0.mk hbn; clear hb hbn))
                go_ret
                exact ⟨rfl, HB.out⟩
              · obtain rfl : i5 = ys.length := by omega
                clear hgo
                go_wp2_with (first
                  | (go_at_call 40; (with_reducible refine (flen_nil _).mono ?_); rintro e wa ⟨rfl, rfl⟩)
                  | (go_at_call 37; (with_reducible refine (fread_nil 0 5 _).mono ?_); rintro e wb ⟨rfl, rfl⟩)
                  | (go_at_call 41; refine (fwrite_nil 0 _ 1 1 _).mono ?_; rintro e wc ⟨rfl, hw⟩; have hb9 : Below wb.heap.size wb wc := (by rw [hw]; exact below_alloc (Below.refl _ _) _); have hs := HS.out.below hb9; have hbn := below_step HB.out hb9; have hcf := HCF.out.below hb9; have hcv := Kd.C_below HCV.out hb9; clear HS HB HCF HCV hw; have HS := Aside0.mk hs; have HB := Aside0.mk hbn; have HCF := Aside0.mk hcf; have HCV := Aside0.mk hcv; clear hs hbn hcf hcv hb9)
                  | (go_at_call 42; refine (ftrunc_nil 5 _).mono ?_; rintro e wd ⟨rfl, rfl⟩)
                  | (go_at_call 35; (with_reducible refine (fpending_nil _).mono ?_); rintro e we ⟨rfl, rfl⟩)
                  | (go_at_call 39; refine (fcopy_nil _).mono ?_; rintro e wf ⟨rfl, rfl⟩)
                  | (go_at_call 36; refine (fcrash_nil none 0 0 _).mono ?_; rintro e wg ⟨rfl, rfl⟩)
                  | (go_at_call 38; refine (fsync_nil _).mono ?_; rintro e wh ⟨rfl, rfl⟩)
                  | (go_at_call 37; (with_reducible refine (fread_any w.heap.size g2 _ va vb vc s.now s.safe s.ops 0 1048576 _ HCF.out (by omega)).mono ?_); rw [HRD.out]; rintro e w7 ⟨A7, c7, rfl, hc, hb⟩; have hs := HS.out.below hb; have hbn := below_step HB.out hb; have hcf := HCF.out.below hb; have hcv := Kd.C_below HCV.out hb; clear HS HB HCF HCV; have HS := Aside0.mk hs; have HB := Aside0.mk hbn; have HCF := Aside0.mk hcf; have HCV := Aside0.mk hcv; have HX := Aside0.mk hc; clear hs hbn hcf hcv hb hc)
                  | (go_at_call 20; refine (same_any A7 A4 _ _ c7 c4 _ _ HX.out HCV.out).mono ?_; rintro e w8 ⟨rfl, rfl⟩; clear HX)
                  | (go_at_call 35; (with_reducible refine (fpending_any w.heap.size g2 _ va vb vc s.now s.safe s.ops _ HCF.out).mono ?_); rintro e w9 ⟨rfl, rfl⟩)
                  | (go_at_call 34; refine (shows_any w.heap.size g5 r5 vn5 vs5 vo5 rn5 rs5 ro5 s5.now s5.safe s5.ops 0 10 _ HS.out h5n).mono ?_; rintro e w10 ⟨rfl, hb⟩; have hbn := below_step HB.out hb; clear HB; have HB := Aside0.mk hbn; clear hbn hb)
                  | (go_at_call 31; refine (awake06_any _).mono ?_; rintro e W9 ⟨rfl, hb⟩; have hbn := below_step HB.out hb; clear HB; have HB := Aside0.mk hbn; clear hb hbn))
                go_ret
                exact ⟨rfl, HB.out⟩
end Go.Proofs.Ytpnbjpkdbiiogaa
