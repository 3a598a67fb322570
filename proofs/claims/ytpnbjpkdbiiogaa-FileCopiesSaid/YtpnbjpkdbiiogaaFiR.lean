/- The walk of the law FileSafe: it answers true. -/
import Derived.Test.YtpnbjpkdbiiogaaFiQ
namespace Go.Proofs.Ytpnbjpkdbiiogaa
set_option linter.unusedVariables false
open Go.RowKit Go.Proofs.YtpnbjpkdbiiogaaW.PrintWords
attribute [local go_sem] mx2 mn2 mxTwo mnTwo

/-- With all kept a crash leaves what there is now. -/
def Wk (s : FSt) : Prop := s.ops.foldl keepF s.safe = s.now
theorem crashF_all (safe : List Int) (ops : List FOp) (n : Nat) : ∀ i, i ≤ n → i ≤ ops.length → crashF safe ops (List.replicate n true) i = (ops.take i).foldl keepF safe
  | 0, _, _ => rfl
  | i + 1, h, h2 => by
    unfold crashF
    rw [crashF_all safe ops n i (by omega) (by omega), List.take_succ_eq_append_getElem (by omega), List.foldl_append]
    have e : (List.replicate n true).getD i false = true := by simp [List.getD_eq_getElem?_getD, show i < n by omega]
    rw [if_pos e]
    simp [List.getD_eq_getElem?_getD, show i < ops.length by omega]
theorem puts_wk (safe : List Int) (P : List Pc) : ∀ (s : List Int × List FOp), s.2.foldl keepF safe = s.1 → (P.foldl putF s).2.foldl keepF safe = (P.foldl putF s).1 := by
  induction P with
  | nil => intro s h; exact h
  | cons p P ih =>
    intro s h
    rw [List.foldl_cons]
    apply ih
    show (s.2 ++ [_]).foldl keepF safe = _
    rw [List.foldl_append, h]
    rfl
theorem stepF_wk (s : FSt) (a : FAct) (h : Wk s) : Wk (stepF s a) := by
  unfold Wk at h
  unfold stepF
  split
  · split
    · show (writeF (s.now, s.ops) a.at_.toNat a.b).2.foldl keepF s.safe = (writeF (s.now, s.ops) a.at_.toNat a.b).1
      unfold writeF
      apply puts_wk
      unfold growF
      split
      · show (s.ops ++ [_]).foldl keepF s.safe = _
        rw [List.foldl_append, h]
        rfl
      · exact h
    · exact h
  · split
    · split
      · show (sizeF (s.now, s.ops) a.at_).2.foldl keepF s.safe = (sizeF (s.now, s.ops) a.at_).1
        unfold sizeF
        split
        · exact h
        · show (s.ops ++ [_]).foldl keepF s.safe = _
          rw [List.foldl_append, h]
          rfl
      · exact h
    · split <;> rfl
theorem crash_wk (s : FSt) (h : Wk s) : crashF s.safe s.ops (List.replicate s.ops.length true) s.ops.length = s.now := by
  rw [crashF_all _ _ _ _ (Nat.le_refl _) (Nat.le_refl _), List.take_length]
  exact h
/-- Some told, the others not yet. -/
def upL (n i : Nat) : List Bool := List.replicate i true ++ List.replicate (n - i) false
theorem upL_len (n i : Nat) (h : i ≤ n) : (upL n i).length = n := by simp [upL]; omega
theorem upL_set (n i : Nat) (h : i < n) : (upL n i).set i true = upL n (i + 1) := by
  unfold upL
  rw [show n - i = (n - (i + 1)) + 1 by omega, List.replicate_succ, List.set_append_right _ _ (by simp)]
  simp [List.replicate_succ']
theorem opens_t48 : Opens Try.prog 48 (Kd.slice 4 Kd.bool) (fun xs => ∀ x ∈ xs, True) := opens_slice Try.underlying48 (by kernel_rfl) (opens_bool Try.underlying4)
theorem infoBool : (Try.prog.info? 4).map (fun i => (i.zero, i.size, i.bytes)) = some (some (.bool false), 1, 1) := by kernel_rfl

theorem R_cellB {e : Nat} {w : World} {base : Nat} {ok : Nat → Prop} {g n cap : Nat} {xs : List Bool} (h : Kd.bool.R e w base ok (.slice (some ⟨g, 0, none⟩) n cap) xs) (i : Nat) (hi : i < n) : ∃ x, w.cell? ⟨g, i, none⟩ = some (.bool x) ∧ w.frozen? ⟨g, i, none⟩ = false := by
  obtain ⟨rfl, _, _⟩ := Kd.R_reads' h
  have h1 := Kd.R_cell false h (i : Int) (by omega) (by omega)
  simp only [Int.toNat_natCast] at h1
  exact ⟨_, h1.1, h1.2⟩
theorem slice_owned {α : Type} {d : Kd α} {e : Nat} {w : World} {base m : Nat} {ok : Nat → Prop} {v : Value} {xs : List α} (h : d.R e w base ok v xs) (ho : ∃ b, v.ownBlock = some b ∧ m ≤ b) : ∃ g c, v = .slice (some ⟨g, 0, none⟩) xs.length c ∧ m ≤ g := by
  obtain ⟨b, hb, hm⟩ := ho
  rcases h.2.choose_spec.1.2 with ⟨e0, _⟩ | ⟨g, cap, cur, rfl, _⟩
  · rw [e0] at hb; cases hb
  · simp [Value.ownBlock] at hb
    subst hb
    exact ⟨g, cap, rfl, hm⟩
set_option maxHeartbeats 4000000 in
set_option maxRecDepth 100000 in
theorem fsafe_walk (A : Option Addr) (c : Nat) (xs : List FAct) (Ak : Option Addr) (ck : Nat) (ks : List Bool) (w : World) (hp : Kd.C kAct w A xs.length xs) (hc : xs.length ≤ c) (hg : ∀ x ∈ xs, goodAct x) (hpk : Kd.bool.C w Ak ks.length ks) (hck : ks.length ≤ ck) (hgk : ∀ x ∈ ks, True) :
    Calls Try.prog 7 #[.slice A xs.length c, .slice Ak ks.length ck] w fun e w' => e = .returned (.bool true) ∧ Below w.heap.size w w' := by
  have hm := Kd.C_max hp
  have hmk := Kd.C_max hpk
  have HP := Aside0.mk hp
  have HPK := Aside0.mk hpk
  clear hp hg hpk hgk
  by_cases hn : 300 < ks.length
  · go_enter Try.func7, Try.ntmps7
    go_wp2_with (first
      | (go_at_call 30; refine (fnew_any w.heap.size (fun _ => True) w (Nat.le_refl _)).mono ?_; rintro e W0 ⟨rfl, hf, hb⟩; have HF0 := Aside0.mk hf; have HB := Aside0.mk hb; clear hf hb)
      | (go_at_call 31; refine (awake06_any _).mono ?_; rintro e W9 ⟨rfl, hb⟩; have hbn := below_step (below_alloc HB.out _) hb; clear HB; have HB := Aside0.mk hbn; clear hb hbn))
    go_ret
    exact ⟨rfl, HB.out⟩
  · go_enter Try.func7, Try.ntmps7
    go_wp2_with (first
      | (go_at_call 30; refine (fnew_any w.heap.size (fun _ => True) w (Nat.le_refl _)).mono ?_; rintro e W0 ⟨rfl, hf, hb⟩; have HF0 := Aside0.mk hf; have HB := Aside0.mk hb; clear hf hb))
    have hfs : FS (W0.alloc (.cells #[.slice none 0 0, .slice none 0 0, .slice none 0 0] 46)) w.heap.size w.heap.size W0.heap.size (.slice none 0 0) (.slice none 0 0) (.slice none 0 0) (.slice none 0 0) (.slice none 0 0) (.slice none 0 0) [] [] [] := ⟨(FI.to HF0.out (Nat.le_refl _) (fun q _ _ _ => by simp [Value.ownBlock])).below (below_alloc (Below.refl _ _) _), ⟨blk_new _ _, Kd.R_nil _ _ _ _ _, Kd.R_nil _ _ _ _ _, Kd.R_nil _ _ _ _ _, HB.out.size⟩⟩
    have HS := Aside0.mk hfs
    have hbn := below_alloc HB.out (.cells #[.slice none 0 0, .slice none 0 0, .slice none 0 0] 46)
    clear HB hfs HF0
    have HB := Aside0.mk hbn
    clear hbn
    go_loopg [5, 6, 7] 20 (fun q v7 v8 v9 wr => ∃ (i g r : Nat) (vn vs vo rn rs ro : Value) (s : FSt), v9 = .int .i64 (i : Int) ∧ v7 = .pointer (some ⟨g, 0, none⟩) ∧ v8 = .pointer (some ⟨r, 0, none⟩) ∧ i ≤ xs.length ∧ i ≤ 20 ∧ Aside0 (q = 20 - i) ∧ Aside0 (Bd s i) ∧ Aside0 (Wk s) ∧ Aside0 (FS wr w.heap.size g r vn vs vo rn rs ro s.now s.safe s.ops) ∧ Aside0 (Below w.heap.size w wr))
    case atStart => exact ⟨0, _, _, _, _, _, _, _, _, ⟨[], [], []⟩, rfl, rfl, rfl, Nat.zero_le _, Nat.zero_le _, ⟨rfl⟩, ⟨⟨by simp, by simp, by simp, by simp⟩⟩, ⟨rfl⟩, HS, HB⟩
    case round =>
      clear HS HB
      obtain ⟨i, g, r, vn, vs, vo, rn, rs, ro, s, rfl, rfl, rfl, hi, hi2, hq, HBD, HWK, HS, HB⟩ := hrel
      by_cases hgo : i < xs.length ∧ i < 20
      · obtain ⟨hlt, h20⟩ := hgo
        obtain ⟨ad, A2, c2, A3, c3, e1, r1, r2, r3, r4, hlc, hC2, _, hC3⟩ := at_Act HP.out i hlt
        subst e1
        obtain ⟨a, ha⟩ : ∃ a, a = xs.getD i zAct := ⟨_, rfl⟩
        rw [← ha] at r1 r2 r3 r4 hlc hC2 hC3
        have HC2 := Aside0.mk hC2
        have HC3 := Aside0.mk hC3
        replace r1 := pw_cell_below HB.out r1
        replace r2 := pw_cell_below HB.out r2
        replace r3 := pw_cell_below HB.out r3
        replace r4 := pw_cell_below HB.out r4
        clear ha hC2 hC3
        by_cases hl : a.b.length ≤ 400 ∧ a.keep.length ≤ 200 ∧ (a.at_ ≤ 2000 ∨ 1048576 < a.at_)
        · obtain ⟨hl1, hl2, hl3⟩ := hl
          have HLK := Aside0.mk (show a.at_ ≤ 2000 ∨ ¬ a.at_ ≤ 2000 ∧ 1048576 < a.at_ by omega)
          clear hl3
          go_wp2_with (first
            | (go_at_call 32; refine (light_yes a.kd a.at_ A2 A3 a.b.length c2 a.keep.length c3 _ hl1 hl2 HLK.out).mono ?_; rintro e w1 ⟨rfl, hb⟩; replace r1 := pw_cell_below hb r1; replace r2 := pw_cell_below hb r2; replace r3 := pw_cell_below hb r3; replace r4 := pw_cell_below hb r4; have hs := HS.out.below hb; have hbn := below_step HB.out hb; clear HS HB; have HS := Aside0.mk hs; have HB := Aside0.mk hbn; clear hs hbn hb)
            | (go_at_call 33; refine (does_any w.heap.size g r vn vs vo rn rs ro s a i A2 A3 c2 c3 _ HS.out HBD.out (by omega) hl1 hlc (fun W' hb' => Kd.C_below HC2.out (HB.out.trans hb')) (Kd.C_below HC3.out HB.out)).mono ?_; rintro e w2 ⟨g', r', vn1, vs1, vo1, rn1, rs1, ro1, rfl, hfs, _, hbl⟩; have hbn := HB.out.trans hbl; have HBD2 := Aside0.mk (stepF_bd s a i HBD.out hl1); have HWK2 := Aside0.mk (stepF_wk s a HWK.out); clear HS HB; have HS := Aside0.mk hfs; have HB := Aside0.mk hbn; clear hfs hbn hbl))
          go_roundg (20 - (i + 1))
          case measure => have := hq.out; omega
          case rel => exact ⟨i + 1, _, _, _, _, _, _, _, _, _, by go_num, rfl, rfl, by omega, by omega, ⟨rfl⟩, HBD2, HWK2, HS, HB⟩
        · have HNL := Aside0.mk hl
          clear hl
          go_wp2_with (first
            | (go_at_call 32; refine (light_no a.kd a.at_ A2 A3 a.b.length c2 a.keep.length c3 _ HNL.out).mono ?_; rintro e w1 ⟨rfl, hb⟩; have hbn := below_step HB.out hb; clear HB; have HB := Aside0.mk hbn; clear hbn hb)
            | (go_at_call 31; refine (awake06_any _).mono ?_; rintro e W9 ⟨rfl, hb⟩; have hbn := below_step HB.out hb; clear HB; have HB := Aside0.mk hbn; clear hb hbn))
          go_ret
          exact ⟨rfl, HB.out⟩
      · by_cases hlt : i < xs.length
        · obtain rfl : i = 20 := by omega
          clear hgo
          have hbd := HBD.out
          have hol : s.ops.length ≤ 500 * 20 := Nat.le_trans hbd.ops (by omega)
          have HCW := Aside0.mk (crash_wk s HWK.out)
          go_wp2_with (first
            | (go_at_call 35; refine (fpending_any _ _ _ _ _ _ _ _ _ _ HS.out.f).mono ?_; rintro e w1 ⟨rfl, rfl⟩)
            | (at_make; refine Kd.R_make Kd.bool (w0 := w1) w1.heap.size 4 rfl (N := 53) rfl 48 (.tmp 52) (.tmp 52) rfl (s.ops.length : Int) rfl rfl Try.underlying48 (.bool false) 1 infoBool rfl (by decide) (by omega) false (ok := fun _ => True) (okp := fun _ => False) rfl (fun _ h => h.elim) trivial (by omega) (by rw [Int.toNat_natCast]; omega) (Below.refl _ _) (Nat.le_refl _) ?_; intro v5 w5 h5 hb5 _ hob; rw [Int.toNat_natCast] at h5; obtain ⟨gb, cb, rfl, hgb⟩ := slice_owned h5 hob; rw [List.length_replicate] at h5; have H5 := Aside0.mk h5; have HB5 := Aside0.mk hb5; clear h5 hb5 hob))
          obtain ⟨n, hn⟩ : ∃ n, n = s.ops.length := ⟨_, rfl⟩
          rw [← hn] at hol HCW H5 ⊢
          have HNE := Aside0.mk hn
          clear hn
          obtain ⟨wo, rfl⟩ : ∃ wo : World, wo = w1 := ⟨_, rfl⟩
          go_loopg [12] n (fun q v12 wr => ∃ i : Nat, v12 = .int .i64 (i : Int) ∧ i ≤ n ∧ Aside0 (q = n - i) ∧ Aside0 (Kd.R Kd.bool 4 wr wo.heap.size (fun _ => True) (.slice (some ⟨gb, 0, none⟩) n cb) (upL n i)) ∧ Aside0 (Below wo.heap.size wo wr))
          case atStart => exact ⟨0, rfl, Nat.zero_le _, ⟨rfl⟩, ⟨by simpa [upL] using H5.out⟩, HB5⟩
          case round =>
            clear H5 HB5
            obtain ⟨i, rfl, hi, hq2, HU, HB5⟩ := hrel
            by_cases hlt : i < n
            · obtain ⟨x0, hc1, hc2⟩ := R_cellB HU.out i hlt
              have HSET := Aside0.mk (by have := (Kd.R_putn HU.out (i : Int) true); rw [Int.toNat_natCast, upL_set n i hlt] at this; exact this)
              have HBS := Aside0.mk (HB5.out.setCell (p := ⟨gb, i, none⟩) hgb (.bool true))
              clear HU HB5
              go_wp2_with fail
              go_roundg (n - (i + 1))
              case measure => have := hq2.out; omega
              case rel => exact ⟨i + 1, by go_num, by omega, ⟨rfl⟩, HSET, HBS⟩
            · have hin : i = n := by omega
              have hcb : Kd.bool.C wr (some ⟨gb, 0, none⟩) n (upL n n) := by have h9 := (Kd.R_reads' HU.out).2.2; rw [hin, upL_len n n (Nat.le_refl _)] at h9; exact h9
              have HCB := Aside0.mk hcb
              have HCU := Aside0.mk (show crashF s.safe s.ops (upL n n) s.ops.length = s.now by have := HCW.out; unfold upL; rw [Nat.sub_self, List.replicate_zero, List.append_nil, HNE.out, ← HNE.out, HNE.out]; rw [HNE.out] at this; exact this)
              have hs1 := HS.out.below HB5.out
              have hbn1 := below_step HB.out HB5.out
              clear HS HB HB5 HU hcb HCW
              obtain ⟨An, cn, hrn, _, hCn⟩ := Kd.R_reads hs1.r.hn
              subst hrn
              have s0 := (blk_cell hs1.r.hb 0).trans (rfl : _ = some (Value.slice An s.now.length cn))
              have HS := Aside0.mk hs1
              have HB := Aside0.mk hbn1
              have HCN := Aside0.mk hCn
              have HRD := Aside0.mk (readL_all s.now hbd.now)
              have hnl := hbd.now
              have T1 := Aside0.mk trivial
              have T2 := Aside0.mk trivial
              clear hs1 hbn1 hCn hin
              go_wp2_with fail
              go_region_held3 (fun w' => w'.cell? ⟨r, 0, none⟩ = some (.slice An s.now.length cn)) (first | with_reducible exact s0 | exact s0) (first
                | (go_at_call 36; refine (fcrash_any w.heap.size g _ vn vs vo s.now s.safe s.ops (some ⟨gb, 0, none⟩) n cb (upL n n) _ HS.out.f.drew (Kd.C_drew HCB.out) hbd.safe hbd.op (by rw [← HNE.out]; omega)).mono ?_; rw [HCU.out]; rintro e w3 ⟨g2, va, vb, rfl, hf, hb⟩; replace s0 := pw_cell_below hb s0; have hs := (HS.out.below (below_drew1 (Below.refl _ _))).below hb; have hbn := below_step (below_drew1 HB.out) hb; have hcn := Kd.C_below (Kd.C_drew HCN.out) hb; clear HS HB HCN; have HS := Aside0.mk hs; have HB := Aside0.mk hbn; have HCN := Aside0.mk hcn; have HF := Aside0.mk hf; clear hs hbn hcn hf hb)
                | (go_at_call 37; refine (fread_any _ g2 _ va vb _ s.now s.now [] 0 1048576 _ HF.out (by omega)).mono ?_; rw [HRD.out]; rintro e w4 ⟨A4, c4, rfl, hc, hb⟩; replace s0 := pw_cell_below hb s0; have hs := HS.out.below hb; have hbn := below_step HB.out hb; have hcn := Kd.C_below HCN.out hb; clear HS HB HCN HF; have HS := Aside0.mk hs; have HB := Aside0.mk hbn; have HCN := Aside0.mk hcn; have HX := Aside0.mk hc; clear hs hbn hcn hc hb)
                | (go_at_call 20; refine (same_any A4 An _ _ c4 cn _ _ HX.out HCN.out).mono ?_; rintro e w5 ⟨rfl, rfl⟩; clear HX))
              all_goals
                go_wp2_with (first
                  | (go_at_call 38; refine (fsync_any w.heap.size g _ vn vs vo s.now s.safe s.ops _ HS.out.f (fun q hq e => by have := R_lt HS.out.r.hn q e.symm; omega) (by omega)).mono ?_; rintro e w6 ⟨rfl, ⟨vs1, hf⟩, hk, hl⟩; have hr := HS.out.r.other HS.out.f (show KeepBut _ _ g vo.ownBlock from ⟨hk.1, fun i hi hg _ => hk.2 i hi hg (by simp)⟩); have hbn := HB.out.trans hl; clear HS HB HCN; have HF := Aside0.mk hf; have HR := Aside0.mk hr; have HB := Aside0.mk hbn; clear hf hr hbn hk hl s0)
                  | (go_at_call 36; refine (fcrash_any w.heap.size g _ vn vs1 _ s.now s.now [] Ak ks.length ck ks _ HF.out (Kd.C_below HPK.out HB.out) hbd.now (by simp) (by simp)).mono ?_; rintro e w7 ⟨g3, vc, vd, rfl, hf, hb⟩; have hr := HR.out.below hb; have hbn := below_step HB.out hb; clear HF HR HB; have HF := Aside0.mk hf; have HB := Aside0.mk hbn; have HCN := Aside0.mk (Kd.R_reads' hr.hn).2.2; have HR := Aside0.mk hr; have s0 := (blk_cell hr.hb 0).trans (rfl : _ = some (Value.slice An s.now.length cn)); clear hf hr hbn hb))
                go_region_held3 (fun w' => w'.cell? ⟨r, 0, none⟩ = some (.slice An s.now.length cn)) (first | with_reducible exact s0 | exact s0) (first
                  | (go_at_call 37; refine (fread_any _ g3 _ vc vd _ s.now s.now [] 0 1048576 _ HF.out.drew (by omega)).mono ?_; rw [HRD.out]; rintro e w8 ⟨A8, c8, rfl, hc, hb⟩; replace s0 := pw_cell_below hb s0; have hf := HF.out.drew.below hb; have hbn := below_step (below_drew1 HB.out) hb; have hcn := Kd.C_below (Kd.C_drew HCN.out) hb; clear HF HB HCN; have HF := Aside0.mk hf; have HB := Aside0.mk hbn; have HCN := Aside0.mk hcn; have HX := Aside0.mk hc; clear hf hbn hcn hc hb)
                  | (go_at_call 20; refine (same_any A8 An _ _ c8 cn _ _ HX.out HCN.out).mono ?_; rintro e w9 ⟨rfl, rfl⟩; clear HX)
                  | (go_at_call 35; refine (fpending_any _ g3 _ vc vd _ s.now s.now [] _ HF.out).mono ?_; rintro e w10 ⟨rfl, rfl⟩)
                  | (go_at_call 31; refine (awake06_any _).mono ?_; rintro e W9 ⟨rfl, hb⟩; replace s0 := pw_cell_below hb s0; have hbn := below_step HB.out hb; clear HB; have HB := Aside0.mk hbn; clear hb hbn))
                all_goals
                  go_wp2_with fail
                  go_ret
                  exact ⟨rfl, HB.out⟩
        · obtain rfl : i = xs.length := by omega
          clear hgo
          have hbd := HBD.out
          have hol : s.ops.length ≤ 500 * 20 := Nat.le_trans hbd.ops (by omega)
          have HCW := Aside0.mk (crash_wk s HWK.out)
          go_wp2_with (first
            | (go_at_call 35; refine (fpending_any _ _ _ _ _ _ _ _ _ _ HS.out.f).mono ?_; rintro e w1 ⟨rfl, rfl⟩)
            | (at_make; refine Kd.R_make Kd.bool (w0 := w1) w1.heap.size 4 rfl (N := 53) rfl 48 (.tmp 52) (.tmp 52) rfl (s.ops.length : Int) rfl rfl Try.underlying48 (.bool false) 1 infoBool rfl (by decide) (by omega) false (ok := fun _ => True) (okp := fun _ => False) rfl (fun _ h => h.elim) trivial (by omega) (by rw [Int.toNat_natCast]; omega) (Below.refl _ _) (Nat.le_refl _) ?_; intro v5 w5 h5 hb5 _ hob; rw [Int.toNat_natCast] at h5; obtain ⟨gb, cb, rfl, hgb⟩ := slice_owned h5 hob; rw [List.length_replicate] at h5; have H5 := Aside0.mk h5; have HB5 := Aside0.mk hb5; clear h5 hb5 hob))
          obtain ⟨n, hn⟩ : ∃ n, n = s.ops.length := ⟨_, rfl⟩
          rw [← hn] at hol HCW H5 ⊢
          have HNE := Aside0.mk hn
          clear hn
          obtain ⟨wo, rfl⟩ : ∃ wo : World, wo = w1 := ⟨_, rfl⟩
          go_loopg [12] n (fun q v12 wr => ∃ i : Nat, v12 = .int .i64 (i : Int) ∧ i ≤ n ∧ Aside0 (q = n - i) ∧ Aside0 (Kd.R Kd.bool 4 wr wo.heap.size (fun _ => True) (.slice (some ⟨gb, 0, none⟩) n cb) (upL n i)) ∧ Aside0 (Below wo.heap.size wo wr))
          case atStart => exact ⟨0, rfl, Nat.zero_le _, ⟨rfl⟩, ⟨by simpa [upL] using H5.out⟩, HB5⟩
          case round =>
            clear H5 HB5
            obtain ⟨i, rfl, hi, hq2, HU, HB5⟩ := hrel
            by_cases hlt : i < n
            · obtain ⟨x0, hc1, hc2⟩ := R_cellB HU.out i hlt
              have HSET := Aside0.mk (by have := (Kd.R_putn HU.out (i : Int) true); rw [Int.toNat_natCast, upL_set n i hlt] at this; exact this)
              have HBS := Aside0.mk (HB5.out.setCell (p := ⟨gb, i, none⟩) hgb (.bool true))
              clear HU HB5
              go_wp2_with fail
              go_roundg (n - (i + 1))
              case measure => have := hq2.out; omega
              case rel => exact ⟨i + 1, by go_num, by omega, ⟨rfl⟩, HSET, HBS⟩
            · have hin : i = n := by omega
              have hcb : Kd.bool.C wr (some ⟨gb, 0, none⟩) n (upL n n) := by have h9 := (Kd.R_reads' HU.out).2.2; rw [hin, upL_len n n (Nat.le_refl _)] at h9; exact h9
              have HCB := Aside0.mk hcb
              have HCU := Aside0.mk (show crashF s.safe s.ops (upL n n) s.ops.length = s.now by have := HCW.out; unfold upL; rw [Nat.sub_self, List.replicate_zero, List.append_nil, HNE.out, ← HNE.out, HNE.out]; rw [HNE.out] at this; exact this)
              have hs1 := HS.out.below HB5.out
              have hbn1 := below_step HB.out HB5.out
              clear HS HB HB5 HU hcb HCW
              obtain ⟨An, cn, hrn, _, hCn⟩ := Kd.R_reads hs1.r.hn
              subst hrn
              have s0 := (blk_cell hs1.r.hb 0).trans (rfl : _ = some (Value.slice An s.now.length cn))
              have HS := Aside0.mk hs1
              have HB := Aside0.mk hbn1
              have HCN := Aside0.mk hCn
              have HRD := Aside0.mk (readL_all s.now hbd.now)
              have hnl := hbd.now
              have T1 := Aside0.mk trivial
              have T2 := Aside0.mk trivial
              clear hs1 hbn1 hCn hin
              go_wp2_with fail
              go_region_held3 (fun w' => w'.cell? ⟨r, 0, none⟩ = some (.slice An s.now.length cn)) (first | with_reducible exact s0 | exact s0) (first
                | (go_at_call 36; refine (fcrash_any w.heap.size g _ vn vs vo s.now s.safe s.ops (some ⟨gb, 0, none⟩) n cb (upL n n) _ HS.out.f.drew (Kd.C_drew HCB.out) hbd.safe hbd.op (by rw [← HNE.out]; omega)).mono ?_; rw [HCU.out]; rintro e w3 ⟨g2, va, vb, rfl, hf, hb⟩; replace s0 := pw_cell_below hb s0; have hs := (HS.out.below (below_drew1 (Below.refl _ _))).below hb; have hbn := below_step (below_drew1 HB.out) hb; have hcn := Kd.C_below (Kd.C_drew HCN.out) hb; clear HS HB HCN; have HS := Aside0.mk hs; have HB := Aside0.mk hbn; have HCN := Aside0.mk hcn; have HF := Aside0.mk hf; clear hs hbn hcn hf hb)
                | (go_at_call 37; refine (fread_any _ g2 _ va vb _ s.now s.now [] 0 1048576 _ HF.out (by omega)).mono ?_; rw [HRD.out]; rintro e w4 ⟨A4, c4, rfl, hc, hb⟩; replace s0 := pw_cell_below hb s0; have hs := HS.out.below hb; have hbn := below_step HB.out hb; have hcn := Kd.C_below HCN.out hb; clear HS HB HCN HF; have HS := Aside0.mk hs; have HB := Aside0.mk hbn; have HCN := Aside0.mk hcn; have HX := Aside0.mk hc; clear hs hbn hcn hc hb)
                | (go_at_call 20; refine (same_any A4 An _ _ c4 cn _ _ HX.out HCN.out).mono ?_; rintro e w5 ⟨rfl, rfl⟩; clear HX))
              all_goals
                go_wp2_with (first
                  | (go_at_call 38; refine (fsync_any w.heap.size g _ vn vs vo s.now s.safe s.ops _ HS.out.f (fun q hq e => by have := R_lt HS.out.r.hn q e.symm; omega) (by omega)).mono ?_; rintro e w6 ⟨rfl, ⟨vs1, hf⟩, hk, hl⟩; have hr := HS.out.r.other HS.out.f (show KeepBut _ _ g vo.ownBlock from ⟨hk.1, fun i hi hg _ => hk.2 i hi hg (by simp)⟩); have hbn := HB.out.trans hl; clear HS HB HCN; have HF := Aside0.mk hf; have HR := Aside0.mk hr; have HB := Aside0.mk hbn; clear hf hr hbn hk hl s0)
                  | (go_at_call 36; refine (fcrash_any w.heap.size g _ vn vs1 _ s.now s.now [] Ak ks.length ck ks _ HF.out (Kd.C_below HPK.out HB.out) hbd.now (by simp) (by simp)).mono ?_; rintro e w7 ⟨g3, vc, vd, rfl, hf, hb⟩; have hr := HR.out.below hb; have hbn := below_step HB.out hb; clear HF HR HB; have HF := Aside0.mk hf; have HB := Aside0.mk hbn; have HCN := Aside0.mk (Kd.R_reads' hr.hn).2.2; have HR := Aside0.mk hr; have s0 := (blk_cell hr.hb 0).trans (rfl : _ = some (Value.slice An s.now.length cn)); clear hf hr hbn hb))
                go_region_held3 (fun w' => w'.cell? ⟨r, 0, none⟩ = some (.slice An s.now.length cn)) (first | with_reducible exact s0 | exact s0) (first
                  | (go_at_call 37; refine (fread_any _ g3 _ vc vd _ s.now s.now [] 0 1048576 _ HF.out.drew (by omega)).mono ?_; rw [HRD.out]; rintro e w8 ⟨A8, c8, rfl, hc, hb⟩; replace s0 := pw_cell_below hb s0; have hf := HF.out.drew.below hb; have hbn := below_step (below_drew1 HB.out) hb; have hcn := Kd.C_below (Kd.C_drew HCN.out) hb; clear HF HB HCN; have HF := Aside0.mk hf; have HB := Aside0.mk hbn; have HCN := Aside0.mk hcn; have HX := Aside0.mk hc; clear hf hbn hcn hc hb)
                  | (go_at_call 20; refine (same_any A8 An _ _ c8 cn _ _ HX.out HCN.out).mono ?_; rintro e w9 ⟨rfl, rfl⟩; clear HX)
                  | (go_at_call 35; refine (fpending_any _ g3 _ vc vd _ s.now s.now [] _ HF.out).mono ?_; rintro e w10 ⟨rfl, rfl⟩)
                  | (go_at_call 31; refine (awake06_any _).mono ?_; rintro e W9 ⟨rfl, hb⟩; replace s0 := pw_cell_below hb s0; have hbn := below_step HB.out hb; clear HB; have HB := Aside0.mk hbn; clear hb hbn))
                all_goals
                  go_wp2_with fail
                  go_ret
                  exact ⟨rfl, HB.out⟩
end Go.Proofs.Ytpnbjpkdbiiogaa
