/- Files: the walk of Write. -/
import Derived.Test.YtpnbjpkdbiiogaaTb
namespace Go.Proofs.Ytpnbjpkdbiiogaa
set_option linter.unusedVariables false
open Go.RowKit Go.Proofs.YtpnbjpkdbiiogaaW.PrintWords
attribute [local go_sem] mx2 mn2 mxTwo mnTwo

set_option maxHeartbeats 4000000 in
set_option maxRecDepth 100000 in
theorem fwrite_any (b g : Nat) (x : Nat → Prop) (vn vs vo : Value) (now safe : List Int) (ops : List FOp) (k : Nat) (A : Option Addr) (n c : Nat) (l : List Int) (w : World) (h : FI w b g x vn vs vo now safe ops) (hx : ∀ k, w.heap.size ≤ k → x k)
    (hl : l.length = n) (hc : n ≤ c) (hst : ∀ W', KeepBut w W' g vo.ownBlock → Below b w W' → Kd.C (Kd.int .u8) W' A n l) (hk : k ≤ 1048576) (hn : n + k ≤ 1048576) (hnow : now.length ≤ 1048576) (hops : ops.length ≤ 500000) :
    Calls Try.prog 41 #[.pointer (some ⟨g, 0, none⟩), .int .i64 (k : Int), .slice A n c] w fun e w' => e = .returned (.int .i64 0) ∧ ∃ vn' vo', FI w' b g x vn' vs vo' (writeF (now, ops) k l).1 safe (writeF (now, ops) k l).2 ∧ (vo'.ownBlock = vo.ownBlock ∨ ∃ k, vo'.ownBlock = some k ∧ w.heap.size ≤ k) ∧ KeepBut w w' g vo.ownBlock ∧ Below b w w' := by
  subst hl
  have hbw : b ≤ w.heap.size := Nat.le_trans h.hg (Nat.le_of_lt (blk_lt h.hb))
  obtain ⟨A1, c1, hvn⟩ := Kd.R_slice h.hn
  have hc0 := (blk_cell h.hb 0).trans (rfl : _ = some vn)
  rw [hvn] at hc0
  have HST := Aside0.mk hst
  have HX := Aside0.mk hx
  have H := Aside0.mk h
  clear h hst hvn hx
  by_cases hgrow : 0 < l.length ∧ now.length < k + l.length
  · obtain ⟨hg1, hg2⟩ := hgrow
    go_enter Try.func41, Try.ntmps41
    go_wp2_with (first
      | (go_at_call 93; refine (fresize_any b g x vn vs vo now safe ops (k + l.length) _ H.out HX.out (by omega) (by omega) (by omega)).mono ?_; rintro e w1 ⟨rfl, ⟨vn1, vo1, hf1, hv1⟩, hk1, hb1⟩; have HF1 := Aside0.mk hf1; have HV1 := Aside0.mk hv1; have HK1 := Aside0.mk hk1; have HB1 := Aside0.mk hb1; clear hf1 hv1 hk1 hb1)
      | (go_at_call 16; refine (pieces_any k A c l _ (HST.out _ HK1.out HB1.out) hc (by omega) (by omega)).mono ?_; rintro e w2 ⟨vP, rfl, hp, hb2⟩; obtain ⟨AP, cP, rfl⟩ := Kd.R_slice hp; have HW := Aside0.mk (FW.start HF1.out HK1.out HV1.out HB1.out hb2 hp); clear hp hb2))
    have hgw : growF (now, ops) k l.length = (sizeL now ((k + l.length : Nat) : Int), ops ++ [⟨true, ((k + l.length : Nat) : Int), []⟩]) := by unfold growF; rw [if_pos ⟨hg1, hg2⟩]
    have HGW := Aside0.mk hgw
    clear hgw HF1 HV1 HK1 HB1
    have hn1 : (sizeL now ((k + l.length : Nat) : Int)).length ≤ 1048576 := by rw [sizeL_length]; omega
    have hn2 : (ops ++ [⟨true, ((k + l.length : Nat) : Int), []⟩] : List FOp).length ≤ 500001 := by rw [List.length_append, List.length_singleton]; omega
    obtain ⟨now1, hE1⟩ : ∃ now1, now1 = sizeL now ((k + l.length : Nat) : Int) := ⟨_, rfl⟩
    obtain ⟨ops1, hE2⟩ : ∃ ops1, ops1 = (ops ++ [⟨true, ((k + l.length : Nat) : Int), []⟩] : List FOp) := ⟨_, rfl⟩
    rw [← hE1] at HGW HW hn1
    rw [← hE2] at HGW HW hn2
    clear hE1 hE2
    have hpl := pieces_len l.length l k (Nat.le_refl _)
    obtain ⟨P, hPE⟩ : ∃ P, P = pieces k l := ⟨_, rfl⟩
    have HPE := Aside0.mk hPE
    rw [← hPE] at HW hpl ⊢
    clear hPE
    go_loopg [8, 9, 52] P.length (fun q v8 v9 v52 wr => ∃ (i : Nat) (vn' vo' : Value) (now' : List Int) (ops' : List FOp), v52 = .int .i64 (i : Int) ∧ i ≤ P.length ∧ Aside0 (q = P.length - i) ∧ now'.length ≤ 1048576 ∧ ops'.length ≤ 500001 + i ∧ Aside0 ((P.take i).foldl putF (now1, ops1) = (now', ops')) ∧ Aside0 (FW w b g x vo (.slice AP P.length cP) P wr vn' vs vo' now' safe ops'))
    case atStart => exact ⟨0, _, _, _, _, rfl, Nat.zero_le _, ⟨rfl⟩, hn1, hn2, ⟨rfl⟩, HW⟩
    case round =>
      clear HW hn1 hn2
      obtain ⟨i, vn', vo', now', ops', rfl, hi, hq, hln, hlo, HF, HW⟩ := hrel
      by_cases hlt : i < P.length
      · obtain ⟨ad, A3, c3, e1, r1, r2, r3, r4⟩ := at_Pc (Kd.R_reads' HW.out.p).2.2 i hlt
        have HPT := Aside0.mk (puts_takeF P (now1, ops1) i hlt)
        obtain ⟨p, hp⟩ : ∃ p, p = P.getD i zPc := ⟨_, rfl⟩
        rw [← hp] at r1 r2 r3 r4 HPT
        subst e1
        have R4 := Aside0.mk r4
        clear hp r4
        go_wp2_with fail
        obtain ⟨W1, hW1⟩ : ∃ W1, W1 = wr.alloc (.cells #[.int .i64 p.s, .int .i64 p.f, .slice A3 p.d.length c3] 30) := ⟨_, rfl⟩
        have hnb : W1.heap[wr.heap.size]? = some (.cells #[.int .i64 p.s, .int .i64 p.f, .slice A3 p.d.length c3] 30 (0, 0)) := by rw [hW1]; exact blk_new _ _
        have hb1 : Below wr.heap.size wr W1 := by rw [hW1]; exact below_alloc (Below.refl _ _) _
        rw [← hW1]
        obtain ⟨p8, hp8⟩ : ∃ p8, p8 = wr.heap.size := ⟨_, rfl⟩
        have hp8b : wr.heap.size ≤ p8 := by omega
        have hgp : g ≠ p8 := by have := blk_lt HW.out.f.hb; omega
        rw [← hp8] at hnb ⊢
        have HW1 := Aside0.mk (HW.out.below hb1)
        have HR4 := Aside0.mk (Kd.C_below R4.out hb1)
        obtain ⟨A7, c7, hvn7⟩ := Kd.R_slice HW.out.f.hn
        have HN7 := Aside0.mk hvn7
        have s0 := (blk_cell HW1.out.f.hb 0).trans (rfl : _ = some vn')
        rw [hvn7] at s0
        have t0 := (blk_cell hnb 0).trans (rfl : _ = some (Value.int .i64 p.s))
        have t1 := (blk_cell hnb 1).trans (rfl : _ = some (Value.int .i64 p.f))
        have t2 := (blk_cell hnb 2).trans (rfl : _ = some (Value.slice A3 p.d.length c3))
        have HNB := Aside0.mk hnb
        clear HW R4 r1 r2 r3 hW1 hb1 hp8 hvn7 hnb
        go_region_held3 (fun w' => w'.cell? ⟨g, 0, none⟩ = some (.slice A7 now'.length c7) ∧ w'.cell? ⟨p8, 0, none⟩ = some (.int .i64 p.s) ∧ w'.cell? ⟨p8, 1, none⟩ = some (.int .i64 p.f) ∧ w'.cell? ⟨p8, 2, none⟩ = some (.slice A3 p.d.length c3)) (first | with_reducible exact ⟨s0, t0, t1, t2⟩ | exact ⟨s0, t0, t1, t2⟩) (first
          | (go_at_call 23; have hfn := (HN7.out ▸ HW1.out.f.hn : Kd.R (Kd.int .u8) 5 W1 b x (.slice A7 now'.length c7) now'); refine (at_any A7 now'.length c7 now' p.s _ (Kd.C_drew (C_own hfn)) (Kd.R_reads' hfn).2.1 (by omega)).mono ?_; rintro e w3 ⟨A8, c8, rfl, hc8, hv, hb⟩; replace s0 := pw_cell_below hb s0; replace t0 := pw_cell_below hb t0; replace t1 := pw_cell_below hb t1; replace t2 := pw_cell_below hb t2; have HAT := Aside0.mk (C_own hv); have hw3 := (HW1.out.below (below_drew1 (Below.refl _ _))).below hb; have hr4 := Kd.C_below (Kd.C_drew HR4.out) hb; have hnb := blk_below (blk_drew HNB.out) hb; clear HW1 HR4 HNB; have HW1 := Aside0.mk hw3; have HR4 := Aside0.mk hr4; have HNB := Aside0.mk hnb; clear hv hb hw3 hr4 hnb hfn)
          | (go_at_call 27; refine (lay_any A8 64 c8 (atL now' p.s) p.s p.f A3 p.d.length c3 p.d _ HAT.out HR4.out).mono ?_; rintro e w4 ⟨A9, c9, rfl, hc9, hv, hb⟩; replace s0 := pw_cell_below hb s0; replace t0 := pw_cell_below hb t0; replace t1 := pw_cell_below hb t1; replace t2 := pw_cell_below hb t2; have hw4 := HW1.out.below hb; have hnb := blk_below HNB.out hb; have hd := freshU hv (Nat.le_trans HW1.out.f.hg (Nat.le_of_lt (blk_lt HW1.out.f.hb))) (x := x) (fun k hk => HX.out k (Nat.le_trans (Nat.le_trans HW1.out.k.1 (Nat.le_refl _)) hk)); clear HW1 HR4 HNB HAT; have HW1 := Aside0.mk hw4; have HNB := Aside0.mk hnb; have HD := Aside0.mk hd; clear hv hb hw4 hnb hd))
        go_wp2_with fail
        have fz := blk_frozen HW1.out.f.hb 0
        go_region_law ((go_simp; go_at_call 25; have hfn := (HN7.out ▸ HW1.out.f.hn : Kd.R (Kd.int .u8) 5 w4 b x (.slice A7 now'.length c7) now'); refine (set_any A7 now'.length c7 now' p.s A9 64 c9 (layL (atL now' p.s) p.f p.d) _ (Kd.C_drew (C_own hfn)) (by omega) (Kd.C_drew (C_own HD.out)) hc9 (by omega)).mono ?_; rintro e w5 ⟨A10, c10, rfl, hc10, hv, hb⟩; replace s0 := pw_cell_below hb s0; replace t0 := pw_cell_below hb t0; have hw5 := (HW1.out.below (below_drew1 (Below.refl _ _))).below hb; have fz5 := blk_frozen hw5.f.hb 0; have hd := Kd.R_below (Kd.R_drew HD.out) hb; have hs := freshU hv (Nat.le_trans HW1.out.f.hg (Nat.le_of_lt (blk_lt HW1.out.f.hb))) (x := x) (fun k hk => HX.out k (Nat.le_trans HW1.out.k.1 hk)); have hnb := blk_below (blk_drew HNB.out) hb; clear HW1 HNB HD; have HW1 := Aside0.mk hw5; have HNB := Aside0.mk hnb; have HD := Aside0.mk hd; have HS := Aside0.mk hs; clear hv hb hw5 hnb hd hs hfn))
        all_goals
          obtain ⟨W6, hW6⟩ : ∃ W6, W6 = w5.setCell ⟨g, 0, none⟩ (.slice A10 now'.length c10) := ⟨_, rfl⟩
          have hw6 := HW1.out.setNow HS.out
          have hd6 := farU (i := 0) HD.out HW1.out.f.hb (.slice A10 now'.length c10)
          have hn6 := blk_far HNB.out (p := ⟨g, 0, none⟩) (Ne.symm hgp) (.slice A10 now'.length c10)
          rw [← hW6] at hw6 hd6 hn6
          have hsz6 : wr.heap.size ≤ W6.heap.size := by have := blk_lt hn6; omega
          rw [← hW6]
          clear HW1 HS HD HNB hW6 s0 t0 fz5
          obtain ⟨A11, c11, hvo⟩ := Kd.R_slice hw6.f.ho
          have s2 := (blk_cell hw6.f.hb 2).trans (rfl : _ = some vo')
          rw [hvo] at s2
          have z2 := blk_frozen hw6.f.hb 2
          have s2a := cell_al (.cells #[.bool false, .int .i64 p.s, .slice A9 64 c9] 141) s2
          have t0 := (blk_cell hn6 0).trans (rfl : _ = some (Value.int .i64 p.s))
          have hda := Kd.R_apartR hd6 hw6.f.ho (u8E _ (by omega))
          have hoA : Kd.R kOp 141 W6 b x (.slice A11 ops'.length c11) ops' := hvo ▸ hw6.f.ho
          have hdA : Kd.R (Kd.int .u8) 5 W6 b (fun k => x k ∧ some k ≠ (Value.slice A11 ops'.length c11).ownBlock) (.slice A9 64 c9) (layL (atL now' p.s) p.f p.d) := hvo ▸ hda
          have hgr0 := Kd.R_ne hoA hw6.f.hb (by omega)
          have hfr : ∀ k, W6.heap.size ≤ k → x k := fun k hk => HX.out k (Nat.le_trans hw6.k.1 hk)
          have hbs : b ≤ W6.heap.size := Nat.le_trans hw6.f.hg (Nat.le_of_lt (blk_lt hw6.f.hb))
          have HW6 := Aside0.mk hw6
          have HDA := Aside0.mk hdA
          have HOA := Aside0.mk hoA
          have HVO := Aside0.mk hvo
          have HFR := Aside0.mk hfr
          have HG0 := Aside0.mk hgr0
          clear hw6 hd6 hn6 hvo hda hdA hoA hfr hgr0
          go_wp2_with fail
          go_region_law ((refine Kd.R_append_step kOp (W := W6.drew) (w0 := W6.drew) b (by rfl) (.tmp 80) (.tmp 85) 135 141 (.agg #[(.bool false), (.int .i64 0), (.slice none 0 0)]) 40 rfl Try.underlying135 infoOp rfl (by decide) (by omega) (.slice A11 ops'.length c11) ops' ⟨false, p.s, layL (atL now' p.s) p.f p.d⟩ [.bool false, .int .i64 p.s, .slice A9 64 c9] x (fun k => x k ∧ some k ≠ (Value.slice A11 ops'.length c11).ownBlock) (by rfl) (by rfl) (kOp_mkM _ _ _ ⟨false, p.s, layL (atL now' p.s) p.f p.d⟩ (Kd.R_drew HDA.out)) (fun k hk => hk) (fun k hk => HFR.out k hk) (Kd.R_drew HOA.out) (Below.refl _ _) hbs (by omega) ?_); intro v7 w7 ho7 hl7 hg7 hat7; obtain ⟨g7, c7', e7, _, _, _⟩ := Kd.R_form ho7 (by simp); rw [List.length_append, List.length_singleton] at e7; subst e7; have hb7 := blk_grown (blk_drew HW6.out.f.hb) hg7 HG0.out; have s7 := (blk_cell hb7 2).trans (rfl : _ = some vo'); rw [HVO.out] at s7; have z7 := blk_frozen hb7 2; have HO7 := Aside0.mk ho7; have HL7 := Aside0.mk hl7; have HG7 := Aside0.mk hg7; have HAT7 := Aside0.mk hat7; clear ho7 hl7 hg7 hat7 hb7)
          all_goals
            go_wp2_with fail
            go_roundg (P.length - (i + 1))
            case measure => have := hq.out; omega
            case rel =>
              have hg7 := HG7.out
              have hat7 := HAT7.out
              rw [← HVO.out] at hg7 hat7
              have hfin := (HW6.out.below (below_drew1 (Below.refl _ _))).addOp HO7.out hg7 HL7.out hat7
              exact ⟨i + 1, _, _, _, _, by go_num, by omega, ⟨rfl⟩, by rw [setL_length]; omega, by rw [List.length_append, List.length_singleton]; omega, ⟨by rw [HPT.out, HF.out]; rfl⟩, ⟨hfin⟩⟩
      · go_wp2_with fail
        go_ret
        have e : writeF (now, ops) k l = (now', ops') := by unfold writeF; rw [HGW.out, ← HPE.out, ← HF.out, List.take_of_length_le (by omega)]
        rw [e]
        exact ⟨rfl, _, _, HW.out.f, HW.out.v, HW.out.k, HW.out.l⟩
  · have HGW := Aside0.mk (show growF (now, ops) k l.length = (now, ops) by unfold growF; rw [if_neg hgrow])
    by_cases h0 : 0 < l.length
    · have hng : now.length < k + l.length → False := fun h => hgrow ⟨h0, h⟩
      have hng2 : k + l.length ≤ now.length := by omega
      clear hng hgrow
      go_enter Try.func41, Try.ntmps41
      go_wp2_with (go_at_call 16; refine (pieces_any k A c l _ (HST.out _ (KeepBut.refl _ _ _) (Below.refl _ _)) hc (by omega) (by omega)).mono ?_; rintro e w2 ⟨vP, rfl, hp, hb2⟩; obtain ⟨AP, cP, rfl⟩ := Kd.R_slice hp; have HW := Aside0.mk (FW.start (v0 := vo) H.out (KeepBut.refl _ _ _) (.inl rfl) (Below.refl _ _) hb2 hp); clear hp hb2)
      have hn1 := hnow
      have hn2 : ops.length ≤ 500001 := by omega
      have hpl := pieces_len l.length l k (Nat.le_refl _)
      obtain ⟨P, hPE⟩ : ∃ P, P = pieces k l := ⟨_, rfl⟩
      have HPE := Aside0.mk hPE
      rw [← hPE] at HW hpl ⊢
      clear hPE
      go_loopg [8, 9, 52] P.length (fun q v8 v9 v52 wr => ∃ (i : Nat) (vn' vo' : Value) (now' : List Int) (ops' : List FOp), v52 = .int .i64 (i : Int) ∧ i ≤ P.length ∧ Aside0 (q = P.length - i) ∧ now'.length ≤ 1048576 ∧ ops'.length ≤ 500001 + i ∧ Aside0 ((P.take i).foldl putF (now, ops) = (now', ops')) ∧ Aside0 (FW w b g x vo (.slice AP P.length cP) P wr vn' vs vo' now' safe ops'))
      case atStart => exact ⟨0, _, _, _, _, rfl, Nat.zero_le _, ⟨rfl⟩, hn1, hn2, ⟨rfl⟩, HW⟩
      case round =>
        clear HW hn1 hn2
        obtain ⟨i, vn', vo', now', ops', rfl, hi, hq, hln, hlo, HF, HW⟩ := hrel
        by_cases hlt : i < P.length
        · obtain ⟨ad, A3, c3, e1, r1, r2, r3, r4⟩ := at_Pc (Kd.R_reads' HW.out.p).2.2 i hlt
          have HPT := Aside0.mk (puts_takeF P (now, ops) i hlt)
          obtain ⟨p, hp⟩ : ∃ p, p = P.getD i zPc := ⟨_, rfl⟩
          rw [← hp] at r1 r2 r3 r4 HPT
          subst e1
          have R4 := Aside0.mk r4
          clear hp r4
          go_wp2_with fail
          obtain ⟨W1, hW1⟩ : ∃ W1, W1 = wr.alloc (.cells #[.int .i64 p.s, .int .i64 p.f, .slice A3 p.d.length c3] 30) := ⟨_, rfl⟩
          have hnb : W1.heap[wr.heap.size]? = some (.cells #[.int .i64 p.s, .int .i64 p.f, .slice A3 p.d.length c3] 30 (0, 0)) := by rw [hW1]; exact blk_new _ _
          have hb1 : Below wr.heap.size wr W1 := by rw [hW1]; exact below_alloc (Below.refl _ _) _
          rw [← hW1]
          obtain ⟨p8, hp8⟩ : ∃ p8, p8 = wr.heap.size := ⟨_, rfl⟩
          have hp8b : wr.heap.size ≤ p8 := by omega
          have hgp : g ≠ p8 := by have := blk_lt HW.out.f.hb; omega
          rw [← hp8] at hnb ⊢
          have HW1 := Aside0.mk (HW.out.below hb1)
          have HR4 := Aside0.mk (Kd.C_below R4.out hb1)
          obtain ⟨A7, c7, hvn7⟩ := Kd.R_slice HW.out.f.hn
          have HN7 := Aside0.mk hvn7
          have s0 := (blk_cell HW1.out.f.hb 0).trans (rfl : _ = some vn')
          rw [hvn7] at s0
          have t0 := (blk_cell hnb 0).trans (rfl : _ = some (Value.int .i64 p.s))
          have t1 := (blk_cell hnb 1).trans (rfl : _ = some (Value.int .i64 p.f))
          have t2 := (blk_cell hnb 2).trans (rfl : _ = some (Value.slice A3 p.d.length c3))
          have HNB := Aside0.mk hnb
          clear HW R4 r1 r2 r3 hW1 hb1 hp8 hvn7 hnb
          go_region_held3 (fun w' => w'.cell? ⟨g, 0, none⟩ = some (.slice A7 now'.length c7) ∧ w'.cell? ⟨p8, 0, none⟩ = some (.int .i64 p.s) ∧ w'.cell? ⟨p8, 1, none⟩ = some (.int .i64 p.f) ∧ w'.cell? ⟨p8, 2, none⟩ = some (.slice A3 p.d.length c3)) (first | with_reducible exact ⟨s0, t0, t1, t2⟩ | exact ⟨s0, t0, t1, t2⟩) (first
            | (go_at_call 23; have hfn := (HN7.out ▸ HW1.out.f.hn : Kd.R (Kd.int .u8) 5 W1 b x (.slice A7 now'.length c7) now'); refine (at_any A7 now'.length c7 now' p.s _ (Kd.C_drew (C_own hfn)) (Kd.R_reads' hfn).2.1 (by omega)).mono ?_; rintro e w3 ⟨A8, c8, rfl, hc8, hv, hb⟩; replace s0 := pw_cell_below hb s0; replace t0 := pw_cell_below hb t0; replace t1 := pw_cell_below hb t1; replace t2 := pw_cell_below hb t2; have HAT := Aside0.mk (C_own hv); have hw3 := (HW1.out.below (below_drew1 (Below.refl _ _))).below hb; have hr4 := Kd.C_below (Kd.C_drew HR4.out) hb; have hnb := blk_below (blk_drew HNB.out) hb; clear HW1 HR4 HNB; have HW1 := Aside0.mk hw3; have HR4 := Aside0.mk hr4; have HNB := Aside0.mk hnb; clear hv hb hw3 hr4 hnb hfn)
            | (go_at_call 27; refine (lay_any A8 64 c8 (atL now' p.s) p.s p.f A3 p.d.length c3 p.d _ HAT.out HR4.out).mono ?_; rintro e w4 ⟨A9, c9, rfl, hc9, hv, hb⟩; replace s0 := pw_cell_below hb s0; replace t0 := pw_cell_below hb t0; replace t1 := pw_cell_below hb t1; replace t2 := pw_cell_below hb t2; have hw4 := HW1.out.below hb; have hnb := blk_below HNB.out hb; have hd := freshU hv (Nat.le_trans HW1.out.f.hg (Nat.le_of_lt (blk_lt HW1.out.f.hb))) (x := x) (fun k hk => HX.out k (Nat.le_trans (Nat.le_trans HW1.out.k.1 (Nat.le_refl _)) hk)); clear HW1 HR4 HNB HAT; have HW1 := Aside0.mk hw4; have HNB := Aside0.mk hnb; have HD := Aside0.mk hd; clear hv hb hw4 hnb hd))
          go_wp2_with fail
          have fz := blk_frozen HW1.out.f.hb 0
          go_region_law ((go_simp; go_at_call 25; have hfn := (HN7.out ▸ HW1.out.f.hn : Kd.R (Kd.int .u8) 5 w4 b x (.slice A7 now'.length c7) now'); refine (set_any A7 now'.length c7 now' p.s A9 64 c9 (layL (atL now' p.s) p.f p.d) _ (Kd.C_drew (C_own hfn)) (by omega) (Kd.C_drew (C_own HD.out)) hc9 (by omega)).mono ?_; rintro e w5 ⟨A10, c10, rfl, hc10, hv, hb⟩; replace s0 := pw_cell_below hb s0; replace t0 := pw_cell_below hb t0; have hw5 := (HW1.out.below (below_drew1 (Below.refl _ _))).below hb; have fz5 := blk_frozen hw5.f.hb 0; have hd := Kd.R_below (Kd.R_drew HD.out) hb; have hs := freshU hv (Nat.le_trans HW1.out.f.hg (Nat.le_of_lt (blk_lt HW1.out.f.hb))) (x := x) (fun k hk => HX.out k (Nat.le_trans HW1.out.k.1 hk)); have hnb := blk_below (blk_drew HNB.out) hb; clear HW1 HNB HD; have HW1 := Aside0.mk hw5; have HNB := Aside0.mk hnb; have HD := Aside0.mk hd; have HS := Aside0.mk hs; clear hv hb hw5 hnb hd hs hfn))
          all_goals
            obtain ⟨W6, hW6⟩ : ∃ W6, W6 = w5.setCell ⟨g, 0, none⟩ (.slice A10 now'.length c10) := ⟨_, rfl⟩
            have hw6 := HW1.out.setNow HS.out
            have hd6 := farU (i := 0) HD.out HW1.out.f.hb (.slice A10 now'.length c10)
            have hn6 := blk_far HNB.out (p := ⟨g, 0, none⟩) (Ne.symm hgp) (.slice A10 now'.length c10)
            rw [← hW6] at hw6 hd6 hn6
            have hsz6 : wr.heap.size ≤ W6.heap.size := by have := blk_lt hn6; omega
            rw [← hW6]
            clear HW1 HS HD HNB hW6 s0 t0 fz5
            obtain ⟨A11, c11, hvo⟩ := Kd.R_slice hw6.f.ho
            have s2 := (blk_cell hw6.f.hb 2).trans (rfl : _ = some vo')
            rw [hvo] at s2
            have z2 := blk_frozen hw6.f.hb 2
            have s2a := cell_al (.cells #[.bool false, .int .i64 p.s, .slice A9 64 c9] 141) s2
            have t0 := (blk_cell hn6 0).trans (rfl : _ = some (Value.int .i64 p.s))
            have hda := Kd.R_apartR hd6 hw6.f.ho (u8E _ (by omega))
            have hoA : Kd.R kOp 141 W6 b x (.slice A11 ops'.length c11) ops' := hvo ▸ hw6.f.ho
            have hdA : Kd.R (Kd.int .u8) 5 W6 b (fun k => x k ∧ some k ≠ (Value.slice A11 ops'.length c11).ownBlock) (.slice A9 64 c9) (layL (atL now' p.s) p.f p.d) := hvo ▸ hda
            have hgr0 := Kd.R_ne hoA hw6.f.hb (by omega)
            have hfr : ∀ k, W6.heap.size ≤ k → x k := fun k hk => HX.out k (Nat.le_trans hw6.k.1 hk)
            have hbs : b ≤ W6.heap.size := Nat.le_trans hw6.f.hg (Nat.le_of_lt (blk_lt hw6.f.hb))
            have HW6 := Aside0.mk hw6
            have HDA := Aside0.mk hdA
            have HOA := Aside0.mk hoA
            have HVO := Aside0.mk hvo
            have HFR := Aside0.mk hfr
            have HG0 := Aside0.mk hgr0
            clear hw6 hd6 hn6 hvo hda hdA hoA hfr hgr0
            go_wp2_with fail
            go_region_law ((refine Kd.R_append_step kOp (W := W6.drew) (w0 := W6.drew) b (by rfl) (.tmp 80) (.tmp 85) 135 141 (.agg #[(.bool false), (.int .i64 0), (.slice none 0 0)]) 40 rfl Try.underlying135 infoOp rfl (by decide) (by omega) (.slice A11 ops'.length c11) ops' ⟨false, p.s, layL (atL now' p.s) p.f p.d⟩ [.bool false, .int .i64 p.s, .slice A9 64 c9] x (fun k => x k ∧ some k ≠ (Value.slice A11 ops'.length c11).ownBlock) (by rfl) (by rfl) (kOp_mkM _ _ _ ⟨false, p.s, layL (atL now' p.s) p.f p.d⟩ (Kd.R_drew HDA.out)) (fun k hk => hk) (fun k hk => HFR.out k hk) (Kd.R_drew HOA.out) (Below.refl _ _) hbs (by omega) ?_); intro v7 w7 ho7 hl7 hg7 hat7; obtain ⟨g7, c7', e7, _, _, _⟩ := Kd.R_form ho7 (by simp); rw [List.length_append, List.length_singleton] at e7; subst e7; have hb7 := blk_grown (blk_drew HW6.out.f.hb) hg7 HG0.out; have s7 := (blk_cell hb7 2).trans (rfl : _ = some vo'); rw [HVO.out] at s7; have z7 := blk_frozen hb7 2; have HO7 := Aside0.mk ho7; have HL7 := Aside0.mk hl7; have HG7 := Aside0.mk hg7; have HAT7 := Aside0.mk hat7; clear ho7 hl7 hg7 hat7 hb7)
            all_goals
              go_wp2_with fail
              go_roundg (P.length - (i + 1))
              case measure => have := hq.out; omega
              case rel =>
                have hg7 := HG7.out
                have hat7 := HAT7.out
                rw [← HVO.out] at hg7 hat7
                have hfin := (HW6.out.below (below_drew1 (Below.refl _ _))).addOp HO7.out hg7 HL7.out hat7
                exact ⟨i + 1, _, _, _, _, by go_num, by omega, ⟨rfl⟩, by rw [setL_length]; omega, by rw [List.length_append, List.length_singleton]; omega, ⟨by rw [HPT.out, HF.out]; rfl⟩, ⟨hfin⟩⟩
        · go_wp2_with fail
          go_ret
          have e : writeF (now, ops) k l = (now', ops') := by unfold writeF; rw [HGW.out, ← HPE.out, ← HF.out, List.take_of_length_le (by omega)]
          rw [e]
          exact ⟨rfl, _, _, HW.out.f, HW.out.v, HW.out.k, HW.out.l⟩
    · obtain rfl := List.eq_nil_of_length_eq_zero (show l.length = 0 by omega)
      have HPN := Aside0.mk (pieces_nil k)
      have HWN := Aside0.mk (show writeF (now, ops) k [] = (now, ops) by unfold writeF; rw [pieces_nil]; exact HGW.out)
      clear hgrow h0
      go_enter Try.func41, Try.ntmps41
      go_wp2_with (go_at_call 16; refine (pieces_any k A c [] _ (HST.out _ (KeepBut.refl _ _ _) (Below.refl _ _)) hc (by simp) (by omega)).mono ?_; rintro e w2 ⟨vP, rfl, hp, hb2⟩; rw [HPN.out] at hp; obtain ⟨AP, cP, rfl⟩ := Kd.R_slice hp; have HW := Aside0.mk (FW.start (v0 := vo) H.out (KeepBut.refl _ _ _) (.inl rfl) (Below.refl _ _) hb2 hp); clear hp hb2)
      refine wp_loop_rounds 1 ?_
      rw [rounds_succ]
      go_wp2_with fail
      go_ret
      rw [HWN.out]
      exact ⟨rfl, _, _, HW.out.f, HW.out.v, HW.out.k, HW.out.l⟩
end Go.Proofs.Ytpnbjpkdbiiogaa
/- Files: Crash, Copy. -/
namespace Go.Proofs.Ytpnbjpkdbiiogaa
set_option linter.unusedVariables false
open Go.RowKit Go.Proofs.YtpnbjpkdbiiogaaW.PrintWords
attribute [local go_sem] mx2 mn2 mxTwo mnTwo

theorem at_Op {w : World} {A : Option Addr} {n : Nat} {xs : List FOp} (h : Kd.C kOp w A n xs) (i : Nat) (h1 : i < n) : ∃ ad A2 c2, A = some ad ∧ w.cell? (ad.add (i * 3)) = some (.bool (xs.getD i zOp).sz) ∧ w.cell? ⟨(ad.add (i * 3)).block, (ad.add (i * 3)).off + 1, none⟩ = some (.int .i64 (xs.getD i zOp).n) ∧ w.cell? ⟨(ad.add (i * 3)).block, (ad.add (i * 3)).off + 2, none⟩ = some (.slice A2 (xs.getD i zOp).d.length c2) ∧ (xs.getD i zOp).d.length ≤ c2 ∧ (Kd.int .u8).C w A2 (xs.getD i zOp).d.length (xs.getD i zOp).d := by
  obtain ⟨ad, c, e, _, hK, hc0⟩ := Kd.C_get h zOp (i : Int) (by omega) (by omega)
  simp only [Int.toNat_natCast] at hK hc0
  have hc : ∀ j u, c[j]? = some u → w.cell? (ad.add (i * 3 + j)) = some u := hc0
  obtain ⟨_, _, rfl, rfl, ⟨_, _, rfl, rfl, ⟨A2, c2, rfl, l2, g2⟩⟩⟩ := hK
  exact ⟨ad, A2, c2, e, hc 0 _ rfl, by rw [← add_field _ _ 1 (by omega)]; exact hc 1 _ rfl, by rw [← add_field _ _ 2 (by omega)]; exact hc 2 _ rfl, l2, g2⟩
theorem at_bool {w : World} {A : Option Addr} {n : Nat} {xs : List Bool} (h : Kd.bool.C w A n xs) (i : Nat) (h1 : i < n) : ∃ ad, A = some ad ∧ w.cell? (ad.add i) = some (.bool (xs.getD i false)) := by
  obtain ⟨ad, c, e, _, hK, hc0⟩ := Kd.C_get h false (i : Int) (by omega) (by omega)
  simp only [Int.toNat_natCast] at hK hc0
  have hK' : c = [.bool (xs.getD i false)] := hK
  subst hK'
  exact ⟨ad, e, by have := hc0 0 _ rfl; rwa [show i * Kd.bool.sz + 0 = i from Nat.mul_one i] at this⟩
theorem fcrash_nil (A : Option Addr) (n c : Nat) (w : World) : Calls Try.prog 36 #[.pointer none, .slice A n c] w fun e w' => e = .returned (.pointer none) ∧ w' = w := by
  go_enter Try.func36, Try.ntmps36
  go_wp2
  go_ret
  exact ⟨rfl, rfl⟩
theorem fcopy_nil (w : World) : Calls Try.prog 39 #[.pointer none] w fun e w' => e = .returned (.pointer none) ∧ w' = w := by
  go_enter Try.func39, Try.ntmps39
  go_wp2
  go_ret
  exact ⟨rfl, rfl⟩
theorem fsync_nil (w : World) : Calls Try.prog 38 #[.pointer none] w fun e w' => e = .returned (.tuple #[]) ∧ w' = w := by
  go_enter Try.func38, Try.ntmps38
  go_wp2
  first | go_end0 | ((try simp only [Exit.inBlock, Exit.then]); refine bodyPost_ret (results_none rfl _ _ _) rfl ?_)
  exact ⟨rfl, rfl⟩

theorem keepF_len (bs : List Int) (o : FOp) (h : bs.length ≤ 1048576) (ho : o.n ≤ 1048576) : (keepF bs o).length ≤ 1048576 := by
  unfold keepF
  split
  · rw [sizeL_length]; omega
  · rw [setL_length]; exact h
theorem crashF_len (safe : List Int) (ops : List FOp) (kl : List Bool) (h : safe.length ≤ 1048576) (ho : ∀ o ∈ ops, o.n ≤ 1048576) : ∀ i, (crashF safe ops kl i).length ≤ 1048576
  | 0 => h
  | i + 1 => by
    have ih := crashF_len safe ops kl h ho i
    unfold crashF
    split
    · refine keepF_len _ _ ih ?_
      by_cases hi : i < ops.length
      · have e : ops.getD i zOp = ops[i] := by simp [List.getD_eq_getElem?_getD, hi]
        rw [e]
        exact ho _ (List.getElem_mem hi)
      · have e : ops.getD i zOp = zOp := by simp [List.getD_eq_getElem?_getD, List.getElem?_eq_none (Nat.le_of_not_lt hi)]
        rw [e]
        decide
    · exact ih
set_option maxHeartbeats 4000000 in
set_option maxRecDepth 100000 in
theorem fcrash_any (b g : Nat) (x : Nat → Prop) (vn vs vo : Value) (now safe : List Int) (ops : List FOp) (A : Option Addr) (n c : Nat) (kl : List Bool) (w : World) (h : FI w b g x vn vs vo now safe ops) (hk : Kd.bool.C w A n kl) (hsafe : safe.length ≤ 1048576) (hop : ∀ o ∈ ops, o.n ≤ 1048576 ∧ o.d.length ≤ 1048576) (hol : ops.length ≤ 2000000) :
    Calls Try.prog 36 #[.pointer (some ⟨g, 0, none⟩), .slice A n c] w fun e w' => ∃ g2 va vb, e = .returned (.pointer (some ⟨g2, 0, none⟩)) ∧ FI w' w.heap.size g2 (fun _ => True) va vb (.slice none 0 0) (crashF safe ops kl ops.length) (crashF safe ops kl ops.length) [] ∧ Below w.heap.size w w' := by
  obtain rfl : kl.length = n := hk.1
  have hkm := Kd.C_max hk
  obtain ⟨A1, c1, rfl, hc1, hC1⟩ := Kd.R_reads h.hs
  obtain ⟨A2, c2, rfl, hc2, hC2⟩ := Kd.R_reads h.ho
  have hc1' := (blk_cell h.hb 1).trans (rfl : _ = some (Value.slice A1 safe.length c1))
  have hc2' := (blk_cell h.hb 2).trans (rfl : _ = some (Value.slice A2 ops.length c2))
  have HK := Aside0.mk hk
  have HC1 := Aside0.mk hC1
  have HC2 := Aside0.mk hC2
  have HOP := Aside0.mk hop
  have HLEN := Aside0.mk (crashF_len safe ops kl hsafe (fun o ho => (hop o ho).1))
  clear h hk hC1 hC2 hop
  go_enter Try.func36, Try.ntmps36
  go_wp2
  go_loopg [5, 6, 7, 19] ops.length (fun q v5 v6 v7 v19 wr => ∃ (i N : Nat) (A5 : Option Addr) (c5 : Nat), v19 = .int .i64 (i : Int) ∧ v5 = .slice A5 N c5 ∧ N ≤ c5 ∧ i ≤ ops.length ∧ Aside0 (q = ops.length - i) ∧ Aside0 ((crashF safe ops kl i).length = N) ∧ Aside0 (Kd.C (Kd.int .u8) wr A5 N (crashF safe ops kl i)) ∧ Aside0 (Below w.heap.size w wr))
  case atStart => exact ⟨0, _, _, _, rfl, rfl, hc1, Nat.zero_le _, ⟨rfl⟩, ⟨rfl⟩, HC1, ⟨Below.refl _ _⟩⟩
  case round =>
    obtain ⟨i, N, A5, c5, rfl, rfl, hN, hi, hq, HN, HC, HB⟩ := hrel
    by_cases hlt : i < ops.length
    · obtain ⟨ad, A3, c3, e1, r1, r2, r3, hl3, r4⟩ := at_Op (Kd.C_below HC2.out HB.out) i hlt
      subst e1
      obtain ⟨o, ho⟩ : ∃ o, o = ops.getD i zOp := ⟨_, rfl⟩
      rw [← ho] at r1 r2 r3 hl3 r4
      have hoo := HOP.out o (by rw [ho]; simp [List.getD_eq_getElem?_getD, hlt])
      have HSTEP := Aside0.mk (show crashF safe ops kl (i + 1) = if kl.getD i false then keepF (crashF safe ops kl i) o else crashF safe ops kl i by rw [ho]; rfl)
      have hNl : N ≤ 1048576 := by rw [← HN.out]; exact HLEN.out i
      obtain ⟨ho1, ho2⟩ := hoo
      have R4 := Aside0.mk r4
      clear ho r4
      by_cases hkl : i < kl.length
      · obtain ⟨ad2, e2, hkb0⟩ := at_bool HK.out i hkl
        subst e2
        have hkb := cell_al (.cells #[.bool o.sz, .int .i64 o.n, .slice A3 o.d.length c3] 141) (pw_cell_below HB.out hkb0)
        clear hkb0
        cases hb : kl.getD i false with
        | false =>
          rw [hb] at hkb HSTEP
          go_wp2_with fail
          go_roundg (ops.length - (i + 1))
          case measure => have := hq.out; omega
          case rel => exact ⟨i + 1, _, _, _, by go_num, rfl, hN, by omega, ⟨rfl⟩, ⟨by rw [HSTEP.out]; exact HN.out⟩, ⟨by rw [HSTEP.out]; exact Kd.C_alloc HC.out _⟩, ⟨below_alloc HB.out _⟩⟩
        | true =>
          rw [hb] at hkb HSTEP
          cases hs : o.sz with
          | false =>
            have HE := Aside0.mk (show crashF safe ops kl (i + 1) = setL (crashF safe ops kl i) o.n o.d by rw [HSTEP.out, if_pos rfl]; unfold keepF; rw [hs]; rfl)
            rw [hs] at r1 hkb
            go_wp2_with (go_at_call 25; refine (set_any A5 N c5 (crashF safe ops kl i) o.n A3 o.d.length c3 o.d _ (Kd.C_alloc HC.out _) (by omega) (Kd.C_alloc R4.out _) hl3 (by omega)).mono ?_; rintro e w3 ⟨A6, c6, rfl, hc6, hv, hb3⟩; have HV := Aside0.mk (C_own hv); have HB3 := Aside0.mk (below_step (below_alloc HB.out _) hb3); clear hv hb3)
            go_roundg (ops.length - (i + 1))
            case measure => have := hq.out; omega
            case rel => exact ⟨i + 1, N, _, _, by go_num, rfl, hc6, by omega, ⟨rfl⟩, ⟨by rw [HE.out, setL_length]; exact HN.out⟩, ⟨by rw [HE.out]; exact HV.out⟩, HB3⟩
          | true =>
            have HE := Aside0.mk (show crashF safe ops kl (i + 1) = sizeL (crashF safe ops kl i) o.n by rw [HSTEP.out, if_pos rfl]; unfold keepF; rw [hs]; rfl)
            rw [hs] at r1 hkb
            go_wp2_with (go_at_call 21; refine (size_any A5 N c5 (crashF safe ops kl i) o.n _ (Kd.C_alloc HC.out _) (by omega) (by omega)).mono ?_; rintro e w3 ⟨A6, c6, rfl, hc6, hv, hb3⟩; have HV := Aside0.mk (C_own hv); have HB3 := Aside0.mk (below_step (below_alloc HB.out _) hb3); clear hv hb3)
            go_roundg (ops.length - (i + 1))
            case measure => have := hq.out; omega
            case rel => exact ⟨i + 1, o.n.toNat, _, _, by go_num, rfl, by first | exact hc6 | omega, by omega, ⟨rfl⟩, ⟨by rw [HE.out, sizeL_length]⟩, ⟨by rw [HE.out]; exact HV.out⟩, HB3⟩
      · have hb : kl.getD i false = false := by simp [List.getD_eq_getElem?_getD, List.getElem?_eq_none (Nat.le_of_not_lt hkl)]
        rw [hb] at HSTEP
        go_wp2_with fail
        go_roundg (ops.length - (i + 1))
        case measure => have := hq.out; omega
        case rel => exact ⟨i + 1, _, _, _, by go_num, rfl, hN, by omega, ⟨rfl⟩, ⟨by rw [HSTEP.out]; exact HN.out⟩, ⟨by rw [HSTEP.out]; exact Kd.C_alloc HC.out _⟩, ⟨below_alloc HB.out _⟩⟩
    · obtain rfl : i = ops.length := by omega
      have hNl : N ≤ 1048576 := by rw [← HN.out]; exact HLEN.out _
      go_wp2_with (first
        | (go_at_call 86; refine (clone_bytes A5 N c5 (crashF safe ops kl ops.length) _ HC.out (by omega)).mono ?_; rintro e w3 ⟨A6, c6, rfl, hc6, hv, hb3⟩; have HV := Aside0.mk hv; have HC3 := Aside0.mk (Kd.C_below HC.out hb3); have HB3 := Aside0.mk (below_step HB.out hb3); have HS3 := Aside0.mk (below_size HB.out); clear HC HB hv hb3)
        | (go_at_call 86; refine (clone_bytes A5 N c5 (crashF safe ops kl ops.length) _ HC3.out (by omega)).mono ?_; rintro e w4 ⟨A7, c7, rfl, hc7, hv, hb4⟩; have HV4 := Aside0.mk hv; have HV3 := Aside0.mk (Kd.R_below HV.out hb4); have HB4 := Aside0.mk (below_step HB3.out hb4); have HS4 := Aside0.mk (below_size HB3.out); clear HC3 hv hb4))
      go_ret
      exact ⟨_, _, _, rfl, ⟨blk_new _ _, Kd.R_alloc (Kd.R_lower HV3.out HS3.out) _, Kd.R_alloc (Kd.R_lower HV4.out HS4.out) _, Kd.R_nil _ _ _ _ _, below_size HB4.out⟩, below_alloc HB4.out _⟩
end Go.Proofs.Ytpnbjpkdbiiogaa
/- The reference's file in memory; Sync. -/
namespace Go.Proofs.Ytpnbjpkdbiiogaa
set_option linter.unusedVariables false
open Go.RowKit Go.Proofs.YtpnbjpkdbiiogaaW.PrintWords
attribute [local go_sem] mx2 mn2 mxTwo mnTwo

theorem infoRop : (Try.prog.info? 178).map (fun i => (i.zero, i.size, i.bytes)) = some (some (.agg #[(.bool false), (.int .i64 0), (.slice none 0 0)]), 3, 40) := by kernel_rfl
/-- The reference's file: its Now alone is written in place. -/
structure RF (W : World) (b g : Nat) (vn vs vo : Value) (now safe : List Int) (ops : List FOp) : Prop where
  hb : W.heap[g]? = some (.cells #[vn, vs, vo] 46 (0, 0))
  hn : Kd.R (Kd.int .u8) 5 W b (fun _ => True) vn now
  hs : Kd.R (Kd.int .u8) 5 W b (fun k => some k ≠ vn.ownBlock) vs safe
  ho : Kd.R kOp 178 W b (fun k => some k ≠ vn.ownBlock) vo ops
  hg : b ≤ g
theorem ropE (t : Nat) (h1 : 178 ≠ t) (ht : 5 ≠ t) : ∀ q, q ∈ 178 :: kOp.E → q ≠ t := by
  intro q hq
  have : kOp.E = [5] := rfl
  rw [this] at hq
  simp at hq
  omega
section
variable {W W1 : World} {b g i : Nat} {x : Nat → Prop} {v : Value} {cs : Array Value}
theorem rfarU {xs : List Int} (h : Kd.R (Kd.int .u8) 5 W b x v xs) (hb : W.heap[g]? = some (.cells cs 46 (0, 0))) (u : Value) : Kd.R (Kd.int .u8) 5 (W.setCell ⟨g, i, none⟩ u) b x v xs :=
  Kd.R_mono (Kd.R_far (Kd.R_types h hb (u8E _ (by omega))) (p := ⟨g, i, none⟩) (fun k hk => hk.2) u) (fun k hk => hk.1)
theorem rfarO {xs : List FOp} (h : Kd.R kOp 178 W b x v xs) (hb : W.heap[g]? = some (.cells cs 46 (0, 0))) (u : Value) : Kd.R kOp 178 (W.setCell ⟨g, i, none⟩ u) b x v xs :=
  Kd.R_mono (Kd.R_far (Kd.R_types h hb (ropE _ (by omega) (by omega))) (p := ⟨g, i, none⟩) (fun k hk => hk.2) u) (fun k hk => hk.1)
theorem rgrowU {x' : Nat → Prop} {vo : Value} {xs : List Int} {ops : List FOp} (h : Kd.R (Kd.int .u8) 5 W b x v xs) (ho : Kd.R kOp 178 W b x' vo ops) (hg : W.grownBy W1 vo.ownBlock) : Kd.R (Kd.int .u8) 5 W1 b x v xs :=
  Kd.R_mono (Kd.R_grown (Kd.R_apartR h ho (u8E _ (by omega))) hg (fun k hk => hk.2)) (fun k hk => hk.1)
end
theorem RF.below {W W1 : World} {b g : Nat} {vn vs vo : Value} {now safe : List Int} {ops : List FOp} (h : RF W b g vn vs vo now safe ops) (hb : Below W.heap.size W W1) : RF W1 b g vn vs vo now safe ops :=
  ⟨blk_below h.hb hb, Kd.R_below h.hn hb, Kd.R_below h.hs hb, Kd.R_below h.ho hb, h.hg⟩
theorem R_lt {α : Type} {d : Kd α} {e : Nat} {w : World} {base : Nat} {ok : Nat → Prop} {v : Value} {xs : List α} (h : d.R e w base ok v xs) : ∀ k, v.ownBlock = some k → k < w.heap.size := fun k hk => ((Kd.R_bound h).1 k hk).2.2.1
theorem rsync_any (b g : Nat) (vn vs vo : Value) (now safe : List Int) (ops : List FOp) (w : World) (h : RF w b g vn vs vo now safe ops) (hl : now.length ≤ 1099511627776) : Calls Try.prog 89 #[.pointer (some ⟨g, 0, none⟩)] w fun e w' => e = .returned (.tuple #[]) ∧ (∃ vs', RF w' b g vn vs' (.slice none 0 0) now now []) ∧ KeepBut w w' g none ∧ Below b w w' := by
  obtain ⟨A, c, rfl, hc, hC⟩ := Kd.R_reads h.hn
  have H := Aside0.mk h
  have HC := Aside0.mk hC
  have hbA := blk_alloc h.hb (.cells #[] 5)
  have hc0 := (blk_cell h.hb 0).trans (rfl : _ = some (Value.slice A now.length c))
  have hc0a := (blk_cell hbA 0).trans (rfl : _ = some (Value.slice A now.length c))
  clear h hC hbA
  go_enter Try.func89, Try.ntmps89
  go_wp2_with (at_builtin; refine Kd.R_append_rows (Kd.int .u8) (Rr := (Kd.int .u8).K w) (w0 := w) w.heap.size rfl (.tmp 3) (.tmp 7) 22 5 (.int .u8 0) 1 rfl Try.underlying22 infoU8 rfl (by decide) (by omega) _ [] now A now.length c (fun _ => True) (fun _ => False) rfl rfl (R_empty _ _ _ _ _ trivial) (Kd.C_alloc HC.out _) (fun _ _ h => h) (fun _ h => h.elim) (fun _ _ => trivial) (below_alloc (Below.refl _ _) _) (by simp) (by simp; omega) ?_; intro v1 w1 h1 hb1 _ _; rw [List.nil_append] at h1; obtain ⟨A1, c1, rfl, hc1, _⟩ := Kd.R_reads h1; have hbk := blk_below H.out.hb hb1; have k1 := (blk_cell hbk 1).trans (rfl : _ = some vs); have k2 := (blk_cell hbk 2).trans (rfl : _ = some vo); have f1 := blk_frozen hbk 1; have f2 := blk_frozen hbk 2; have HV := Aside0.mk h1; have HB := Aside0.mk hb1; have HK := Aside0.mk hbk; clear h1 hb1 hbk)
  first | go_end0 | ((try simp only [Exit.inBlock, Exit.then]); refine bodyPost_ret (results_none rfl _ _ _) rfl ?_)
  have hb1 := blk_put HK.out 1 (.slice A1 now.length c1) rfl
  have hbw : b ≤ w.heap.size := Nat.le_trans H.out.hg (Nat.le_of_lt (blk_lt H.out.hb))
  have hx : ∀ k, w.heap.size ≤ k → some k ≠ (Value.slice A now.length c).ownBlock := fun k hk e => by have := R_lt H.out.hn k e.symm; omega
  exact ⟨rfl, ⟨_, blk_put hb1 2 _ rfl, rfarU (rfarU (Kd.R_below H.out.hn HB.out) HK.out _) hb1 _, rfarU (rfarU (freshU HV.out hbw hx) HK.out _) hb1 _, Kd.R_nil _ _ _ _ _, H.out.hg⟩, ((KeepBut.of_below HB.out g none).set_ 1 _).set_ 2 _, ((HB.out.mono hbw).setCell (p := ⟨g, 1, none⟩) H.out.hg _).setCell (p := ⟨g, 2, none⟩) H.out.hg _⟩
section
variable {W W1 : World} {b g : Nat} {vn vs vo v1 : Value} {now safe now1 : List Int} {ops : List FOp} {o : FOp}
/-- A fresh Now. -/
theorem RF.setNow (h : RF W b g vn vs vo now safe ops) (hb : Below W.heap.size W W1) (hv : Kd.R (Kd.int .u8) 5 W1 W.heap.size (fun _ => True) v1 now1) : RF (W1.setCell ⟨g, 0, none⟩ v1) b g v1 vs vo now1 safe ops := by
  have hbw : b ≤ W.heap.size := Nat.le_trans h.hg (Nat.le_of_lt (blk_lt h.hb))
  have h0 := blk_below h.hb hb
  have hne : ∀ k, k < W.heap.size → some k ≠ v1.ownBlock := fun k hk e => by have := Kd.R_base hv k e.symm; omega
  exact ⟨blk_put h0 0 _ rfl, rfarU (Kd.R_lower hv hbw) h0 _, rfarU (Kd.R_below (Kd.R_mono (Kd.R_bound h.hs) (fun k hk => hne k hk.2.2.1)) hb) h0 _, rfarO (Kd.R_below (Kd.R_mono (Kd.R_bound h.ho) (fun k hk => hne k hk.2.2.1)) hb) h0 _, h.hg⟩
theorem RF.addOp (h : RF W b g vn vs vo now safe ops) (ho : Kd.R kOp 178 W1 b (fun k => some k ≠ vn.ownBlock) v1 (ops ++ [o])) (hg : W.grownBy W1 vo.ownBlock) : RF (W1.setCell ⟨g, 2, none⟩ v1) b g vn vs v1 now safe (ops ++ [o]) := by
  have hb := blk_grown h.hb hg (Kd.R_ne h.ho h.hb (by omega))
  exact ⟨blk_put hb 2 _ rfl, rfarU (rgrowU h.hn h.ho hg) hb _, rfarU (rgrowU h.hs h.ho hg) hb _, rfarO ho hb _, h.hg⟩
end
end Go.Proofs.Ytpnbjpkdbiiogaa
/- The reference's file: Truncate. -/
namespace Go.Proofs.Ytpnbjpkdbiiogaa
set_option linter.unusedVariables false
open Go.RowKit Go.Proofs.YtpnbjpkdbiiogaaW.PrintWords
attribute [local go_sem] mx2 mn2 mxTwo mnTwo

theorem rtrunc_bad (g : Nat) (n : Int) (w : World) (hn : n < 0 ∨ 0 ≤ n ∧ 1048576 < n) : Calls Try.prog 88 #[.pointer (some ⟨g, 0, none⟩), .int .i64 n] w fun e w' => e = .returned (.int .i64 1) ∧ w' = w := by
  rcases hn with hn | ⟨hn, hn2⟩
  · go_enter Try.func88, Try.ntmps88
    go_wp2
    go_ret
    exact ⟨rfl, rfl⟩
  · go_enter Try.func88, Try.ntmps88
    go_wp2
    go_ret
    exact ⟨rfl, rfl⟩
theorem rtrunc_any (b g : Nat) (vn vs vo : Value) (now safe : List Int) (ops : List FOp) (n : Nat) (w : World) (h : RF w b g vn vs vo now safe ops) (hl : now.length ≤ 1099511627776) (hn : n ≤ 1048576) (ho : ops.length ≤ 1000000) : Calls Try.prog 88 #[.pointer (some ⟨g, 0, none⟩), .int .i64 (n : Int)] w fun e w' => e = .returned (.int .i64 0) ∧ (∃ vn' vo', RF w' b g vn' vs vo' (sizeF (now, ops) n).1 safe (sizeF (now, ops) n).2 ∧ (vn'.ownBlock = vn.ownBlock ∨ vn'.ownBlock = none ∨ ∃ k, vn'.ownBlock = some k ∧ w.heap.size ≤ k)) ∧ KeepBut w w' g vo.ownBlock ∧ Below b w w' := by
  obtain ⟨A, c, rfl, hc, hC⟩ := Kd.R_reads h.hn
  obtain ⟨A2, c2, rfl⟩ := Kd.R_slice h.ho
  have hbw : b ≤ w.heap.size := Nat.le_trans h.hg (Nat.le_of_lt (blk_lt h.hb))
  have hc0 := (blk_cell h.hb 0).trans (rfl : _ = some (Value.slice A now.length c))
  have H := Aside0.mk h
  have HC := Aside0.mk hC
  clear h hC
  by_cases he : (n : Int) = (now.length : Int)
  · have e : sizeF (now, ops) (n : Int) = (now, ops) := by unfold sizeF; rw [if_pos he]
    have hn2 : n = now.length := by omega
    subst hn2
    rw [e]
    clear he e
    go_enter Try.func88, Try.ntmps88
    go_wp2
    go_ret
    exact ⟨rfl, ⟨_, _, H.out, .inl rfl⟩, KeepBut.refl _ _ _, Below.refl _ _⟩
  · have e : sizeF (now, ops) (n : Int) = (sizeL now (n : Int), ops ++ [⟨true, (n : Int), []⟩]) := by unfold sizeF; rw [if_neg he]
    have q : (n == now.length) = false := beq_eq_false_iff_ne.mpr (by omega)
    have q2 : ((n : Int) == (now.length : Int)) = false := beq_eq_false_iff_ne.mpr he
    rw [e]
    clear e
    go_enter Try.func88, Try.ntmps88
    go_wp2_with (first
      | (go_at_call 22; refine (rsize_any A now.length c now (n : Int) _ HC.out (by omega) (by omega)).mono ?_; rintro e w1 ⟨A1, c1, rfl, hc1, hv, hb1⟩; rw [Int.toNat_natCast] at hc1 hv; have hbk := blk_below H.out.hb hb1; have k0 := (blk_cell hbk 0).trans (rfl : _ = some (Value.slice A now.length c)); have k2 := (blk_cell hbk 2).trans (rfl : _ = some (Value.slice A2 ops.length c2)); have f0 := blk_frozen hbk 0; have f2 := blk_frozen hbk 2; have HN := Aside0.mk (H.out.setNow hb1 hv); have HVB := Aside0.mk (Kd.R_base hv); have HVL := Aside0.mk (R_lt hv); have HB := Aside0.mk hb1; clear hv hb1 hbk)
      | (at_builtin; refine Kd.R_append kOp (w0 := _) b rfl (.tmp 31) (.tmp 34) 44 178 (.agg #[(.bool false), (.int .i64 0), (.slice none 0 0)]) 40 rfl Try.underlying44 infoRop rfl (by decide) (by omega) (.slice A2 ops.length c2) ops ⟨true, (n : Int), []⟩ [.bool true, .int .i64 (n : Int), .slice none 0 0] (fun k => some k ≠ (Value.slice A1 n c1).ownBlock) (fun _ => False) rfl (congrArg (fun s => Value.slice (some ⟨s, 0, none⟩) 1 1) (setsz w1 ⟨g, 0, none⟩ (.slice A1 n c1)).symm) (kOp_mkM _ _ _ ⟨true, (n : Int), []⟩ (Kd.R_nil _ _ _ _ _)) (fun _ h => h.elim) (fun k hk e => absurd (HVL.out k e.symm) (by rw [setsz] at hk; omega)) HN.out.ho (Below.refl _ _) (Nat.le_trans hbw (by simpa using HB.out.size)) (by omega) ?_; intro v2 w2 ho2 hbl2 hgr2 hat2; obtain ⟨g2, c3, e3, _, _, _⟩ := Kd.R_form ho2 (by simp); rw [List.length_append, List.length_singleton] at e3; subst e3; have hb2 := blk_grown HN.out.hb hgr2 (Kd.R_ne HN.out.ho HN.out.hb (by omega)); have k2' := (blk_cell hb2 2).trans (rfl : _ = some (Value.slice A2 ops.length c2)); have f2' := blk_frozen hb2 2; have HF := Aside0.mk (HN.out.addOp ho2 hgr2); have HBL := Aside0.mk hbl2; have HGR := Aside0.mk hgr2; clear hb2 ho2 hbl2 hgr2 hat2))
    go_ret
    refine ⟨rfl, ⟨_, _, HF.out, ?_⟩, (((KeepBut.of_below HB.out g _).set_ 0 _).trans (KeepBut.of_grown HGR.out g) (.inl rfl)).set_ 2 _, ((((HB.out.mono hbw).setCell (p := ⟨g, 0, none⟩) H.out.hg _).trans HBL.out).setCell (p := ⟨g, 2, none⟩) H.out.hg _)⟩
    cases A1 with
    | none => exact .inr (.inl rfl)
    | some ad => exact .inr (.inr ⟨ad.block, rfl, HVB.out ad.block rfl⟩)
end Go.Proofs.Ytpnbjpkdbiiogaa
/- The reference's file: Read. -/
namespace Go.Proofs.Ytpnbjpkdbiiogaa
set_option linter.unusedVariables false
open Go.RowKit Go.Proofs.YtpnbjpkdbiiogaaW.PrintWords
attribute [local go_sem] mx2 mn2 mxTwo mnTwo

set_option maxHeartbeats 1000000 in
set_option maxRecDepth 100000 in
theorem rread_any (b g : Nat) (vn vs vo : Value) (now safe : List Int) (ops : List FOp) (k n : Int) (w : World) (h : RF w b g vn vs vo now safe ops) (hl : now.length ≤ 1099511627776) : Calls Try.prog 91 #[.pointer (some ⟨g, 0, none⟩), .int .i64 k, .int .i64 n] w fun e w' => ∃ A' c', e = .returned (.slice A' (readL now k n).length c') ∧ Kd.C (Kd.int .u8) w' A' (readL now k n).length (readL now k n) ∧ Below w.heap.size w w' := by
  obtain ⟨A, c, rfl, hc, hC⟩ := Kd.R_reads h.hn
  have HC := Aside0.mk hC
  have hc0 := (blk_cell h.hb 0).trans (rfl : _ = some (Value.slice A now.length c))
  have HC0 := Aside0.mk hc0
  clear h hC
  by_cases h3 : n ≤ 0
  · skip
    have HE := Aside0.mk (show readL now k n = [] by unfold readL; rw [if_pos (by omega)])
    rw [HE.out]
    go_enter Try.func91, Try.ntmps91
    go_wp2
    refine wp_loop_rounds 1 ?_
    rw [rounds_succ]
    go_wp2_with fail
    all_goals
      go_ret
      have hC0 : Kd.C (Kd.int .u8) w none 0 [] := ⟨rfl, Nat.zero_le _, fun h => absurd h (by simp)⟩
      first | exact ⟨none, 0, rfl, hC0, Below.refl _ _⟩ | exact ⟨none, ⟨0, rfl⟩, hC0, Below.refl _ _⟩
  · by_cases h1 : k < 0
    · skip
      have HE := Aside0.mk (show readL now k n = [] by unfold readL; rw [if_pos (by omega)])
      rw [HE.out]
      go_enter Try.func91, Try.ntmps91
      go_wp2
      refine wp_loop_rounds 1 ?_
      rw [rounds_succ]
      go_wp2_with fail
      all_goals
        go_ret
        have hC0 : Kd.C (Kd.int .u8) w none 0 [] := ⟨rfl, Nat.zero_le _, fun h => absurd h (by simp)⟩
        first | exact ⟨none, 0, rfl, hC0, Below.refl _ _⟩ | exact ⟨none, ⟨0, rfl⟩, hC0, Below.refl _ _⟩
    · by_cases h2 : (now.length : Int) ≤ k
      · skip
        have HE := Aside0.mk (show readL now k n = [] by unfold readL; rw [if_pos (by omega)])
        rw [HE.out]
        go_enter Try.func91, Try.ntmps91
        go_wp2
        refine wp_loop_rounds 1 ?_
        rw [rounds_succ]
        go_wp2_with fail
        all_goals
          go_ret
          have hC0 : Kd.C (Kd.int .u8) w none 0 [] := ⟨rfl, Nat.zero_le _, fun h => absurd h (by simp)⟩
          first | exact ⟨none, 0, rfl, hC0, Below.refl _ _⟩ | exact ⟨none, ⟨0, rfl⟩, hC0, Below.refl _ _⟩
      · obtain ⟨q, rfl⟩ := Int.eq_ofNat_of_zero_le (show 0 ≤ k by omega)
        have HE := Aside0.mk (show readL now (q : Int) n = (now.drop q).take n.toNat by unfold readL; rw [if_neg (by omega), Int.toNat_natCast])
        go_enter Try.func91, Try.ntmps91
        go_wp2
        go_loopg [7, 8] now.length (fun z v7 v8 wr => ∃ i : Nat, v8 = .int .i64 (i : Int) ∧ (i : Int) ≤ n ∧ q + i ≤ now.length ∧ Aside0 (z = now.length - i) ∧ Aside0 (Kd.R (Kd.int .u8) 5 wr w.heap.size (fun _ => True) v7 ((now.drop q).take i)) ∧ Aside0 (Below w.heap.size w wr))
        case atStart => exact ⟨0, rfl, by omega, by omega, ⟨rfl⟩, ⟨Kd.R_nil _ _ _ _ _⟩, ⟨Below.refl _ _⟩⟩
        case round =>
          obtain ⟨i, rfl, hi, hqi, hz, HO, HB⟩ := hrel
          have hs0 := pw_cell_below HB.out HC0.out
          by_cases ha : (i : Int) < n
          · by_cases hb : q + i < now.length
            · have hb2 : (q : Int) < (now.length : Int) - (i : Int) := by omega
              obtain ⟨ad, rfl, hx⟩ := at_nat HC.out (q + i) hb
              have hxw := pw_cell_below HB.out hx
              have HKE := Aside0.mk (show (now.drop q).take (i + 1) = (now.drop q).take i ++ [rd now ((q + i : Nat) : Int)] by
                rw [take_snoc_rd _ i (by rw [List.length_drop]; omega)]
                unfold rd
                rw [Int.toNat_natCast, Int.toNat_natCast, List.getD_eq_getElem?_getD, List.getD_eq_getElem?_getD, List.getElem?_drop])
              obtain ⟨x, hxE⟩ : ∃ x, x = rd now ((q + i : Nat) : Int) := ⟨_, rfl⟩
              rw [← hxE] at hxw HKE
              have HLE := Aside0.mk (show ((now.drop q).take i).length = i by rw [List.length_take, List.length_drop]; omega)
              clear hxE hx
              go_wp2_with (at_builtin; refine Kd.R_append (Kd.int .u8) (w0 := w) w.heap.size rfl (.tmp 29) (.tmp 39) 22 5 (.int .u8 0) 1 rfl Try.underlying22 infoU8 rfl (by decide) (by omega) u7 _ x [.int .u8 x] (fun _ => True) (fun _ => False) rfl rfl rfl (fun _ h => h.elim) (fun _ _ => trivial) HO.out HB.out (below_size HB.out) (by rw [HLE.out]; omega) ?_; intro v1 w1 h1 hb1 _ _; rw [← HKE.out] at h1; have H1 := Aside0.mk h1; have HB1 := Aside0.mk hb1; clear h1 hb1)
              go_roundg (now.length - (i + 1))
              case measure => have := hz.out; omega
              case rel => exact ⟨i + 1, by go_num, by omega, by omega, ⟨rfl⟩, H1, HB1⟩
            · have hb2 : ¬ (q : Int) < (now.length : Int) - (i : Int) := by omega
              go_wp2_with fail
              obtain ⟨A', c', rfl, _, hC'⟩ := Kd.R_reads HO.out
              go_ret
              have e : (now.drop q).take i = readL now (q : Int) n := by rw [HE.out, List.take_of_length_le (by rw [List.length_drop]; omega), List.take_of_length_le (by rw [List.length_drop]; omega)]
              rw [e] at hC' ⊢
              first | exact ⟨_, _, rfl, hC', HB.out⟩ | exact ⟨_, ⟨_, rfl⟩, hC', HB.out⟩
          · have hin : i = n.toNat := by omega
            go_wp2_with fail
            all_goals
              obtain ⟨A', c', rfl, _, hC'⟩ := Kd.R_reads HO.out
              go_ret
              have e : (now.drop q).take i = readL now (q : Int) n := by rw [HE.out, hin]
              rw [e] at hC' ⊢
              first | exact ⟨_, _, rfl, hC', HB.out⟩ | exact ⟨_, ⟨_, rfl⟩, hC', HB.out⟩
end Go.Proofs.Ytpnbjpkdbiiogaa
/- The reference's file: Crash. -/
namespace Go.Proofs.Ytpnbjpkdbiiogaa
set_option linter.unusedVariables false
open Go.RowKit Go.Proofs.YtpnbjpkdbiiogaaW.PrintWords
attribute [local go_sem] mx2 mn2 mxTwo mnTwo

set_option maxHeartbeats 4000000 in
set_option maxRecDepth 100000 in
theorem rcrash_any (b g : Nat) (vn vs vo : Value) (now safe : List Int) (ops : List FOp) (A : Option Addr) (n c : Nat) (kl : List Bool) (f : Nat) (w : World) (h : RF w b g vn vs vo now safe ops) (hk : Kd.bool.C w A n kl) (hf : f ≤ 1099511627776) (hsafe : safe.length ≤ 1048576) (hop : ∀ o ∈ ops, o.n ≤ 1048576 ∧ o.d.length ≤ 1048576) (hol : ops.length ≤ 2000000) :
    Calls Try.prog 90 #[.pointer (some ⟨g, 0, none⟩), .slice A n c, .int .i64 (f : Int)] w fun e w' => ∃ g2 va vb, e = .returned (.pointer (some ⟨g2, 0, none⟩)) ∧ RF w' w.heap.size g2 va vb (.slice none 0 0) (crashF safe ops (kl.drop f) ops.length) (crashF safe ops (kl.drop f) ops.length) [] ∧ Below w.heap.size w w' := by
  obtain rfl : kl.length = n := hk.1
  have hkm := Kd.C_max hk
  obtain ⟨A1, c1, rfl, hc1, hC1⟩ := Kd.R_reads h.hs
  obtain ⟨A2, c2, rfl, hc2, hC2⟩ := Kd.R_reads h.ho
  have hbA := blk_alloc h.hb (.cells #[] 5)
  have hc1' := (blk_cell hbA 1).trans (rfl : _ = some (Value.slice A1 safe.length c1))
  have hc2' := (blk_cell h.hb 2).trans (rfl : _ = some (Value.slice A2 ops.length c2))
  have HC2' := Aside0.mk hc2'
  have HK := Aside0.mk hk
  have HC1 := Aside0.mk hC1
  have HC2 := Aside0.mk hC2
  have HOP := Aside0.mk hop
  have HLEN := Aside0.mk (crashF_len safe ops (kl.drop f) hsafe (fun o ho => (hop o ho).1))
  clear h hk hC1 hC2 hop hbA hc2'
  go_enter Try.func90, Try.ntmps90
  go_wp2_with (at_builtin; refine Kd.R_append_rows (Kd.int .u8) (Rr := (Kd.int .u8).K w) (w0 := w) w.heap.size rfl (.tmp 9) (.tmp 13) 22 5 (.int .u8 0) 1 rfl Try.underlying22 infoU8 rfl (by decide) (by omega) _ [] safe A1 safe.length c1 (fun _ => True) (fun _ => False) rfl rfl (R_empty _ _ _ _ _ trivial) (Kd.C_alloc HC1.out _) (fun _ _ h => h) (fun _ h => h.elim) (fun _ _ => trivial) (below_alloc (Below.refl _ _) _) (by simp) (by simp; omega) ?_; intro v1 w1 h1 hb1 _ _; rw [List.nil_append] at h1; obtain ⟨A3, c3, rfl, hc3, _⟩ := Kd.R_reads h1; have H1 := Aside0.mk h1; have HB1 := Aside0.mk hb1; clear h1 hb1)
  go_loopg [7, 8] ops.length (fun q v7 v8 wr => ∃ (i N : Nat) (A5 : Option Addr) (c5 : Nat), v8 = .int .i64 (i : Int) ∧ v7 = .slice A5 N c5 ∧ N ≤ c5 ∧ i ≤ ops.length ∧ Aside0 (q = ops.length - i) ∧ Aside0 ((crashF safe ops (kl.drop f) i).length = N) ∧ Aside0 (Kd.R (Kd.int .u8) 5 wr w.heap.size (fun _ => True) (.slice A5 N c5) (crashF safe ops (kl.drop f) i)) ∧ Aside0 (Below w.heap.size w wr))
  case atStart => exact ⟨0, _, _, _, rfl, rfl, hc3, Nat.zero_le _, ⟨rfl⟩, ⟨rfl⟩, H1, HB1⟩
  case round =>
    clear H1 HB1
    obtain ⟨i, N, A5, c5, rfl, rfl, hN, hi, hq, HN, HC, HB⟩ := hrel
    have s2 := pw_cell_below HB.out HC2'.out
    have hNl : N ≤ 1048576 := by rw [← HN.out]; exact HLEN.out _
    by_cases hlt : i < ops.length
    · obtain ⟨ad, A6, c6, e1, r1, r2, r3, hl3, r4⟩ := at_Op (Kd.C_below HC2.out HB.out) i hlt
      subst e1
      obtain ⟨o, ho⟩ : ∃ o, o = ops.getD i zOp := ⟨_, rfl⟩
      rw [← ho] at r1 r2 r3 hl3 r4
      have hoo := HOP.out o (by rw [ho]; simp [List.getD_eq_getElem?_getD, hlt])
      have hgd : (kl.drop f).getD i false = kl.getD (f + i) false := by rw [List.getD_eq_getElem?_getD, List.getElem?_drop, List.getD_eq_getElem?_getD]
      have HSTEP := Aside0.mk (show crashF safe ops (kl.drop f) (i + 1) = if kl.getD (f + i) false then keepF (crashF safe ops (kl.drop f) i) o else crashF safe ops (kl.drop f) i by rw [ho, ← hgd]; rfl)
      obtain ⟨ho1, ho2⟩ := hoo
      have R4 := Aside0.mk r4
      clear ho r4 hgd
      by_cases hkl : f + i < kl.length
      · obtain ⟨ad2, e2, hkb0⟩ := at_bool HK.out (f + i) hkl
        subst e2
        have hkb := pw_cell_below HB.out hkb0
        clear hkb0
        cases hb : kl.getD (f + i) false with
        | false =>
          rw [hb] at hkb HSTEP
          go_wp2_with fail
          go_roundg (ops.length - (i + 1))
          case measure => have := hq.out; omega
          case rel => exact ⟨i + 1, _, _, _, by go_num, rfl, hN, by omega, ⟨rfl⟩, ⟨by rw [HSTEP.out]; exact HN.out⟩, ⟨by rw [HSTEP.out]; exact HC.out⟩, HB⟩
        | true =>
          rw [hb] at hkb HSTEP
          cases hs : o.sz with
          | false =>
            have HE := Aside0.mk (show crashF safe ops (kl.drop f) (i + 1) = setL (crashF safe ops (kl.drop f) i) o.n o.d by rw [HSTEP.out, if_pos rfl]; unfold keepF; rw [hs]; rfl)
            rw [hs] at r1
            go_wp2_with fail
            go_region_held3 (fun w' => w'.cell? ⟨g, 2, none⟩ = some (.slice (some ad) ops.length c2) ∧ w'.cell? ⟨(ad.add (i * 3)).block, (ad.add (i * 3)).off + 1, none⟩ = some (.int .i64 o.n) ∧ w'.cell? ⟨(ad.add (i * 3)).block, (ad.add (i * 3)).off + 2, none⟩ = some (.slice A6 o.d.length c6)) (first | with_reducible exact ⟨s2, r2, r3⟩ | exact ⟨s2, r2, r3⟩) (first
              | (go_at_call 26; refine (rset_any A5 N c5 (crashF safe ops (kl.drop f) i) o.n A6 o.d.length c6 o.d _ (C_own (Kd.R_drew HC.out)) (by omega) (Kd.C_drew R4.out)).mono ?_; rintro e w3 ⟨A7, c7, rfl, hc7, hv, hb3⟩; replace s2 := pw_cell_below hb3 s2; replace r2 := pw_cell_below hb3 r2; replace r3 := pw_cell_below hb3 r3; have HV := Aside0.mk (Kd.R_lower hv (below_size (below_drew1 HB.out))); have HB3 := Aside0.mk (below_step (below_drew1 HB.out) hb3); clear hv hb3))
            all_goals
              go_wp2_with fail
              go_roundg (ops.length - (i + 1))
              case measure => have := hq.out; omega
              case rel => exact ⟨i + 1, N, _, _, by go_num, rfl, hc7, by omega, ⟨rfl⟩, ⟨by rw [HE.out, setL_length]; exact HN.out⟩, ⟨by rw [HE.out]; exact HV.out⟩, HB3⟩
          | true =>
            have HE := Aside0.mk (show crashF safe ops (kl.drop f) (i + 1) = sizeL (crashF safe ops (kl.drop f) i) o.n by rw [HSTEP.out, if_pos rfl]; unfold keepF; rw [hs]; rfl)
            rw [hs] at r1
            go_wp2_with (go_at_call 22; refine (rsize_any A5 N c5 (crashF safe ops (kl.drop f) i) o.n _ (C_own HC.out) (by omega) (by omega)).mono ?_; rintro e w3 ⟨A7, c7, rfl, hc7, hv, hb3⟩; have HV := Aside0.mk (Kd.R_lower hv (below_size HB.out)); have HB3 := Aside0.mk (below_step HB.out hb3); clear hv hb3)
            go_roundg (ops.length - (i + 1))
            case measure => have := hq.out; omega
            case rel => exact ⟨i + 1, o.n.toNat, _, _, by go_num, rfl, by first | exact hc7 | omega, by omega, ⟨rfl⟩, ⟨by rw [HE.out, sizeL_length]⟩, ⟨by rw [HE.out]; exact HV.out⟩, HB3⟩
      · have hb : kl.getD (f + i) false = false := by simp [List.getD_eq_getElem?_getD, List.getElem?_eq_none (Nat.le_of_not_lt hkl)]
        rw [hb] at HSTEP
        go_wp2_with fail
        go_roundg (ops.length - (i + 1))
        case measure => have := hq.out; omega
        case rel => exact ⟨i + 1, _, _, _, by go_num, rfl, hN, by omega, ⟨rfl⟩, ⟨by rw [HSTEP.out]; exact HN.out⟩, ⟨by rw [HSTEP.out]; exact HC.out⟩, HB⟩
    · obtain rfl : i = ops.length := by omega
      have hlen : N = (crashF safe ops (kl.drop f) ops.length).length := HN.out.symm
      have HLN := Aside0.mk hlen
      clear hlen
      go_wp2_with (at_builtin; refine Kd.R_append_rows (Kd.int .u8) (Rr := (Kd.int .u8).K wr) (w0 := wr) wr.heap.size rfl (.tmp 76) (.tmp 77) 22 5 (.int .u8 0) 1 rfl Try.underlying22 infoU8 rfl (by decide) (by omega) _ [] (crashF safe ops (kl.drop f) ops.length) A5 N c5 (fun _ => True) (fun _ => False) rfl rfl (R_empty _ _ _ _ _ trivial) (Kd.C_alloc (C_own HC.out) _) (fun _ _ h => h) (fun _ h => h.elim) (fun _ _ => trivial) (below_alloc (Below.refl _ _) _) (by simp) (by simp; omega) ?_; intro v3 w3 h3 hb3 _ _; rw [List.nil_append] at h3; obtain ⟨A8, c8, rfl, hc8, _⟩ := Kd.R_reads h3; have H3 := Aside0.mk h3; have HB3 := Aside0.mk hb3; clear h3 hb3)
      go_ret
      have hn9 := Kd.R_below HC.out HB3.out
      have hb9 := below_step HB.out HB3.out
      have hs9 : Kd.R (Kd.int .u8) 5 w3 w.heap.size (fun k => some k ≠ (Value.slice A5 N c5).ownBlock) (.slice A8 (crashF safe ops (kl.drop f) ops.length).length c8) (crashF safe ops (kl.drop f) ops.length) := freshU H3.out (below_size HB.out) (fun k hk e => by have := R_lt HC.out k e.symm; omega)
      exact ⟨_, _, _, rfl, ⟨blk_new _ _, Kd.R_alloc hn9 _, Kd.R_alloc hs9 _, Kd.R_nil _ _ _ _ _, below_size hb9⟩, below_alloc hb9 _⟩
end Go.Proofs.Ytpnbjpkdbiiogaa
/- The reference's file: what holds in Write. -/
namespace Go.Proofs.Ytpnbjpkdbiiogaa
set_option linter.unusedVariables false
open Go.RowKit Go.Proofs.YtpnbjpkdbiiogaaW.PrintWords

/-- All but a block and two rows stay. -/
def Keep3 (w w' : World) (g : Nat) (r1 r2 : Option Nat) : Prop := w.heap.size ≤ w'.heap.size ∧ ∀ i, i < w.heap.size → i ≠ g → some i ≠ r1 → some i ≠ r2 → w'.heap[i]? = w.heap[i]?
theorem Keep3.refl (w : World) (g : Nat) (r1 r2 : Option Nat) : Keep3 w w g r1 r2 := ⟨Nat.le_refl _, fun _ _ _ _ _ => rfl⟩
theorem Keep3.step {w W W' : World} {g : Nat} {r1 r2 q1 q2 : Option Nat} (h : Keep3 w W g r1 r2) (hs : W.heap.size ≤ W'.heap.size) (hm : ∀ i, i < W.heap.size → i ≠ g → some i ≠ q1 → some i ≠ q2 → W'.heap[i]? = W.heap[i]?) (h1 : q1 = r1 ∨ q1 = none ∨ ∃ k, q1 = some k ∧ w.heap.size ≤ k) (h2 : q2 = r2 ∨ q2 = none ∨ ∃ k, q2 = some k ∧ w.heap.size ≤ k) : Keep3 w W' g r1 r2 := by
  refine ⟨Nat.le_trans h.1 hs, fun i hi hg e1 e2 => (hm i (Nat.lt_of_lt_of_le hi h.1) hg ?_ ?_).trans (h.2 i hi hg e1 e2)⟩
  · rcases h1 with rfl | rfl | ⟨k, rfl, hk⟩
    · exact e1
    · simp
    · intro e; injection e with e; omega
  · rcases h2 with rfl | rfl | ⟨k, rfl, hk⟩
    · exact e2
    · simp
    · intro e; injection e with e; omega
theorem RF.store {W : World} {b g gN n c : Nat} {vs vo : Value} {now safe : List Int} {ops : List FOp} (h : RF W b g (.slice (some ⟨gN, 0, none⟩) n c) vs vo now safe ops) (j : Nat) (x : Int) : RF (W.setCell ⟨gN, j, none⟩ (.int .u8 x)) b g (.slice (some ⟨gN, 0, none⟩) n c) vs vo (now.set j x) safe ops := by
  have hne : g ≠ gN := fun e => by
    have := Kd.R_ne h.hn h.hb (by omega)
    exact this (by rw [e]; rfl)
  have hk : ∀ k, some k ≠ (Value.slice (some ⟨gN, 0, none⟩) n c).ownBlock → k ≠ gN := fun k hk e => hk (by rw [e]; rfl)
  exact ⟨blk_far h.hb (p := ⟨gN, j, none⟩) hne _, R_putN h.hn j x, Kd.R_far h.hs (p := ⟨gN, j, none⟩) hk _, Kd.R_far h.ho (p := ⟨gN, j, none⟩) hk _, h.hg⟩
structure RW (w : World) (b g : Nat) (v0 u0 : Value) (gN n c : Nat) (W : World) (vs vo : Value) (now safe : List Int) (ops : List FOp) : Prop where
  f : RF W b g (.slice (some ⟨gN, 0, none⟩) n c) vs vo now safe ops
  k : Keep3 w W g v0.ownBlock u0.ownBlock
  v : some gN = v0.ownBlock ∨ w.heap.size ≤ gN
  u : vo.ownBlock = u0.ownBlock ∨ ∃ k, vo.ownBlock = some k ∧ w.heap.size ≤ k
  l : Below b w W
section
variable {w W W1 : World} {b g gN n c : Nat} {v0 u0 vs vo v1 : Value} {now safe : List Int} {ops : List FOp} {o : FOp}
theorem RW.below (h : RW w b g v0 u0 gN n c W vs vo now safe ops) (hb : Below W.heap.size W W1) : RW w b g v0 u0 gN n c W1 vs vo now safe ops :=
  ⟨h.f.below hb, h.k.step (q1 := none) (q2 := none) hb.size (fun i hi _ _ _ => hb.block i hi) (.inr (.inl rfl)) (.inr (.inl rfl)), h.v, h.u, h.l.trans (hb.mono (Nat.le_trans h.f.hg (Nat.le_of_lt (blk_lt h.f.hb))))⟩
theorem RW.store (h : RW w b g v0 u0 gN n c W vs vo now safe ops) (j : Nat) (x : Int) : RW w b g v0 u0 gN n c (W.setCell ⟨gN, j, none⟩ (.int .u8 x)) vs vo (now.set j x) safe ops := by
  refine ⟨h.f.store j x, h.k.step (q1 := some gN) (q2 := none) (by simp) (fun i hi _ h1 _ => Below.heap_setCell W ⟨gN, j, none⟩ _ i (fun e => h1 (by rw [e]))) ?_ (.inr (.inl rfl)), h.v, h.u, h.l.setCell (p := ⟨gN, j, none⟩) (Kd.R_base h.f.hn gN rfl) _⟩
  rcases h.v with e | e
  · exact .inl e
  · exact .inr (.inr ⟨gN, rfl, e⟩)
theorem RW.addOp (h : RW w b g v0 u0 gN n c W vs vo now safe ops) (ho : Kd.R kOp 178 W1 b (fun k => some k ≠ (Value.slice (some ⟨gN, 0, none⟩) n c).ownBlock) v1 (ops ++ [o])) (hg : W.grownBy W1 vo.ownBlock) (hl : Below b W W1) (hat : v1.ownBlock = vo.ownBlock ∨ ∃ k, v1.ownBlock = some k ∧ W.heap.size ≤ k) : RW w b g v0 u0 gN n c (W1.setCell ⟨g, 2, none⟩ v1) vs v1 now safe (ops ++ [o]) := by
  refine ⟨h.f.addOp ho hg, h.k.step (q1 := none) (q2 := vo.ownBlock) (by simp; exact hg.size) (fun i hi hne _ h2 => (Below.heap_setCell W1 ⟨g, 2, none⟩ v1 i hne).trans (hg.block i hi h2)) (.inr (.inl rfl)) ?_, h.v, ?_, (h.l.trans hl).setCell (p := ⟨g, 2, none⟩) h.f.hg _⟩
  · rcases h.u with e | e
    · exact .inl e
    · exact .inr (.inr e)
  · rcases hat with e | ⟨k, e, hk⟩
    · rw [e]; exact h.u
    · exact .inr ⟨k, e, Nat.le_trans h.k.1 hk⟩
end
end Go.Proofs.Ytpnbjpkdbiiogaa
