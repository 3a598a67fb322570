/- Files: the walk of Write. -/
import Derived.Test.YtpnbjpkdbiiogaaFiD
namespace Go.Proofs.Ytpnbjpkdbiiogaa
set_option linter.unusedVariables false
open Go.RowKit Go.Proofs.YtpnbjpkdbiiogaaW.PrintWords
attribute [local go_sem] mx2 mn2 mxTwo mnTwo

set_option maxHeartbeats 4000000 in
set_option maxRecDepth 100000 in
theorem fwrite_any (b g : Nat) (x : Nat → Prop) (vn vs vo : Value) (now safe : List Int) (ops : List FOp) (k : Nat) (A : Option Addr) (n c : Nat) (l : List Int) (w : World) (h : FI w b g x vn vs vo now safe ops) (hx : ∀ k, w.heap.size ≤ k → x k)
    (hl : l.length = n) (hc : n ≤ c) (hst : ∀ W', KeepBut w W' g vo.ownBlock → Below b w W' → Kd.C (Kd.int .u8) W' A n l) (hk : k ≤ 1048576) (hn : n + k ≤ 1048576) (hnow : now.length ≤ 1048576) (hops : ops.length ≤ 500000) :
    Calls Try.prog 41 #[.pointer (some ⟨g, 0, none⟩), .int .i64 (k : Int), .slice A n c] w fun e w' => e = .returned (.int .i64 0) ∧ ∃ vn' vo', FI w' b g x vn' vs vo' (writeF (now, ops) k l).1 safe (writeF (now, ops) k l).2 ∧ (vo'.ownBlock = vo.ownBlock ∨ ∃ k, vo'.ownBlock = some k ∧ w.heap.size ≤ k) ∧ KeepBut w w' g vo.ownBlock ∧ Below b w w' := by
  subst hl
  have hbw : b ≤ w.heap.size := Nat.le_trans h.hg (Nat.le_of_lt (blk_lt h.hb))
  obtain ⟨A1, c1, hvn⟩ := Kd.R_slice h.hn
  have hc0 := (blk_cell h.hb 0).trans (rfl : _ = some vn)
  rw [hvn] at hc0
  have HST := Aside0.mk hst
  have HX := Aside0.mk hx
  have H := Aside0.mk h
  clear h hst hvn hx
  by_cases hgrow : 0 < l.length ∧ now.length < k + l.length
  · obtain ⟨hg1, hg2⟩ := hgrow
    go_enter Try.func41, Try.ntmps41
    go_wp2_with (first
      | (go_at_call 93; refine (fresize_any b g x vn vs vo now safe ops (k + l.length) _ H.out HX.out (by omega) (by omega) (by omega)).mono ?_; rintro e w1 ⟨rfl, ⟨vn1, vo1, hf1, hv1⟩, hk1, hb1⟩; have HF1 := Aside0.mk hf1; have HV1 := Aside0.mk hv1; have HK1 := Aside0.mk hk1; have HB1 := Aside0.mk hb1; clear hf1 hv1 hk1 hb1)
      | (go_at_call 16; refine (pieces_any k A c l _ (HST.out _ HK1.out HB1.out) hc (by omega) (by omega)).mono ?_; rintro e w2 ⟨vP, rfl, hp, hb2⟩; obtain ⟨AP, cP, rfl⟩ := Kd.R_slice hp; have HW := Aside0.mk (FW.start HF1.out HK1.out HV1.out HB1.out hb2 hp); clear hp hb2))
    have hgw : growF (now, ops) k l.length = (sizeL now ((k + l.length : Nat) : Int), ops ++ [⟨true, ((k + l.length : Nat) : Int), []⟩]) := by unfold growF; rw [if_pos ⟨hg1, hg2⟩]
    have HGW := Aside0.mk hgw
    clear hgw HF1 HV1 HK1 HB1
    have hn1 : (sizeL now ((k + l.length : Nat) : Int)).length ≤ 1048576 := by rw [sizeL_length]; omega
    have hn2 : (ops ++ [⟨true, ((k + l.length : Nat) : Int), []⟩] : List FOp).length ≤ 500001 := by rw [List.length_append, List.length_singleton]; omega
    obtain ⟨now1, hE1⟩ : ∃ now1, now1 = sizeL now ((k + l.length : Nat) : Int) := ⟨_, rfl⟩
    obtain ⟨ops1, hE2⟩ : ∃ ops1, ops1 = (ops ++ [⟨true, ((k + l.length : Nat) : Int), []⟩] : List FOp) := ⟨_, rfl⟩
    rw [← hE1] at HGW HW hn1
    rw [← hE2] at HGW HW hn2
    clear hE1 hE2
    have hpl := pieces_len l.length l k (Nat.le_refl _)
    obtain ⟨P, hPE⟩ : ∃ P, P = pieces k l := ⟨_, rfl⟩
    have HPE := Aside0.mk hPE
    rw [← hPE] at HW hpl ⊢
    clear hPE
    go_loopg [8, 9, 52] P.length (fun q v8 v9 v52 wr => ∃ (i : Nat) (vn' vo' : Value) (now' : List Int) (ops' : List FOp), v52 = .int .i64 (i : Int) ∧ i ≤ P.length ∧ Aside0 (q = P.length - i) ∧ now'.length ≤ 1048576 ∧ ops'.length ≤ 500001 + i ∧ Aside0 ((P.take i).foldl putF (now1, ops1) = (now', ops')) ∧ Aside0 (FW w b g x vo (.slice AP P.length cP) P wr vn' vs vo' now' safe ops'))
    case atStart => exact ⟨0, _, _, _, _, rfl, Nat.zero_le _, ⟨rfl⟩, hn1, hn2, ⟨rfl⟩, HW⟩
    case round =>
      clear HW hn1 hn2
      obtain ⟨i, vn', vo', now', ops', rfl, hi, hq, hln, hlo, HF, HW⟩ := hrel
      by_cases hlt : i < P.length
      · obtain ⟨ad, A3, c3, e1, r1, r2, r3, r4⟩ := at_Pc (Kd.R_reads' HW.out.p).2.2 i hlt
        have HPT := Aside0.mk (puts_takeF P (now1, ops1) i hlt)
        obtain ⟨p, hp⟩ : ∃ p, p = P.getD i zPc := ⟨_, rfl⟩
        rw [← hp] at r1 r2 r3 r4 HPT
        subst e1
        have R4 := Aside0.mk r4
        clear hp r4
        go_wp2_with fail
        obtain ⟨W1, hW1⟩ : ∃ W1, W1 = wr.alloc (.cells #[.int .i64 p.s, .int .i64 p.f, .slice A3 p.d.length c3] 30) := ⟨_, rfl⟩
        have hnb : W1.heap[wr.heap.size]? = some (.cells #[.int .i64 p.s, .int .i64 p.f, .slice A3 p.d.length c3] 30 (0, 0)) := by rw [hW1]; exact blk_new _ _
        have hb1 : Below wr.heap.size wr W1 := by rw [hW1]; exact below_alloc (Below.refl _ _) _
        rw [← hW1]
        obtain ⟨p8, hp8⟩ : ∃ p8, p8 = wr.heap.size := ⟨_, rfl⟩
        have hp8b : wr.heap.size ≤ p8 := by omega
        have hgp : g ≠ p8 := by have := blk_lt HW.out.f.hb; omega
        rw [← hp8] at hnb ⊢
        have HW1 := Aside0.mk (HW.out.below hb1)
        have HR4 := Aside0.mk (Kd.C_below R4.out hb1)
        obtain ⟨A7, c7, hvn7⟩ := Kd.R_slice HW.out.f.hn
        have HN7 := Aside0.mk hvn7
        have s0 := (blk_cell HW1.out.f.hb 0).trans (rfl : _ = some vn')
        rw [hvn7] at s0
        have t0 := (blk_cell hnb 0).trans (rfl : _ = some (Value.int .i64 p.s))
        have t1 := (blk_cell hnb 1).trans (rfl : _ = some (Value.int .i64 p.f))
        have t2 := (blk_cell hnb 2).trans (rfl : _ = some (Value.slice A3 p.d.length c3))
        have HNB := Aside0.mk hnb
        clear HW R4 r1 r2 r3 hW1 hb1 hp8 hvn7 hnb
        go_region_held3 (fun w' => w'.cell? ⟨g, 0, none⟩ = some (.slice A7 now'.length c7) ∧ w'.cell? ⟨p8, 0, none⟩ = some (.int .i64 p.s) ∧ w'.cell? ⟨p8, 1, none⟩ = some (.int .i64 p.f) ∧ w'.cell? ⟨p8, 2, none⟩ = some (.slice A3 p.d.length c3)) (first | with_reducible exact ⟨s0, t0, t1, t2⟩ | exact ⟨s0, t0, t1, t2⟩) (first
          | (go_at_call 23; have hfn := (HN7.out ▸ HW1.out.f.hn : Kd.R (Kd.int .u8) 5 W1 b x (.slice A7 now'.length c7) now'); refine (at_any A7 now'.length c7 now' p.s _ (Kd.C_drew (C_own hfn)) (Kd.R_reads' hfn).2.1 (by omega)).mono ?_; rintro e w3 ⟨A8, c8, rfl, hc8, hv, hb⟩; replace s0 := pw_cell_below hb s0; replace t0 := pw_cell_below hb t0; replace t1 := pw_cell_below hb t1; replace t2 := pw_cell_below hb t2; have HAT := Aside0.mk (C_own hv); have hw3 := (HW1.out.below (below_drew1 (Below.refl _ _))).below hb; have hr4 := Kd.C_below (Kd.C_drew HR4.out) hb; have hnb := blk_below (blk_drew HNB.out) hb; clear HW1 HR4 HNB; have HW1 := Aside0.mk hw3; have HR4 := Aside0.mk hr4; have HNB := Aside0.mk hnb; clear hv hb hw3 hr4 hnb hfn)
          | (go_at_call 27; refine (lay_any A8 64 c8 (atL now' p.s) p.s p.f A3 p.d.length c3 p.d _ HAT.out HR4.out).mono ?_; rintro e w4 ⟨A9, c9, rfl, hc9, hv, hb⟩; replace s0 := pw_cell_below hb s0; replace t0 := pw_cell_below hb t0; replace t1 := pw_cell_below hb t1; replace t2 := pw_cell_below hb t2; have hw4 := HW1.out.below hb; have hnb := blk_below HNB.out hb; have hd := freshU hv (Nat.le_trans HW1.out.f.hg (Nat.le_of_lt (blk_lt HW1.out.f.hb))) (x := x) (fun k hk => HX.out k (Nat.le_trans (Nat.le_trans HW1.out.k.1 (Nat.le_refl _)) hk)); clear HW1 HR4 HNB HAT; have HW1 := Aside0.mk hw4; have HNB := Aside0.mk hnb; have HD := Aside0.mk hd; clear hv hb hw4 hnb hd))
        go_wp2_with fail
        have fz := blk_frozen HW1.out.f.hb 0
        go_region_law ((go_simp; go_at_call 25; have hfn := (HN7.out ▸ HW1.out.f.hn : Kd.R (Kd.int .u8) 5 w4 b x (.slice A7 now'.length c7) now'); refine (set_any A7 now'.length c7 now' p.s A9 64 c9 (layL (atL now' p.s) p.f p.d) _ (Kd.C_drew (C_own hfn)) (by omega) (Kd.C_drew (C_own HD.out)) hc9 (by omega)).mono ?_; rintro e w5 ⟨A10, c10, rfl, hc10, hv, hb⟩; replace s0 := pw_cell_below hb s0; replace t0 := pw_cell_below hb t0; have hw5 := (HW1.out.below (below_drew1 (Below.refl _ _))).below hb; have fz5 := blk_frozen hw5.f.hb 0; have hd := Kd.R_below (Kd.R_drew HD.out) hb; have hs := freshU hv (Nat.le_trans HW1.out.f.hg (Nat.le_of_lt (blk_lt HW1.out.f.hb))) (x := x) (fun k hk => HX.out k (Nat.le_trans HW1.out.k.1 hk)); have hnb := blk_below (blk_drew HNB.out) hb; clear HW1 HNB HD; have HW1 := Aside0.mk hw5; have HNB := Aside0.mk hnb; have HD := Aside0.mk hd; have HS := Aside0.mk hs; clear hv hb hw5 hnb hd hs hfn))
        all_goals
          obtain ⟨W6, hW6⟩ : ∃ W6, W6 = w5.setCell ⟨g, 0, none⟩ (.slice A10 now'.length c10) := ⟨_, rfl⟩
          have hw6 := HW1.out.setNow HS.out
          have hd6 := farU (i := 0) HD.out HW1.out.f.hb (.slice A10 now'.length c10)
          have hn6 := blk_far HNB.out (p := ⟨g, 0, none⟩) (Ne.symm hgp) (.slice A10 now'.length c10)
          rw [← hW6] at hw6 hd6 hn6
          have hsz6 : wr.heap.size ≤ W6.heap.size := by have := blk_lt hn6; omega
          rw [← hW6]
          clear HW1 HS HD HNB hW6 s0 t0 fz5
          obtain ⟨A11, c11, hvo⟩ := Kd.R_slice hw6.f.ho
          have s2 := (blk_cell hw6.f.hb 2).trans (rfl : _ = some vo')
          rw [hvo] at s2
          have z2 := blk_frozen hw6.f.hb 2
          have s2a := cell_al (.cells #[.bool false, .int .i64 p.s, .slice A9 64 c9] 141) s2
          have t0 := (blk_cell hn6 0).trans (rfl : _ = some (Value.int .i64 p.s))
          have hda := Kd.R_apartR hd6 hw6.f.ho (u8E _ (by omega))
          have hoA : Kd.R kOp 141 W6 b x (.slice A11 ops'.length c11) ops' := hvo ▸ hw6.f.ho
          have hdA : Kd.R (Kd.int .u8) 5 W6 b (fun k => x k ∧ some k ≠ (Value.slice A11 ops'.length c11).ownBlock) (.slice A9 64 c9) (layL (atL now' p.s) p.f p.d) := hvo ▸ hda
          have hgr0 := Kd.R_ne hoA hw6.f.hb (by omega)
          have hfr : ∀ k, W6.heap.size ≤ k → x k := fun k hk => HX.out k (Nat.le_trans hw6.k.1 hk)
          have hbs : b ≤ W6.heap.size := Nat.le_trans hw6.f.hg (Nat.le_of_lt (blk_lt hw6.f.hb))
          have HW6 := Aside0.mk hw6
          have HDA := Aside0.mk hdA
          have HOA := Aside0.mk hoA
          have HVO := Aside0.mk hvo
          have HFR := Aside0.mk hfr
          have HG0 := Aside0.mk hgr0
          clear hw6 hd6 hn6 hvo hda hdA hoA hfr hgr0
          go_wp2_with fail
          go_region_law ((refine Kd.R_append_step kOp (W := W6.drew) (w0 := W6.drew) b (by rfl) (.tmp 80) (.tmp 85) 135 141 (.agg #[(.bool false), (.int .i64 0), (.slice none 0 0)]) 40 rfl Try.underlying135 infoOp rfl (by decide) (by omega) (.slice A11 ops'.length c11) ops' ⟨false, p.s, layL (atL now' p.s) p.f p.d⟩ [.bool false, .int .i64 p.s, .slice A9 64 c9] x (fun k => x k ∧ some k ≠ (Value.slice A11 ops'.length c11).ownBlock) (by rfl) (by rfl) (kOp_mkM _ _ _ ⟨false, p.s, layL (atL now' p.s) p.f p.d⟩ (Kd.R_drew HDA.out)) (fun k hk => hk) (fun k hk => HFR.out k hk) (Kd.R_drew HOA.out) (Below.refl _ _) hbs (by omega) ?_); intro v7 w7 ho7 hl7 hg7 hat7; obtain ⟨g7, c7', e7, _, _, _⟩ := Kd.R_form ho7 (by simp); rw [List.length_append, List.length_singleton] at e7; subst e7; have hb7 := blk_grown (blk_drew HW6.out.f.hb) hg7 HG0.out; have s7 := (blk_cell hb7 2).trans (rfl : _ = some vo'); rw [HVO.out] at s7; have z7 := blk_frozen hb7 2; have HO7 := Aside0.mk ho7; have HL7 := Aside0.mk hl7; have HG7 := Aside0.mk hg7; have HAT7 := Aside0.mk hat7; clear ho7 hl7 hg7 hat7 hb7)
          all_goals
            go_wp2_with fail
            go_roundg (P.length - (i + 1))
            case measure => have := hq.out; omega
            case rel =>
              have hg7 := HG7.out
              have hat7 := HAT7.out
              rw [← HVO.out] at hg7 hat7
              have hfin := (HW6.out.below (below_drew1 (Below.refl _ _))).addOp HO7.out hg7 HL7.out hat7
              exact ⟨i + 1, _, _, _, _, by go_num, by omega, ⟨rfl⟩, by rw [setL_length]; omega, by rw [List.length_append, List.length_singleton]; omega, ⟨by rw [HPT.out, HF.out]; rfl⟩, ⟨hfin⟩⟩
      · go_wp2_with fail
        go_ret
        have e : writeF (now, ops) k l = (now', ops') := by unfold writeF; rw [HGW.out, ← HPE.out, ← HF.out, List.take_of_length_le (by omega)]
        rw [e]
        exact ⟨rfl, _, _, HW.out.f, HW.out.v, HW.out.k, HW.out.l⟩
  · have HGW := Aside0.mk (show growF (now, ops) k l.length = (now, ops) by unfold growF; rw [if_neg hgrow])
    by_cases h0 : 0 < l.length
    · have hng : now.length < k + l.length → False := fun h => hgrow ⟨h0, h⟩
      have hng2 : k + l.length ≤ now.length := by omega
      clear hng hgrow
      go_enter Try.func41, Try.ntmps41
      go_wp2_with (go_at_call 16; refine (pieces_any k A c l _ (HST.out _ (KeepBut.refl _ _ _) (Below.refl _ _)) hc (by omega) (by omega)).mono ?_; rintro e w2 ⟨vP, rfl, hp, hb2⟩; obtain ⟨AP, cP, rfl⟩ := Kd.R_slice hp; have HW := Aside0.mk (FW.start (v0 := vo) H.out (KeepBut.refl _ _ _) (.inl rfl) (Below.refl _ _) hb2 hp); clear hp hb2)
      have hn1 := hnow
      have hn2 : ops.length ≤ 500001 := by omega
      have hpl := pieces_len l.length l k (Nat.le_refl _)
      obtain ⟨P, hPE⟩ : ∃ P, P = pieces k l := ⟨_, rfl⟩
      have HPE := Aside0.mk hPE
      rw [← hPE] at HW hpl ⊢
      clear hPE
      go_loopg [8, 9, 52] P.length (fun q v8 v9 v52 wr => ∃ (i : Nat) (vn' vo' : Value) (now' : List Int) (ops' : List FOp), v52 = .int .i64 (i : Int) ∧ i ≤ P.length ∧ Aside0 (q = P.length - i) ∧ now'.length ≤ 1048576 ∧ ops'.length ≤ 500001 + i ∧ Aside0 ((P.take i).foldl putF (now, ops) = (now', ops')) ∧ Aside0 (FW w b g x vo (.slice AP P.length cP) P wr vn' vs vo' now' safe ops'))
      case atStart => exact ⟨0, _, _, _, _, rfl, Nat.zero_le _, ⟨rfl⟩, hn1, hn2, ⟨rfl⟩, HW⟩
      case round =>
        clear HW hn1 hn2
        obtain ⟨i, vn', vo', now', ops', rfl, hi, hq, hln, hlo, HF, HW⟩ := hrel
        by_cases hlt : i < P.length
        · obtain ⟨ad, A3, c3, e1, r1, r2, r3, r4⟩ := at_Pc (Kd.R_reads' HW.out.p).2.2 i hlt
          have HPT := Aside0.mk (puts_takeF P (now, ops) i hlt)
          obtain ⟨p, hp⟩ : ∃ p, p = P.getD i zPc := ⟨_, rfl⟩
          rw [← hp] at r1 r2 r3 r4 HPT
          subst e1
          have R4 := Aside0.mk r4
          clear hp r4
          go_wp2_with fail
          obtain ⟨W1, hW1⟩ : ∃ W1, W1 = wr.alloc (.cells #[.int .i64 p.s, .int .i64 p.f, .slice A3 p.d.length c3] 30) := ⟨_, rfl⟩
          have hnb : W1.heap[wr.heap.size]? = some (.cells #[.int .i64 p.s, .int .i64 p.f, .slice A3 p.d.length c3] 30 (0, 0)) := by rw [hW1]; exact blk_new _ _
          have hb1 : Below wr.heap.size wr W1 := by rw [hW1]; exact below_alloc (Below.refl _ _) _
          rw [← hW1]
          obtain ⟨p8, hp8⟩ : ∃ p8, p8 = wr.heap.size := ⟨_, rfl⟩
          have hp8b : wr.heap.size ≤ p8 := by omega
          have hgp : g ≠ p8 := by have := blk_lt HW.out.f.hb; omega
          rw [← hp8] at hnb ⊢
          have HW1 := Aside0.mk (HW.out.below hb1)
          have HR4 := Aside0.mk (Kd.C_below R4.out hb1)
          obtain ⟨A7, c7, hvn7⟩ := Kd.R_slice HW.out.f.hn
          have HN7 := Aside0.mk hvn7
          have s0 := (blk_cell HW1.out.f.hb 0).trans (rfl : _ = some vn')
          rw [hvn7] at s0
          have t0 := (blk_cell hnb 0).trans (rfl : _ = some (Value.int .i64 p.s))
          have t1 := (blk_cell hnb 1).trans (rfl : _ = some (Value.int .i64 p.f))
          have t2 := (blk_cell hnb 2).trans (rfl : _ = some (Value.slice A3 p.d.length c3))
          have HNB := Aside0.mk hnb
          clear HW R4 r1 r2 r3 hW1 hb1 hp8 hvn7 hnb
          go_region_held3 (fun w' => w'.cell? ⟨g, 0, none⟩ = some (.slice A7 now'.length c7) ∧ w'.cell? ⟨p8, 0, none⟩ = some (.int .i64 p.s) ∧ w'.cell? ⟨p8, 1, none⟩ = some (.int .i64 p.f) ∧ w'.cell? ⟨p8, 2, none⟩ = some (.slice A3 p.d.length c3)) (first | with_reducible exact ⟨s0, t0, t1, t2⟩ | exact ⟨s0, t0, t1, t2⟩) (first
            | (go_at_call 23; have hfn := (HN7.out ▸ HW1.out.f.hn : Kd.R (Kd.int .u8) 5 W1 b x (.slice A7 now'.length c7) now'); refine (at_any A7 now'.length c7 now' p.s _ (Kd.C_drew (C_own hfn)) (Kd.R_reads' hfn).2.1 (by omega)).mono ?_; rintro e w3 ⟨A8, c8, rfl, hc8, hv, hb⟩; replace s0 := pw_cell_below hb s0; replace t0 := pw_cell_below hb t0; replace t1 := pw_cell_below hb t1; replace t2 := pw_cell_below hb t2; have HAT := Aside0.mk (C_own hv); have hw3 := (HW1.out.below (below_drew1 (Below.refl _ _))).below hb; have hr4 := Kd.C_below (Kd.C_drew HR4.out) hb; have hnb := blk_below (blk_drew HNB.out) hb; clear HW1 HR4 HNB; have HW1 := Aside0.mk hw3; have HR4 := Aside0.mk hr4; have HNB := Aside0.mk hnb; clear hv hb hw3 hr4 hnb hfn)
            | (go_at_call 27; refine (lay_any A8 64 c8 (atL now' p.s) p.s p.f A3 p.d.length c3 p.d _ HAT.out HR4.out).mono ?_; rintro e w4 ⟨A9, c9, rfl, hc9, hv, hb⟩; replace s0 := pw_cell_below hb s0; replace t0 := pw_cell_below hb t0; replace t1 := pw_cell_below hb t1; replace t2 := pw_cell_below hb t2; have hw4 := HW1.out.below hb; have hnb := blk_below HNB.out hb; have hd := freshU hv (Nat.le_trans HW1.out.f.hg (Nat.le_of_lt (blk_lt HW1.out.f.hb))) (x := x) (fun k hk => HX.out k (Nat.le_trans (Nat.le_trans HW1.out.k.1 (Nat.le_refl _)) hk)); clear HW1 HR4 HNB HAT; have HW1 := Aside0.mk hw4; have HNB := Aside0.mk hnb; have HD := Aside0.mk hd; clear hv hb hw4 hnb hd))
          go_wp2_with fail
          have fz := blk_frozen HW1.out.f.hb 0
          go_region_law ((go_simp; go_at_call 25; have hfn := (HN7.out ▸ HW1.out.f.hn : Kd.R (Kd.int .u8) 5 w4 b x (.slice A7 now'.length c7) now'); refine (set_any A7 now'.length c7 now' p.s A9 64 c9 (layL (atL now' p.s) p.f p.d) _ (Kd.C_drew (C_own hfn)) (by omega) (Kd.C_drew (C_own HD.out)) hc9 (by omega)).mono ?_; rintro e w5 ⟨A10, c10, rfl, hc10, hv, hb⟩; replace s0 := pw_cell_below hb s0; replace t0 := pw_cell_below hb t0; have hw5 := (HW1.out.below (below_drew1 (Below.refl _ _))).below hb; have fz5 := blk_frozen hw5.f.hb 0; have hd := Kd.R_below (Kd.R_drew HD.out) hb; have hs := freshU hv (Nat.le_trans HW1.out.f.hg (Nat.le_of_lt (blk_lt HW1.out.f.hb))) (x := x) (fun k hk => HX.out k (Nat.le_trans HW1.out.k.1 hk)); have hnb := blk_below (blk_drew HNB.out) hb; clear HW1 HNB HD; have HW1 := Aside0.mk hw5; have HNB := Aside0.mk hnb; have HD := Aside0.mk hd; have HS := Aside0.mk hs; clear hv hb hw5 hnb hd hs hfn))
          all_goals
            obtain ⟨W6, hW6⟩ : ∃ W6, W6 = w5.setCell ⟨g, 0, none⟩ (.slice A10 now'.length c10) := ⟨_, rfl⟩
            have hw6 := HW1.out.setNow HS.out
            have hd6 := farU (i := 0) HD.out HW1.out.f.hb (.slice A10 now'.length c10)
            have hn6 := blk_far HNB.out (p := ⟨g, 0, none⟩) (Ne.symm hgp) (.slice A10 now'.length c10)
            rw [← hW6] at hw6 hd6 hn6
            have hsz6 : wr.heap.size ≤ W6.heap.size := by have := blk_lt hn6; omega
            rw [← hW6]
            clear HW1 HS HD HNB hW6 s0 t0 fz5
            obtain ⟨A11, c11, hvo⟩ := Kd.R_slice hw6.f.ho
            have s2 := (blk_cell hw6.f.hb 2).trans (rfl : _ = some vo')
            rw [hvo] at s2
            have z2 := blk_frozen hw6.f.hb 2
            have s2a := cell_al (.cells #[.bool false, .int .i64 p.s, .slice A9 64 c9] 141) s2
            have t0 := (blk_cell hn6 0).trans (rfl : _ = some (Value.int .i64 p.s))
            have hda := Kd.R_apartR hd6 hw6.f.ho (u8E _ (by omega))
            have hoA : Kd.R kOp 141 W6 b x (.slice A11 ops'.length c11) ops' := hvo ▸ hw6.f.ho
            have hdA : Kd.R (Kd.int .u8) 5 W6 b (fun k => x k ∧ some k ≠ (Value.slice A11 ops'.length c11).ownBlock) (.slice A9 64 c9) (layL (atL now' p.s) p.f p.d) := hvo ▸ hda
            have hgr0 := Kd.R_ne hoA hw6.f.hb (by omega)
            have hfr : ∀ k, W6.heap.size ≤ k → x k := fun k hk => HX.out k (Nat.le_trans hw6.k.1 hk)
            have hbs : b ≤ W6.heap.size := Nat.le_trans hw6.f.hg (Nat.le_of_lt (blk_lt hw6.f.hb))
            have HW6 := Aside0.mk hw6
            have HDA := Aside0.mk hdA
            have HOA := Aside0.mk hoA
            have HVO := Aside0.mk hvo
            have HFR := Aside0.mk hfr
            have HG0 := Aside0.mk hgr0
            clear hw6 hd6 hn6 hvo hda hdA hoA hfr hgr0
            go_wp2_with fail
            go_region_law ((refine Kd.R_append_step kOp (W := W6.drew) (w0 := W6.drew) b (by rfl) (.tmp 80) (.tmp 85) 135 141 (.agg #[(.bool false), (.int .i64 0), (.slice none 0 0)]) 40 rfl Try.underlying135 infoOp rfl (by decide) (by omega) (.slice A11 ops'.length c11) ops' ⟨false, p.s, layL (atL now' p.s) p.f p.d⟩ [.bool false, .int .i64 p.s, .slice A9 64 c9] x (fun k => x k ∧ some k ≠ (Value.slice A11 ops'.length c11).ownBlock) (by rfl) (by rfl) (kOp_mkM _ _ _ ⟨false, p.s, layL (atL now' p.s) p.f p.d⟩ (Kd.R_drew HDA.out)) (fun k hk => hk) (fun k hk => HFR.out k hk) (Kd.R_drew HOA.out) (Below.refl _ _) hbs (by omega) ?_); intro v7 w7 ho7 hl7 hg7 hat7; obtain ⟨g7, c7', e7, _, _, _⟩ := Kd.R_form ho7 (by simp); rw [List.length_append, List.length_singleton] at e7; subst e7; have hb7 := blk_grown (blk_drew HW6.out.f.hb) hg7 HG0.out; have s7 := (blk_cell hb7 2).trans (rfl : _ = some vo'); rw [HVO.out] at s7; have z7 := blk_frozen hb7 2; have HO7 := Aside0.mk ho7; have HL7 := Aside0.mk hl7; have HG7 := Aside0.mk hg7; have HAT7 := Aside0.mk hat7; clear ho7 hl7 hg7 hat7 hb7)
            all_goals
              go_wp2_with fail
              go_roundg (P.length - (i + 1))
              case measure => have := hq.out; omega
              case rel =>
                have hg7 := HG7.out
                have hat7 := HAT7.out
                rw [← HVO.out] at hg7 hat7
                have hfin := (HW6.out.below (below_drew1 (Below.refl _ _))).addOp HO7.out hg7 HL7.out hat7
                exact ⟨i + 1, _, _, _, _, by go_num, by omega, ⟨rfl⟩, by rw [setL_length]; omega, by rw [List.length_append, List.length_singleton]; omega, ⟨by rw [HPT.out, HF.out]; rfl⟩, ⟨hfin⟩⟩
        · go_wp2_with fail
          go_ret
          have e : writeF (now, ops) k l = (now', ops') := by unfold writeF; rw [HGW.out, ← HPE.out, ← HF.out, List.take_of_length_le (by omega)]
          rw [e]
          exact ⟨rfl, _, _, HW.out.f, HW.out.v, HW.out.k, HW.out.l⟩
    · obtain rfl := List.eq_nil_of_length_eq_zero (show l.length = 0 by omega)
      have HPN := Aside0.mk (pieces_nil k)
      have HWN := Aside0.mk (show writeF (now, ops) k [] = (now, ops) by unfold writeF; rw [pieces_nil]; exact HGW.out)
      clear hgrow h0
      go_enter Try.func41, Try.ntmps41
      go_wp2_with (go_at_call 16; refine (pieces_any k A c [] _ (HST.out _ (KeepBut.refl _ _ _) (Below.refl _ _)) hc (by simp) (by omega)).mono ?_; rintro e w2 ⟨vP, rfl, hp, hb2⟩; rw [HPN.out] at hp; obtain ⟨AP, cP, rfl⟩ := Kd.R_slice hp; have HW := Aside0.mk (FW.start (v0 := vo) H.out (KeepBut.refl _ _ _) (.inl rfl) (Below.refl _ _) hb2 hp); clear hp hb2)
      refine wp_loop_rounds 1 ?_
      rw [rounds_succ]
      go_wp2_with fail
      go_ret
      rw [HWN.out]
      exact ⟨rfl, _, _, HW.out.f, HW.out.v, HW.out.k, HW.out.l⟩
end Go.Proofs.Ytpnbjpkdbiiogaa
