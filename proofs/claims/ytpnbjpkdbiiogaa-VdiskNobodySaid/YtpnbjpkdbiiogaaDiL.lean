/- The code's directory: Crash. -/
import Derived.Test.YtpnbjpkdbiiogaaDiK
import Derived.Outline
namespace Go.Proofs.Ytpnbjpkdbiiogaa
set_option linter.unusedVariables false
open Go.RowKit Go.Maps Go.Sort Go.Proofs.YtpnbjpkdbiiogaaW.PrintWords
attribute [local go_sem] mx2 mn2 mxTwo mnTwo

theorem dcrash_nil (A : Option Addr) (n c : Nat) (w : World) : Calls Try.prog 48 #[.pointer none, .slice A n c] w fun e w' => e = .returned (.pointer none) ∧ w = w' := by
  go_enter Try.func48, Try.ntmps48
  go_wp2
  go_ret
  exact ⟨rfl, rfl⟩
theorem invS : ∀ key kl, keyOf Try.prog 9 key = some kl → ∃ x : ByteArray, key = Value.string x := by
  intro key kl h
  obtain ⟨x, hx, _, _⟩ := Maps.keyOf_str Try.underlying9 h
  exact ⟨⟨x.toArray⟩, hx⟩
/-- What holds while the safe names are laid into the new directory. -/
structure CD (w : World) (g2 m2 r ms N : Nat) (vs vo : Value) (safe : List DN) (wr : World) (left : Lit → Bool) (cnt : Nat) (fo : Lit → Option Value) : Prop where
  rg : MR wr Try.prog 9 ms r N (mapF safe) left cnt
  mv : MV wr Try.prog 9 m2 (N - cnt) fo
  c : cnt ≤ N
  fo : ∀ q, fo q = if left q = true then none else mapF safe q
  hb : wr.heap[g2]? = some (.cells #[.map (some m2), vs, vo] 88 (0, 0))
  l : Below w.heap.size w wr
  hg : w.heap.size ≤ g2
  hm : w.heap.size ≤ m2
  hr : w.heap.size ≤ r
  hs : ms < w.heap.size
  rm : r ≠ m2
  gr : g2 ≠ r
theorem CD.step {w wr w1 w2 : World} {g2 m2 r ms N cnt cnt1 : Nat} {vs vo : Value} {safe : List DN} {left : Lit → Bool} {fo : Lit → Option Value} {kl : Lit} {v : Value} (h : CD w g2 m2 r ms N vs vo safe wr left cnt fo) (hk : WideAt.IsKeyLit kl) (hf : mapF safe kl = some v) (hr1 : MR w1 Try.prog 9 ms r N (mapF safe) (fun z => left z && !z.sameKey kl) cnt1) (hlt : cnt1 < cnt) (hg1 : wr.grownBy w1 (some r)) (hm2 : MV w2 Try.prog 9 m2 (N - cnt + 1) (upd fo kl (some v))) (ht : w1.mapTurned w2 m2) :
    CD w g2 m2 r ms N vs vo safe w2 (fun z => left z && !z.sameKey kl) cnt1 (upd fo kl (some v)) := by
  have hc := h.c
  have hs := h.hs
  have hm := h.hm
  refine ⟨hr1.kept ht.grown (fun e => by injection e; omega) (fun e => h.rm (by injection e)), hm2.mono (by omega), by omega, fun q => ?_, ?_, ?_, h.hg, h.hm, h.hr, h.hs, h.rm, h.gr⟩
  · by_cases e : q = kl
    · subst e
      rw [upd_same, WideAt.sameKey_self hk, hf]
      simp
    · rw [upd_other _ _ e, h.fo q]
      have : q.sameKey kl = false := sameKey_ne e
      rw [this]
      simp
  · have hb1 := blk_grown h.hb hg1 (fun e => h.gr (by injection e))
    exact blk_grown hb1 ht.grown (fun e => by
      have := h.mv.ne h.hb
      injection e with e
      exact this e.symm)
  · have h1 : Below w.heap.size w w1 := h.l.grown hg1 h.l.size (fun j hj => by cases hj; exact h.hr)
    exact h1.grown ht.grown h1.size (fun j hj => by cases hj; exact h.hm)
set_option maxHeartbeats 1000000 in
set_option maxRecDepth 100000 in
theorem dcrash_any (b g mn ms N : Nat) (vo : Value) (now safe : List DN) (ops : List DOp) (A : Option Addr) (n c : Nat) (kl : List Bool) (w : World) (h : DI w b g mn ms vo N now safe ops) (hk : Kd.bool.C w A n kl) (hN : N ≤ 100000) (hlo : ops.length ≤ 100000) (hop : ∀ o ∈ ops, o.a.size ≤ maxLen ∧ o.b.size ≤ maxLen) :
    Calls Try.prog 48 #[.pointer (some ⟨g, 0, none⟩), .slice A n c] w fun e w' => ∃ g2 m2 m3, e = .returned (.pointer (some ⟨g2, 0, none⟩)) ∧ w.heap.size ≤ g2 ∧ w.heap.size ≤ m2 ∧ w.heap.size ≤ m3 ∧ DI w' b g2 m2 m3 (.slice none 0 0) (N + ops.length) (crashD safe ops kl ops.length) (crashD safe ops kl ops.length) [] ∧ Below w.heap.size w w' := by
  obtain rfl : kl.length = n := hk.1
  have hkm := Kd.C_max hk
  have hbw : b ≤ w.heap.size := Nat.le_trans h.hg (Nat.le_of_lt (blk_lt h.hb))
  obtain ⟨A2, c2, rfl, _, hC2⟩ := Kd.R_reads h.ho
  have hc1 := (blk_cell h.hb 1).trans (rfl : _ = some (Value.map (some ms)))
  have hc2 := (blk_cell h.hb 2).trans (rfl : _ = some (Value.slice A2 ops.length c2))
  have HS1 := Aside0.mk hc1
  have HS2 := Aside0.mk hc2
  have HMS := Aside0.mk h.hs
  have HK := Aside0.mk hk
  have HC2 := Aside0.mk hC2
  have HOP := Aside0.mk hop
  have hmsl := h.hs.lt
  clear h hk hC2 hc1 hc2 hop
  go_enter Try.func48, Try.ntmps48
  go_wp2_with (first
    | (go_at_call 43; refine (dnew_any b w hbw).mono ?_; rintro e w1 ⟨g2, m2, m3, rfl, hg2, hm2, hm3, hd, hb⟩; have s1 := pw_cell_below hb HS1.out; have HM := Aside0.mk (HMS.out.below hb); have HD := Aside0.mk hd; have HB := Aside0.mk hb; clear hd hb)
    | (at_range; refine mv_range rfl _ 85 rfl 9 3 lawS Try.underlying85 ms N (mapF safe) rfl HM.out ?_; intro w2 cnt hcnt hrg hg0 hs0))
  go_frame
  have hd2 := HD.out.below (W1 := w2) ⟨hg0.os, hg0.tape, hg0.output, hg0.size, fun i hi => hg0.block i hi (by simp)⟩
  have hrw : w.heap.size ≤ w1.heap.size := HB.out.size
  obtain ⟨r, hr⟩ : ∃ r, r = w1.heap.size := ⟨_, rfl⟩
  rw [← hr] at hrg hrw hs0 ⊢
  have HCD := Aside0.mk (CD.mk (w := w) (g2 := g2) (m2 := m2) (r := r) (ms := ms) (N := N) (vs := .map (some m3)) (vo := .slice none 0 0) (safe := safe) hrg (hd2.hn.mono (Nat.zero_le _)) hcnt (fun q => by rw [mapF_nil]; cases mapF safe q <;> simp) hd2.hb (HB.out.trans (Below.mono (B := w1.heap.size) ⟨hg0.os, hg0.tape, hg0.output, hg0.size, fun i hi => hg0.block i hi (by simp)⟩ (by omega))) hg2 hm2 hrw hmsl (fun e => by have := HD.out.hn.lt; omega) (fun e => by have := blk_lt HD.out.hb; omega))
  clear hd2 hrg hg0 hs0 HD HM hcnt HB s1 hr hrw
  go_loopg [6] cnt (fun q v6 wr => ∃ (left : Lit → Bool) (cnt : Nat) (fo : Lit → Option Value), Aside0 (q = cnt) ∧ Aside0 (CD w g2 m2 r ms N (.map (some m3)) (.slice none 0 0) safe wr left cnt fo))
  case atStart => exact ⟨_, cnt, _, ⟨rfl⟩, HCD⟩
  case round =>
    clear HCD
    obtain ⟨left, cnt, fo, hq, HC⟩ := hrel
    go_wp2_with (at_next; refine mv_next rfl _ rfl 9 lawS Value.string invS ms r N (mapF safe) left cnt rfl HC.out.rg ?_ ?_)
    · intro hl0
      have hmv0 : MV wr Try.prog 9 m2 N (mapF safe) := (HC.out.mv.mono (Nat.sub_le _ _)).congr (fun q => by rw [HC.out.fo q, hl0 q]; simp)
      have hcell2 := pw_cell_below HC.out.l HS2.out
      have HM0 := Aside0.mk hmv0
      have HB0 := Aside0.mk HC.out.hb
      have HL0 := Aside0.mk HC.out.l
      have hg2w := HC.out.hg
      have hm2w := HC.out.hm
      clear hmv0 hl0 HC
      go_wp2_with fail
      obtain ⟨wo, rfl⟩ : ∃ wo : World, wo = wr := ⟨_, rfl⟩
      go_loopg [34] ops.length (fun q2 v34 wr2 => ∃ i : Nat, v34 = .int .i64 (i : Int) ∧ i ≤ ops.length ∧ Aside0 (q2 = ops.length - i) ∧ Aside0 (MV wr2 Try.prog 9 m2 (N + i) (mapF (crashD safe ops kl i))) ∧ Aside0 (wr2.heap[g2]? = some (.cells #[.map (some m2), .map (some m3), .slice none 0 0] 88 (0, 0))) ∧ Aside0 (Below w.heap.size w wr2))
      case atStart => exact ⟨0, rfl, Nat.zero_le _, ⟨rfl⟩, HM0, HB0, HL0⟩
      case round =>
        clear HM0 HB0 HL0 hcell2
        obtain ⟨i, rfl, hi, hq2, HM0, HB0, HL0⟩ := hrel
        by_cases hlt : i < ops.length
        · obtain ⟨ad, e1, r1, r2, r3, r4⟩ := at_Dop (Kd.C_below HC2.out HL0.out) i hlt
          subst e1
          obtain ⟨o, ho⟩ : ∃ o, o = ops.getD i zDop := ⟨_, rfl⟩
          have hoo := HOP.out o (by rw [ho]; simp [List.getD_eq_getElem?_getD, hlt])
          have HSTEP := Aside0.mk (show crashD safe ops kl (i + 1) = if kl.getD i false = true then didL (crashD safe ops kl i) ⟨o.kd, o.a, o.b, o.id⟩ else crashD safe ops kl i by rw [ho]; rfl)
          rw [← ho] at r1 r2 r3 r4
          have HOO := Aside0.mk hoo
          clear ho hoo
          by_cases hkl : i < kl.length
          · obtain ⟨ad2, e2, hkb0⟩ := at_bool HK.out i hkl
            subst e2
            have hkb := cell_al (.cells #[.int .i64 o.kd, .string o.a, .string o.b, .int .i64 o.id] 149) (pw_cell_below HL0.out hkb0)
            clear hkb0
            cases hb : kl.getD i false with
            | false =>
              rw [hb] at hkb HSTEP
              clear hb
              go_wp2_with fail
              go_roundg (ops.length - (i + 1))
              case measure => have := hq2.out; omega
              case rel => exact ⟨i + 1, by go_num, by omega, ⟨rfl⟩, ⟨by rw [HSTEP.out]; exact (HM0.out.below (below_alloc (Below.refl _ _) _)).mono (by omega)⟩, ⟨blk_alloc HB0.out _⟩, ⟨below_alloc HL0.out _⟩⟩
            | true =>
              rw [hb] at hkb HSTEP
              clear hb
              rw [if_pos rfl] at HSTEP
              go_wp2_with fail
              obtain ⟨W1, hW1⟩ : ∃ W1, W1 = wr.alloc (.cells #[.int .i64 o.kd, .string o.a, .string o.b, .int .i64 o.id] 149) := ⟨_, rfl⟩
              have hnb : W1.heap[wr.heap.size]? = some (.cells #[.int .i64 o.kd, .string o.a, .string o.b, .int .i64 o.id] 149 (0, 0)) := by rw [hW1]; exact blk_new _ _
              have hb1 : Below wr.heap.size wr W1 := by rw [hW1]; exact below_alloc (Below.refl _ _) _
              rw [← hW1]
              obtain ⟨p3, hp3⟩ : ∃ p3, p3 = wr.heap.size := ⟨_, rfl⟩
              rw [← hp3] at hnb ⊢
              have t0 := (blk_cell hnb 0).trans (rfl : _ = some (Value.int .i64 o.kd))
              have t1 := (blk_cell hnb 1).trans (rfl : _ = some (Value.string o.a))
              have t2 := (blk_cell hnb 2).trans (rfl : _ = some (Value.string o.b))
              have t3 := (blk_cell hnb 3).trans (rfl : _ = some (Value.int .i64 o.id))
              have hgb := blk_below HB0.out hb1
              have s0 := (blk_cell hgb 0).trans (rfl : _ = some (Value.map (some m2)))
              have HMW := Aside0.mk (HM0.out.below hb1)
              have hmp : p3 ≠ m2 := fun e => HMW.out.ne hnb e.symm
              have hgm : g2 ≠ m2 := fun e => HMW.out.ne hgb e.symm
              have HB1 := Aside0.mk (below_step HL0.out hb1)
              have HGB := Aside0.mk hgb
              have HNB := Aside0.mk hnb
              clear hnb hb1 hp3 hW1 hgb hkb r1 r2 r3 r4
              go_region_held3 (fun w' => w'.cell? ⟨g2, 0, none⟩ = some (.map (some m2)) ∧ w'.cell? ⟨p3, 0, none⟩ = some (.int .i64 o.kd) ∧ w'.cell? ⟨p3, 1, none⟩ = some (.string o.a) ∧ w'.cell? ⟨p3, 2, none⟩ = some (.string o.b) ∧ w'.cell? ⟨p3, 3, none⟩ = some (.int .i64 o.id)) (first | with_reducible exact ⟨s0, t0, t1, t2, t3⟩ | exact ⟨s0, t0, t1, t2, t3⟩) (first
                | (go_at_call 98; refine (ddo_any m2 (N + i) (crashD safe ops kl i) o.kd o.a o.b o.id _ (MV.drew HMW.out) (by omega) HOO.out.1 HOO.out.2).mono ?_; rintro e w5 ⟨rfl, hm5, ht5⟩; have hg5 := (ht5.k.2 g2 (blk_lt (blk_drew HGB.out)) hgm (by simp)).trans (blk_drew HGB.out); have hn5 := (ht5.k.2 p3 (blk_lt (blk_drew HNB.out)) hmp (by simp)).trans (blk_drew HNB.out); replace s0 := (blk_cell hg5 0).trans (rfl : _ = some (Value.map (some m2))); replace t0 := (blk_cell hn5 0).trans (rfl : _ = some (Value.int .i64 o.kd)); replace t1 := (blk_cell hn5 1).trans (rfl : _ = some (Value.string o.a)); replace t2 := (blk_cell hn5 2).trans (rfl : _ = some (Value.string o.b)); replace t3 := (blk_cell hn5 3).trans (rfl : _ = some (Value.int .i64 o.id)); have HM5 := Aside0.mk hm5; have HG5 := Aside0.mk hg5; have HL5 := Aside0.mk (((HB1.out).trans (below_drew1 (Below.refl _ _))).trans (ht5.l w.heap.size hm2w HB1.out.size)); clear hm5 ht5 hg5 hn5))
              all_goals
                first | go_end0 | skip
                go_wp2_with fail
                go_roundg (ops.length - (i + 1))
                case measure => have := hq2.out; omega
                case rel => exact ⟨i + 1, by go_num, by omega, ⟨rfl⟩, ⟨by rw [HSTEP.out]; exact HM5.out.mono (by omega)⟩, HG5, HL5⟩
          · have hb : kl.getD i false = false := by simp [List.getD_eq_getElem?_getD, List.getElem?_eq_none (Nat.le_of_not_lt hkl)]
            rw [hb] at HSTEP
            clear hb
            go_wp2_with fail
            go_roundg (ops.length - (i + 1))
            case measure => have := hq2.out; omega
            case rel => exact ⟨i + 1, by go_num, by omega, ⟨rfl⟩, ⟨by rw [HSTEP.out]; exact (HM0.out.below (below_alloc (Below.refl _ _) _)).mono (by omega)⟩, ⟨blk_alloc HB0.out _⟩, ⟨below_alloc HL0.out _⟩⟩
        · obtain rfl : i = ops.length := by omega
          have s0 := (blk_cell HB0.out 0).trans (rfl : _ = some (Value.map (some m2)))
          go_wp2_with (go_at_call 97; refine (mclone_any m2 (N + ops.length) (mapF (crashD safe ops kl ops.length)) _ HM0.out).mono ?_; rintro e w7 ⟨rfl, hv, hb1⟩; have hbk := blk_below HB0.out hb1; have k1 := (blk_cell hbk 1).trans (rfl : _ = some (Value.map (some m3))); have f1 := blk_frozen hbk 1; have HV := Aside0.mk hv; have HB := Aside0.mk hb1; have HKK := Aside0.mk hbk; clear hv hb1 hbk)
          go_ret
          have hm0 := HM0.out.below HB.out
          have hlt7 := HM0.out.lt
          refine ⟨_, _, _, rfl, hg2w, hm2w, ?_, ⟨blk_put HKK.out 1 _ rfl, hm0.setCell (hm0.ne HKK.out) _, HV.out.setCell (HV.out.ne HKK.out) _, Kd.R_nil _ _ _ _ _, Nat.le_trans hbw hg2w, Nat.le_trans hbw hm2w, ?_, by omega⟩, (below_step HL0.out HB.out).setCell (p := ⟨g2, 1, none⟩) hg2w _⟩
          · exact HL0.out.size
          · exact Nat.le_trans hbw HL0.out.size
    · intro x v kq w3 cnt3 hkq hlk hfv hrg3 hlt3 hg3 hs3 hen
      have hb3 := blk_grown HC.out.hb hg3 (fun e => HC.out.gr (by injection e))
      have t0 := (blk_cell hb3 0).trans (rfl : _ = some (Value.map (some m2)))
      have HMV := Aside0.mk (HC.out.mv.move (hg3.block m2 HC.out.mv.lt (fun e => HC.out.rm (by injection e with e; exact e.symm))))
      have hcN := HC.out.c
      have HKQ := Aside0.mk hkq
      have HFV := Aside0.mk hfv
      have HR3 := Aside0.mk hrg3
      have HG3 := Aside0.mk hg3
      clear hkq hfv hrg3 hg3 hb3 hlk
      go_wp2_with (at_mapUpdate; refine mv_store rfl _ _ _ 85 rfl 9 3 lawS Try.underlying85 m2 (N - cnt) fo rfl HMV.out (by unfold maxLen; omega) _ _ kq rfl rfl HKQ.out ?_; intro w4 hm4 ht4; have HC4 := Aside0.mk (HC.out.step (key_lit HKQ.out) HFV.out HR3.out hlt3 HG3.out hm4 ht4); clear hm4 ht4)
      go_roundg cnt3
      case measure => have := hq.out; omega
      case rel => exact ⟨_, cnt3, _, ⟨rfl⟩, HC4⟩
end Go.Proofs.Ytpnbjpkdbiiogaa
