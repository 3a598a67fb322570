/- The reference's Set, Lay and Written. -/
import Derived.Test.YtpnbjpkdbiiogaaSecH
namespace Go.Proofs.Ytpnbjpkdbiiogaa
set_option linter.unusedVariables false
open Go.RowKit Go.Proofs.YtpnbjpkdbiiogaaW.PrintWords
attribute [local go_sem] mx2 mn2 mxTwo mnTwo


set_option maxHeartbeats 2000000 in
set_option maxRecDepth 100000 in
theorem rset_any (A : Option Addr) (n c : Nat) (l : List Int) (k : Int) (As : Option Addr) (ns cs : Nat) (ls : List Int) (w : World) (hr : Kd.C (Kd.int .u8) w A n l) (hn : n ≤ 1099511627776) (hrs : Kd.C (Kd.int .u8) w As ns ls) :
    Calls Try.prog 26 #[.slice A n c, .int .i64 k, .slice As ns cs] w fun e w' => ∃ A' c', e = .returned (.slice A' n c') ∧ n ≤ c' ∧ Kd.R (Kd.int .u8) 5 w' w.heap.size (fun _ => True) (.slice A' n c') (setL l k ls) ∧ Below w.heap.size w w' := by
  obtain rfl : l.length = n := hr.1
  obtain rfl : ls.length = ns := hrs.1
  have HR := Aside0.mk hr
  have HS := Aside0.mk hrs
  clear hr hrs
  obtain ⟨i0, hi, _, hz1, _⟩ := info_parts infoU8
  by_cases hk : 0 ≤ k ∧ k < cnt l.length
  · obtain ⟨hk, hk2⟩ := hk
    obtain ⟨q, rfl⟩ := Int.eq_ofNat_of_zero_le hk
    have hroom := cnt_room hk hk2
    have ht : setL l (q : Int) ls = overlay l (q * 64) (ls.take 64) := by unfold setL; rw [if_pos ⟨hk, hk2⟩, show ((q : Int) * 64).toNat = q * 64 by omega]
    have HT := Aside0.mk ht
    clear ht
    go_enter Try.func26, Try.ntmps26
    go_wp2_with (first
      | (at_builtin; refine Kd.R_append_rows (Kd.int .u8) (Rr := (Kd.int .u8).K w) (w0 := w) w.heap.size rfl (.tmp 9) (.tmp 10) 22 5 (.int .u8 0) 1 rfl Try.underlying22 infoU8 rfl (by decide) (by omega) _ [] l A l.length c (fun _ => True) (fun _ => False) rfl rfl (R_empty _ _ _ _ _ trivial) (Kd.C_alloc HR.out _) (fun _ _ h => h) (fun _ h => h.elim) (fun _ _ => trivial) (below_alloc (Below.refl _ _) _) (by simp) (by simp; omega) ?_; intro v1 w1 h1 hb1 _ _; rw [List.nil_append] at h1; obtain ⟨A1, c1, rfl, hc1, _⟩ := Kd.R_reads h1; have H1 := Aside0.mk h1; have HB1 := Aside0.mk hb1; clear h1 hb1)
      | fail)
    obtain ⟨g1, c2, hE, hgb1, _, _⟩ := Kd.R_form H1.out (by omega)
    cases hE
    go_loopg [8] 64 (fun g v8 wr => ∃ i : Nat, v8 = .int .i64 (i : Int) ∧ i ≤ 64 ∧ i ≤ ls.length ∧ Aside0 (g = 64 - i) ∧ Aside0 (Kd.R (Kd.int .u8) 5 wr w.heap.size (fun _ => True) (.slice (some ⟨g1, 0, none⟩) l.length c1) (overlay l (q * 64) (ls.take i))) ∧ Aside0 (Below w.heap.size w wr))
    case atStart => exact ⟨0, rfl, Nat.zero_le _, Nat.zero_le _, ⟨rfl⟩, ⟨by rw [List.take_zero, overlay_nil]; exact H1.out⟩, HB1⟩
    case round =>
      clear HB1 H1
      obtain ⟨i, rfl, hi1, hi2, hg, HO, HB⟩ := hrel
      by_cases hlt : i < 64
      · by_cases hls : i < ls.length
        · by_cases hin : q * 64 + i < l.length
          · obtain ⟨ad, rfl, hx⟩ := at_nat HS.out i hls
            have hxw := pw_cell_below HB.out hx
            obtain ⟨hc1', hc2'⟩ := R_cellN HO.out (q * 64 + i) hin
            have hset := R_putN HO.out (q * 64 + i) (rd ls (i : Int))
            rw [← overlay_step (by omega) hls] at hset
            obtain ⟨x, hx⟩ : ∃ x, x = rd ls (i : Int) := ⟨_, rfl⟩
            rw [← hx] at hset hxw
            have HSET := Aside0.mk hset
            clear hset hx
            go_wp2_with (go_at_call 19; refine (refcount_any _ _ (by omega)).mono ?_; rintro e w1 ⟨rfl, rfl⟩)
            go_roundg (64 - (i + 1))
            case measure => have := hg.out; omega
            case rel => exact ⟨i + 1, by go_num, by omega, by omega, ⟨rfl⟩, HSET, ⟨HB.out.setCell (p := ⟨g1, q * 64 + i, none⟩) hgb1 _⟩⟩
          · go_wp2_with (go_at_call 19; refine (refcount_any _ _ (by omega)).mono ?_; rintro e w1 ⟨rfl, rfl⟩)
            go_roundg (64 - (i + 1))
            case measure => have := hg.out; omega
            case rel => exact ⟨i + 1, by go_num, by omega, by omega, ⟨rfl⟩, ⟨by rw [overlay_far (by omega) (by omega)]; have := HO.out; rwa [overlay_far (by omega) (by omega)] at this⟩, HB⟩
        · go_wp2_with fail
          go_ret
          exact ⟨_, _, rfl, hc1, by rw [HT.out, List.take_of_length_le (by omega)]; have := HO.out; rwa [List.take_of_length_le (by omega)] at this, HB.out⟩
      · go_wp2_with fail
        go_ret
        obtain rfl : i = 64 := by omega
        exact ⟨_, _, rfl, hc1, by rw [HT.out]; exact HO.out, HB.out⟩
  · have ht : setL l k ls = l := by unfold setL; rw [if_neg hk]
    have HT := Aside0.mk ht
    have hk' : k < 0 ∨ 0 ≤ k ∧ cnt l.length ≤ k := by omega
    clear hk ht
    go_enter Try.func26, Try.ntmps26
    go_wp2_with (first
      | (at_builtin; refine Kd.R_append_rows (Kd.int .u8) (Rr := (Kd.int .u8).K w) (w0 := w) w.heap.size rfl (.tmp 9) (.tmp 10) 22 5 (.int .u8 0) 1 rfl Try.underlying22 infoU8 rfl (by decide) (by omega) _ [] l A l.length c (fun _ => True) (fun _ => False) rfl rfl (R_empty _ _ _ _ _ trivial) (Kd.C_alloc HR.out _) (fun _ _ h => h) (fun _ h => h.elim) (fun _ _ => trivial) (below_alloc (Below.refl _ _) _) (by simp) (by simp; omega) ?_; intro v1 w1 h1 hb1 _ _; rw [List.nil_append] at h1; obtain ⟨A1, c1, rfl, hc1, _⟩ := Kd.R_reads h1; have H1 := Aside0.mk h1; have HB1 := Aside0.mk hb1; clear h1 hb1)
      | fail)
    go_loopg [8] 64 (fun g v8 wr => ∃ i : Nat, v8 = .int .i64 (i : Int) ∧ i ≤ 64 ∧ Aside0 (g = 64 - i) ∧ wr = w1)
    case atStart => exact ⟨0, rfl, Nat.zero_le _, ⟨rfl⟩, rfl⟩
    case round =>
      obtain ⟨i, rfl, hi1, hg, rfl⟩ := hrel
      by_cases hlt : i < 64
      · by_cases hls : i < ls.length
        · rcases hk' with hk' | ⟨hk', hk2⟩
          · go_wp2_with fail
            go_roundg (64 - (i + 1))
            case measure => have := hg.out; omega
            case rel => exact ⟨i + 1, by go_num, by omega, ⟨rfl⟩, by first | rfl | trivial⟩
          · go_wp2_with (go_at_call 19; refine (refcount_any _ _ (by omega)).mono ?_; rintro e w3 ⟨rfl, rfl⟩)
            go_roundg (64 - (i + 1))
            case measure => have := hg.out; omega
            case rel => exact ⟨i + 1, by go_num, by omega, ⟨rfl⟩, by first | rfl | trivial⟩
        · go_wp2_with fail
          go_ret
          exact ⟨_, _, rfl, hc1, by rw [HT.out]; exact H1.out, HB1.out⟩
      · go_wp2_with fail
        go_ret
        exact ⟨_, _, rfl, hc1, by rw [HT.out]; exact H1.out, HB1.out⟩

theorem atL_zero (l : List Int) : atL l 0 = sizeL l 64 := by
  unfold atL
  by_cases h : 0 < cnt l.length
  · rw [if_pos ⟨by omega, h⟩]
    simp
  · have : l.length = 0 := by
      unfold cnt at h
      split at h <;> omega
    obtain rfl := List.eq_nil_of_length_eq_zero this
    rw [if_neg (by omega)]
    simp [sizeL, overlay]

theorem cell_al {w : World} {ad : Addr} {v : Value} (o : Obj) (h : w.cell? ad = some v) : (w.alloc o).cell? ad = some v := by rw [World.cell?_alloc_some _ _ _ (by rw [h]; rfl)]; exact h

set_option maxHeartbeats 2000000 in
set_option maxRecDepth 100000 in
theorem rlay_any (A : Option Addr) (n c : Nat) (l : List Int) (s f : Int) (Ad : Option Addr) (nd cd : Nat) (d : List Int) (w : World) (hr : Kd.C (Kd.int .u8) w A n l) (hn : n ≤ 1099511627776) (hrd : Kd.C (Kd.int .u8) w Ad nd d) (hnd : nd ≤ 1099511627776) :
    Calls Try.prog 28 #[.slice A n c, .agg #[.int .i64 s, .int .i64 f, .slice Ad nd cd]] w fun e w' => ∃ A' c', e = .returned (.slice A' 64 c') ∧ 64 ≤ c' ∧ Kd.R (Kd.int .u8) 5 w' w.heap.size (fun _ => True) (.slice A' 64 c') (layL l f d) ∧ Below w.heap.size w w' := by
  obtain rfl : d.length = nd := hrd.1
  have HR := Aside0.mk hr
  have HD := Aside0.mk hrd
  clear hr hrd
  have hb1' : ((w.alloc (.cells #[.int .i64 s, .int .i64 f, .slice Ad d.length cd] 31))).cell? ⟨w.heap.size, 1, none⟩ = some (.int .i64 f) := blk_cell (blk_new w _) 1
  have hb2' : ((w.alloc (.cells #[.int .i64 s, .int .i64 f, .slice Ad d.length cd] 31))).cell? ⟨w.heap.size, 2, none⟩ = some (.slice Ad d.length cd) := blk_cell (blk_new w _) 2
  have HB1' := Aside0.mk hb1'
  have HB2' := Aside0.mk hb2'
  by_cases hf : 0 ≤ f ∧ f ≤ 64
  · obtain ⟨hf, hf2⟩ := hf
    obtain ⟨q, rfl⟩ := Int.eq_ofNat_of_zero_le hf
    have hq : q ≤ 64 := by omega
    have ht : layL l (q : Int) d = overlay (sizeL l 64) q d := by unfold layL; rw [if_pos ⟨hf, hf2⟩, Int.toNat_natCast]
    have HT := Aside0.mk ht
    clear ht
    go_enter Try.func28, Try.ntmps28
    go_wp2_with (go_at_call 24; refine (rat_any A n c l 0 _ (Kd.C_alloc HR.out _) (by omega)).mono ?_; rintro e w1 ⟨g1, c1, rfl, hc1, hgb1, hv, hbl⟩; have hx1 := pw_cell_below hbl hb1'; have hx2 := pw_cell_below hbl hb2'; rw [atL_zero] at hv; have H1 := Aside0.mk hv; have HB1 := Aside0.mk hbl; clear hv hbl)
    clear hx1 hx2 hb1' hb2'
    have hsl : (sizeL l 64).length = 64 := sizeL_length _ _
    have HSL := Aside0.mk hsl
    clear hsl
    go_loopg [6] 64 (fun g v6 wr => ∃ i : Nat, v6 = .int .i64 (i : Int) ∧ i ≤ 64 ∧ i ≤ d.length ∧ Aside0 (g = 64 - i) ∧ Aside0 (Kd.R (Kd.int .u8) 5 wr ((w.alloc (.cells #[.int .i64 s, .int .i64 (q : Int), .slice Ad d.length cd] 31))).heap.size (fun _ => True) (.slice (some ⟨g1, 0, none⟩) 64 c1) (overlay (sizeL l 64) q (d.take i))) ∧ Aside0 (Below ((w.alloc (.cells #[.int .i64 s, .int .i64 (q : Int), .slice Ad d.length cd] 31))).heap.size ((w.alloc (.cells #[.int .i64 s, .int .i64 (q : Int), .slice Ad d.length cd] 31))) wr))
    case atStart => exact ⟨0, rfl, Nat.zero_le _, Nat.zero_le _, ⟨rfl⟩, ⟨by rw [List.take_zero, overlay_nil]; exact H1.out⟩, HB1⟩
    case round =>
      clear HB1 H1
      obtain ⟨i, rfl, hi1, hi2, hg, HO, HB⟩ := hrel
      have hx1 := pw_cell_below HB.out HB1'.out
      have hx2 := pw_cell_below HB.out HB2'.out
      by_cases hlt : i < 64
      · by_cases hls : i < d.length
        · by_cases hin : q + i < 64
          · obtain ⟨ad, rfl, hx⟩ := at_nat HD.out i hls
            have hxw := pw_cell_below HB.out (cell_al _ hx)
            obtain ⟨hc1', hc2'⟩ := R_cellN HO.out (q + i) hin
            have hset := R_putN HO.out (q + i) (rd d (i : Int))
            rw [← overlay_step (by rw [HSL.out]; omega) hls] at hset
            obtain ⟨x, hx⟩ : ∃ x, x = rd d (i : Int) := ⟨_, rfl⟩
            rw [← hx] at hset hxw
            have HSET := Aside0.mk hset
            clear hset hx
            go_wp2_with fail
            go_region
            all_goals
              go_wp2_with fail
              go_roundg (64 - (i + 1))
              case measure => have := hg.out; omega
              case rel => exact ⟨i + 1, by go_num, by omega, by omega, ⟨rfl⟩, ⟨Kd.R_drew HSET.out⟩, ⟨below_drew1 (HB.out.setCell (p := ⟨g1, q + i, none⟩) hgb1 _)⟩⟩
          · go_wp2_with fail
            go_roundg (64 - (i + 1))
            case measure => have := hg.out; omega
            case rel => exact ⟨i + 1, by go_num, by omega, by omega, ⟨rfl⟩, ⟨by rw [overlay_far (by rw [HSL.out]; omega) (by rw [HSL.out]; omega)]; have := HO.out; rwa [overlay_far (by rw [HSL.out]; omega) (by rw [HSL.out]; omega)] at this⟩, HB⟩
        · go_wp2_with fail
          go_ret
          refine ⟨_, _, rfl, hc1, ?_, ?_⟩
          · rw [HT.out]
            have := HO.out
            rw [List.take_of_length_le (by omega)] at this
            exact Kd.R_lower this (by simp)
          · exact (below_alloc (Below.refl _ _) _).trans (HB.out.mono (by simp))
      · obtain rfl : i = 64 := by omega
        go_wp2_with fail
        all_goals
          go_ret
          refine ⟨_, _, rfl, hc1, ?_, ?_⟩
          · rw [HT.out]
            have := HO.out
            rw [overlay_far (by rw [HSL.out]; omega) (by rw [HSL.out]; omega)] at this
            exact Kd.R_lower this (by simp)
          · exact (below_alloc (Below.refl _ _) _).trans (HB.out.mono (by simp))
  · have ht : layL l f d = sizeL l 64 := by unfold layL; rw [if_neg hf]
    have HT := Aside0.mk ht
    have hf' : f < 0 ∨ 0 ≤ f ∧ 64 < f := by omega
    clear ht hf
    go_enter Try.func28, Try.ntmps28
    go_wp2_with (go_at_call 24; refine (rat_any A n c l 0 _ (Kd.C_alloc HR.out _) (by omega)).mono ?_; rintro e w1 ⟨g1, c1, rfl, hc1, hgb1, hv, hbl⟩; have hx1 := pw_cell_below hbl hb1'; have hx2 := pw_cell_below hbl hb2'; rw [atL_zero] at hv; have H1 := Aside0.mk hv; have HB1 := Aside0.mk hbl; clear hv hbl)
    clear hb1' hb2'
    have hd0 : d.length = 0 ∨ 0 < d.length := by omega
    rcases hd0 with hd0 | hd0
    · refine wp_loop_rounds 1 ?_
      rw [rounds_succ]
      go_wp2_with fail
      go_ret
      exact ⟨_, _, rfl, hc1, by rw [HT.out]; exact Kd.R_lower H1.out (by simp), (below_alloc (Below.refl _ _) _).trans (HB1.out.mono (by simp))⟩
    · rcases hf' with hf' | ⟨hf', hf2⟩
      · refine wp_loop_rounds 1 ?_
        rw [rounds_succ]
        go_wp2_with fail
        go_ret
        exact ⟨_, _, rfl, hc1, by rw [HT.out]; exact Kd.R_lower H1.out (by simp), (below_alloc (Below.refl _ _) _).trans (HB1.out.mono (by simp))⟩
      · refine wp_loop_rounds 1 ?_
        rw [rounds_succ]
        go_wp2_with fail
        go_ret
        exact ⟨_, _, rfl, hc1, by rw [HT.out]; exact Kd.R_lower H1.out (by simp), (below_alloc (Below.refl _ _) _).trans (HB1.out.mono (by simp))⟩

theorem sizeL_own (l : List Int) (n : Int) (h : n.toNat = l.length) : sizeL l n = l := by
  apply List.ext_getElem?
  intro i
  rw [sizeL_get, h]
  split
  · rename_i hi
    simp [List.getD_eq_getElem?_getD, hi]
  · rename_i hi
    rw [List.getElem?_eq_none (by omega)]
/-- What stands behind a write. -/
def wrL (l : List Int) (k : Nat) (x : List Int) : List Int := overlay (sizeL l (max l.length (k + x.length) : Nat)) k x

set_option maxHeartbeats 2000000 in
set_option maxRecDepth 100000 in
theorem rwritten_any (A : Option Addr) (n c : Nat) (l : List Int) (k : Nat) (As : Option Addr) (ns cs : Nat) (ls : List Int) (w : World) (hr : Kd.C (Kd.int .u8) w A n l) (hn : n ≤ 1000000) (hrs : Kd.C (Kd.int .u8) w As ns ls) (hns : ns ≤ 1000000) (hk : k ≤ 1000000) (hpos : 0 < ns) :
    Calls Try.prog 29 #[.slice A n c, .int .i64 (k : Int), .slice As ns cs] w fun e w' => ∃ A' c', e = .returned (.slice A' (max n (k + ns)) c') ∧ max n (k + ns) ≤ c' ∧ Kd.R (Kd.int .u8) 5 w' w.heap.size (fun _ => True) (.slice A' (max n (k + ns)) c') (wrL l k ls) ∧ Below w.heap.size w w' := by
  obtain rfl : l.length = n := hr.1
  obtain rfl : ls.length = ns := hrs.1
  have HR := Aside0.mk hr
  have HS := Aside0.mk hrs
  clear hr hrs
  by_cases hgt : l.length < k + ls.length
  · have hmax : max l.length (k + ls.length) = k + ls.length := by omega
    have ht : wrL l k ls = overlay (sizeL l ((k : Int) + (ls.length : Int))) k ls := by unfold wrL; rw [hmax]; simp
    have HT := Aside0.mk ht
    have hlen : (sizeL l ((k : Int) + (ls.length : Int))).length = k + ls.length := by rw [sizeL_length]; omega
    have HLEN := Aside0.mk hlen
    rw [hmax]
    have htn : ((k : Int) + (ls.length : Int)).toNat = k + ls.length := by omega
    have HTN := Aside0.mk htn
    clear ht hlen htn hmax
    go_enter Try.func29, Try.ntmps29
    go_wp2_with (first
      | (at_builtin; refine Kd.R_append_rows (Kd.int .u8) (Rr := (Kd.int .u8).K w) (w0 := w) w.heap.size rfl (.tmp 9) (.tmp 10) 22 5 (.int .u8 0) 1 rfl Try.underlying22 infoU8 rfl (by decide) (by omega) _ [] l A l.length c (fun _ => True) (fun _ => False) rfl rfl (R_empty _ _ _ _ _ trivial) (Kd.C_alloc HR.out _) (fun _ _ h => h) (fun _ h => h.elim) (fun _ _ => trivial) (below_alloc (Below.refl _ _) _) (by simp) (by simp; omega) ?_; intro v1 w1 h1 hb1 _ _; rw [List.nil_append] at h1; obtain ⟨A1, c1, rfl, hc1, _⟩ := Kd.R_reads h1; have H1 := Aside0.mk h1; have HB1 := Aside0.mk hb1; clear h1 hb1)
      | (go_at_call 22; refine (rsize_any A1 l.length c1 l ((k : Int) + (ls.length : Int)) _ (Kd.R_reads' H1.out).2.2 (by omega) (by omega)).mono ?_; rintro e w2 ⟨A2, cc, hEE, hcc, hv, hbl⟩; have hv' := Kd.R_lower hv (below_size HB1.out); have hbl' := HB1.out.trans (hbl.mono (below_size HB1.out)); rw [HTN.out] at hv' hcc hEE; have H2 := Aside0.mk hv'; have HB2 := Aside0.mk hbl'; obtain ⟨g1, c3, hE, hgb1, _, _⟩ := Kd.R_form hv' (by rw [HLEN.out]; omega); rw [HLEN.out] at hE; cases hE; subst hEE; clear hv hv' hbl hbl'))
    clear H1 HB1
    have HKL := Aside0.mk (show k ≤ (sizeL l ((k : Int) + (ls.length : Int))).length by rw [HLEN.out]; omega)
    go_loopg [8] ls.length (fun g v8 wr => ∃ i : Nat, v8 = .int .i64 (i : Int) ∧ i ≤ ls.length ∧ Aside0 (g = ls.length - i) ∧ Aside0 (Kd.R (Kd.int .u8) 5 wr w.heap.size (fun _ => True) (.slice (some ⟨g1, 0, none⟩) (k + ls.length) cc) (overlay (sizeL l ((k : Int) + (ls.length : Int))) k (ls.take i))) ∧ Aside0 (Below w.heap.size w wr))
    case atStart => exact ⟨0, rfl, Nat.zero_le _, ⟨rfl⟩, ⟨by rw [List.take_zero, overlay_nil]; exact H2.out⟩, HB2⟩
    case round =>
      clear H2 HB2
      obtain ⟨i, rfl, hi2, hg, HO, HB⟩ := hrel
      by_cases hls : i < ls.length
      · have hin : k + i < k + ls.length := by omega
        obtain ⟨ad, rfl, hx⟩ := at_nat HS.out i hls
        have hxw := pw_cell_below HB.out hx
        obtain ⟨hc1', hc2'⟩ := R_cellN HO.out (k + i) hin
        have hset := R_putN HO.out (k + i) (rd ls (i : Int))
        rw [← overlay_step HKL.out hls] at hset
        obtain ⟨x, hx⟩ : ∃ x, x = rd ls (i : Int) := ⟨_, rfl⟩
        rw [← hx] at hset hxw
        have HSET := Aside0.mk hset
        clear hset hx
        go_wp2_with fail
        go_roundg (ls.length - (i + 1))
        case measure => have := hg.out; omega
        case rel => exact ⟨i + 1, by go_num, by omega, ⟨rfl⟩, HSET, ⟨HB.out.setCell (p := ⟨g1, k + i, none⟩) hgb1 _⟩⟩
      · go_wp2_with fail
        go_ret
        exact ⟨_, _, rfl, by first | exact hcc | omega, by rw [HT.out]; have := HO.out; rwa [List.take_of_length_le (by omega)] at this, HB.out⟩
  · have hmax : max l.length (k + ls.length) = l.length := by omega
    have ht : wrL l k ls = overlay l k ls := by unfold wrL; rw [hmax, sizeL_own _ _ (by simp)]
    have HT := Aside0.mk ht
    have HKL := Aside0.mk (show k ≤ l.length by omega)
    rw [hmax]
    clear ht hmax
    go_enter Try.func29, Try.ntmps29
    go_wp2_with (first
      | (at_builtin; refine Kd.R_append_rows (Kd.int .u8) (Rr := (Kd.int .u8).K w) (w0 := w) w.heap.size rfl (.tmp 9) (.tmp 10) 22 5 (.int .u8 0) 1 rfl Try.underlying22 infoU8 rfl (by decide) (by omega) _ [] l A l.length c (fun _ => True) (fun _ => False) rfl rfl (R_empty _ _ _ _ _ trivial) (Kd.C_alloc HR.out _) (fun _ _ h => h) (fun _ h => h.elim) (fun _ _ => trivial) (below_alloc (Below.refl _ _) _) (by simp) (by simp; omega) ?_; intro v1 w1 h1 hb1 _ _; rw [List.nil_append] at h1; obtain ⟨A1, c1, rfl, hc1, _⟩ := Kd.R_reads h1; have H1 := Aside0.mk h1; have HB1 := Aside0.mk hb1; clear h1 hb1)
      | fail)
    obtain ⟨g1, cc, hE, hgb1, _, _⟩ := Kd.R_form H1.out (by omega)
    cases hE
    have hcc := hc1
    go_loopg [8] ls.length (fun g v8 wr => ∃ i : Nat, v8 = .int .i64 (i : Int) ∧ i ≤ ls.length ∧ Aside0 (g = ls.length - i) ∧ Aside0 (Kd.R (Kd.int .u8) 5 wr w.heap.size (fun _ => True) (.slice (some ⟨g1, 0, none⟩) (l.length) c1) (overlay (l) k (ls.take i))) ∧ Aside0 (Below w.heap.size w wr))
    case atStart => exact ⟨0, rfl, Nat.zero_le _, ⟨rfl⟩, ⟨by rw [List.take_zero, overlay_nil]; exact H1.out⟩, HB1⟩
    case round =>
      clear H1 HB1
      obtain ⟨i, rfl, hi2, hg, HO, HB⟩ := hrel
      by_cases hls : i < ls.length
      · have hin : k + i < l.length := by omega
        obtain ⟨ad, rfl, hx⟩ := at_nat HS.out i hls
        have hxw := pw_cell_below HB.out hx
        obtain ⟨hc1', hc2'⟩ := R_cellN HO.out (k + i) hin
        have hset := R_putN HO.out (k + i) (rd ls (i : Int))
        rw [← overlay_step HKL.out hls] at hset
        obtain ⟨x, hx⟩ : ∃ x, x = rd ls (i : Int) := ⟨_, rfl⟩
        rw [← hx] at hset hxw
        have HSET := Aside0.mk hset
        clear hset hx
        go_wp2_with fail
        go_roundg (ls.length - (i + 1))
        case measure => have := hg.out; omega
        case rel => exact ⟨i + 1, by go_num, by omega, ⟨rfl⟩, HSET, ⟨HB.out.setCell (p := ⟨g1, k + i, none⟩) hgb1 _⟩⟩
      · go_wp2_with fail
        go_ret
        exact ⟨_, _, rfl, by first | exact hcc | omega, by rw [HT.out]; have := HO.out; rwa [List.take_of_length_le (by omega)] at this, HB.out⟩
/-- Of nothing written: some bytes. -/
theorem rwritten_none (A : Option Addr) (n c : Nat) (l : List Int) (k : Int) (As : Option Addr) (cs : Nat) (w : World) (hr : Kd.C (Kd.int .u8) w A n l) (hn : n ≤ 1000000) :
    Calls Try.prog 29 #[.slice A n c, .int .i64 k, .slice As 0 cs] w fun e w' => (∃ v, e = .returned v) ∧ Below w.heap.size w w' := by
  obtain rfl : l.length = n := hr.1
  have HR := Aside0.mk hr
  clear hr
  go_enter Try.func29, Try.ntmps29
  go_wp2_with (first
    | (at_builtin; refine Kd.R_append_rows (Kd.int .u8) (Rr := (Kd.int .u8).K w) (w0 := w) w.heap.size rfl (.tmp 9) (.tmp 10) 22 5 (.int .u8 0) 1 rfl Try.underlying22 infoU8 rfl (by decide) (by omega) _ [] l A l.length c (fun _ => True) (fun _ => False) rfl rfl (R_empty _ _ _ _ _ trivial) (Kd.C_alloc HR.out _) (fun _ _ h => h) (fun _ h => h.elim) (fun _ _ => trivial) (below_alloc (Below.refl _ _) _) (by simp) (by simp; omega) ?_; intro v1 w1 h1 hb1 _ _; rw [List.nil_append] at h1; obtain ⟨A1, c1, rfl, hc1, _⟩ := Kd.R_reads h1; have H1 := Aside0.mk h1; have HB1 := Aside0.mk hb1; clear h1 hb1)
    | fail)
  all_goals
    refine wp_loop_rounds 1 ?_
    rw [rounds_succ]
    go_wp2_with fail
    go_ret
    exact ⟨⟨_, rfl⟩, HB1.out⟩
end Go.Proofs.Ytpnbjpkdbiiogaa
