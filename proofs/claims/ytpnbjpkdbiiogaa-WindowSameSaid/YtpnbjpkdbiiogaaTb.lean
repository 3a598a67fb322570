/- The reference's Size, At, Set, Lay and Written: what each call answers. -/
import Derived.Test.YtpnbjpkdbiiogaaTa
import Derived.Deep.RegionHeld3
import Derived.Deep.RegionLaw
namespace Go.Proofs.Ytpnbjpkdbiiogaa
set_option linter.unusedVariables false
open Go.RowKit Go.Proofs.YtpnbjpkdbiiogaaW.PrintWords
attribute [local go_sem] mx2 mn2 mxTwo mnTwo

set_option maxHeartbeats 1000000 in
set_option maxRecDepth 100000 in
theorem rsize_any (A : Option Addr) (n c : Nat) (l : List Int) (sz : Int) (w : World) (hr : Kd.C (Kd.int .u8) w A n l) (hn : n ≤ 1099511627776) (hs : sz ≤ 1099511627776) :
    Calls Try.prog 22 #[.slice A n c, .int .i64 sz] w fun e w' => ∃ A' c', e = .returned (.slice A' sz.toNat c') ∧ sz.toNat ≤ c' ∧ Kd.R (Kd.int .u8) 5 w' w.heap.size (fun _ => True) (.slice A' sz.toNat c') (sizeL l sz) ∧ Below w.heap.size w w' := by
  obtain rfl : l.length = n := hr.1
  have HR := Aside0.mk hr
  clear hr
  have hT := sizeL_length l sz
  have HT := Aside0.mk hT
  clear hT
  go_enter Try.func22, Try.ntmps22
  go_wp2
  go_loopg [5, 6] sz.toNat (fun g v5 v6 wr => ∃ k : Nat, v6 = .int .i64 (k : Int) ∧ k ≤ sz.toNat ∧ Aside0 (g = sz.toNat - k) ∧ Aside0 (Kd.R (Kd.int .u8) 5 wr w.heap.size (fun _ => True) v5 ((sizeL l sz).take k)) ∧ Aside0 (Below w.heap.size w wr))
  case atStart => exact ⟨0, rfl, Nat.zero_le _, ⟨rfl⟩, ⟨Kd.R_nil _ _ _ _ _⟩, ⟨Below.refl _ _⟩⟩
  case round =>
    obtain ⟨k, rfl, hk, hg, HO, HB⟩ := hrel
    by_cases hlt : (k : Int) < sz
    · have hke : (sizeL l sz).take (k + 1) = (sizeL l sz).take k ++ [l.getD k 0] := by rw [take_snoc_rd _ k (by rw [HT.out]; omega), rd_sizeL l sz k (by omega)]
      have hkl : ((sizeL l sz).take k).length = k := by rw [List.length_take, HT.out]; omega
      have HKE := Aside0.mk hke
      have HKL := Aside0.mk hkl
      clear hke hkl
      by_cases hin : k < l.length
      · obtain ⟨ad, rfl, hx⟩ := at_nat HR.out k hin
        have hxw := pw_cell_below HB.out hx
        have hrd : rd l (k : Int) = l.getD k 0 := by simp [rd]
        rw [hrd] at hxw
        clear hrd hx
        obtain ⟨x, hx⟩ : ∃ x, x = l.getD k 0 := ⟨_, rfl⟩
        rw [← hx] at hxw HKE
        clear hx
        go_wp2_with (at_builtin; refine Kd.R_append (Kd.int .u8) (w0 := w) w.heap.size rfl (.tmp 21) (.tmp 23) 22 5 (.int .u8 0) 1 rfl Try.underlying22 infoU8 rfl (by decide) (by omega) u5 _ x [.int .u8 x] (fun _ => True) (fun _ => False) rfl rfl rfl (fun _ h => h.elim) (fun _ _ => trivial) HO.out HB.out (below_size HB.out) (by rw [HKL.out]; omega) ?_; intro v1 w1 h1 hb1 _ _; rw [← HKE.out] at h1; have H1 := Aside0.mk h1; have HB1 := Aside0.mk hb1; clear h1 hb1)
        go_roundg (sz.toNat - (k + 1))
        case measure => have := hg.out; omega
        case rel => exact ⟨k + 1, by go_num, by omega, ⟨rfl⟩, H1, HB1⟩
      · have hrd : l.getD k 0 = 0 := by simp [List.getD_eq_getElem?_getD, List.getElem?_eq_none (Nat.le_of_not_lt hin)]
        rw [hrd] at HKE
        clear hrd
        go_wp2_with (at_builtin; refine Kd.R_append (Kd.int .u8) (w0 := w) w.heap.size rfl (.tmp 21) (.tmp 23) 22 5 (.int .u8 0) 1 rfl Try.underlying22 infoU8 rfl (by decide) (by omega) u5 _ 0 [.int .u8 0] (fun _ => True) (fun _ => False) rfl rfl rfl (fun _ h => h.elim) (fun _ _ => trivial) HO.out HB.out (below_size HB.out) (by rw [HKL.out]; omega) ?_; intro v1 w1 h1 hb1 _ _; rw [← HKE.out] at h1; have H1 := Aside0.mk h1; have HB1 := Aside0.mk hb1; clear h1 hb1)
        go_roundg (sz.toNat - (k + 1))
        case measure => have := hg.out; omega
        case rel => exact ⟨k + 1, by go_num, by omega, ⟨rfl⟩, H1, HB1⟩
    · have hd : (k : Int) < sz → False := hlt
      go_wp2_with fail
      have hall : (sizeL l sz).take k = sizeL l sz := List.take_of_length_le (by rw [HT.out]; omega)
      have h3 := HO.out
      rw [hall] at h3
      obtain ⟨A', c', rfl, hc', _⟩ := Kd.R_reads h3
      rw [HT.out] at hc' h3 ⊢
      go_ret
      exact ⟨A', c', rfl, by first | exact hc' | omega, h3, HB.out⟩

/-- A cell of a row of numbers of one's own, at a natural place; the row behind a store. -/
theorem R_cellN {ki : IntKind} {e : Nat} {w : World} {base : Nat} {ok : Nat → Prop} {g n cap : Nat} {xs : List Int} (h : (Kd.int ki).R e w base ok (.slice (some ⟨g, 0, none⟩) n cap) xs) (i : Nat) (hi : i < n) : w.cell? ⟨g, i, none⟩ = some (.int ki (rd xs (i : Int))) ∧ w.frozen? ⟨g, i, none⟩ = false := by
  obtain ⟨rfl, _, _⟩ := Kd.R_reads' h
  have h1 := Kd.R_cell (0 : Int) h (i : Int) (by omega) (by omega)
  simp only [Int.toNat_natCast] at h1
  exact h1
theorem R_putN {ki : IntKind} {e : Nat} {w : World} {base : Nat} {ok : Nat → Prop} {g n cap : Nat} {xs : List Int} (h : (Kd.int ki).R e w base ok (.slice (some ⟨g, 0, none⟩) n cap) xs) (i : Nat) (x : Int) : (Kd.int ki).R e (w.setCell ⟨g, i, none⟩ (.int ki x)) base ok (.slice (some ⟨g, 0, none⟩) n cap) (xs.set i x) := by
  obtain ⟨rfl, _, _⟩ := Kd.R_reads' h
  have h1 := (Kd.R_put h (i : Int) x).1
  simp only [Int.toNat_natCast] at h1
  exact h1

theorem rd_replicate (n i : Nat) : rd (List.replicate n 0) (i : Int) = 0 := by
  unfold rd
  rw [Int.toNat_natCast, List.getD_eq_getElem?_getD, List.getElem?_replicate]
  split <;> rfl

set_option maxHeartbeats 2000000 in
set_option maxRecDepth 100000 in
theorem rat_any (A : Option Addr) (n c : Nat) (l : List Int) (k : Int) (w : World) (hr : Kd.C (Kd.int .u8) w A n l) (hn : n ≤ 1099511627776) :
    Calls Try.prog 24 #[.slice A n c, .int .i64 k] w fun e w' => ∃ g' c', e = .returned (.slice (some ⟨g', 0, none⟩) 64 c') ∧ 64 ≤ c' ∧ w.heap.size ≤ g' ∧ Kd.R (Kd.int .u8) 5 w' w.heap.size (fun _ => True) (.slice (some ⟨g', 0, none⟩) 64 c') (atL l k) ∧ Below w.heap.size w w' := by
  obtain rfl : l.length = n := hr.1
  have HR := Aside0.mk hr
  clear hr
  obtain ⟨i0, hi, _, hz1, _⟩ := info_parts infoU8
  by_cases hk : 0 ≤ k ∧ k < cnt l.length
  · obtain ⟨hk, hk2⟩ := hk
    obtain ⟨q, rfl⟩ := Int.eq_ofNat_of_zero_le hk
    have hroom := cnt_room hk hk2
    have ht : atL l (q : Int) = sizeL (l.drop (q * 64)) 64 := by unfold atL; rw [if_pos ⟨hk, hk2⟩, show ((q : Int) * 64).toNat = q * 64 by omega]
    have HT := Aside0.mk ht
    clear ht
    go_enter Try.func24, Try.ntmps24
    go_wp2_with (first
      | (at_make; refine Kd.R_make (Kd.int .u8) (w0 := w) (w).heap.size 5 rfl (N := 7) rfl 22 (.const (.int .i64 64)) (.const (.int .i64 64)) rfl 64 rfl rfl Try.underlying22 (.int .u8 0) 1 infoU8 rfl (by decide) (by omega) (0 : Int) (ok := fun _ => True) (okp := fun _ => False) rfl (fun _ h => h.elim) trivial (by omega) (by decide) (Below.refl _ _) (Nat.le_refl _) ?_; intro v1 w1 h1 hb1 _ _; have h1' : Kd.R (Kd.int .u8) 5 w1 (w).heap.size (fun _ => True) v1 (List.replicate 64 0) := h1; obtain ⟨g1, c1, rfl, hgb1, _, _⟩ := Kd.R_form h1' (by simp); rw [List.length_replicate] at h1'; have H1 := Aside0.mk h1'; have HB1 := Aside0.mk hb1; clear h1 h1' hb1)
      | fail)
    go_loopg [6] 64 (fun g v6 wr => ∃ i : Nat, v6 = .int .i64 (i : Int) ∧ i ≤ 64 ∧ Aside0 (g = 64 - i) ∧ Aside0 (Kd.R (Kd.int .u8) 5 wr w.heap.size (fun _ => True) (.slice (some ⟨g1, 0, none⟩) 64 c1) (mixL (atL l (q : Int)) (List.replicate 64 0) i)) ∧ Aside0 (Below w.heap.size w wr))
    case atStart => exact ⟨0, rfl, Nat.zero_le _, ⟨rfl⟩, ⟨by rw [mixL_zero]; exact H1.out⟩, HB1⟩
    case round =>
      clear HB1 H1
      obtain ⟨i, rfl, hi1, hg, HO, HB⟩ := hrel
      by_cases hlt : i < 64
      · by_cases hin : q * 64 + i < l.length
        · obtain ⟨ad, rfl, hx⟩ := at_nat HR.out (q * 64 + i) hin
          have hxw := pw_cell_below HB.out hx
          obtain ⟨hc1, hc2⟩ := R_cellN HO.out i hlt
          have hset := R_putN HO.out i (rd l ((q * 64 + i : Nat) : Int))
          have hrd : rd (atL l (q : Int)) (i : Int) = rd l ((q * 64 + i : Nat) : Int) := by rw [HT.out, rd_sizeL _ _ i (by omega)]; unfold rd; rw [Int.toNat_natCast]; simp [List.getD_eq_getElem?_getD]
          rw [← hrd, mixL_set _ _ i (by rw [atL_length, List.length_replicate]) (by rw [List.length_replicate]; exact hlt)] at hset
          rw [← hrd] at hxw
          obtain ⟨x, hx⟩ : ∃ x, x = rd (atL l (q : Int)) (i : Int) := ⟨_, rfl⟩
          rw [← hx] at hset hxw
          have HSET := Aside0.mk hset
          clear hset hx hrd
          go_wp2_with (go_at_call 19; refine (refcount_any _ _ (by omega)).mono ?_; rintro e w1 ⟨rfl, rfl⟩)
          go_roundg (64 - (i + 1))
          case measure => have := hg.out; omega
          case rel => exact ⟨i + 1, by go_num, by omega, ⟨rfl⟩, HSET, ⟨HB.out.setCell (p := ⟨g1, i, none⟩) hgb1 _⟩⟩
        · have hrd : rd (atL l (q : Int)) (i : Int) = rd (List.replicate 64 0) (i : Int) := by rw [rd_replicate, HT.out, rd_sizeL _ _ i (by omega), List.getD_eq_getElem?_getD, List.getElem?_drop, List.getElem?_eq_none (Nat.le_of_not_lt hin)]; rfl
          have hskip := mixL_skip _ _ i (by rw [atL_length, List.length_replicate]) (by rw [List.length_replicate]; exact hlt) hrd
          have HSK := Aside0.mk hskip
          clear hskip hrd
          go_wp2_with (go_at_call 19; refine (refcount_any _ _ (by omega)).mono ?_; rintro e w1 ⟨rfl, rfl⟩)
          go_roundg (64 - (i + 1))
          case measure => have := hg.out; omega
          case rel => exact ⟨i + 1, by go_num, by omega, ⟨rfl⟩, ⟨by rw [← HSK.out]; exact HO.out⟩, HB⟩
      · go_wp2_with fail
        go_ret
        obtain rfl : i = 64 := by omega
        refine ⟨_, _, rfl, (Kd.R_reads' HO.out).2.1, hgb1, ?_, HB.out⟩
        have := HO.out
        rwa [mixL_all _ _ 64 (by rw [atL_length]; exact Nat.le_refl _) (by simp)] at this
  · have ht : atL l k = List.replicate 64 0 := by unfold atL; rw [if_neg hk]
    have HT := Aside0.mk ht
    have hk' : k < 0 ∨ 0 ≤ k ∧ cnt l.length ≤ k := by omega
    clear hk ht
    go_enter Try.func24, Try.ntmps24
    go_wp2_with (first
      | (at_make; refine Kd.R_make (Kd.int .u8) (w0 := w) (w).heap.size 5 rfl (N := 7) rfl 22 (.const (.int .i64 64)) (.const (.int .i64 64)) rfl 64 rfl rfl Try.underlying22 (.int .u8 0) 1 infoU8 rfl (by decide) (by omega) (0 : Int) (ok := fun _ => True) (okp := fun _ => False) rfl (fun _ h => h.elim) trivial (by omega) (by decide) (Below.refl _ _) (Nat.le_refl _) ?_; intro v1 w1 h1 hb1 _ _; have h1' : Kd.R (Kd.int .u8) 5 w1 (w).heap.size (fun _ => True) v1 (List.replicate 64 0) := h1; obtain ⟨g1, c1, rfl, hgb1, _, _⟩ := Kd.R_form h1' (by simp); rw [List.length_replicate] at h1'; have H1 := Aside0.mk h1'; have HB1 := Aside0.mk hb1; clear h1 h1' hb1)
      | fail)
    go_loopg [6] 64 (fun g v6 wr => ∃ i : Nat, v6 = .int .i64 (i : Int) ∧ i ≤ 64 ∧ Aside0 (g = 64 - i) ∧ wr = w1)
    case atStart => exact ⟨0, rfl, Nat.zero_le _, ⟨rfl⟩, rfl⟩
    case round =>
      obtain ⟨i, rfl, hi1, hg, rfl⟩ := hrel
      by_cases hlt : i < 64
      · rcases hk' with hk' | ⟨hk', hk2⟩
        · go_wp2_with fail
          go_roundg (64 - (i + 1))
          case measure => have := hg.out; omega
          case rel => exact ⟨i + 1, by go_num, by omega, ⟨rfl⟩, by first | rfl | trivial⟩
        · go_wp2_with (go_at_call 19; refine (refcount_any _ _ (by omega)).mono ?_; rintro e w3 ⟨rfl, rfl⟩)
          go_roundg (64 - (i + 1))
          case measure => have := hg.out; omega
          case rel => exact ⟨i + 1, by go_num, by omega, ⟨rfl⟩, by first | rfl | trivial⟩
      · go_wp2_with fail
        go_ret
        exact ⟨_, _, rfl, (Kd.R_reads' H1.out).2.1, hgb1, by rw [HT.out]; exact H1.out, HB1.out⟩
end Go.Proofs.Ytpnbjpkdbiiogaa
/- The reference's Set, Lay and Written. -/
namespace Go.Proofs.Ytpnbjpkdbiiogaa
set_option linter.unusedVariables false
open Go.RowKit Go.Proofs.YtpnbjpkdbiiogaaW.PrintWords
attribute [local go_sem] mx2 mn2 mxTwo mnTwo


set_option maxHeartbeats 2000000 in
set_option maxRecDepth 100000 in
theorem rset_any (A : Option Addr) (n c : Nat) (l : List Int) (k : Int) (As : Option Addr) (ns cs : Nat) (ls : List Int) (w : World) (hr : Kd.C (Kd.int .u8) w A n l) (hn : n ≤ 1099511627776) (hrs : Kd.C (Kd.int .u8) w As ns ls) :
    Calls Try.prog 26 #[.slice A n c, .int .i64 k, .slice As ns cs] w fun e w' => ∃ A' c', e = .returned (.slice A' n c') ∧ n ≤ c' ∧ Kd.R (Kd.int .u8) 5 w' w.heap.size (fun _ => True) (.slice A' n c') (setL l k ls) ∧ Below w.heap.size w w' := by
  obtain rfl : l.length = n := hr.1
  obtain rfl : ls.length = ns := hrs.1
  have HR := Aside0.mk hr
  have HS := Aside0.mk hrs
  clear hr hrs
  obtain ⟨i0, hi, _, hz1, _⟩ := info_parts infoU8
  by_cases hk : 0 ≤ k ∧ k < cnt l.length
  · obtain ⟨hk, hk2⟩ := hk
    obtain ⟨q, rfl⟩ := Int.eq_ofNat_of_zero_le hk
    have hroom := cnt_room hk hk2
    have ht : setL l (q : Int) ls = overlay l (q * 64) (ls.take 64) := by unfold setL; rw [if_pos ⟨hk, hk2⟩, show ((q : Int) * 64).toNat = q * 64 by omega]
    have HT := Aside0.mk ht
    clear ht
    go_enter Try.func26, Try.ntmps26
    go_wp2_with (first
      | (at_builtin; refine Kd.R_append_rows (Kd.int .u8) (Rr := (Kd.int .u8).K w) (w0 := w) w.heap.size rfl (.tmp 9) (.tmp 10) 22 5 (.int .u8 0) 1 rfl Try.underlying22 infoU8 rfl (by decide) (by omega) _ [] l A l.length c (fun _ => True) (fun _ => False) rfl rfl (R_empty _ _ _ _ _ trivial) (Kd.C_alloc HR.out _) (fun _ _ h => h) (fun _ h => h.elim) (fun _ _ => trivial) (below_alloc (Below.refl _ _) _) (by simp) (by simp; omega) ?_; intro v1 w1 h1 hb1 _ _; rw [List.nil_append] at h1; obtain ⟨A1, c1, rfl, hc1, _⟩ := Kd.R_reads h1; have H1 := Aside0.mk h1; have HB1 := Aside0.mk hb1; clear h1 hb1)
      | fail)
    obtain ⟨g1, c2, hE, hgb1, _, _⟩ := Kd.R_form H1.out (by omega)
    cases hE
    go_loopg [8] 64 (fun g v8 wr => ∃ i : Nat, v8 = .int .i64 (i : Int) ∧ i ≤ 64 ∧ i ≤ ls.length ∧ Aside0 (g = 64 - i) ∧ Aside0 (Kd.R (Kd.int .u8) 5 wr w.heap.size (fun _ => True) (.slice (some ⟨g1, 0, none⟩) l.length c1) (overlay l (q * 64) (ls.take i))) ∧ Aside0 (Below w.heap.size w wr))
    case atStart => exact ⟨0, rfl, Nat.zero_le _, Nat.zero_le _, ⟨rfl⟩, ⟨by rw [List.take_zero, overlay_nil]; exact H1.out⟩, HB1⟩
    case round =>
      clear HB1 H1
      obtain ⟨i, rfl, hi1, hi2, hg, HO, HB⟩ := hrel
      by_cases hlt : i < 64
      · by_cases hls : i < ls.length
        · by_cases hin : q * 64 + i < l.length
          · obtain ⟨ad, rfl, hx⟩ := at_nat HS.out i hls
            have hxw := pw_cell_below HB.out hx
            obtain ⟨hc1', hc2'⟩ := R_cellN HO.out (q * 64 + i) hin
            have hset := R_putN HO.out (q * 64 + i) (rd ls (i : Int))
            rw [← overlay_step (by omega) hls] at hset
            obtain ⟨x, hx⟩ : ∃ x, x = rd ls (i : Int) := ⟨_, rfl⟩
            rw [← hx] at hset hxw
            have HSET := Aside0.mk hset
            clear hset hx
            go_wp2_with (go_at_call 19; refine (refcount_any _ _ (by omega)).mono ?_; rintro e w1 ⟨rfl, rfl⟩)
            go_roundg (64 - (i + 1))
            case measure => have := hg.out; omega
            case rel => exact ⟨i + 1, by go_num, by omega, by omega, ⟨rfl⟩, HSET, ⟨HB.out.setCell (p := ⟨g1, q * 64 + i, none⟩) hgb1 _⟩⟩
          · go_wp2_with (go_at_call 19; refine (refcount_any _ _ (by omega)).mono ?_; rintro e w1 ⟨rfl, rfl⟩)
            go_roundg (64 - (i + 1))
            case measure => have := hg.out; omega
            case rel => exact ⟨i + 1, by go_num, by omega, by omega, ⟨rfl⟩, ⟨by rw [overlay_far (by omega) (by omega)]; have := HO.out; rwa [overlay_far (by omega) (by omega)] at this⟩, HB⟩
        · go_wp2_with fail
          go_ret
          exact ⟨_, _, rfl, hc1, by rw [HT.out, List.take_of_length_le (by omega)]; have := HO.out; rwa [List.take_of_length_le (by omega)] at this, HB.out⟩
      · go_wp2_with fail
        go_ret
        obtain rfl : i = 64 := by omega
        exact ⟨_, _, rfl, hc1, by rw [HT.out]; exact HO.out, HB.out⟩
  · have ht : setL l k ls = l := by unfold setL; rw [if_neg hk]
    have HT := Aside0.mk ht
    have hk' : k < 0 ∨ 0 ≤ k ∧ cnt l.length ≤ k := by omega
    clear hk ht
    go_enter Try.func26, Try.ntmps26
    go_wp2_with (first
      | (at_builtin; refine Kd.R_append_rows (Kd.int .u8) (Rr := (Kd.int .u8).K w) (w0 := w) w.heap.size rfl (.tmp 9) (.tmp 10) 22 5 (.int .u8 0) 1 rfl Try.underlying22 infoU8 rfl (by decide) (by omega) _ [] l A l.length c (fun _ => True) (fun _ => False) rfl rfl (R_empty _ _ _ _ _ trivial) (Kd.C_alloc HR.out _) (fun _ _ h => h) (fun _ h => h.elim) (fun _ _ => trivial) (below_alloc (Below.refl _ _) _) (by simp) (by simp; omega) ?_; intro v1 w1 h1 hb1 _ _; rw [List.nil_append] at h1; obtain ⟨A1, c1, rfl, hc1, _⟩ := Kd.R_reads h1; have H1 := Aside0.mk h1; have HB1 := Aside0.mk hb1; clear h1 hb1)
      | fail)
    go_loopg [8] 64 (fun g v8 wr => ∃ i : Nat, v8 = .int .i64 (i : Int) ∧ i ≤ 64 ∧ Aside0 (g = 64 - i) ∧ wr = w1)
    case atStart => exact ⟨0, rfl, Nat.zero_le _, ⟨rfl⟩, rfl⟩
    case round =>
      obtain ⟨i, rfl, hi1, hg, rfl⟩ := hrel
      by_cases hlt : i < 64
      · by_cases hls : i < ls.length
        · rcases hk' with hk' | ⟨hk', hk2⟩
          · go_wp2_with fail
            go_roundg (64 - (i + 1))
            case measure => have := hg.out; omega
            case rel => exact ⟨i + 1, by go_num, by omega, ⟨rfl⟩, by first | rfl | trivial⟩
          · go_wp2_with (go_at_call 19; refine (refcount_any _ _ (by omega)).mono ?_; rintro e w3 ⟨rfl, rfl⟩)
            go_roundg (64 - (i + 1))
            case measure => have := hg.out; omega
            case rel => exact ⟨i + 1, by go_num, by omega, ⟨rfl⟩, by first | rfl | trivial⟩
        · go_wp2_with fail
          go_ret
          exact ⟨_, _, rfl, hc1, by rw [HT.out]; exact H1.out, HB1.out⟩
      · go_wp2_with fail
        go_ret
        exact ⟨_, _, rfl, hc1, by rw [HT.out]; exact H1.out, HB1.out⟩

theorem atL_zero (l : List Int) : atL l 0 = sizeL l 64 := by
  unfold atL
  by_cases h : 0 < cnt l.length
  · rw [if_pos ⟨by omega, h⟩]
    simp
  · have : l.length = 0 := by
      unfold cnt at h
      split at h <;> omega
    obtain rfl := List.eq_nil_of_length_eq_zero this
    rw [if_neg (by omega)]
    simp [sizeL, overlay]

theorem cell_al {w : World} {ad : Addr} {v : Value} (o : Obj) (h : w.cell? ad = some v) : (w.alloc o).cell? ad = some v := by rw [World.cell?_alloc_some _ _ _ (by rw [h]; rfl)]; exact h

set_option maxHeartbeats 2000000 in
set_option maxRecDepth 100000 in
theorem rlay_any (A : Option Addr) (n c : Nat) (l : List Int) (s f : Int) (Ad : Option Addr) (nd cd : Nat) (d : List Int) (w : World) (hr : Kd.C (Kd.int .u8) w A n l) (hn : n ≤ 1099511627776) (hrd : Kd.C (Kd.int .u8) w Ad nd d) (hnd : nd ≤ 1099511627776) :
    Calls Try.prog 28 #[.slice A n c, .agg #[.int .i64 s, .int .i64 f, .slice Ad nd cd]] w fun e w' => ∃ A' c', e = .returned (.slice A' 64 c') ∧ 64 ≤ c' ∧ Kd.R (Kd.int .u8) 5 w' w.heap.size (fun _ => True) (.slice A' 64 c') (layL l f d) ∧ Below w.heap.size w w' := by
  obtain rfl : d.length = nd := hrd.1
  have HR := Aside0.mk hr
  have HD := Aside0.mk hrd
  clear hr hrd
  have hb1' : ((w.alloc (.cells #[.int .i64 s, .int .i64 f, .slice Ad d.length cd] 31))).cell? ⟨w.heap.size, 1, none⟩ = some (.int .i64 f) := blk_cell (blk_new w _) 1
  have hb2' : ((w.alloc (.cells #[.int .i64 s, .int .i64 f, .slice Ad d.length cd] 31))).cell? ⟨w.heap.size, 2, none⟩ = some (.slice Ad d.length cd) := blk_cell (blk_new w _) 2
  have HB1' := Aside0.mk hb1'
  have HB2' := Aside0.mk hb2'
  by_cases hf : 0 ≤ f ∧ f ≤ 64
  · obtain ⟨hf, hf2⟩ := hf
    obtain ⟨q, rfl⟩ := Int.eq_ofNat_of_zero_le hf
    have hq : q ≤ 64 := by omega
    have ht : layL l (q : Int) d = overlay (sizeL l 64) q d := by unfold layL; rw [if_pos ⟨hf, hf2⟩, Int.toNat_natCast]
    have HT := Aside0.mk ht
    clear ht
    go_enter Try.func28, Try.ntmps28
    go_wp2_with (go_at_call 24; refine (rat_any A n c l 0 _ (Kd.C_alloc HR.out _) (by omega)).mono ?_; rintro e w1 ⟨g1, c1, rfl, hc1, hgb1, hv, hbl⟩; have hx1 := pw_cell_below hbl hb1'; have hx2 := pw_cell_below hbl hb2'; rw [atL_zero] at hv; have H1 := Aside0.mk hv; have HB1 := Aside0.mk hbl; clear hv hbl)
    clear hx1 hx2 hb1' hb2'
    have hsl : (sizeL l 64).length = 64 := sizeL_length _ _
    have HSL := Aside0.mk hsl
    clear hsl
    go_loopg [6] 64 (fun g v6 wr => ∃ i : Nat, v6 = .int .i64 (i : Int) ∧ i ≤ 64 ∧ i ≤ d.length ∧ Aside0 (g = 64 - i) ∧ Aside0 (Kd.R (Kd.int .u8) 5 wr ((w.alloc (.cells #[.int .i64 s, .int .i64 (q : Int), .slice Ad d.length cd] 31))).heap.size (fun _ => True) (.slice (some ⟨g1, 0, none⟩) 64 c1) (overlay (sizeL l 64) q (d.take i))) ∧ Aside0 (Below ((w.alloc (.cells #[.int .i64 s, .int .i64 (q : Int), .slice Ad d.length cd] 31))).heap.size ((w.alloc (.cells #[.int .i64 s, .int .i64 (q : Int), .slice Ad d.length cd] 31))) wr))
    case atStart => exact ⟨0, rfl, Nat.zero_le _, Nat.zero_le _, ⟨rfl⟩, ⟨by rw [List.take_zero, overlay_nil]; exact H1.out⟩, HB1⟩
    case round =>
      clear HB1 H1
      obtain ⟨i, rfl, hi1, hi2, hg, HO, HB⟩ := hrel
      have hx1 := pw_cell_below HB.out HB1'.out
      have hx2 := pw_cell_below HB.out HB2'.out
      by_cases hlt : i < 64
      · by_cases hls : i < d.length
        · by_cases hin : q + i < 64
          · obtain ⟨ad, rfl, hx⟩ := at_nat HD.out i hls
            have hxw := pw_cell_below HB.out (cell_al _ hx)
            obtain ⟨hc1', hc2'⟩ := R_cellN HO.out (q + i) hin
            have hset := R_putN HO.out (q + i) (rd d (i : Int))
            rw [← overlay_step (by rw [HSL.out]; omega) hls] at hset
            obtain ⟨x, hx⟩ : ∃ x, x = rd d (i : Int) := ⟨_, rfl⟩
            rw [← hx] at hset hxw
            have HSET := Aside0.mk hset
            clear hset hx
            go_wp2_with fail
            go_region
            all_goals
              go_wp2_with fail
              go_roundg (64 - (i + 1))
              case measure => have := hg.out; omega
              case rel => exact ⟨i + 1, by go_num, by omega, by omega, ⟨rfl⟩, ⟨Kd.R_drew HSET.out⟩, ⟨below_drew1 (HB.out.setCell (p := ⟨g1, q + i, none⟩) hgb1 _)⟩⟩
          · go_wp2_with fail
            go_roundg (64 - (i + 1))
            case measure => have := hg.out; omega
            case rel => exact ⟨i + 1, by go_num, by omega, by omega, ⟨rfl⟩, ⟨by rw [overlay_far (by rw [HSL.out]; omega) (by rw [HSL.out]; omega)]; have := HO.out; rwa [overlay_far (by rw [HSL.out]; omega) (by rw [HSL.out]; omega)] at this⟩, HB⟩
        · go_wp2_with fail
          go_ret
          refine ⟨_, _, rfl, hc1, ?_, ?_⟩
          · rw [HT.out]
            have := HO.out
            rw [List.take_of_length_le (by omega)] at this
            exact Kd.R_lower this (by simp)
          · exact (below_alloc (Below.refl _ _) _).trans (HB.out.mono (by simp))
      · obtain rfl : i = 64 := by omega
        go_wp2_with fail
        all_goals
          go_ret
          refine ⟨_, _, rfl, hc1, ?_, ?_⟩
          · rw [HT.out]
            have := HO.out
            rw [overlay_far (by rw [HSL.out]; omega) (by rw [HSL.out]; omega)] at this
            exact Kd.R_lower this (by simp)
          · exact (below_alloc (Below.refl _ _) _).trans (HB.out.mono (by simp))
  · have ht : layL l f d = sizeL l 64 := by unfold layL; rw [if_neg hf]
    have HT := Aside0.mk ht
    have hf' : f < 0 ∨ 0 ≤ f ∧ 64 < f := by omega
    clear ht hf
    go_enter Try.func28, Try.ntmps28
    go_wp2_with (go_at_call 24; refine (rat_any A n c l 0 _ (Kd.C_alloc HR.out _) (by omega)).mono ?_; rintro e w1 ⟨g1, c1, rfl, hc1, hgb1, hv, hbl⟩; have hx1 := pw_cell_below hbl hb1'; have hx2 := pw_cell_below hbl hb2'; rw [atL_zero] at hv; have H1 := Aside0.mk hv; have HB1 := Aside0.mk hbl; clear hv hbl)
    clear hb1' hb2'
    have hd0 : d.length = 0 ∨ 0 < d.length := by omega
    rcases hd0 with hd0 | hd0
    · refine wp_loop_rounds 1 ?_
      rw [rounds_succ]
      go_wp2_with fail
      go_ret
      exact ⟨_, _, rfl, hc1, by rw [HT.out]; exact Kd.R_lower H1.out (by simp), (below_alloc (Below.refl _ _) _).trans (HB1.out.mono (by simp))⟩
    · rcases hf' with hf' | ⟨hf', hf2⟩
      · refine wp_loop_rounds 1 ?_
        rw [rounds_succ]
        go_wp2_with fail
        go_ret
        exact ⟨_, _, rfl, hc1, by rw [HT.out]; exact Kd.R_lower H1.out (by simp), (below_alloc (Below.refl _ _) _).trans (HB1.out.mono (by simp))⟩
      · refine wp_loop_rounds 1 ?_
        rw [rounds_succ]
        go_wp2_with fail
        go_ret
        exact ⟨_, _, rfl, hc1, by rw [HT.out]; exact Kd.R_lower H1.out (by simp), (below_alloc (Below.refl _ _) _).trans (HB1.out.mono (by simp))⟩

theorem sizeL_own (l : List Int) (n : Int) (h : n.toNat = l.length) : sizeL l n = l := by
  apply List.ext_getElem?
  intro i
  rw [sizeL_get, h]
  split
  · rename_i hi
    simp [List.getD_eq_getElem?_getD, hi]
  · rename_i hi
    rw [List.getElem?_eq_none (by omega)]
/-- What stands behind a write. -/
def wrL (l : List Int) (k : Nat) (x : List Int) : List Int := overlay (sizeL l (max l.length (k + x.length) : Nat)) k x

set_option maxHeartbeats 2000000 in
set_option maxRecDepth 100000 in
theorem rwritten_any (A : Option Addr) (n c : Nat) (l : List Int) (k : Nat) (As : Option Addr) (ns cs : Nat) (ls : List Int) (w : World) (hr : Kd.C (Kd.int .u8) w A n l) (hn : n ≤ 1000000) (hrs : Kd.C (Kd.int .u8) w As ns ls) (hns : ns ≤ 1000000) (hk : k ≤ 1000000) (hpos : 0 < ns) :
    Calls Try.prog 29 #[.slice A n c, .int .i64 (k : Int), .slice As ns cs] w fun e w' => ∃ A' c', e = .returned (.slice A' (max n (k + ns)) c') ∧ max n (k + ns) ≤ c' ∧ Kd.R (Kd.int .u8) 5 w' w.heap.size (fun _ => True) (.slice A' (max n (k + ns)) c') (wrL l k ls) ∧ Below w.heap.size w w' := by
  obtain rfl : l.length = n := hr.1
  obtain rfl : ls.length = ns := hrs.1
  have HR := Aside0.mk hr
  have HS := Aside0.mk hrs
  clear hr hrs
  by_cases hgt : l.length < k + ls.length
  · have hmax : max l.length (k + ls.length) = k + ls.length := by omega
    have ht : wrL l k ls = overlay (sizeL l ((k : Int) + (ls.length : Int))) k ls := by unfold wrL; rw [hmax]; simp
    have HT := Aside0.mk ht
    have hlen : (sizeL l ((k : Int) + (ls.length : Int))).length = k + ls.length := by rw [sizeL_length]; omega
    have HLEN := Aside0.mk hlen
    rw [hmax]
    have htn : ((k : Int) + (ls.length : Int)).toNat = k + ls.length := by omega
    have HTN := Aside0.mk htn
    clear ht hlen htn hmax
    go_enter Try.func29, Try.ntmps29
    go_wp2_with (first
      | (at_builtin; refine Kd.R_append_rows (Kd.int .u8) (Rr := (Kd.int .u8).K w) (w0 := w) w.heap.size rfl (.tmp 9) (.tmp 10) 22 5 (.int .u8 0) 1 rfl Try.underlying22 infoU8 rfl (by decide) (by omega) _ [] l A l.length c (fun _ => True) (fun _ => False) rfl rfl (R_empty _ _ _ _ _ trivial) (Kd.C_alloc HR.out _) (fun _ _ h => h) (fun _ h => h.elim) (fun _ _ => trivial) (below_alloc (Below.refl _ _) _) (by simp) (by simp; omega) ?_; intro v1 w1 h1 hb1 _ _; rw [List.nil_append] at h1; obtain ⟨A1, c1, rfl, hc1, _⟩ := Kd.R_reads h1; have H1 := Aside0.mk h1; have HB1 := Aside0.mk hb1; clear h1 hb1)
      | (go_at_call 22; refine (rsize_any A1 l.length c1 l ((k : Int) + (ls.length : Int)) _ (Kd.R_reads' H1.out).2.2 (by omega) (by omega)).mono ?_; rintro e w2 ⟨A2, cc, hEE, hcc, hv, hbl⟩; have hv' := Kd.R_lower hv (below_size HB1.out); have hbl' := HB1.out.trans (hbl.mono (below_size HB1.out)); rw [HTN.out] at hv' hcc hEE; have H2 := Aside0.mk hv'; have HB2 := Aside0.mk hbl'; obtain ⟨g1, c3, hE, hgb1, _, _⟩ := Kd.R_form hv' (by rw [HLEN.out]; omega); rw [HLEN.out] at hE; cases hE; subst hEE; clear hv hv' hbl hbl'))
    clear H1 HB1
    have HKL := Aside0.mk (show k ≤ (sizeL l ((k : Int) + (ls.length : Int))).length by rw [HLEN.out]; omega)
    go_loopg [8] ls.length (fun g v8 wr => ∃ i : Nat, v8 = .int .i64 (i : Int) ∧ i ≤ ls.length ∧ Aside0 (g = ls.length - i) ∧ Aside0 (Kd.R (Kd.int .u8) 5 wr w.heap.size (fun _ => True) (.slice (some ⟨g1, 0, none⟩) (k + ls.length) cc) (overlay (sizeL l ((k : Int) + (ls.length : Int))) k (ls.take i))) ∧ Aside0 (Below w.heap.size w wr))
    case atStart => exact ⟨0, rfl, Nat.zero_le _, ⟨rfl⟩, ⟨by rw [List.take_zero, overlay_nil]; exact H2.out⟩, HB2⟩
    case round =>
      clear H2 HB2
      obtain ⟨i, rfl, hi2, hg, HO, HB⟩ := hrel
      by_cases hls : i < ls.length
      · have hin : k + i < k + ls.length := by omega
        obtain ⟨ad, rfl, hx⟩ := at_nat HS.out i hls
        have hxw := pw_cell_below HB.out hx
        obtain ⟨hc1', hc2'⟩ := R_cellN HO.out (k + i) hin
        have hset := R_putN HO.out (k + i) (rd ls (i : Int))
        rw [← overlay_step HKL.out hls] at hset
        obtain ⟨x, hx⟩ : ∃ x, x = rd ls (i : Int) := ⟨_, rfl⟩
        rw [← hx] at hset hxw
        have HSET := Aside0.mk hset
        clear hset hx
        go_wp2_with fail
        go_roundg (ls.length - (i + 1))
        case measure => have := hg.out; omega
        case rel => exact ⟨i + 1, by go_num, by omega, ⟨rfl⟩, HSET, ⟨HB.out.setCell (p := ⟨g1, k + i, none⟩) hgb1 _⟩⟩
      · go_wp2_with fail
        go_ret
        exact ⟨_, _, rfl, by first | exact hcc | omega, by rw [HT.out]; have := HO.out; rwa [List.take_of_length_le (by omega)] at this, HB.out⟩
  · have hmax : max l.length (k + ls.length) = l.length := by omega
    have ht : wrL l k ls = overlay l k ls := by unfold wrL; rw [hmax, sizeL_own _ _ (by simp)]
    have HT := Aside0.mk ht
    have HKL := Aside0.mk (show k ≤ l.length by omega)
    rw [hmax]
    clear ht hmax
    go_enter Try.func29, Try.ntmps29
    go_wp2_with (first
      | (at_builtin; refine Kd.R_append_rows (Kd.int .u8) (Rr := (Kd.int .u8).K w) (w0 := w) w.heap.size rfl (.tmp 9) (.tmp 10) 22 5 (.int .u8 0) 1 rfl Try.underlying22 infoU8 rfl (by decide) (by omega) _ [] l A l.length c (fun _ => True) (fun _ => False) rfl rfl (R_empty _ _ _ _ _ trivial) (Kd.C_alloc HR.out _) (fun _ _ h => h) (fun _ h => h.elim) (fun _ _ => trivial) (below_alloc (Below.refl _ _) _) (by simp) (by simp; omega) ?_; intro v1 w1 h1 hb1 _ _; rw [List.nil_append] at h1; obtain ⟨A1, c1, rfl, hc1, _⟩ := Kd.R_reads h1; have H1 := Aside0.mk h1; have HB1 := Aside0.mk hb1; clear h1 hb1)
      | fail)
    obtain ⟨g1, cc, hE, hgb1, _, _⟩ := Kd.R_form H1.out (by omega)
    cases hE
    have hcc := hc1
    go_loopg [8] ls.length (fun g v8 wr => ∃ i : Nat, v8 = .int .i64 (i : Int) ∧ i ≤ ls.length ∧ Aside0 (g = ls.length - i) ∧ Aside0 (Kd.R (Kd.int .u8) 5 wr w.heap.size (fun _ => True) (.slice (some ⟨g1, 0, none⟩) (l.length) c1) (overlay (l) k (ls.take i))) ∧ Aside0 (Below w.heap.size w wr))
    case atStart => exact ⟨0, rfl, Nat.zero_le _, ⟨rfl⟩, ⟨by rw [List.take_zero, overlay_nil]; exact H1.out⟩, HB1⟩
    case round =>
      clear H1 HB1
      obtain ⟨i, rfl, hi2, hg, HO, HB⟩ := hrel
      by_cases hls : i < ls.length
      · have hin : k + i < l.length := by omega
        obtain ⟨ad, rfl, hx⟩ := at_nat HS.out i hls
        have hxw := pw_cell_below HB.out hx
        obtain ⟨hc1', hc2'⟩ := R_cellN HO.out (k + i) hin
        have hset := R_putN HO.out (k + i) (rd ls (i : Int))
        rw [← overlay_step HKL.out hls] at hset
        obtain ⟨x, hx⟩ : ∃ x, x = rd ls (i : Int) := ⟨_, rfl⟩
        rw [← hx] at hset hxw
        have HSET := Aside0.mk hset
        clear hset hx
        go_wp2_with fail
        go_roundg (ls.length - (i + 1))
        case measure => have := hg.out; omega
        case rel => exact ⟨i + 1, by go_num, by omega, ⟨rfl⟩, HSET, ⟨HB.out.setCell (p := ⟨g1, k + i, none⟩) hgb1 _⟩⟩
      · go_wp2_with fail
        go_ret
        exact ⟨_, _, rfl, by first | exact hcc | omega, by rw [HT.out]; have := HO.out; rwa [List.take_of_length_le (by omega)] at this, HB.out⟩
/-- Of nothing written: some bytes. -/
theorem rwritten_none (A : Option Addr) (n c : Nat) (l : List Int) (k : Int) (As : Option Addr) (cs : Nat) (w : World) (hr : Kd.C (Kd.int .u8) w A n l) (hn : n ≤ 1000000) :
    Calls Try.prog 29 #[.slice A n c, .int .i64 k, .slice As 0 cs] w fun e w' => (∃ v, e = .returned v) ∧ Below w.heap.size w w' := by
  obtain rfl : l.length = n := hr.1
  have HR := Aside0.mk hr
  clear hr
  go_enter Try.func29, Try.ntmps29
  go_wp2_with (first
    | (at_builtin; refine Kd.R_append_rows (Kd.int .u8) (Rr := (Kd.int .u8).K w) (w0 := w) w.heap.size rfl (.tmp 9) (.tmp 10) 22 5 (.int .u8 0) 1 rfl Try.underlying22 infoU8 rfl (by decide) (by omega) _ [] l A l.length c (fun _ => True) (fun _ => False) rfl rfl (R_empty _ _ _ _ _ trivial) (Kd.C_alloc HR.out _) (fun _ _ h => h) (fun _ h => h.elim) (fun _ _ => trivial) (below_alloc (Below.refl _ _) _) (by simp) (by simp; omega) ?_; intro v1 w1 h1 hb1 _ _; rw [List.nil_append] at h1; obtain ⟨A1, c1, rfl, hc1, _⟩ := Kd.R_reads h1; have H1 := Aside0.mk h1; have HB1 := Aside0.mk hb1; clear h1 hb1)
    | fail)
  all_goals
    refine wp_loop_rounds 1 ?_
    rw [rounds_succ]
    go_wp2_with fail
    go_ret
    exact ⟨⟨_, rfl⟩, HB1.out⟩
end Go.Proofs.Ytpnbjpkdbiiogaa
/- Lists alone: what is written piece by piece stands where it was written. -/
namespace Go.Proofs.Ytpnbjpkdbiiogaa
set_option linter.unusedVariables false
open Go.RowKit Go.Proofs.YtpnbjpkdbiiogaaW.PrintWords

/-- Bytes with one piece laid over its sector. -/
def put1 (out : List Int) (p : Pc) : List Int := setL out p.s (layL (atL out p.s) p.f p.d)
theorem put1_eq (out : List Int) (a : Nat) (d : List Int) (n : Nat) (hn : d.length = n) (h : a % 64 + n ≤ 64) (h2 : a + n ≤ out.length) (hpos : 0 < n) : put1 out ⟨(a : Int) / 64, (a : Int) % 64, d⟩ = overlay out a d := by
  subst hn
  unfold put1
  have hk : 0 ≤ (a : Int) / 64 ∧ (a : Int) / 64 < cnt out.length := by
    unfold cnt
    split <;> omega
  have e64 : ((a : Int) / 64 * 64).toNat = a / 64 * 64 := by omega
  have e1 : setL out ((a : Int) / 64) (layL (atL out ((a : Int) / 64)) ((a : Int) % 64) d) = overlay out (a / 64 * 64) ((layL (atL out ((a : Int) / 64)) ((a : Int) % 64) d).take 64) := by
    unfold setL
    rw [if_pos hk, e64]
  have e2 : atL out ((a : Int) / 64) = sizeL (out.drop (a / 64 * 64)) 64 := by
    unfold atL
    rw [if_pos hk, e64]
  have e3 : layL (atL out ((a : Int) / 64)) ((a : Int) % 64) d = overlay (sizeL (out.drop (a / 64 * 64)) 64) (a % 64) d := by
    unfold layL
    rw [if_pos (by omega), sizeL_own _ _ (by rw [atL_length]; rfl), e2, show ((a : Int) % 64).toNat = a % 64 by omega]
  rw [e1, e3]
  have l1 : (sizeL (out.drop (a / 64 * 64)) 64).length = 64 := sizeL_length _ _
  have l2 : (overlay (sizeL (out.drop (a / 64 * 64)) 64) (a % 64) d).length = 64 := by rw [overlay_length (by omega), l1]
  rw [List.take_of_length_le (by omega)]
  apply List.ext_getElem?
  intro i
  rw [overlay_get (by omega), overlay_get (by omega), l2, overlay_get (by omega), l1, sizeL_get]
  by_cases c1 : a / 64 * 64 ≤ i ∧ i < a / 64 * 64 + 64 ∧ i < out.length
  · rw [if_pos c1, if_pos (show i - a / 64 * 64 < (64 : Int).toNat by show _ < 64; omega)]
    by_cases c2 : a ≤ i ∧ i < a + d.length
    · rw [if_pos (by omega), if_pos (by omega)]
      congr 1
      omega
    · rw [if_neg (by omega), if_neg (by omega), List.getD_eq_getElem?_getD, List.getElem?_drop, show a / 64 * 64 + (i - a / 64 * 64) = i by omega]
      rw [List.getElem?_eq_getElem c1.2.2]
      rfl
  · rw [if_neg c1, if_neg (by omega)]
theorem overlay_two (x b : List Int) (a n : Nat) (h : a + b.length ≤ x.length) (hn : n ≤ b.length) : overlay (overlay x a (b.take n)) (a + n) (b.drop n) = overlay x a b := by
  have l1 : (b.take n).length = n := by rw [List.length_take]; omega
  apply List.ext_getElem?
  intro i
  rw [overlay_get (by rw [overlay_length (by omega)]; omega), overlay_length (by omega), overlay_get (by omega), overlay_get (by omega), l1, List.length_drop]
  by_cases c1 : a + n ≤ i ∧ i < a + n + (b.length - n) ∧ i < x.length
  · rw [if_pos c1, if_pos (by omega), List.getElem?_drop]
    congr 1
    omega
  · rw [if_neg c1]
    by_cases c2 : a ≤ i ∧ i < a + n ∧ i < x.length
    · rw [if_pos c2, if_pos (by omega), List.getElem?_take, if_pos (by omega)]
    · rw [if_neg c2, if_neg (by omega)]
theorem puts_eq : ∀ (g : Nat) (b : List Int) (a : Nat) (out : List Int), b.length ≤ g → a + b.length ≤ out.length → (pieces a b).foldl put1 out = overlay out a b
  | 0, b, a, out, hg, _ => by
    obtain rfl := List.eq_nil_of_length_eq_zero (Nat.le_zero.1 hg)
    rw [pieces_nil, overlay_nil]
    rfl
  | g + 1, b, a, out, hg, h => by
    by_cases h0 : 0 < b.length
    · have hn : min (64 - a % 64) b.length ≤ b.length := Nat.min_le_right _ _
      have hn2 : min (64 - a % 64) b.length ≤ 64 - a % 64 := Nat.min_le_left _ _
      have hn3 : 0 < min (64 - a % 64) b.length := by omega
      obtain ⟨n, hne⟩ : ∃ n, n = min (64 - a % 64) b.length := ⟨_, rfl⟩
      rw [← hne] at hn hn2 hn3
      have lt : (b.take n).length = n := by rw [List.length_take]; omega
      rw [pieces_step a b n hne h0, List.foldl_cons, put1_eq out a (b.take n) n lt (by omega) (by omega) hn3,
        puts_eq g (b.drop n) (a + n) _ (by rw [List.length_drop]; omega) (by rw [overlay_length (by omega), List.length_drop]; omega), overlay_two out b a n h hn]
    · obtain rfl := List.eq_nil_of_length_eq_zero (Nat.eq_zero_of_not_pos h0)
      rw [pieces_nil, overlay_nil]
      rfl
theorem puts_wrL (l : List Int) (k : Nat) (x : List Int) : (pieces k x).foldl put1 (sizeL l (max l.length (k + x.length) : Nat)) = wrL l k x := by
  rw [puts_eq x.length x k _ (Nat.le_refl _) (by rw [sizeL_length]; omega)]
  rfl
theorem puts_take (P : List Pc) (z : Pc) (x : List Int) (i : Nat) (h : i < P.length) : (P.take (i + 1)).foldl put1 x = put1 ((P.take i).foldl put1 x) (P.getD i z) := by
  rw [List.take_succ_eq_append_getElem h, List.foldl_append]
  simp [List.getD_eq_getElem?_getD, h]
theorem puts_length (P : List Pc) : ∀ (x : List Int), (P.foldl put1 x).length = x.length := by
  induction P with
  | nil => intro x; rfl
  | cons p t ih => intro x; rw [List.foldl_cons, ih]; exact setL_length _ _ _
end Go.Proofs.Ytpnbjpkdbiiogaa
/- The walk of the law SectorLays: it answers true. -/
namespace Go.Proofs.Ytpnbjpkdbiiogaa
set_option linter.unusedVariables false
open Go.RowKit Go.Proofs.YtpnbjpkdbiiogaaW.PrintWords


theorem two_new (w : World) (xs ys : Array Value) (t u : TypeId) : Below w.heap.size w ((w.alloc (.cells xs t)).alloc (.cells ys u)) ∧ (∀ i v, xs[i]? = some v → ((w.alloc (.cells xs t)).alloc (.cells ys u)).cell? ⟨w.heap.size, i, none⟩ = some v) ∧ (∀ i v, ys[i]? = some v → ((w.alloc (.cells xs t)).alloc (.cells ys u)).cell? ⟨w.heap.size + 1, i, none⟩ = some v) := by
  refine ⟨below_alloc (below_alloc (Below.refl _ w) _) _, fun i v h => cell_al _ ((blk_cell (blk_new w _) i).trans h), fun i v h => ?_⟩
  have := blk_cell (blk_new (w.alloc (.cells xs t)) (.cells ys u)) i
  rw [show (w.alloc (.cells xs t)).heap.size = w.heap.size + 1 by simp] at this
  exact this.trans h

theorem C_own {ki : IntKind} {e : Nat} {w : World} {base : Nat} {ok : Nat → Prop} {A : Option Addr} {n c : Nat} {xs : List Int} (h : (Kd.int ki).R e w base ok (.slice A n c) xs) : (Kd.int ki).C w A n xs := by
  obtain ⟨rfl, _, h3⟩ := Kd.R_reads' h
  exact h3
set_option maxHeartbeats 4000000 in
set_option maxRecDepth 100000 in
theorem lays_walk (A : Option Addr) (c : Nat) (l : List Int) (n : Int) (As : Option Addr) (cs : Nat) (ls : List Int) (f : Int) (w : World) (h0 : -9223372036854775808 ≤ n) (h1 : n ≤ 9223372036854775807)
    (hr : Kd.C (Kd.int .u8) w A l.length l) (hc : l.length ≤ c) (hm : l.length ≤ 9223372036854775807) (hrs : Kd.C (Kd.int .u8) w As ls.length ls) (hcs : ls.length ≤ cs) (hms : ls.length ≤ 9223372036854775807) :
    Calls Try.prog 4 #[.slice A l.length c, .int .i64 n, .slice As ls.length cs, .int .i64 f] w fun e w' => e = .returned (.bool true) ∧ Below w.heap.size w w' := by
  have HR := Aside0.mk hr
  have HS := Aside0.mk hrs
  clear hr hrs
  by_cases b1 : 1000 < l.length
  · skip
    go_enter Try.func4, Try.ntmps4
    go_wp2_with (go_at_call 15; refine (awake05_any _).mono ?_; rintro e w1 ⟨rfl, hb⟩)
    go_ret
    exact ⟨rfl, hb⟩
  · by_cases b2 : 1000 < ls.length
    · skip
      go_enter Try.func4, Try.ntmps4
      go_wp2_with (go_at_call 15; refine (awake05_any _).mono ?_; rintro e w1 ⟨rfl, hb⟩)
      go_ret
      exact ⟨rfl, hb⟩
    · by_cases b3 : 2000 < n
      · by_cases b4 : n < 1099511627776
        · skip
          go_enter Try.func4, Try.ntmps4
          go_wp2_with (go_at_call 15; refine (awake05_any _).mono ?_; rintro e w1 ⟨rfl, hb⟩)
          go_ret
          exact ⟨rfl, hb⟩
        · go_enter Try.func4, Try.ntmps4
          go_upto_region 6 with fail
          obtain ⟨HB0, hp, hq⟩ := two_new w #[.int .i64 0, .int .i64 f, .slice As ls.length cs] #[.int .i64 0, .int .i64 f, .slice As ls.length cs] 30 31
          have p0 := hp 0 (.int .i64 0) rfl
          have p1 := hp 1 (.int .i64 f) rfl
          have p2 := hp 2 (.slice As ls.length cs) rfl
          have q0 := hq 0 (.int .i64 0) rfl
          have q1 := hq 1 (.int .i64 f) rfl
          have q2 := hq 2 (.slice As ls.length cs) rfl
          clear hp hq
          obtain ⟨W, hW⟩ : ∃ W, W = ((w.alloc (.cells #[.int .i64 0, .int .i64 f, .slice As ls.length cs] 30)).alloc (.cells #[.int .i64 0, .int .i64 f, .slice As ls.length cs] 31)) := ⟨_, rfl⟩
          rw [← hW] at HB0 p0 p1 p2 q0 q1 q2 ⊢
          clear hW
          have HB := Aside0.mk HB0
          clear HB0
          go_region_held3 (fun w' => w'.cell? ⟨w.heap.size, 0, none⟩ = some (.int .i64 0) ∧ w'.cell? ⟨w.heap.size, 1, none⟩ = some (.int .i64 f) ∧ w'.cell? ⟨w.heap.size, 2, none⟩ = some (.slice As ls.length cs) ∧ w'.cell? ⟨w.heap.size + 1, 0, none⟩ = some (.int .i64 0) ∧ w'.cell? ⟨w.heap.size + 1, 1, none⟩ = some (.int .i64 f) ∧ w'.cell? ⟨w.heap.size + 1, 2, none⟩ = some (.slice As ls.length cs)) (first | exact ⟨p0, p1, p2, q0, q1, q2⟩) (first
            | (go_at_call 23; refine (at_any A l.length c l n _ (Kd.C_drew (Kd.C_below HR.out HB.out)) hc (by omega)).mono ?_; rintro e w1 ⟨A1, c1, rfl, hc1, hv, hb⟩; have HX := Aside0.mk (C_own hv); have hbn := below_step (below_drew1 HB.out) hb; replace HB := Aside0.mk hbn; clear hbn; replace p0 := pw_cell_below hb p0; replace p1 := pw_cell_below hb p1; replace p2 := pw_cell_below hb p2; replace q0 := pw_cell_below hb q0; replace q1 := pw_cell_below hb q1; replace q2 := pw_cell_below hb q2; clear hv hb)
            | (go_at_call 24; refine (rat_any A l.length c l n _ (Kd.C_below HR.out HB.out) (by omega)).mono ?_; rintro e w1 ⟨g2, c2, rfl, hc2, _, hv, hb⟩; have HY := Aside0.mk (C_own hv); replace HX := Aside0.mk (Kd.C_below HX.out hb); have hbn := below_step (HB.out) hb; replace HB := Aside0.mk hbn; clear hbn; replace p0 := pw_cell_below hb p0; replace p1 := pw_cell_below hb p1; replace p2 := pw_cell_below hb p2; replace q0 := pw_cell_below hb q0; replace q1 := pw_cell_below hb q1; replace q2 := pw_cell_below hb q2; clear hv hb)
            | (go_at_call 25; refine (set_any A l.length c l n As ls.length cs ls _ (Kd.C_below HR.out HB.out) (by omega) (Kd.C_below HS.out HB.out) hcs (by omega)).mono ?_; rintro e w1 ⟨A1, c1, rfl, hc1, hv, hb⟩; have HX := Aside0.mk (C_own hv); have hbn := below_step (HB.out) hb; replace HB := Aside0.mk hbn; clear hbn; replace p0 := pw_cell_below hb p0; replace p1 := pw_cell_below hb p1; replace p2 := pw_cell_below hb p2; replace q0 := pw_cell_below hb q0; replace q1 := pw_cell_below hb q1; replace q2 := pw_cell_below hb q2; clear hv hb)
            | (go_at_call 26; refine (rset_any A l.length c l n As ls.length cs ls _ (Kd.C_below HR.out HB.out) (by omega) (Kd.C_below HS.out HB.out)).mono ?_; rintro e w1 ⟨A2, c2, rfl, hc2, hv, hb⟩; have HY := Aside0.mk (C_own hv); replace HX := Aside0.mk (Kd.C_below HX.out hb); have hbn := below_step (HB.out) hb; replace HB := Aside0.mk hbn; clear hbn; replace p0 := pw_cell_below hb p0; replace p1 := pw_cell_below hb p1; replace p2 := pw_cell_below hb p2; replace q0 := pw_cell_below hb q0; replace q1 := pw_cell_below hb q1; replace q2 := pw_cell_below hb q2; clear hv hb)
            | (go_at_call 27; refine (lay_any A l.length c l 0 f As ls.length cs ls _ (Kd.C_below HR.out HB.out) (Kd.C_below HS.out HB.out)).mono ?_; rintro e w1 ⟨A1, c1, rfl, hc1, hv, hb⟩; have HX := Aside0.mk (C_own hv); have hbn := below_step (HB.out) hb; replace HB := Aside0.mk hbn; clear hbn; replace p0 := pw_cell_below hb p0; replace p1 := pw_cell_below hb p1; replace p2 := pw_cell_below hb p2; replace q0 := pw_cell_below hb q0; replace q1 := pw_cell_below hb q1; replace q2 := pw_cell_below hb q2; clear hv hb)
            | (go_at_call 28; refine (rlay_any A l.length c l 0 f As ls.length cs ls _ (Kd.C_below HR.out HB.out) (by omega) (Kd.C_below HS.out HB.out) (by omega)).mono ?_; rintro e w1 ⟨A2, c2, rfl, hc2, hv, hb⟩; have HY := Aside0.mk (C_own hv); replace HX := Aside0.mk (Kd.C_below HX.out hb); have hbn := below_step (HB.out) hb; replace HB := Aside0.mk hbn; clear hbn; replace p0 := pw_cell_below hb p0; replace p1 := pw_cell_below hb p1; replace p2 := pw_cell_below hb p2; replace q0 := pw_cell_below hb q0; replace q1 := pw_cell_below hb q1; replace q2 := pw_cell_below hb q2; clear hv hb)
            | (go_at_call 20; refine (same_any _ _ _ _ _ _ _ _ HX.out HY.out).mono ?_; rintro e w1 ⟨rfl, rfl⟩; clear HX HY)
            | (go_at_call 15; refine (awake05_any _).mono ?_; rintro e w1 ⟨rfl, hb⟩; have hbn := below_step (HB.out) hb; replace HB := Aside0.mk hbn; clear hbn; replace p0 := pw_cell_below hb p0; replace p1 := pw_cell_below hb p1; replace p2 := pw_cell_below hb p2; replace q0 := pw_cell_below hb q0; replace q1 := pw_cell_below hb q1; replace q2 := pw_cell_below hb q2; clear hb))
          all_goals
            go_wp2_with fail
            go_ret
            exact ⟨rfl, HB.out⟩
      · go_enter Try.func4, Try.ntmps4
        have HT2 := Aside0.mk (two_new w #[.int .i64 0, .int .i64 f, .slice As ls.length cs] #[.int .i64 0, .int .i64 f, .slice As ls.length cs] 30 31)
        go_upto_region 6 with (first
          | (go_at_call 21; refine (size_any A l.length c l n _ (Kd.C_below HR.out HT2.out.1) (by omega) (by omega)).mono ?_; rintro e w1 ⟨A1, c1, rfl, hc1, hv, hb⟩; have hp := HT2.out.2.1; have hq := HT2.out.2.2; have p0 := pw_cell_below hb (hp 0 (.int .i64 0) rfl); have p1 := pw_cell_below hb (hp 1 (.int .i64 f) rfl); have p2 := pw_cell_below hb (hp 2 (.slice As ls.length cs) rfl); have q0 := pw_cell_below hb (hq 0 (.int .i64 0) rfl); have q1 := pw_cell_below hb (hq 1 (.int .i64 f) rfl); have q2 := pw_cell_below hb (hq 2 (.slice As ls.length cs) rfl); have HX := Aside0.mk (C_own hv); have HB := Aside0.mk (below_step HT2.out.1 hb); clear hv hb hp hq)
          | (go_at_call 22; refine (rsize_any A l.length c l n _ (Kd.C_below HR.out HB.out) (by omega) (by omega)).mono ?_; rintro e w1 ⟨A2, c2, rfl, hc2, hv, hb⟩; have HY := Aside0.mk (C_own hv); replace HX := Aside0.mk (Kd.C_below HX.out hb); have hbn := below_step (HB.out) hb; replace HB := Aside0.mk hbn; clear hbn; replace p0 := pw_cell_below hb p0; replace p1 := pw_cell_below hb p1; replace p2 := pw_cell_below hb p2; replace q0 := pw_cell_below hb q0; replace q1 := pw_cell_below hb q1; replace q2 := pw_cell_below hb q2; clear hv hb)
          | (go_at_call 20; refine (same_any _ _ _ _ _ _ _ _ HX.out HY.out).mono ?_; rintro e w1 ⟨rfl, rfl⟩; clear HX HY))
        clear HT2
        go_region_held3 (fun w' => w'.cell? ⟨w.heap.size, 0, none⟩ = some (.int .i64 0) ∧ w'.cell? ⟨w.heap.size, 1, none⟩ = some (.int .i64 f) ∧ w'.cell? ⟨w.heap.size, 2, none⟩ = some (.slice As ls.length cs) ∧ w'.cell? ⟨w.heap.size + 1, 0, none⟩ = some (.int .i64 0) ∧ w'.cell? ⟨w.heap.size + 1, 1, none⟩ = some (.int .i64 f) ∧ w'.cell? ⟨w.heap.size + 1, 2, none⟩ = some (.slice As ls.length cs)) (first | exact ⟨p0, p1, p2, q0, q1, q2⟩) (first
          | (go_at_call 23; refine (at_any A l.length c l n _ (Kd.C_drew (Kd.C_below HR.out HB.out)) hc (by omega)).mono ?_; rintro e w1 ⟨A1, c1, rfl, hc1, hv, hb⟩; have HX := Aside0.mk (C_own hv); have hbn := below_step (below_drew1 HB.out) hb; replace HB := Aside0.mk hbn; clear hbn; replace p0 := pw_cell_below hb p0; replace p1 := pw_cell_below hb p1; replace p2 := pw_cell_below hb p2; replace q0 := pw_cell_below hb q0; replace q1 := pw_cell_below hb q1; replace q2 := pw_cell_below hb q2; clear hv hb)
          | (go_at_call 24; refine (rat_any A l.length c l n _ (Kd.C_below HR.out HB.out) (by omega)).mono ?_; rintro e w1 ⟨g2, c2, rfl, hc2, _, hv, hb⟩; have HY := Aside0.mk (C_own hv); replace HX := Aside0.mk (Kd.C_below HX.out hb); have hbn := below_step (HB.out) hb; replace HB := Aside0.mk hbn; clear hbn; replace p0 := pw_cell_below hb p0; replace p1 := pw_cell_below hb p1; replace p2 := pw_cell_below hb p2; replace q0 := pw_cell_below hb q0; replace q1 := pw_cell_below hb q1; replace q2 := pw_cell_below hb q2; clear hv hb)
          | (go_at_call 25; refine (set_any A l.length c l n As ls.length cs ls _ (Kd.C_below HR.out HB.out) (by omega) (Kd.C_below HS.out HB.out) hcs (by omega)).mono ?_; rintro e w1 ⟨A1, c1, rfl, hc1, hv, hb⟩; have HX := Aside0.mk (C_own hv); have hbn := below_step (HB.out) hb; replace HB := Aside0.mk hbn; clear hbn; replace p0 := pw_cell_below hb p0; replace p1 := pw_cell_below hb p1; replace p2 := pw_cell_below hb p2; replace q0 := pw_cell_below hb q0; replace q1 := pw_cell_below hb q1; replace q2 := pw_cell_below hb q2; clear hv hb)
          | (go_at_call 26; refine (rset_any A l.length c l n As ls.length cs ls _ (Kd.C_below HR.out HB.out) (by omega) (Kd.C_below HS.out HB.out)).mono ?_; rintro e w1 ⟨A2, c2, rfl, hc2, hv, hb⟩; have HY := Aside0.mk (C_own hv); replace HX := Aside0.mk (Kd.C_below HX.out hb); have hbn := below_step (HB.out) hb; replace HB := Aside0.mk hbn; clear hbn; replace p0 := pw_cell_below hb p0; replace p1 := pw_cell_below hb p1; replace p2 := pw_cell_below hb p2; replace q0 := pw_cell_below hb q0; replace q1 := pw_cell_below hb q1; replace q2 := pw_cell_below hb q2; clear hv hb)
          | (go_at_call 27; refine (lay_any A l.length c l 0 f As ls.length cs ls _ (Kd.C_below HR.out HB.out) (Kd.C_below HS.out HB.out)).mono ?_; rintro e w1 ⟨A1, c1, rfl, hc1, hv, hb⟩; have HX := Aside0.mk (C_own hv); have hbn := below_step (HB.out) hb; replace HB := Aside0.mk hbn; clear hbn; replace p0 := pw_cell_below hb p0; replace p1 := pw_cell_below hb p1; replace p2 := pw_cell_below hb p2; replace q0 := pw_cell_below hb q0; replace q1 := pw_cell_below hb q1; replace q2 := pw_cell_below hb q2; clear hv hb)
          | (go_at_call 28; refine (rlay_any A l.length c l 0 f As ls.length cs ls _ (Kd.C_below HR.out HB.out) (by omega) (Kd.C_below HS.out HB.out) (by omega)).mono ?_; rintro e w1 ⟨A2, c2, rfl, hc2, hv, hb⟩; have HY := Aside0.mk (C_own hv); replace HX := Aside0.mk (Kd.C_below HX.out hb); have hbn := below_step (HB.out) hb; replace HB := Aside0.mk hbn; clear hbn; replace p0 := pw_cell_below hb p0; replace p1 := pw_cell_below hb p1; replace p2 := pw_cell_below hb p2; replace q0 := pw_cell_below hb q0; replace q1 := pw_cell_below hb q1; replace q2 := pw_cell_below hb q2; clear hv hb)
          | (go_at_call 20; refine (same_any _ _ _ _ _ _ _ _ HX.out HY.out).mono ?_; rintro e w1 ⟨rfl, rfl⟩; clear HX HY)
          | (go_at_call 15; refine (awake05_any _).mono ?_; rintro e w1 ⟨rfl, hb⟩; have hbn := below_step (HB.out) hb; replace HB := Aside0.mk hbn; clear hbn; replace p0 := pw_cell_below hb p0; replace p1 := pw_cell_below hb p1; replace p2 := pw_cell_below hb p2; replace q0 := pw_cell_below hb q0; replace q1 := pw_cell_below hb q1; replace q2 := pw_cell_below hb q2; clear hb))
        all_goals
          go_wp2_with fail
          go_ret
          exact ⟨rfl, HB.out⟩
end Go.Proofs.Ytpnbjpkdbiiogaa
/- Files, lists alone: what a write, another size and a crash make of a file. -/
namespace Go.Proofs.Ytpnbjpkdbiiogaa
set_option linter.unusedVariables false
open Go.RowKit Go.Proofs.YtpnbjpkdbiiogaaW.PrintWords

/-- Something that isn't safe. -/
structure FOp where
  sz : Bool
  n : Int
  d : List Int
def zOp : FOp := ⟨false, 0, []⟩
def kOp : Kd FOp := Kd.iso (Kd.pair Kd.bool (Kd.pair (Kd.int .i64) (Kd.slice 5 (Kd.int .u8)))) (fun x : FOp => (x.sz, x.n, x.d))
theorem kOp_mkM (w : World) (base : Nat) (ok : Nat → Prop) (x : FOp) {v2 : Value} (g2 : (Kd.int .u8).R 5 w base ok v2 x.d) : kOp.M w base ok x [.bool x.sz, .int .i64 x.n, v2] :=
  ⟨[.bool x.sz], [.int .i64 x.n, v2], rfl, rfl, ⟨[.int .i64 x.n], [v2], rfl, rfl, ⟨v2, rfl, g2⟩⟩⟩

/-- A piece is put. -/
def putF (s : List Int × List FOp) (p : Pc) : List Int × List FOp := (setL s.1 p.s (layL (atL s.1 p.s) p.f p.d), s.2 ++ [⟨false, p.s, layL (atL s.1 p.s) p.f p.d⟩])
/-- The file has room for a write. -/
def growF (s : List Int × List FOp) (k : Nat) (n : Nat) : List Int × List FOp := if 0 < n ∧ s.1.length < k + n then (sizeL s.1 ((k + n : Nat) : Int), s.2 ++ [⟨true, ((k + n : Nat) : Int), []⟩]) else s
def writeF (s : List Int × List FOp) (k : Nat) (b : List Int) : List Int × List FOp := (pieces k b).foldl putF (growF s k b.length)
def sizeF (s : List Int × List FOp) (n : Int) : List Int × List FOp := if n = s.1.length then s else (sizeL s.1 n, s.2 ++ [⟨true, n, []⟩])
def keepF (b : List Int) (o : FOp) : List Int := if o.sz then sizeL b o.n else setL b o.n o.d
/-- What a crash leaves, of the first i things. -/
def crashF (safe : List Int) (ops : List FOp) (keep : List Bool) : Nat → List Int
  | 0 => safe
  | i + 1 => if keep.getD i false then keepF (crashF safe ops keep i) (ops.getD i zOp) else crashF safe ops keep i

theorem lay_at (out : List Int) (a : Nat) (d : List Int) (h : a % 64 + d.length ≤ 64) (h2 : a + d.length ≤ out.length) (hpos : 0 < d.length) : layL (atL out ((a : Int) / 64)) ((a : Int) % 64) d = atL (overlay out a d) ((a : Int) / 64) := by
  have hk : 0 ≤ (a : Int) / 64 ∧ (a : Int) / 64 < cnt out.length := by
    unfold cnt
    split <;> omega
  have e64 : ((a : Int) / 64 * 64).toNat = a / 64 * 64 := by omega
  have lo : (overlay out a d).length = out.length := overlay_length (by omega)
  have e2 : atL out ((a : Int) / 64) = sizeL (out.drop (a / 64 * 64)) 64 := by
    unfold atL
    rw [if_pos hk, e64]
  have e4 : atL (overlay out a d) ((a : Int) / 64) = sizeL ((overlay out a d).drop (a / 64 * 64)) 64 := by
    unfold atL
    rw [if_pos (by rw [lo]; exact hk), e64]
  have e3 : layL (atL out ((a : Int) / 64)) ((a : Int) % 64) d = overlay (sizeL (out.drop (a / 64 * 64)) 64) (a % 64) d := by
    unfold layL
    rw [if_pos (by omega), sizeL_own _ _ (by rw [atL_length]; rfl), e2, show ((a : Int) % 64).toNat = a % 64 by omega]
  rw [e3, e4]
  have l1 : (sizeL (out.drop (a / 64 * 64)) 64).length = 64 := sizeL_length _ _
  apply List.ext_getElem?
  intro i
  rw [overlay_get (by omega), l1, sizeL_get, sizeL_get]
  by_cases c0 : i < (64 : Int).toNat
  · rw [if_pos c0, if_pos c0, List.getD_eq_getElem?_getD, List.getElem?_drop, List.getD_eq_getElem?_getD, List.getElem?_drop, overlay_get (by omega)]
    have c0' : i < 64 := c0
    by_cases c2 : a % 64 ≤ i ∧ i < a % 64 + d.length
    · rw [if_pos (by omega), if_pos (by omega), show a / 64 * 64 + i - a = i - a % 64 by omega, List.getElem?_eq_getElem (by omega)]
      rfl
    · rw [if_neg (by omega), if_neg (by omega)]
  · have c0' : ¬ i < 64 := c0
    rw [if_neg c0, if_neg c0, if_neg (by omega)]
theorem putF_at (now : List Int) (ops : List FOp) (a : Nat) (d : List Int) (h : a % 64 + d.length ≤ 64) (h2 : a + d.length ≤ now.length) (hpos : 0 < d.length) : putF (now, ops) ⟨(a : Int) / 64, (a : Int) % 64, d⟩ = (overlay now a d, ops ++ [⟨false, (a : Int) / 64, atL (overlay now a d) ((a : Int) / 64)⟩]) := by
  have h1 := put1_eq now a d d.length rfl h h2 hpos
  have h3 := lay_at now a d h h2 hpos
  unfold put1 at h1
  show (setL now ((a : Int) / 64) (layL (atL now ((a : Int) / 64)) ((a : Int) % 64) d), ops ++ [⟨false, (a : Int) / 64, layL (atL now ((a : Int) / 64)) ((a : Int) % 64) d⟩]) = _
  rw [h3] at h1 ⊢
  rw [h1]
end Go.Proofs.Ytpnbjpkdbiiogaa
/- Files: New, Len, Pending, Read; another size; Sync. -/
namespace Go.Proofs.Ytpnbjpkdbiiogaa
set_option linter.unusedVariables false
open Go.RowKit Go.Proofs.YtpnbjpkdbiiogaaW.PrintWords
attribute [local go_sem] mx2 mn2 mxTwo mnTwo

theorem infoOp : (Try.prog.info? 141).map (fun i => (i.zero, i.size, i.bytes)) = some (some (.agg #[(.bool false), (.int .i64 0), (.slice none 0 0)]), 3, 40) := by kernel_rfl
/-- A file in memory: x: which blocks its rows may be. -/
structure FI (W : World) (b g : Nat) (x : Nat → Prop) (vn vs vo : Value) (now safe : List Int) (ops : List FOp) : Prop where
  hb : W.heap[g]? = some (.cells #[vn, vs, vo] 137 (0, 0))
  hn : Kd.R (Kd.int .u8) 5 W b x vn now
  hs : Kd.R (Kd.int .u8) 5 W b x vs safe
  ho : Kd.R kOp 141 W b x vo ops
  hg : b ≤ g
theorem FI.below {W W1 : World} {b g : Nat} {x : Nat → Prop} {vn vs vo : Value} {now safe : List Int} {ops : List FOp} (h : FI W b g x vn vs vo now safe ops) (hb : Below W.heap.size W W1) : FI W1 b g x vn vs vo now safe ops :=
  ⟨blk_below h.hb hb, Kd.R_below h.hn hb, Kd.R_below h.hs hb, Kd.R_below h.ho hb, h.hg⟩
theorem u8E (t : Nat) (ht : 5 ≠ t) : ∀ q, q ∈ 5 :: (Kd.int .u8).E → q ≠ t := by
  intro q hq
  have : (Kd.int .u8).E = [] := rfl
  rw [this] at hq
  simp at hq
  omega
theorem opE (t : Nat) (h1 : 141 ≠ t) (ht : 5 ≠ t) : ∀ q, q ∈ 141 :: kOp.E → q ≠ t := by
  intro q hq
  have : kOp.E = [5] := rfl
  rw [this] at hq
  simp at hq
  omega
theorem fnew_any (b : Nat) (x : Nat → Prop) (w : World) (hb : b ≤ w.heap.size) : Calls Try.prog 30 #[] w fun e w' => e = .returned (.pointer (some ⟨w.heap.size, 0, none⟩)) ∧ FI w' b w.heap.size x (.slice none 0 0) (.slice none 0 0) (.slice none 0 0) [] [] [] ∧ Below w.heap.size w w' := by
  go_enter Try.func30, Try.ntmps30
  go_wp2
  go_ret
  exact ⟨rfl, ⟨blk_new _ _, Kd.R_nil _ _ _ _ _, Kd.R_nil _ _ _ _ _, Kd.R_nil _ _ _ _ _, hb⟩, below_alloc (Below.refl _ _) _⟩
theorem flen_any (b g : Nat) (x : Nat → Prop) (vn vs vo : Value) (now safe : List Int) (ops : List FOp) (w : World) (h : FI w b g x vn vs vo now safe ops) : Calls Try.prog 40 #[.pointer (some ⟨g, 0, none⟩)] w fun e w' => e = .returned (.int .i64 (now.length : Int)) ∧ w' = w := by
  obtain ⟨A, c, rfl⟩ := Kd.R_slice h.hn
  have hc0 := (blk_cell h.hb 0).trans (rfl : _ = some (Value.slice A now.length c))
  clear h
  go_enter Try.func40, Try.ntmps40
  go_wp2
  go_ret
  exact ⟨rfl, rfl⟩
theorem fpending_any (b g : Nat) (x : Nat → Prop) (vn vs vo : Value) (now safe : List Int) (ops : List FOp) (w : World) (h : FI w b g x vn vs vo now safe ops) : Calls Try.prog 35 #[.pointer (some ⟨g, 0, none⟩)] w fun e w' => e = .returned (.int .i64 (ops.length : Int)) ∧ w' = w := by
  obtain ⟨A, c, rfl⟩ := Kd.R_slice h.ho
  have hc0 := (blk_cell h.hb 2).trans (rfl : _ = some (Value.slice A ops.length c))
  clear h
  go_enter Try.func35, Try.ntmps35
  go_wp2
  go_ret
  exact ⟨rfl, rfl⟩
theorem flen_nil (w : World) : Calls Try.prog 40 #[.pointer none] w fun e w' => e = .returned (.int .i64 0) ∧ w' = w := by
  go_enter Try.func40, Try.ntmps40
  go_wp2
  go_ret
  exact ⟨rfl, rfl⟩
theorem fpending_nil (w : World) : Calls Try.prog 35 #[.pointer none] w fun e w' => e = .returned (.int .i64 0) ∧ w' = w := by
  go_enter Try.func35, Try.ntmps35
  go_wp2
  go_ret
  exact ⟨rfl, rfl⟩
theorem farU {W : World} {b g i : Nat} {x : Nat → Prop} {v : Value} {xs : List Int} {cs : Array Value} (h : Kd.R (Kd.int .u8) 5 W b x v xs) (hb : W.heap[g]? = some (.cells cs 137 (0, 0))) (u : Value) : Kd.R (Kd.int .u8) 5 (W.setCell ⟨g, i, none⟩ u) b x v xs :=
  Kd.R_mono (Kd.R_far (Kd.R_types h hb (u8E _ (by omega))) (p := ⟨g, i, none⟩) (fun k hk => hk.2) u) (fun k hk => hk.1)
theorem farO {W : World} {b g i : Nat} {x : Nat → Prop} {v : Value} {xs : List FOp} {cs : Array Value} (h : Kd.R kOp 141 W b x v xs) (hb : W.heap[g]? = some (.cells cs 137 (0, 0))) (u : Value) : Kd.R kOp 141 (W.setCell ⟨g, i, none⟩ u) b x v xs :=
  Kd.R_mono (Kd.R_far (Kd.R_types h hb (opE _ (by omega) (by omega))) (p := ⟨g, i, none⟩) (fun k hk => hk.2) u) (fun k hk => hk.1)
/-- A fresh row of numbers, at an elder base, its blocks as wanted. -/
theorem freshU {W : World} {b c : Nat} {x : Nat → Prop} {v : Value} {xs : List Int} (h : Kd.R (Kd.int .u8) 5 W c (fun _ => True) v xs) (hb : b ≤ c) (hx : ∀ k, c ≤ k → x k) : Kd.R (Kd.int .u8) 5 W b x v xs :=
  Kd.R_lower (Kd.R_mono (Kd.R_bound h) (fun k hk => hx k hk.2.1)) hb
/-- Sync. -/
theorem fsync_any (b g : Nat) (x : Nat → Prop) (vn vs vo : Value) (now safe : List Int) (ops : List FOp) (w : World) (h : FI w b g x vn vs vo now safe ops) (hx : ∀ k, w.heap.size ≤ k → x k) (hl : now.length ≤ 1099511627776) : Calls Try.prog 38 #[.pointer (some ⟨g, 0, none⟩)] w fun e w' => e = .returned (.tuple #[]) ∧ (∃ vs', FI w' b g x vn vs' (.slice none 0 0) now now []) ∧ KeepBut w w' g none ∧ Below b w w' := by
  obtain ⟨A, c, rfl, hc, hC⟩ := Kd.R_reads h.hn
  have H := Aside0.mk h
  have HC := Aside0.mk hC
  have hc0 := (blk_cell h.hb 0).trans (rfl : _ = some (Value.slice A now.length c))
  clear h hC
  go_enter Try.func38, Try.ntmps38
  go_wp2_with (go_at_call 86; refine (clone_bytes A now.length c now _ HC.out (by omega)).mono ?_; rintro e w1 ⟨A1, c1, rfl, hc1, hv, hb1⟩; have hbk := blk_below H.out.hb hb1; have k1 := (blk_cell hbk 1).trans (rfl : _ = some vs); have k2 := (blk_cell hbk 2).trans (rfl : _ = some vo); have f1 := blk_frozen hbk 1; have f2 := blk_frozen hbk 2; have HV := Aside0.mk hv; have HB := Aside0.mk hb1; have HK := Aside0.mk hbk; clear hv hb1 hbk)
  first | go_end0 | ((try simp only [Exit.inBlock, Exit.then]); refine bodyPost_ret (results_none rfl _ _ _) rfl ?_)
  have hb1 := blk_put HK.out 1 (.slice A1 now.length c1) rfl
  have hbw : b ≤ w.heap.size := Nat.le_trans H.out.hg (Nat.le_of_lt (blk_lt H.out.hb))
  exact ⟨rfl, ⟨_, blk_put hb1 2 _ rfl, farU (farU (Kd.R_below H.out.hn HB.out) HK.out _) hb1 _, farU (farU (freshU HV.out hbw hx) HK.out _) hb1 _, Kd.R_nil _ _ _ _ _, H.out.hg⟩, ((KeepBut.of_below HB.out g none).set_ 1 _).set_ 2 _, ((HB.out.mono hbw).setCell (p := ⟨g, 1, none⟩) H.out.hg _).setCell (p := ⟨g, 2, none⟩) H.out.hg _⟩
theorem growU {W W1 : World} {b : Nat} {x x' : Nat → Prop} {v vo : Value} {xs : List Int} {ops : List FOp} (h : Kd.R (Kd.int .u8) 5 W b x v xs) (ho : Kd.R kOp 141 W b x' vo ops) (hg : W.grownBy W1 vo.ownBlock) : Kd.R (Kd.int .u8) 5 W1 b x v xs :=
  Kd.R_mono (Kd.R_grown (Kd.R_apartR h ho (u8E _ (by omega))) hg (fun k hk => hk.2)) (fun k hk => hk.1)
theorem setsz (w : World) (p : Addr) (v : Value) : (w.setCell p v).heap.size = w.heap.size := by simp
/-- Another size, whatever it is. -/
theorem fresize_any (b g : Nat) (x : Nat → Prop) (vn vs vo : Value) (now safe : List Int) (ops : List FOp) (n : Nat) (w : World) (h : FI w b g x vn vs vo now safe ops) (hx : ∀ k, w.heap.size ≤ k → x k) (hl : now.length ≤ 1099511627776) (hn : n ≤ 1099511627776) (ho : ops.length ≤ 1000000) : Calls Try.prog 93 #[.pointer (some ⟨g, 0, none⟩), .int .i64 (n : Int)] w fun e w' => e = .returned (.tuple #[]) ∧ (∃ vn' vo', FI w' b g x vn' vs vo' (sizeL now n) safe (ops ++ [⟨true, n, []⟩]) ∧ (vo'.ownBlock = vo.ownBlock ∨ ∃ k, vo'.ownBlock = some k ∧ w.heap.size ≤ k)) ∧ KeepBut w w' g vo.ownBlock ∧ Below b w w' := by
  obtain ⟨A, c, rfl, hc, hC⟩ := Kd.R_reads h.hn
  obtain ⟨A2, c2, rfl⟩ := Kd.R_slice h.ho
  have hbw : b ≤ w.heap.size := Nat.le_trans h.hg (Nat.le_of_lt (blk_lt h.hb))
  have H := Aside0.mk h
  have HC := Aside0.mk hC
  have hc0 := (blk_cell h.hb 0).trans (rfl : _ = some (Value.slice A now.length c))
  clear h hC
  go_enter Try.func93, Try.ntmps93
  go_wp2_with (first
    | (go_at_call 21; refine (size_any A now.length c now (n : Int) _ HC.out (by omega) (by omega)).mono ?_; rintro e w1 ⟨A1, c1, rfl, hc1, hv, hb1⟩; rw [Int.toNat_natCast] at hc1 hv; have hbk := blk_below H.out.hb hb1; have k0 := (blk_cell hbk 0).trans (rfl : _ = some (Value.slice A now.length c)); have k2 := (blk_cell hbk 2).trans (rfl : _ = some (Value.slice A2 ops.length c2)); have f0 := blk_frozen hbk 0; have f2 := blk_frozen hbk 2; have HV := Aside0.mk hv; have HB := Aside0.mk hb1; have HK := Aside0.mk hbk; clear hv hb1 hbk)
    | (at_builtin; refine Kd.R_append kOp (w0 := _) b rfl (.tmp 17) (.tmp 20) 135 141 (.agg #[(.bool false), (.int .i64 0), (.slice none 0 0)]) 40 rfl Try.underlying135 infoOp rfl (by decide) (by omega) (.slice A2 ops.length c2) ops ⟨true, (n : Int), []⟩ [.bool true, .int .i64 (n : Int), .slice none 0 0] x (fun _ => False) rfl (congrArg (fun s => Value.slice (some ⟨s, 0, none⟩) 1 1) (setsz w1 ⟨g, 0, none⟩ (.slice A1 n c1)).symm) (kOp_mkM _ _ _ ⟨true, (n : Int), []⟩ (Kd.R_nil _ _ _ _ _)) (fun _ h => h.elim) (fun k hk => hx k (Nat.le_trans HB.out.size (by simpa using hk))) (farO (Kd.R_below H.out.ho HB.out) HK.out _) (Below.refl _ _) (Nat.le_trans hbw (by simpa using HB.out.size)) (by omega) ?_; intro v2 w2 ho2 hbl2 hgr2 hat2; obtain ⟨g2, c3, e3, _, _, _⟩ := Kd.R_form ho2 (by simp); rw [List.length_append, List.length_singleton] at e3; subst e3; have hb0 := blk_put HK.out 0 (.slice A1 n c1) rfl; have hb2 := blk_grown hb0 hgr2 (Kd.R_ne (farO (i := 0) (Kd.R_below H.out.ho HB.out) HK.out (.slice A1 n c1)) hb0 (by omega)); have k2' := (blk_cell hb2 2).trans (rfl : _ = some (Value.slice A2 ops.length c2)); have f2' := blk_frozen hb2 2; have HB0 := Aside0.mk hb0; have HB2 := Aside0.mk hb2; have HO2 := Aside0.mk ho2; have HBL := Aside0.mk hbl2; have HGR := Aside0.mk hgr2; have HAT := Aside0.mk hat2; clear hb0 hb2 ho2 hbl2 hgr2 hat2))
  first | go_end0 | ((try simp only [Exit.inBlock, Exit.then]); refine bodyPost_ret (results_none rfl _ _ _) rfl ?_)
  have ho1 := farO (i := 0) (Kd.R_below H.out.ho HB.out) HK.out (.slice A1 n c1)
  exact ⟨rfl, ⟨_, _, ⟨blk_put HB2.out 2 _ rfl, farU (growU (farU (freshU HV.out hbw hx) HK.out _) ho1 HGR.out) HB2.out _, farU (growU (farU (Kd.R_below H.out.hs HB.out) HK.out _) ho1 HGR.out) HB2.out _, farO HO2.out HB2.out _, H.out.hg⟩, by
      rcases HAT.out with e | ⟨k, e, hk⟩
      · exact .inl e
      · exact .inr ⟨k, e, Nat.le_trans HB.out.size (by simpa using hk)⟩⟩,
    (((KeepBut.of_below HB.out g _).set_ 0 _).trans (KeepBut.of_grown HGR.out g) (.inl rfl)).set_ 2 _, ((((HB.out.mono hbw).setCell (p := ⟨g, 0, none⟩) H.out.hg _).trans HBL.out).setCell (p := ⟨g, 2, none⟩) H.out.hg _)⟩
end Go.Proofs.Ytpnbjpkdbiiogaa
/- Files: Truncate, Read. -/
namespace Go.Proofs.Ytpnbjpkdbiiogaa
set_option linter.unusedVariables false
open Go.RowKit Go.Proofs.YtpnbjpkdbiiogaaW.PrintWords
attribute [local go_sem] mx2 mn2 mxTwo mnTwo

theorem ftrunc_nil (n : Int) (w : World) : Calls Try.prog 42 #[.pointer none, .int .i64 n] w fun e w' => e = .returned (.int .i64 3) ∧ w' = w := by
  go_enter Try.func42, Try.ntmps42
  go_wp2
  go_ret
  exact ⟨rfl, rfl⟩
theorem ftrunc_bad (g : Nat) (n : Int) (w : World) (hn : n < 0 ∨ 0 ≤ n ∧ 1048576 < n) : Calls Try.prog 42 #[.pointer (some ⟨g, 0, none⟩), .int .i64 n] w fun e w' => e = .returned (.int .i64 1) ∧ w' = w := by
  rcases hn with hn | ⟨hn, hn2⟩
  · go_enter Try.func42, Try.ntmps42
    go_wp2
    go_ret
    exact ⟨rfl, rfl⟩
  · go_enter Try.func42, Try.ntmps42
    go_wp2
    go_ret
    exact ⟨rfl, rfl⟩
theorem ftrunc_any (b g : Nat) (x : Nat → Prop) (vn vs vo : Value) (now safe : List Int) (ops : List FOp) (n : Nat) (w : World) (h : FI w b g x vn vs vo now safe ops) (hx : ∀ k, w.heap.size ≤ k → x k) (hl : now.length ≤ 1099511627776) (hn : n ≤ 1048576) (ho : ops.length ≤ 1000000) : Calls Try.prog 42 #[.pointer (some ⟨g, 0, none⟩), .int .i64 (n : Int)] w fun e w' => e = .returned (.int .i64 0) ∧ (∃ vn' vo', FI w' b g x vn' vs vo' (sizeF (now, ops) n).1 safe (sizeF (now, ops) n).2 ∧ (vo'.ownBlock = vo.ownBlock ∨ ∃ k, vo'.ownBlock = some k ∧ w.heap.size ≤ k)) ∧ KeepBut w w' g vo.ownBlock ∧ Below b w w' := by
  obtain ⟨A, c, hvn⟩ := Kd.R_slice h.hn
  have hc0 := (blk_cell h.hb 0).trans (rfl : _ = some vn)
  rw [hvn] at hc0
  have H := Aside0.mk h
  clear h hvn
  by_cases he : (n : Int) = (now.length : Int)
  · have e : sizeF (now, ops) (n : Int) = (now, ops) := by unfold sizeF; rw [if_pos he]
    have hn2 : n = now.length := by omega
    subst hn2
    rw [e]
    clear he e
    go_enter Try.func42, Try.ntmps42
    go_wp2
    go_ret
    exact ⟨rfl, ⟨_, _, H.out, .inl rfl⟩, KeepBut.refl _ _ _, Below.refl _ _⟩
  · have e : sizeF (now, ops) (n : Int) = (sizeL now (n : Int), ops ++ [⟨true, (n : Int), []⟩]) := by unfold sizeF; rw [if_neg he]
    have q : (n == now.length) = false := beq_eq_false_iff_ne.mpr (by omega)
    have q2 : ((n : Int) == (now.length : Int)) = false := beq_eq_false_iff_ne.mpr he
    rw [e]
    clear e
    go_enter Try.func42, Try.ntmps42
    go_wp2_with (go_at_call 93; refine (fresize_any b g x vn vs vo now safe ops n _ H.out hx hl (by omega) ho).mono ?_; rintro e w1 ⟨rfl, hf, hk, hb⟩; have HF := Aside0.mk hf; have HK := Aside0.mk hk; have HB := Aside0.mk hb; clear hf hk hb)
    go_ret
    exact ⟨rfl, HF.out, HK.out, HB.out⟩
/-- A cut of a row: its address under a letter. -/
theorem cut_midC {α : Type} {P : Program} (d : Kd α) (t e : TypeId) (kl kh : IntKind) {i : TypeInfo} (ht : P.underlying t = some (.slice e)) (hi : P.info? e = some i) (hsz : i.size = d.sz) (A : Option Addr) (n c lo up : Nat) (h1 : lo ≤ up) (h2 : up ≤ n) (hc : n ≤ c) :
    ∃ A3, (∀ W : World, (Instr.slice t (.slice A n c) (some (.int kl (lo : Int))) (some (.int kh (up : Int))) none).run P W = .ok (.slice A3 (up - lo) (c - lo)) W) ∧ ∀ (w : World) (xs : List α), d.C w A n xs → d.C w A3 (up - lo) ((xs.take up).drop lo) := by
  refine ⟨if c = lo then A else A.map (·.add (lo * d.sz)), fun W => ?_, fun w xs h => ?_⟩
  · have h := cut_mid (P := P) t e kl kh ht hi d.sz hsz A n c (lo : Int) (up : Int) (by omega) (by omega) (by omega) hc W
    simpa using h
  · obtain rfl : xs.length = n := h.1
    have h3 := C_takeN h up h2
    have hl : (xs.take up).length = up := by rw [List.length_take]; omega
    have h4 : d.C w A (xs.take up).length (xs.take up) := by rw [hl]; exact h3
    have h5 := Kd.C_drop (c := c) h4 (m := lo) (by omega) (by omega)
    rwa [List.length_drop, hl] at h5


/-- What is read. -/
def readL (now : List Int) (k n : Int) : List Int := if k < 0 ∨ (now.length : Int) ≤ k ∨ n ≤ 0 then [] else (now.drop k.toNat).take n.toNat
theorem fread_nil (k n : Int) (w : World) : Calls Try.prog 37 #[.pointer none, .int .i64 k, .int .i64 n] w fun e w' => e = .returned (.slice none 0 0) ∧ w' = w := by
  go_enter Try.func37, Try.ntmps37
  go_wp2
  go_ret
  exact ⟨rfl, rfl⟩
set_option maxHeartbeats 1000000 in
set_option maxRecDepth 100000 in
theorem fread_any (b g : Nat) (x : Nat → Prop) (vn vs vo : Value) (now safe : List Int) (ops : List FOp) (k n : Int) (w : World) (h : FI w b g x vn vs vo now safe ops) (hl : now.length ≤ 1099511627776) : Calls Try.prog 37 #[.pointer (some ⟨g, 0, none⟩), .int .i64 k, .int .i64 n] w fun e w' => ∃ A' c', e = .returned (.slice A' (readL now k n).length c') ∧ Kd.C (Kd.int .u8) w' A' (readL now k n).length (readL now k n) ∧ Below w.heap.size w w' := by
  obtain ⟨A, c, rfl, hc, hC⟩ := Kd.R_reads h.hn
  have HC := Aside0.mk hC
  have hc0 := (blk_cell h.hb 0).trans (rfl : _ = some (Value.slice A now.length c))
  clear h hC
  obtain ⟨i0, hi0, _, hz1, _⟩ := info_parts infoU8
  by_cases h1 : k < 0
  · skip
    have HE := Aside0.mk (show readL now k n = [] by unfold readL; rw [if_pos (by omega)])
    rw [HE.out]
    go_enter Try.func37, Try.ntmps37
    go_wp2
    go_ret
    have hC0 : Kd.C (Kd.int .u8) w none 0 [] := ⟨rfl, Nat.zero_le _, fun h => absurd h (by simp)⟩
    first | exact ⟨none, 0, rfl, hC0, Below.refl _ _⟩ | exact ⟨none, ⟨0, rfl⟩, hC0, Below.refl _ _⟩
  · by_cases h2 : (now.length : Int) ≤ k
    · skip
      have HE := Aside0.mk (show readL now k n = [] by unfold readL; rw [if_pos (by omega)])
      rw [HE.out]
      go_enter Try.func37, Try.ntmps37
      go_wp2
      go_ret
      have hC0 : Kd.C (Kd.int .u8) w none 0 [] := ⟨rfl, Nat.zero_le _, fun h => absurd h (by simp)⟩
      first | exact ⟨none, 0, rfl, hC0, Below.refl _ _⟩ | exact ⟨none, ⟨0, rfl⟩, hC0, Below.refl _ _⟩
    · by_cases h3 : n ≤ 0
      · skip
        have HE := Aside0.mk (show readL now k n = [] by unfold readL; rw [if_pos (by omega)])
        rw [HE.out]
        go_enter Try.func37, Try.ntmps37
        go_wp2
        go_ret
        have hC0 : Kd.C (Kd.int .u8) w none 0 [] := ⟨rfl, Nat.zero_le _, fun h => absurd h (by simp)⟩
        first | exact ⟨none, 0, rfl, hC0, Below.refl _ _⟩ | exact ⟨none, ⟨0, rfl⟩, hC0, Below.refl _ _⟩
      · obtain ⟨q, rfl⟩ := Int.eq_ofNat_of_zero_le (show 0 ≤ k by omega)
        obtain ⟨m, hm⟩ : ∃ m : Nat, m = (if (now.length : Int) - (q : Int) < n then (now.length : Int) - (q : Int) else n).toNat := ⟨_, rfl⟩
        have hm1 : (if (now.length : Int) - (q : Int) < n then (now.length : Int) - (q : Int) else n) = (m : Int) := by rw [hm]; split <;> omega
        have hm2 : q + m ≤ now.length := by split at hm <;> omega
        obtain ⟨u, hu⟩ : ∃ u, u = q + m := ⟨_, rfl⟩
        have hw1 : IntKind.i64.wrap ((now.length : Int) - (q : Int)) = (now.length : Int) - (q : Int) := by rw [IntKind.wrap_i64]; omega
        have hw2 : IntKind.i64.wrap ((q : Int) + (m : Int)) = (u : Int) := by rw [IntKind.wrap_i64]; omega
        have hm3 : (if (u : Int) < (now.length : Int) then (u : Int) else (now.length : Int)) = (u : Int) := by split <;> omega
        have hm4 : (if u < now.length then (u : Int) else (now.length : Int)) = (u : Int) := by split <;> omega
        obtain ⟨A3, hcut, hA3⟩ := cut_midC (P := Try.prog) (Kd.int .u8) 22 5 .i64 .i64 Try.underlying22 hi0 hz1 A now.length c q u (by omega) (by omega) hc
        have hE : (now.take u).drop q = readL now (q : Int) n := by
          unfold readL
          rw [if_neg (by omega), Int.toNat_natCast, hu, List.drop_take, show q + m - q = m by omega]
          by_cases hb : (now.length : Int) - (q : Int) < n
          · rw [if_pos hb] at hm
            rw [List.take_of_length_le (by rw [List.length_drop]; omega), List.take_of_length_le (by rw [List.length_drop]; omega)]
          · rw [if_neg hb] at hm
            rw [hm]
        have hC3 := hA3 _ _ HC.out
        rw [hE] at hC3
        have HC3 := Aside0.mk hC3
        have HL := Aside0.mk hC3.1
        have hun : u - q ≤ 1099511627776 := by omega
        clear hA3 hC3 hE hm hu hm2
        go_enter Try.func37, Try.ntmps37
        go_wp2_with fail
        go_region_held3 (fun w' => w'.cell? ⟨g, 0, none⟩ = some (.slice A now.length c)) (first | with_reducible exact hc0 | exact hc0) (first
          | (go_at_call 86; refine (clone_bytes A3 (u - q) (c - q) (readL now (q : Int) n) _ (Kd.C_drew HC3.out) (by omega)).mono ?_; rintro e w1 ⟨A1, c1, rfl, hc1, hv, hb1⟩; replace hc0 := pw_cell_below hb1 hc0; have HV := Aside0.mk hv; have HB := Aside0.mk hb1; clear hv hb1))
        all_goals
          go_wp2_with fail
          go_ret
          have hC9 := C_own HV.out
          rw [HL.out]
          have hB9 := below_step (below_drew1 (Below.refl w.heap.size w)) HB.out
          first | exact ⟨_, _, rfl, hC9, hB9⟩ | exact ⟨_, ⟨_, rfl⟩, hC9, hB9⟩
end Go.Proofs.Ytpnbjpkdbiiogaa
/- Files: Write. -/
namespace Go.Proofs.Ytpnbjpkdbiiogaa
set_option linter.unusedVariables false
open Go.RowKit Go.Proofs.YtpnbjpkdbiiogaaW.PrintWords
attribute [local go_sem] mx2 mn2 mxTwo mnTwo

section
variable {W W1 : World} {b g : Nat} {x : Nat → Prop} {vn vs vo v1 : Value} {now safe now1 : List Int} {ops : List FOp} {o : FOp}
theorem FI.setNow (h : FI W b g x vn vs vo now safe ops) (hb : Below W.heap.size W W1) (hv : Kd.R (Kd.int .u8) 5 W1 b x v1 now1) : FI (W1.setCell ⟨g, 0, none⟩ v1) b g x v1 vs vo now1 safe ops := by
  have h1 := h.below hb
  exact ⟨blk_put h1.hb 0 _ rfl, farU hv h1.hb _, farU h1.hs h1.hb _, farO h1.ho h1.hb _, h.hg⟩
theorem FI.addOp (h : FI W b g x vn vs vo now safe ops) (ho : Kd.R kOp 141 W1 b x v1 (ops ++ [o])) (hg : W.grownBy W1 vo.ownBlock) : FI (W1.setCell ⟨g, 2, none⟩ v1) b g x vn vs v1 now safe (ops ++ [o]) := by
  have hb := blk_grown h.hb hg (Kd.R_ne h.ho h.hb (by omega))
  exact ⟨blk_put hb 2 _ rfl, farU (growU h.hn h.ho hg) hb _, farU (growU h.hs h.ho hg) hb _, farO ho hb _, h.hg⟩
theorem FI.drew (h : FI W b g x vn vs vo now safe ops) : FI W.drew b g x vn vs vo now safe ops := h.below (below_drew1 (Below.refl _ _))
end
theorem fwrite_nil (k : Int) (A : Option Addr) (n c : Nat) (w : World) : Calls Try.prog 41 #[.pointer none, .int .i64 k, .slice A n c] w fun e w' => e = .returned (.int .i64 3) ∧ w' = w := by
  go_enter Try.func41, Try.ntmps41
  go_wp2
  go_ret
  exact ⟨rfl, rfl⟩
theorem fwrite_bad (g : Nat) (k : Int) (A : Option Addr) (n c : Nat) (w : World) (hn : n ≤ 9223372036854775807) (hk : k < 0 ∨ 0 ≤ k ∧ 1048576 < k ∨ 0 ≤ k ∧ k ≤ 1048576 ∧ 1048576 - k < n) : Calls Try.prog 41 #[.pointer (some ⟨g, 0, none⟩), .int .i64 k, .slice A n c] w fun e w' => e = .returned (.int .i64 1) ∧ w' = w := by
  rcases hk with hk | ⟨hk, hk2⟩ | ⟨hk, hk2, hk3⟩
  · go_enter Try.func41, Try.ntmps41
    go_wp2
    go_ret
    exact ⟨rfl, rfl⟩
  · go_enter Try.func41, Try.ntmps41
    go_wp2
    go_ret
    exact ⟨rfl, rfl⟩
  · go_enter Try.func41, Try.ntmps41
    go_wp2
    go_ret
    exact ⟨rfl, rfl⟩
theorem kPcE (t : Nat) (h1 : 30 ≠ t) (ht : 5 ≠ t) : ∀ q, q ∈ 30 :: kPc.E → q ≠ t := by
  intro q hq
  have : kPc.E = [5] := rfl
  rw [this] at hq
  simp at hq
  omega
/-- What holds while the pieces are put. -/
structure FW (w : World) (b g : Nat) (x : Nat → Prop) (v0 : Value) (vP : Value) (P : List Pc) (W : World) (vn vs vo : Value) (now safe : List Int) (ops : List FOp) : Prop where
  f : FI W b g x vn vs vo now safe ops
  p : Kd.R kPc 30 W b (fun _ => True) vP P
  k : KeepBut w W g v0.ownBlock
  v : vo.ownBlock = v0.ownBlock ∨ ∃ k, vo.ownBlock = some k ∧ w.heap.size ≤ k
  l : Below b w W
section
variable {w W W1 : World} {b g : Nat} {x : Nat → Prop} {v0 vP vn vs vo v1 : Value} {P : List Pc} {now safe now1 : List Int} {ops : List FOp} {o : FOp}
theorem FW.below (h : FW w b g x v0 vP P W vn vs vo now safe ops) (hb : Below W.heap.size W W1) : FW w b g x v0 vP P W1 vn vs vo now safe ops :=
  ⟨h.f.below hb, Kd.R_below h.p hb, ⟨Nat.le_trans h.k.1 hb.size, fun i hi hg hn => (hb.block i (Nat.lt_of_lt_of_le hi h.k.1)).trans (h.k.2 i hi hg hn)⟩, h.v, h.l.trans (hb.mono (Nat.le_trans h.f.hg (Nat.le_of_lt (blk_lt h.f.hb))))⟩
theorem FW.setNow (h : FW w b g x v0 vP P W vn vs vo now safe ops) (hv : Kd.R (Kd.int .u8) 5 W b x v1 now1) : FW w b g x v0 vP P (W.setCell ⟨g, 0, none⟩ v1) v1 vs vo now1 safe ops :=
  ⟨h.f.setNow (Below.refl _ _) hv, Kd.R_mono (Kd.R_far (Kd.R_types h.p h.f.hb (kPcE _ (by omega) (by omega))) (p := ⟨g, 0, none⟩) (fun k hk => hk.2) _) (fun k hk => hk.1), h.k.set_ 0 _, h.v, h.l.setCell (p := ⟨g, 0, none⟩) h.f.hg _⟩
theorem FW.addOp (h : FW w b g x v0 vP P W vn vs vo now safe ops) (ho : Kd.R kOp 141 W1 b x v1 (ops ++ [o])) (hg : W.grownBy W1 vo.ownBlock) (hl : Below b W W1) (hat : v1.ownBlock = vo.ownBlock ∨ ∃ k, v1.ownBlock = some k ∧ W.heap.size ≤ k) : FW w b g x v0 vP P (W1.setCell ⟨g, 2, none⟩ v1) vn vs v1 now safe (ops ++ [o]) := by
  refine ⟨h.f.addOp ho hg, ?_, (h.k.trans (KeepBut.of_grown hg g) h.v).set_ 2 _, ?_, (h.l.trans hl).setCell (p := ⟨g, 2, none⟩) h.f.hg _⟩
  · have hb := blk_grown h.f.hb hg (Kd.R_ne h.f.ho h.f.hb (by omega))
    have h1 := Kd.R_mono (Kd.R_grown (Kd.R_apartR h.p h.f.ho (kPcE _ (by omega) (by omega))) hg (fun k hk => hk.2)) (fun k hk => hk.1)
    exact Kd.R_mono (Kd.R_far (Kd.R_types h1 hb (kPcE _ (by omega) (by omega))) (p := ⟨g, 2, none⟩) (fun k hk => hk.2) _) (fun k hk => hk.1)
  · rcases hat with e | ⟨k, e, hk⟩
    · rw [e]; exact h.v
    · exact .inr ⟨k, e, Nat.le_trans h.k.1 hk⟩
theorem FW.start {w1 w2 : World} (h : FI w1 b g x vn vs vo now safe ops) (hk : KeepBut w w1 g v0.ownBlock) (hv : vo.ownBlock = v0.ownBlock ∨ ∃ k, vo.ownBlock = some k ∧ w.heap.size ≤ k) (hl : Below b w w1) (hb : Below w1.heap.size w1 w2) (hp : Kd.R kPc 30 w2 w1.heap.size (fun _ => True) vP P) : FW w b g x v0 vP P w2 vn vs vo now safe ops :=
  ⟨h.below hb, Kd.R_lower hp (Nat.le_trans h.hg (Nat.le_of_lt (blk_lt h.hb))), ⟨Nat.le_trans hk.1 hb.size, fun i hi hg hn => (hb.block i (Nat.lt_of_lt_of_le hi hk.1)).trans (hk.2 i hi hg hn)⟩, hv, hl.trans (hb.mono (Nat.le_trans h.hg (Nat.le_of_lt (blk_lt h.hb))))⟩
end
theorem pieces_len : ∀ (g : Nat) (b : List Int) (a : Nat), b.length ≤ g → (pieces a b).length ≤ b.length
  | 0, b, a, hg => by
    obtain rfl := List.eq_nil_of_length_eq_zero (Nat.le_zero.1 hg)
    exact Nat.le_refl _
  | g + 1, b, a, hg => by
    by_cases h0 : 0 < b.length
    · obtain ⟨n, hne⟩ : ∃ n, n = min (64 - a % 64) b.length := ⟨_, rfl⟩
      rw [pieces_step a b n hne h0, List.length_cons]
      have := pieces_len g (b.drop n) (a + n) (by rw [List.length_drop]; omega)
      rw [List.length_drop] at this
      omega
    · obtain rfl := List.eq_nil_of_length_eq_zero (Nat.eq_zero_of_not_pos h0)
      exact Nat.le_refl _
theorem putF_len (s : List Int × List FOp) (p : Pc) : (putF s p).1.length = s.1.length ∧ (putF s p).2.length = s.2.length + 1 := ⟨setL_length _ _ _, by simp [putF]⟩
theorem puts_takeF (P : List Pc) (s : List Int × List FOp) (i : Nat) (h : i < P.length) : (P.take (i + 1)).foldl putF s = putF ((P.take i).foldl putF s) (P.getD i zPc) := by
  rw [List.take_succ_eq_append_getElem h, List.foldl_append]
  simp [List.getD_eq_getElem?_getD, h]
end Go.Proofs.Ytpnbjpkdbiiogaa
