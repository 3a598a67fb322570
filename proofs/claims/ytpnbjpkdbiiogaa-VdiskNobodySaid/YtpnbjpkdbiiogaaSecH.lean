/- The reference's Size, At, Set, Lay and Written: what each call answers. -/
import Derived.Test.YtpnbjpkdbiiogaaSecG
namespace Go.Proofs.Ytpnbjpkdbiiogaa
set_option linter.unusedVariables false
open Go.RowKit Go.Proofs.YtpnbjpkdbiiogaaW.PrintWords
attribute [local go_sem] mx2 mn2 mxTwo mnTwo

set_option maxHeartbeats 1000000 in
set_option maxRecDepth 100000 in
theorem rsize_any (A : Option Addr) (n c : Nat) (l : List Int) (sz : Int) (w : World) (hr : Kd.C (Kd.int .u8) w A n l) (hn : n ≤ 1099511627776) (hs : sz ≤ 1099511627776) :
    Calls Try.prog 22 #[.slice A n c, .int .i64 sz] w fun e w' => ∃ A' c', e = .returned (.slice A' sz.toNat c') ∧ sz.toNat ≤ c' ∧ Kd.R (Kd.int .u8) 5 w' w.heap.size (fun _ => True) (.slice A' sz.toNat c') (sizeL l sz) ∧ Below w.heap.size w w' := by
  obtain rfl : l.length = n := hr.1
  have HR := Aside0.mk hr
  clear hr
  have hT := sizeL_length l sz
  have HT := Aside0.mk hT
  clear hT
  go_enter Try.func22, Try.ntmps22
  go_wp2
  go_loopg [5, 6] sz.toNat (fun g v5 v6 wr => ∃ k : Nat, v6 = .int .i64 (k : Int) ∧ k ≤ sz.toNat ∧ Aside0 (g = sz.toNat - k) ∧ Aside0 (Kd.R (Kd.int .u8) 5 wr w.heap.size (fun _ => True) v5 ((sizeL l sz).take k)) ∧ Aside0 (Below w.heap.size w wr))
  case atStart => exact ⟨0, rfl, Nat.zero_le _, ⟨rfl⟩, ⟨Kd.R_nil _ _ _ _ _⟩, ⟨Below.refl _ _⟩⟩
  case round =>
    obtain ⟨k, rfl, hk, hg, HO, HB⟩ := hrel
    by_cases hlt : (k : Int) < sz
    · have hke : (sizeL l sz).take (k + 1) = (sizeL l sz).take k ++ [l.getD k 0] := by rw [take_snoc_rd _ k (by rw [HT.out]; omega), rd_sizeL l sz k (by omega)]
      have hkl : ((sizeL l sz).take k).length = k := by rw [List.length_take, HT.out]; omega
      have HKE := Aside0.mk hke
      have HKL := Aside0.mk hkl
      clear hke hkl
      by_cases hin : k < l.length
      · obtain ⟨ad, rfl, hx⟩ := at_nat HR.out k hin
        have hxw := pw_cell_below HB.out hx
        have hrd : rd l (k : Int) = l.getD k 0 := by simp [rd]
        rw [hrd] at hxw
        clear hrd hx
        obtain ⟨x, hx⟩ : ∃ x, x = l.getD k 0 := ⟨_, rfl⟩
        rw [← hx] at hxw HKE
        clear hx
        go_wp2_with (at_builtin; refine Kd.R_append (Kd.int .u8) (w0 := w) w.heap.size rfl (.tmp 21) (.tmp 23) 22 5 (.int .u8 0) 1 rfl Try.underlying22 infoU8 rfl (by decide) (by omega) u5 _ x [.int .u8 x] (fun _ => True) (fun _ => False) rfl rfl rfl (fun _ h => h.elim) (fun _ _ => trivial) HO.out HB.out (below_size HB.out) (by rw [HKL.out]; omega) ?_; intro v1 w1 h1 hb1 _ _; rw [← HKE.out] at h1; have H1 := Aside0.mk h1; have HB1 := Aside0.mk hb1; clear h1 hb1)
        go_roundg (sz.toNat - (k + 1))
        case measure => have := hg.out; omega
        case rel => exact ⟨k + 1, by go_num, by omega, ⟨rfl⟩, H1, HB1⟩
      · have hrd : l.getD k 0 = 0 := by simp [List.getD_eq_getElem?_getD, List.getElem?_eq_none (Nat.le_of_not_lt hin)]
        rw [hrd] at HKE
        clear hrd
        go_wp2_with (at_builtin; refine Kd.R_append (Kd.int .u8) (w0 := w) w.heap.size rfl (.tmp 21) (.tmp 23) 22 5 (.int .u8 0) 1 rfl Try.underlying22 infoU8 rfl (by decide) (by omega) u5 _ 0 [.int .u8 0] (fun _ => True) (fun _ => False) rfl rfl rfl (fun _ h => h.elim) (fun _ _ => trivial) HO.out HB.out (below_size HB.out) (by rw [HKL.out]; omega) ?_; intro v1 w1 h1 hb1 _ _; rw [← HKE.out] at h1; have H1 := Aside0.mk h1; have HB1 := Aside0.mk hb1; clear h1 hb1)
        go_roundg (sz.toNat - (k + 1))
        case measure => have := hg.out; omega
        case rel => exact ⟨k + 1, by go_num, by omega, ⟨rfl⟩, H1, HB1⟩
    · have hd : (k : Int) < sz → False := hlt
      go_wp2_with fail
      have hall : (sizeL l sz).take k = sizeL l sz := List.take_of_length_le (by rw [HT.out]; omega)
      have h3 := HO.out
      rw [hall] at h3
      obtain ⟨A', c', rfl, hc', _⟩ := Kd.R_reads h3
      rw [HT.out] at hc' h3 ⊢
      go_ret
      exact ⟨A', c', rfl, by first | exact hc' | omega, h3, HB.out⟩

/-- A cell of a row of numbers of one's own, at a natural place; the row behind a store. -/
theorem R_cellN {ki : IntKind} {e : Nat} {w : World} {base : Nat} {ok : Nat → Prop} {g n cap : Nat} {xs : List Int} (h : (Kd.int ki).R e w base ok (.slice (some ⟨g, 0, none⟩) n cap) xs) (i : Nat) (hi : i < n) : w.cell? ⟨g, i, none⟩ = some (.int ki (rd xs (i : Int))) ∧ w.frozen? ⟨g, i, none⟩ = false := by
  obtain ⟨rfl, _, _⟩ := Kd.R_reads' h
  have h1 := Kd.R_cell (0 : Int) h (i : Int) (by omega) (by omega)
  simp only [Int.toNat_natCast] at h1
  exact h1
theorem R_putN {ki : IntKind} {e : Nat} {w : World} {base : Nat} {ok : Nat → Prop} {g n cap : Nat} {xs : List Int} (h : (Kd.int ki).R e w base ok (.slice (some ⟨g, 0, none⟩) n cap) xs) (i : Nat) (x : Int) : (Kd.int ki).R e (w.setCell ⟨g, i, none⟩ (.int ki x)) base ok (.slice (some ⟨g, 0, none⟩) n cap) (xs.set i x) := by
  obtain ⟨rfl, _, _⟩ := Kd.R_reads' h
  have h1 := (Kd.R_put h (i : Int) x).1
  simp only [Int.toNat_natCast] at h1
  exact h1

theorem rd_replicate (n i : Nat) : rd (List.replicate n 0) (i : Int) = 0 := by
  unfold rd
  rw [Int.toNat_natCast, List.getD_eq_getElem?_getD, List.getElem?_replicate]
  split <;> rfl

set_option maxHeartbeats 2000000 in
set_option maxRecDepth 100000 in
theorem rat_any (A : Option Addr) (n c : Nat) (l : List Int) (k : Int) (w : World) (hr : Kd.C (Kd.int .u8) w A n l) (hn : n ≤ 1099511627776) :
    Calls Try.prog 24 #[.slice A n c, .int .i64 k] w fun e w' => ∃ g' c', e = .returned (.slice (some ⟨g', 0, none⟩) 64 c') ∧ 64 ≤ c' ∧ w.heap.size ≤ g' ∧ Kd.R (Kd.int .u8) 5 w' w.heap.size (fun _ => True) (.slice (some ⟨g', 0, none⟩) 64 c') (atL l k) ∧ Below w.heap.size w w' := by
  obtain rfl : l.length = n := hr.1
  have HR := Aside0.mk hr
  clear hr
  obtain ⟨i0, hi, _, hz1, _⟩ := info_parts infoU8
  by_cases hk : 0 ≤ k ∧ k < cnt l.length
  · obtain ⟨hk, hk2⟩ := hk
    obtain ⟨q, rfl⟩ := Int.eq_ofNat_of_zero_le hk
    have hroom := cnt_room hk hk2
    have ht : atL l (q : Int) = sizeL (l.drop (q * 64)) 64 := by unfold atL; rw [if_pos ⟨hk, hk2⟩, show ((q : Int) * 64).toNat = q * 64 by omega]
    have HT := Aside0.mk ht
    clear ht
    go_enter Try.func24, Try.ntmps24
    go_wp2_with (first
      | (at_make; refine Kd.R_make (Kd.int .u8) (w0 := w) (w).heap.size 5 rfl (N := 7) rfl 22 (.const (.int .i64 64)) (.const (.int .i64 64)) rfl 64 rfl rfl Try.underlying22 (.int .u8 0) 1 infoU8 rfl (by decide) (by omega) (0 : Int) (ok := fun _ => True) (okp := fun _ => False) rfl (fun _ h => h.elim) trivial (by omega) (by decide) (Below.refl _ _) (Nat.le_refl _) ?_; intro v1 w1 h1 hb1 _ _; have h1' : Kd.R (Kd.int .u8) 5 w1 (w).heap.size (fun _ => True) v1 (List.replicate 64 0) := h1; obtain ⟨g1, c1, rfl, hgb1, _, _⟩ := Kd.R_form h1' (by simp); rw [List.length_replicate] at h1'; have H1 := Aside0.mk h1'; have HB1 := Aside0.mk hb1; clear h1 h1' hb1)
      | fail)
    go_loopg [6] 64 (fun g v6 wr => ∃ i : Nat, v6 = .int .i64 (i : Int) ∧ i ≤ 64 ∧ Aside0 (g = 64 - i) ∧ Aside0 (Kd.R (Kd.int .u8) 5 wr w.heap.size (fun _ => True) (.slice (some ⟨g1, 0, none⟩) 64 c1) (mixL (atL l (q : Int)) (List.replicate 64 0) i)) ∧ Aside0 (Below w.heap.size w wr))
    case atStart => exact ⟨0, rfl, Nat.zero_le _, ⟨rfl⟩, ⟨by rw [mixL_zero]; exact H1.out⟩, HB1⟩
    case round =>
      clear HB1 H1
      obtain ⟨i, rfl, hi1, hg, HO, HB⟩ := hrel
      by_cases hlt : i < 64
      · by_cases hin : q * 64 + i < l.length
        · obtain ⟨ad, rfl, hx⟩ := at_nat HR.out (q * 64 + i) hin
          have hxw := pw_cell_below HB.out hx
          obtain ⟨hc1, hc2⟩ := R_cellN HO.out i hlt
          have hset := R_putN HO.out i (rd l ((q * 64 + i : Nat) : Int))
          have hrd : rd (atL l (q : Int)) (i : Int) = rd l ((q * 64 + i : Nat) : Int) := by rw [HT.out, rd_sizeL _ _ i (by omega)]; unfold rd; rw [Int.toNat_natCast]; simp [List.getD_eq_getElem?_getD]
          rw [← hrd, mixL_set _ _ i (by rw [atL_length, List.length_replicate]) (by rw [List.length_replicate]; exact hlt)] at hset
          rw [← hrd] at hxw
          obtain ⟨x, hx⟩ : ∃ x, x = rd (atL l (q : Int)) (i : Int) := ⟨_, rfl⟩
          rw [← hx] at hset hxw
          have HSET := Aside0.mk hset
          clear hset hx hrd
          go_wp2_with (go_at_call 19; refine (refcount_any _ _ (by omega)).mono ?_; rintro e w1 ⟨rfl, rfl⟩)
          go_roundg (64 - (i + 1))
          case measure => have := hg.out; omega
          case rel => exact ⟨i + 1, by go_num, by omega, ⟨rfl⟩, HSET, ⟨HB.out.setCell (p := ⟨g1, i, none⟩) hgb1 _⟩⟩
        · have hrd : rd (atL l (q : Int)) (i : Int) = rd (List.replicate 64 0) (i : Int) := by rw [rd_replicate, HT.out, rd_sizeL _ _ i (by omega), List.getD_eq_getElem?_getD, List.getElem?_drop, List.getElem?_eq_none (Nat.le_of_not_lt hin)]; rfl
          have hskip := mixL_skip _ _ i (by rw [atL_length, List.length_replicate]) (by rw [List.length_replicate]; exact hlt) hrd
          have HSK := Aside0.mk hskip
          clear hskip hrd
          go_wp2_with (go_at_call 19; refine (refcount_any _ _ (by omega)).mono ?_; rintro e w1 ⟨rfl, rfl⟩)
          go_roundg (64 - (i + 1))
          case measure => have := hg.out; omega
          case rel => exact ⟨i + 1, by go_num, by omega, ⟨rfl⟩, ⟨by rw [← HSK.out]; exact HO.out⟩, HB⟩
      · go_wp2_with fail
        go_ret
        obtain rfl : i = 64 := by omega
        refine ⟨_, _, rfl, (Kd.R_reads' HO.out).2.1, hgb1, ?_, HB.out⟩
        have := HO.out
        rwa [mixL_all _ _ 64 (by rw [atL_length]; exact Nat.le_refl _) (by simp)] at this
  · have ht : atL l k = List.replicate 64 0 := by unfold atL; rw [if_neg hk]
    have HT := Aside0.mk ht
    have hk' : k < 0 ∨ 0 ≤ k ∧ cnt l.length ≤ k := by omega
    clear hk ht
    go_enter Try.func24, Try.ntmps24
    go_wp2_with (first
      | (at_make; refine Kd.R_make (Kd.int .u8) (w0 := w) (w).heap.size 5 rfl (N := 7) rfl 22 (.const (.int .i64 64)) (.const (.int .i64 64)) rfl 64 rfl rfl Try.underlying22 (.int .u8 0) 1 infoU8 rfl (by decide) (by omega) (0 : Int) (ok := fun _ => True) (okp := fun _ => False) rfl (fun _ h => h.elim) trivial (by omega) (by decide) (Below.refl _ _) (Nat.le_refl _) ?_; intro v1 w1 h1 hb1 _ _; have h1' : Kd.R (Kd.int .u8) 5 w1 (w).heap.size (fun _ => True) v1 (List.replicate 64 0) := h1; obtain ⟨g1, c1, rfl, hgb1, _, _⟩ := Kd.R_form h1' (by simp); rw [List.length_replicate] at h1'; have H1 := Aside0.mk h1'; have HB1 := Aside0.mk hb1; clear h1 h1' hb1)
      | fail)
    go_loopg [6] 64 (fun g v6 wr => ∃ i : Nat, v6 = .int .i64 (i : Int) ∧ i ≤ 64 ∧ Aside0 (g = 64 - i) ∧ wr = w1)
    case atStart => exact ⟨0, rfl, Nat.zero_le _, ⟨rfl⟩, rfl⟩
    case round =>
      obtain ⟨i, rfl, hi1, hg, rfl⟩ := hrel
      by_cases hlt : i < 64
      · rcases hk' with hk' | ⟨hk', hk2⟩
        · go_wp2_with fail
          go_roundg (64 - (i + 1))
          case measure => have := hg.out; omega
          case rel => exact ⟨i + 1, by go_num, by omega, ⟨rfl⟩, by first | rfl | trivial⟩
        · go_wp2_with (go_at_call 19; refine (refcount_any _ _ (by omega)).mono ?_; rintro e w3 ⟨rfl, rfl⟩)
          go_roundg (64 - (i + 1))
          case measure => have := hg.out; omega
          case rel => exact ⟨i + 1, by go_num, by omega, ⟨rfl⟩, by first | rfl | trivial⟩
      · go_wp2_with fail
        go_ret
        exact ⟨_, _, rfl, (Kd.R_reads' H1.out).2.1, hgb1, by rw [HT.out]; exact H1.out, HB1.out⟩
end Go.Proofs.Ytpnbjpkdbiiogaa
