/- Merging: Of. -/
import Derived.Test.YtldiginkmmlojaaMeI
namespace Go.Proofs.Ytldiginkmmlojaa
set_option linter.unusedVariables false
set_option linter.unusedSimpArgs false
open Go.RowKit Go.Proofs.YtldiginkmmlojaaW.PrintWords
attribute [local go_sem] mx2 mn2 mxTwo mnTwo

theorem infoLI : (Try.prog.info? 70).map (fun i => (i.zero, i.size, i.bytes)) = some (some (.slice none 0 0), 1, 24) := by kernel_rfl
set_option maxHeartbeats 4000000 in
set_option maxRecDepth 100000 in
theorem of_any (cf : FuncId) (A : Option Addr) (n c : Nat) (L : List (List Int)) (w : World) (hC : Kd.C kLL w A n L) (hn : n ≤ 1000) (hll : ∀ i, i < L.length → (L.getD i []).length ≤ 1000000) :
    Calls Try.prog 37 #[.func (.func cf) #[] #[], .slice A n c] w fun e w' => ∃ g A' c', e = .returned (.pointer (some ⟨g, 0, none⟩)) ∧ w.heap.size ≤ g ∧ LM w' g cf A' c' L ∧ Below w.heap.size w w' := by
  obtain rfl : L.length = n := hC.1
  have HC := Aside0.mk hC
  have HLL := Aside0.mk hll
  clear hC hll
  go_enter Try.func37, Try.ntmps37
  go_wp2_with fail
  obtain ⟨W1, hW1⟩ : ∃ W1, W1 = w.alloc (.cells #[.func (.func cf) #[] #[], .slice none 0 0] 126) := ⟨_, rfl⟩
  have hgb : W1.heap[w.heap.size]? = some (.cells #[.func (.func cf) #[] #[], .slice none 0 0] 126 (0, 0)) := by rw [hW1]; exact blk_new _ _
  have hb1 : Below w.heap.size w W1 := by rw [hW1]; exact below_alloc (Below.refl _ _) _
  rw [← hW1]
  have HGB := Aside0.mk hgb
  have HB1 := Aside0.mk hb1
  clear hW1 hgb hb1
  go_loopg [7, 13] L.length (fun q v7 v13 wr => ∃ (i : Nat) (v : Value), v13 = .int .i64 (i : Int) ∧ i ≤ L.length ∧ Aside0 (q = L.length - i) ∧ Aside0 (wr.heap[w.heap.size]? = some (.cells #[.func (.func cf) #[] #[], v] 126 (0, 0))) ∧ Aside0 (Kd.R kLL 70 wr w.heap.size (fun q => q ≠ w.heap.size) v (L.take i)) ∧ Aside0 (Below w.heap.size w wr))
  case atStart => exact ⟨0, _, rfl, Nat.zero_le _, ⟨rfl⟩, HGB, ⟨Kd.R_nil _ _ _ _ _⟩, HB1⟩
  case round =>
    clear HGB HB1
    obtain ⟨i, v, rfl, hi, hq, HGB, HR, HB⟩ := hrel
    by_cases hlt : i < L.length
    · obtain ⟨ad, A3, c3, rfl, r1, hl3, hC3⟩ := at_LL (Kd.C_below HC.out HB.out) i hlt
      have hli := HLL.out i hlt
      have HT := Aside0.mk (show L.take (i + 1) = L.take i ++ [L.getD i []] by rw [List.take_succ_eq_append_getElem hlt]; simp [List.getD_eq_getElem?_getD, hlt])
      have HLN := Aside0.mk (show (L.take (i + 1)).length = i + 1 by rw [List.length_take]; omega)
      have HLX := Aside0.mk (show (L.take i).length = i by rw [List.length_take]; omega)
      obtain ⟨A4, c4, rfl⟩ := Kd.R_slice HR.out
      have hr4 := HR.out
      rw [HLX.out] at hr4 HGB
      clear HR
      have HR := Aside0.mk hr4
      clear hr4
      generalize L.getD i [] = li at *
      have HC3 := Aside0.mk hC3
      clear hC3
      have s1 := (blk_cell HGB.out 1).trans (rfl : _ = some (Value.slice A4 i c4))
      have hsz := HB.out.size
      have hglt := blk_lt HGB.out
      have HCL := Aside0.mk (clone25_any A3 c3 li wr.drew (Kd.C_drew HC3.out) hli)
      go_wp2_with fail
      go_region_law (first
        | (go_simp; go_at_call 69; refine HCL.out.mono ?_; rintro e w1 ⟨v1, rfl, hv, hb⟩; obtain ⟨A6, c6, rfl⟩ := Kd.R_slice hv; have hbw := (below_drew1 (Below.refl wr.heap.size wr)).trans hb; have HV1 := Aside0.mk hv; have HBW := Aside0.mk hbw; replace s1 := pw_cell_below hbw s1; have s1a := cell_al (.cells #[.slice A6 li.length c6] 70) s1; clear hv hb hbw)
        | (refine Kd.R_append_step kLL (W := w1) (w0 := w) w.heap.size (by rfl) (.tmp 21) (.tmp 24) 64 70 (.slice none 0 0) 24 rfl Try.underlying64 infoLI rfl (by decide) (by omega) (.slice A4 i c4) (L.take i) li [.slice A6 li.length c6] (fun q => q ≠ w.heap.size) (fun q => wr.heap.size ≤ q) (by rfl) (by rfl) ⟨_, rfl, Kd.R_lower (R_reok64 HV1.out (fun q hq => Kd.R_base HV1.out q hq)) HB.out.size⟩ (fun q hq => ⟨by omega, fun e => by have := Kd.R_lt HR.out q e.symm; omega⟩) (fun q hq => by have := HBW.out.size; omega) (Kd.R_below HR.out HBW.out) (below_step HB.out HBW.out) (Nat.le_trans HB.out.size HBW.out.size) (by rw [HLX.out]; omega) ?_; intro v5 w5 h5 hb5 hg5 _; rw [← HT.out] at h5; obtain ⟨A7, c7, rfl⟩ := Kd.R_slice h5; rw [HLN.out] at h5 ⊢; have hgb5 := blk_grown (blk_below HGB.out HBW.out) hg5 (Kd.R_ne HR.out HGB.out (by decide)); replace s1 := (blk_cell hgb5 1).trans (rfl : _ = some (Value.slice A4 i c4)); have f1 := blk_frozen hgb5 1; have HG5 := Aside0.mk hgb5; have HR5 := Aside0.mk h5; have HB5 := Aside0.mk hb5; clear h5 hb5 hg5 hgb5 s1a))
      all_goals
        go_wp2_with fail
        go_roundg (L.length - (i + 1))
        case measure => have := hq.out; omega
        case rel => exact ⟨i + 1, _, by go_num, by omega, ⟨rfl⟩, ⟨blk_put HG5.out 1 _ rfl⟩, ⟨Kd.R_far HR5.out (p := ⟨w.heap.size, 1, none⟩) (fun q hq => hq) _⟩, ⟨HB5.out.setCell (p := ⟨w.heap.size, 1, none⟩) (Nat.le_refl _) _⟩⟩
    · obtain rfl : i = L.length := by omega
      have h9 := HR.out
      rw [List.take_length] at h9
      obtain ⟨A4, c4, rfl⟩ := Kd.R_slice h9
      have HR9 := Aside0.mk h9
      clear h9
      go_wp2_with fail
      go_ret
      exact ⟨_, A4, c4, rfl, Nat.le_refl _, ⟨HGB.out, C_own HR9.out⟩, HB.out⟩
end Go.Proofs.Ytldiginkmmlojaa
