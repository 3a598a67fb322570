/- Streams: a line whose blanks at the end are gone; (*stream.Stream).cut. -/
import Derived.Test.YtldiginkmmlojaaStB
namespace Go.Proofs.Ytldiginkmmlojaa
set_option linter.unusedVariables false
open Go.RowKit Go.Proofs.YtldiginkmmlojaaW.PrintWords

def isBl (x : Int) : Prop := x = 32 ∨ x = 9 ∨ x = 13
instance (x : Int) : Decidable (isBl x) := by unfold isBl; infer_instance
/-- Blanks at the end gone. -/
def trim (l : List Int) : List Int := (l.reverse.dropWhile (fun x => decide (isBl x))).reverse
theorem trim_nil : trim [] = [] := rfl
theorem trim_snoc (l : List Int) (x : Int) : trim (l ++ [x]) = if isBl x then trim l else l ++ [x] := by
  unfold trim
  rw [List.reverse_append, List.reverse_singleton, List.singleton_append, List.dropWhile_cons]
  by_cases h : isBl x
  · rw [if_pos h, if_pos (by simpa using h)]
  · rw [if_neg h, if_neg (by simpa using h)]
    simp
theorem take_snoc_rd (l : List Int) (k : Nat) (h : k < l.length) : l.take (k + 1) = l.take k ++ [rd l (k : Int)] := by
  rw [List.take_succ_eq_append_getElem h]
  simp [rd, List.getD_eq_getElem?_getD, h]
theorem at_nat {k : IntKind} {w : World} {A : Option Addr} {n : Nat} {xs : List Int} (h : (Kd.int k).C w A n xs) (i : Nat) (h1 : i < n) : ∃ ad, A = some ad ∧ w.cell? (ad.add i) = some (.int k (rd xs (i : Int))) := by
  obtain ⟨ad, e, hc⟩ := Kd.at_int h (i : Int) (by omega) (by omega)
  exact ⟨ad, e, by simpa using hc⟩
theorem trim_step (l : List Int) (k : Nat) (h : k < l.length) : trim (l.take (k + 1)) = if isBl (rd l (k : Int)) then trim (l.take k) else l.take (k + 1) := by
  rw [take_snoc_rd l k h, trim_snoc]

theorem infoLn : (Try.prog.info? 59).map (·.size) = some 2 := by kernel_rfl
set_option maxHeartbeats 1000000 in
set_option maxRecDepth 100000 in
theorem scut_any (b g : Nat) (v : Value) (r : List Int) (mo : Int) (dn : Bool) (en : Int) (w : World) (hb : w.heap[g]? = some (.cells #[v, .int .i64 mo, .bool dn] 130 (0, 0))) (hR : Kd.R (Kd.int .u8) 5 w b (fun k => k ≠ g) v r) (hg : b ≤ g) :
    Calls Try.prog 74 #[.pointer (some ⟨g, 0, none⟩), .int .i64 en] w fun e w' => e = .returned (.agg #[.string (strOfNums (trim r)), .int .i64 en]) ∧ w'.heap[g]? = some (.cells #[.slice none 0 0, .int .i64 mo, .bool dn] 130 (0, 0)) ∧ KeepBut w w' g none ∧ Below b w w' := by
  obtain ⟨A, c, rfl, hc, hC⟩ := Kd.R_reads hR
  have hm := Kd.C_max hC
  have HR := Aside0.mk hR
  have HC := Aside0.mk hC
  have HBk := Aside0.mk hb
  have hbA := blk_alloc hb (.cells #[.string ⟨#[]⟩, .int .i64 0] 59)
  have hc0 := (blk_cell hbA 0).trans (rfl : _ = some (Value.slice A r.length c))
  have hf0 := blk_frozen hbA 0
  have hne := Nat.ne_of_lt (blk_lt hb)
  have hlt := blk_lt hb
  clear hR hC hb hbA
  obtain ⟨i0, hi, _, _, _⟩ := info_parts infoU8
  go_enter Try.func74, Try.ntmps74
  go_wp2
  go_loopg [5] r.length (fun q v5 wr => ∃ m : Nat, v5 = .slice A m c ∧ m ≤ r.length ∧ Aside0 (q = m) ∧ Aside0 (trim (r.take m) = trim r) ∧ wr = w.alloc (.cells #[.string ⟨#[]⟩, .int .i64 0] 59))
  case atStart => exact ⟨r.length, rfl, Nat.le_refl _, ⟨rfl⟩, ⟨by rw [List.take_length]⟩, rfl⟩
  case round =>
    obtain ⟨m, rfl, hmr, hq, HT, rfl⟩ := hrel
    by_cases hpos : 0 < m
    · obtain ⟨k, rfl⟩ : ∃ k, m = k + 1 := ⟨m - 1, by omega⟩
      have hts := trim_step r k (by omega)
      obtain ⟨ad, rfl, hx⟩ := at_nat HC.out k (by omega)
      have hxa := cell_al (.cells #[.string ⟨#[]⟩, .int .i64 0] 59) hx
      obtain ⟨x, hxE⟩ : ∃ x, x = rd r (k : Int) := ⟨_, rfl⟩
      rw [← hxE] at hts hxa
      clear hx hxE
      have hcut2 : ∀ W : World, (Instr.slice 82 (.slice (some ad) (k + 1) c) none (some (.int .i64 (k : Int))) none).run Try.prog W = .ok (.slice (some ad) k c) W := fun W => by simpa using cut_to (P := Try.prog) 82 5 .i64 Try.underlying82 hi (some ad) (k + 1) c (k : Int) (by omega) (by omega) (by omega) W
      by_cases hbl : isBl x
      · rw [if_pos hbl] at hts
        have HTS := Aside0.mk hts
        clear hts
        rcases hbl with rfl | rfl | rfl
        · skip
          go_wp2_with fail
          go_roundg k
          case measure => have := hq.out; omega
          case rel => exact ⟨k, rfl, by omega, ⟨rfl⟩, ⟨by rw [← HTS.out]; exact HT.out⟩, rfl⟩
        · skip
          go_wp2_with fail
          go_roundg k
          case measure => have := hq.out; omega
          case rel => exact ⟨k, rfl, by omega, ⟨rfl⟩, ⟨by rw [← HTS.out]; exact HT.out⟩, rfl⟩
        · skip
          go_wp2_with fail
          go_roundg k
          case measure => have := hq.out; omega
          case rel => exact ⟨k, rfl, by omega, ⟨rfl⟩, ⟨by rw [← HTS.out]; exact HT.out⟩, rfl⟩
      · rw [if_neg hbl] at hts
        have HTS := Aside0.mk hts
        have n1 : (x == 32) = false := beq_eq_false_iff_ne.mpr (fun h => hbl (.inl h))
        have n2 : (x == 9) = false := beq_eq_false_iff_ne.mpr (fun h => hbl (.inr (.inl h)))
        have n3 : (x == 13) = false := beq_eq_false_iff_ne.mpr (fun h => hbl (.inr (.inr h)))
        clear hts hbl
        have HE := Aside0.mk (show r.take (k + 1) = trim r by rw [← HT.out, HTS.out])
        have hRw := Kd.R_alloc (Kd.R_far HR.out (p := ⟨g, 0, none⟩) (fun k hk => hk) (.slice none 0 0)) (.cells #[.string ⟨#[]⟩, .int .i64 0] 59)
        have hcv := Kd.C_string (P := Try.prog) (A := (some ad)) (c := c) Try.underlying82 Try.underlying5 Try.underlying9 (C_takeN (C_own hRw) (k + 1) (by omega))
        rw [HE.out] at hcv
        clear hRw
        go_wp2_with fail
        (try simp only [Exit.inBlock, Exit.then])
        have hnew := blk_new (w.setCell ⟨g, 0, none⟩ (.slice none 0 0)) (.cells #[.string (strOfNums (trim r)), .int .i64 en] 59)
        rw [show (w.setCell ⟨g, 0, none⟩ (.slice none 0 0)).heap.size = w.heap.size by simp] at hnew
        refine bodyPost_ret (results_cell_row (P := Try.prog) rfl _ _ w.heap.size 59 #[.string (strOfNums (trim r)), .int .i64 en] (0, 0) _ rfl hnew Try.underlying59 rfl (by rw [infoLn]; rfl)) rfl ?_
        exact ⟨rfl, blk_alloc (blk_put HBk.out 0 _ rfl) _, keep_alloc (KeepBut.set_ (KeepBut.refl w g none) 0 _) _, ((Below.refl b w).setCell (p := ⟨g, 0, none⟩) hg _).alloc (by simp; omega) _⟩
    · obtain rfl : m = 0 := by omega
      have HE := Aside0.mk (show r.take 0 = trim r by rw [← HT.out, List.take_zero, trim_nil])
      have hRw := Kd.R_alloc (Kd.R_far HR.out (p := ⟨g, 0, none⟩) (fun k hk => hk) (.slice none 0 0)) (.cells #[.string ⟨#[]⟩, .int .i64 0] 59)
      have hcv := Kd.C_string (P := Try.prog) (A := A) (c := c) Try.underlying82 Try.underlying5 Try.underlying9 (C_takeN (C_own hRw) (0) (by omega))
      rw [HE.out] at hcv
      clear hRw
      go_wp2_with fail
      (try simp only [Exit.inBlock, Exit.then])
      have hnew := blk_new (w.setCell ⟨g, 0, none⟩ (.slice none 0 0)) (.cells #[.string (strOfNums (trim r)), .int .i64 en] 59)
      rw [show (w.setCell ⟨g, 0, none⟩ (.slice none 0 0)).heap.size = w.heap.size by simp] at hnew
      refine bodyPost_ret (results_cell_row (P := Try.prog) rfl _ _ w.heap.size 59 #[.string (strOfNums (trim r)), .int .i64 en] (0, 0) _ rfl hnew Try.underlying59 rfl (by rw [infoLn]; rfl)) rfl ?_
      exact ⟨rfl, blk_alloc (blk_put HBk.out 0 _ rfl) _, keep_alloc (KeepBut.set_ (KeepBut.refl w g none) 0 _) _, ((Below.refl b w).setCell (p := ⟨g, 0, none⟩) hg _).alloc (by simp; omega) _⟩
end Go.Proofs.Ytldiginkmmlojaa
