/- The stamp by the greatest number that was used; the reference's stamp; texts that are alike. -/
import Derived.Test.YtldiginkmmlojaaStC
import Derived.Test.YtldiginkmmlojaaOpen
namespace Go.Proofs.Ytldiginkmmlojaa
set_option linter.unusedVariables false
open Go.RowKit Go.Proofs.YtldiginkmmlojaaW.PrintWords

theorem at_nat {k : IntKind} {w : World} {A : Option Addr} {n : Nat} {xs : List Int} (h : (Kd.int k).C w A n xs) (i : Nat) (h1 : i < n) : ∃ ad, A = some ad ∧ w.cell? (ad.add i) = some (.int k (rd xs (i : Int))) := by
  obtain ⟨ad, e, hc⟩ := Kd.at_int h (i : Int) (by omega) (by omega)
  exact ⟨ad, e, by simpa using hc⟩
theorem at_str {w : World} {A : Option Addr} {n : Nat} {xs : List ByteArray} (h : Kd.string.C w A n xs) (i : Nat) (h1 : i < n) : ∃ ad, A = some ad ∧ w.cell? (ad.add i) = some (.string (xs.getD i ByteArray.empty)) := by
  obtain ⟨ad, c, e, _, hK, hc0⟩ := Kd.C_get h ByteArray.empty (i : Int) (by omega) (by omega)
  simp only [Int.toNat_natCast] at hK hc0
  have hK' : c = [.string (xs.getD i ByteArray.empty)] := hK
  subst hK'
  exact ⟨ad, e, by have := hc0 0 _ rfl; rwa [show i * Kd.string.sz + 0 = i from Nat.mul_one i] at this⟩

/-- What is next behind u. -/
def nvU (u mo : Int) : Int := if mo ≤ u then 0 else u + 1
def nxU (u : Int) : Int := (u + 1) % 18446744073709551616
theorem nextV_u (u mo : Int) (h0 : 0 ≤ u) (h1 : u ≤ 18446744073709551615) (h2 : mo ≤ 18446744073709551615) : nextV (nxU u) mo = nvU u mo := by
  unfold nextV nxU nvU
  by_cases h : mo ≤ u
  · rw [if_pos h, if_pos (by omega)]
  · rw [if_neg h, if_neg (by omega)]
    omega
theorem usedV_u (u k : Int) (h0 : 0 ≤ u) (h1 : u ≤ 18446744073709551615) (h2 : 0 ≤ k) (h3 : k ≤ 18446744073709551615) : usedV (nxU u) k = nxU (max u k) := by
  unfold usedV nxU
  split <;> omega
theorem last_u (g : Nat) (u mo bo : Int) (w : World) (hb : w.heap[g]? = some (.cells #[.int .u64 (nxU u), .int .u64 mo, .int .u64 bo] 122 (0, 0))) (h0 : 0 ≤ u) (h1 : u ≤ 18446744073709551615) : Calls Try.prog 28 #[.pointer (some ⟨g, 0, none⟩)] w fun e w' => e = .returned (.int .u64 u) ∧ w' = w := by
  by_cases hu : u = 18446744073709551615
  · subst hu
    rw [show nxU 18446744073709551615 = 0 by decide] at hb
    have hc0 := (blk_cell hb 0).trans (rfl : _ = some (Value.int .u64 0))
    go_enter Try.func28, Try.ntmps28
    go_wp2
    go_ret
    exact ⟨rfl, rfl⟩
  · have e : nxU u = u + 1 := by unfold nxU; omega
    rw [e] at hb
    refine (last_any g (u + 1) mo bo w hb (by omega) (by omega)).mono ?_
    rintro e w' ⟨rfl, rfl⟩
    exact ⟨ret_int (by omega), rfl⟩

theorem rnew_any (a m b : Int) (w : World) (h0 : 0 ≤ a) (h1 : a ≤ 18446744073709551615) : Calls Try.prog 23 #[.int .u64 a, .int .u64 m, .int .u64 b] w fun e w' => e = .returned (.pointer (some ⟨w.heap.size, 0, none⟩)) ∧ w'.heap[w.heap.size]? = some (.cells #[.int .u64 (if a = 0 then 0 else a - 1), .int .u64 m, .int .u64 b] 53 (0, 0)) ∧ Below w.heap.size w w' := by
  by_cases h : a = 0
  · subst h
    go_enter Try.func23, Try.ntmps23
    go_wp2
    go_ret
    exact ⟨rfl, blk_new _ _, below_alloc (Below.refl _ _) _⟩
  · rw [if_neg h]
    have hd := decide_eq_false h
    have h2 : 1 ≤ a := by omega
    go_enter Try.func23, Try.ntmps23
    go_wp2
    go_ret
    exact ⟨rfl, blk_new _ _, below_alloc (Below.refl _ _) _⟩
theorem rnext_any (g : Nat) (u mo bo : Int) (w : World) (hb : w.heap[g]? = some (.cells #[.int .u64 u, .int .u64 mo, .int .u64 bo] 53 (0, 0))) (h0 : 0 ≤ u) (h1 : u ≤ 18446744073709551615) (h2 : mo ≤ 18446744073709551615) : Calls Try.prog 26 #[.pointer (some ⟨g, 0, none⟩)] w fun e w' => e = .returned (.int .u64 (nvU u mo)) ∧ ∃ m, w' = w.drewN m := by
  have hc0 := (blk_cell hb 0).trans (rfl : _ = some (Value.int .u64 u))
  have hc1 := (blk_cell hb 1).trans (rfl : _ = some (Value.int .u64 mo))
  have hf0 := blk_frozen hb 0
  clear hb
  by_cases h : mo ≤ u
  · have hd := decide_eq_true h
    go_enter Try.func26, Try.ntmps26
    go_wp2
    go_quiet (fail)
    go_wp2_with fail
    go_ret
    exact ⟨ret_int (by unfold nvU; rw [if_pos h]), _, rfl⟩
  · have hd := decide_eq_false h
    go_enter Try.func26, Try.ntmps26
    go_wp2
    go_quiet (fail)
    go_wp2_with fail
    go_ret
    exact ⟨ret_int (by unfold nvU; rw [if_neg (by omega)]), _, rfl⟩
theorem ruse_any (b g : Nat) (u mo bo k : Int) (w : World) (hb : w.heap[g]? = some (.cells #[.int .u64 u, .int .u64 mo, .int .u64 bo] 53 (0, 0))) (hg : b ≤ g) : Calls Try.prog 32 #[.pointer (some ⟨g, 0, none⟩), .int .u64 k] w fun e w' => e = .returned (.tuple #[]) ∧ w'.heap[g]? = some (.cells #[.int .u64 (max u k), .int .u64 mo, .int .u64 bo] 53 (0, 0)) ∧ (∀ i : Nat, i ≠ g → w'.heap[i]? = w.heap[i]?) ∧ Below b w w' := by
  have hc0 := (blk_cell hb 0).trans (rfl : _ = some (Value.int .u64 u))
  have hc1 := (blk_cell hb 1).trans (rfl : _ = some (Value.int .u64 mo))
  have hf0 := blk_frozen hb 0
  have HBK := Aside0.mk hb
  clear hb
  by_cases h : u < k
  · have hd := decide_eq_true h
    have HM := Aside0.mk (show max u k = k by omega)
    go_enter Try.func32, Try.ntmps32
    go_wp2
    first | go_end0 | ((try simp only [Exit.inBlock, Exit.then]); refine bodyPost_ret (results_none rfl _ _ _) rfl ?_)
    rw [HM.out]
    exact ⟨rfl, blk_put HBK.out 0 _ rfl, fun i hi => Below.heap_setCell w _ _ i hi, (Below.refl _ _).setCell (p := ⟨g, 0, none⟩) hg _⟩
  · have hd := decide_eq_false h
    have HM := Aside0.mk (show max u k = u by omega)
    go_enter Try.func32, Try.ntmps32
    go_wp2
    first | go_end0 | ((try simp only [Exit.inBlock, Exit.then]); refine bodyPost_ret (results_none rfl _ _ _) rfl ?_)
    rw [HM.out]
    exact ⟨rfl, HBK.out, fun i hi => rfl, Below.refl _ _⟩

set_option maxHeartbeats 1000000 in
set_option maxRecDepth 100000 in
/-- Texts that are alike. -/
theorem texts_any (A0 A1 : Option Addr) (n c0 c1 : Nat) (l : List ByteArray) (w : World) (h0 : Kd.C Kd.string w A0 n l) (h1 : Kd.C Kd.string w A1 n l) :
    Calls Try.prog 30 #[.slice A0 n c0, .slice A1 n c1] w fun e w' => e = .returned (.bool true) ∧ ∃ m, w' = w.drewN m := by
  have hn := Kd.C_max h0
  have H0 := Aside0.mk h0
  have H1 := Aside0.mk h1
  clear h0 h1
  go_enter Try.func30, Try.ntmps30
  go_wp2
  go_loopg [5] n (fun g v5 wr => ∃ k : Nat, v5 = .int .i64 (k : Int) ∧ k ≤ n ∧ Aside0 (g = n - k) ∧ ∃ m, wr = w.drewN m)
  case atStart => exact ⟨0, rfl, Nat.zero_le _, ⟨rfl⟩, 0, rfl⟩
  case round =>
    obtain ⟨k, rfl, hk, hg, m, hwr⟩ := hrel
    have H0' := Aside0.mk (show Kd.C Kd.string wr A0 n l by rw [hwr]; exact Kd.C_drewN H0.out m)
    have H1' := Aside0.mk (show Kd.C Kd.string wr A1 n l by rw [hwr]; exact Kd.C_drewN H1.out m)
    have HW := Aside0.mk hwr
    clear hwr
    by_cases hlt : k < n
    · obtain ⟨ad0, rfl, hx0⟩ := at_str H0'.out k hlt
      obtain ⟨ad1, rfl, hx1⟩ := at_str H1'.out k hlt
      obtain ⟨s, hs⟩ : ∃ s, s = l.getD k ByteArray.empty := ⟨_, rfl⟩
      rw [← hs] at hx0 hx1
      clear hs
      go_wp2
      go_quiet (fail)
      go_wp2_with fail
      go_roundg (n - (k + 1))
      case measure => have := hg.out; omega
      case rel => exact ⟨k + 1, by go_num, by omega, ⟨rfl⟩, _, by rw [HW.out, World.drewN_drewN]⟩
    · go_wp2
      go_ret
      exact ⟨rfl, m, HW.out⟩
end Go.Proofs.Ytldiginkmmlojaa
