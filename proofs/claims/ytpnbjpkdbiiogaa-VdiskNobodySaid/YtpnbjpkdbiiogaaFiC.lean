/- Files: Truncate, Read. -/
import Derived.Test.YtpnbjpkdbiiogaaFiB
import Derived.Deep.RegionHeld3
namespace Go.Proofs.Ytpnbjpkdbiiogaa
set_option linter.unusedVariables false
open Go.RowKit Go.Proofs.YtpnbjpkdbiiogaaW.PrintWords
attribute [local go_sem] mx2 mn2 mxTwo mnTwo

theorem ftrunc_nil (n : Int) (w : World) : Calls Try.prog 42 #[.pointer none, .int .i64 n] w fun e w' => e = .returned (.int .i64 3) ∧ w' = w := by
  go_enter Try.func42, Try.ntmps42
  go_wp2
  go_ret
  exact ⟨rfl, rfl⟩
theorem ftrunc_bad (g : Nat) (n : Int) (w : World) (hn : n < 0 ∨ 0 ≤ n ∧ 1048576 < n) : Calls Try.prog 42 #[.pointer (some ⟨g, 0, none⟩), .int .i64 n] w fun e w' => e = .returned (.int .i64 1) ∧ w' = w := by
  rcases hn with hn | ⟨hn, hn2⟩
  · go_enter Try.func42, Try.ntmps42
    go_wp2
    go_ret
    exact ⟨rfl, rfl⟩
  · go_enter Try.func42, Try.ntmps42
    go_wp2
    go_ret
    exact ⟨rfl, rfl⟩
theorem ftrunc_any (b g : Nat) (x : Nat → Prop) (vn vs vo : Value) (now safe : List Int) (ops : List FOp) (n : Nat) (w : World) (h : FI w b g x vn vs vo now safe ops) (hx : ∀ k, w.heap.size ≤ k → x k) (hl : now.length ≤ 1099511627776) (hn : n ≤ 1048576) (ho : ops.length ≤ 1000000) : Calls Try.prog 42 #[.pointer (some ⟨g, 0, none⟩), .int .i64 (n : Int)] w fun e w' => e = .returned (.int .i64 0) ∧ (∃ vn' vo', FI w' b g x vn' vs vo' (sizeF (now, ops) n).1 safe (sizeF (now, ops) n).2 ∧ (vo'.ownBlock = vo.ownBlock ∨ ∃ k, vo'.ownBlock = some k ∧ w.heap.size ≤ k)) ∧ KeepBut w w' g vo.ownBlock ∧ Below b w w' := by
  obtain ⟨A, c, hvn⟩ := Kd.R_slice h.hn
  have hc0 := (blk_cell h.hb 0).trans (rfl : _ = some vn)
  rw [hvn] at hc0
  have H := Aside0.mk h
  clear h hvn
  by_cases he : (n : Int) = (now.length : Int)
  · have e : sizeF (now, ops) (n : Int) = (now, ops) := by unfold sizeF; rw [if_pos he]
    have hn2 : n = now.length := by omega
    subst hn2
    rw [e]
    clear he e
    go_enter Try.func42, Try.ntmps42
    go_wp2
    go_ret
    exact ⟨rfl, ⟨_, _, H.out, .inl rfl⟩, KeepBut.refl _ _ _, Below.refl _ _⟩
  · have e : sizeF (now, ops) (n : Int) = (sizeL now (n : Int), ops ++ [⟨true, (n : Int), []⟩]) := by unfold sizeF; rw [if_neg he]
    have q : (n == now.length) = false := beq_eq_false_iff_ne.mpr (by omega)
    have q2 : ((n : Int) == (now.length : Int)) = false := beq_eq_false_iff_ne.mpr he
    rw [e]
    clear e
    go_enter Try.func42, Try.ntmps42
    go_wp2_with (go_at_call 93; refine (fresize_any b g x vn vs vo now safe ops n _ H.out hx hl (by omega) ho).mono ?_; rintro e w1 ⟨rfl, hf, hk, hb⟩; have HF := Aside0.mk hf; have HK := Aside0.mk hk; have HB := Aside0.mk hb; clear hf hk hb)
    go_ret
    exact ⟨rfl, HF.out, HK.out, HB.out⟩
/-- A cut of a row: its address under a letter. -/
theorem cut_midC {α : Type} {P : Program} (d : Kd α) (t e : TypeId) (kl kh : IntKind) {i : TypeInfo} (ht : P.underlying t = some (.slice e)) (hi : P.info? e = some i) (hsz : i.size = d.sz) (A : Option Addr) (n c lo up : Nat) (h1 : lo ≤ up) (h2 : up ≤ n) (hc : n ≤ c) :
    ∃ A3, (∀ W : World, (Instr.slice t (.slice A n c) (some (.int kl (lo : Int))) (some (.int kh (up : Int))) none).run P W = .ok (.slice A3 (up - lo) (c - lo)) W) ∧ ∀ (w : World) (xs : List α), d.C w A n xs → d.C w A3 (up - lo) ((xs.take up).drop lo) := by
  refine ⟨if c = lo then A else A.map (·.add (lo * d.sz)), fun W => ?_, fun w xs h => ?_⟩
  · have h := cut_mid (P := P) t e kl kh ht hi d.sz hsz A n c (lo : Int) (up : Int) (by omega) (by omega) (by omega) hc W
    simpa using h
  · obtain rfl : xs.length = n := h.1
    have h3 := C_takeN h up h2
    have hl : (xs.take up).length = up := by rw [List.length_take]; omega
    have h4 : d.C w A (xs.take up).length (xs.take up) := by rw [hl]; exact h3
    have h5 := Kd.C_drop (c := c) h4 (m := lo) (by omega) (by omega)
    rwa [List.length_drop, hl] at h5


/-- What is read. -/
def readL (now : List Int) (k n : Int) : List Int := if k < 0 ∨ (now.length : Int) ≤ k ∨ n ≤ 0 then [] else (now.drop k.toNat).take n.toNat
theorem fread_nil (k n : Int) (w : World) : Calls Try.prog 37 #[.pointer none, .int .i64 k, .int .i64 n] w fun e w' => e = .returned (.slice none 0 0) ∧ w' = w := by
  go_enter Try.func37, Try.ntmps37
  go_wp2
  go_ret
  exact ⟨rfl, rfl⟩
set_option maxHeartbeats 1000000 in
set_option maxRecDepth 100000 in
theorem fread_any (b g : Nat) (x : Nat → Prop) (vn vs vo : Value) (now safe : List Int) (ops : List FOp) (k n : Int) (w : World) (h : FI w b g x vn vs vo now safe ops) (hl : now.length ≤ 1099511627776) : Calls Try.prog 37 #[.pointer (some ⟨g, 0, none⟩), .int .i64 k, .int .i64 n] w fun e w' => ∃ A' c', e = .returned (.slice A' (readL now k n).length c') ∧ Kd.C (Kd.int .u8) w' A' (readL now k n).length (readL now k n) ∧ Below w.heap.size w w' := by
  obtain ⟨A, c, rfl, hc, hC⟩ := Kd.R_reads h.hn
  have HC := Aside0.mk hC
  have hc0 := (blk_cell h.hb 0).trans (rfl : _ = some (Value.slice A now.length c))
  clear h hC
  obtain ⟨i0, hi0, _, hz1, _⟩ := info_parts infoU8
  by_cases h1 : k < 0
  · skip
    have HE := Aside0.mk (show readL now k n = [] by unfold readL; rw [if_pos (by omega)])
    rw [HE.out]
    go_enter Try.func37, Try.ntmps37
    go_wp2
    go_ret
    have hC0 : Kd.C (Kd.int .u8) w none 0 [] := ⟨rfl, Nat.zero_le _, fun h => absurd h (by simp)⟩
    first | exact ⟨none, 0, rfl, hC0, Below.refl _ _⟩ | exact ⟨none, ⟨0, rfl⟩, hC0, Below.refl _ _⟩
  · by_cases h2 : (now.length : Int) ≤ k
    · skip
      have HE := Aside0.mk (show readL now k n = [] by unfold readL; rw [if_pos (by omega)])
      rw [HE.out]
      go_enter Try.func37, Try.ntmps37
      go_wp2
      go_ret
      have hC0 : Kd.C (Kd.int .u8) w none 0 [] := ⟨rfl, Nat.zero_le _, fun h => absurd h (by simp)⟩
      first | exact ⟨none, 0, rfl, hC0, Below.refl _ _⟩ | exact ⟨none, ⟨0, rfl⟩, hC0, Below.refl _ _⟩
    · by_cases h3 : n ≤ 0
      · skip
        have HE := Aside0.mk (show readL now k n = [] by unfold readL; rw [if_pos (by omega)])
        rw [HE.out]
        go_enter Try.func37, Try.ntmps37
        go_wp2
        go_ret
        have hC0 : Kd.C (Kd.int .u8) w none 0 [] := ⟨rfl, Nat.zero_le _, fun h => absurd h (by simp)⟩
        first | exact ⟨none, 0, rfl, hC0, Below.refl _ _⟩ | exact ⟨none, ⟨0, rfl⟩, hC0, Below.refl _ _⟩
      · obtain ⟨q, rfl⟩ := Int.eq_ofNat_of_zero_le (show 0 ≤ k by omega)
        obtain ⟨m, hm⟩ : ∃ m : Nat, m = (if (now.length : Int) - (q : Int) < n then (now.length : Int) - (q : Int) else n).toNat := ⟨_, rfl⟩
        have hm1 : (if (now.length : Int) - (q : Int) < n then (now.length : Int) - (q : Int) else n) = (m : Int) := by rw [hm]; split <;> omega
        have hm2 : q + m ≤ now.length := by split at hm <;> omega
        obtain ⟨u, hu⟩ : ∃ u, u = q + m := ⟨_, rfl⟩
        have hw1 : IntKind.i64.wrap ((now.length : Int) - (q : Int)) = (now.length : Int) - (q : Int) := by rw [IntKind.wrap_i64]; omega
        have hw2 : IntKind.i64.wrap ((q : Int) + (m : Int)) = (u : Int) := by rw [IntKind.wrap_i64]; omega
        have hm3 : (if (u : Int) < (now.length : Int) then (u : Int) else (now.length : Int)) = (u : Int) := by split <;> omega
        have hm4 : (if u < now.length then (u : Int) else (now.length : Int)) = (u : Int) := by split <;> omega
        obtain ⟨A3, hcut, hA3⟩ := cut_midC (P := Try.prog) (Kd.int .u8) 22 5 .i64 .i64 Try.underlying22 hi0 hz1 A now.length c q u (by omega) (by omega) hc
        have hE : (now.take u).drop q = readL now (q : Int) n := by
          unfold readL
          rw [if_neg (by omega), Int.toNat_natCast, hu, List.drop_take, show q + m - q = m by omega]
          by_cases hb : (now.length : Int) - (q : Int) < n
          · rw [if_pos hb] at hm
            rw [List.take_of_length_le (by rw [List.length_drop]; omega), List.take_of_length_le (by rw [List.length_drop]; omega)]
          · rw [if_neg hb] at hm
            rw [hm]
        have hC3 := hA3 _ _ HC.out
        rw [hE] at hC3
        have HC3 := Aside0.mk hC3
        have HL := Aside0.mk hC3.1
        have hun : u - q ≤ 1099511627776 := by omega
        clear hA3 hC3 hE hm hu hm2
        go_enter Try.func37, Try.ntmps37
        go_wp2_with fail
        go_region_held3 (fun w' => w'.cell? ⟨g, 0, none⟩ = some (.slice A now.length c)) (first | with_reducible exact hc0 | exact hc0) (first
          | (go_at_call 86; refine (clone_bytes A3 (u - q) (c - q) (readL now (q : Int) n) _ (Kd.C_drew HC3.out) (by omega)).mono ?_; rintro e w1 ⟨A1, c1, rfl, hc1, hv, hb1⟩; replace hc0 := pw_cell_below hb1 hc0; have HV := Aside0.mk hv; have HB := Aside0.mk hb1; clear hv hb1))
        all_goals
          go_wp2_with fail
          go_ret
          have hC9 := C_own HV.out
          rw [HL.out]
          have hB9 := below_step (below_drew1 (Below.refl w.heap.size w)) HB.out
          first | exact ⟨_, _, rfl, hC9, hB9⟩ | exact ⟨_, ⟨_, rfl⟩, hC9, hB9⟩
end Go.Proofs.Ytpnbjpkdbiiogaa
