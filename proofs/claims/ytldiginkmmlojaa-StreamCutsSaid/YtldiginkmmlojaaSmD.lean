/- Streams: New, Close, Pending, and Write of none; the reference's cut. -/
import Derived.Test.YtldiginkmmlojaaSmC
namespace Go.Proofs.Ytldiginkmmlojaa
set_option linter.unusedVariables false
open Go.RowKit Go.Proofs.YtldiginkmmlojaaW.PrintWords
attribute [local go_sem] mx2 mn2 mxTwo mnTwo

theorem ret_str {a b : ByteArray} (h : a = b) : Ending.returned (.string a) = .returned (.string b) := by rw [h]
theorem size_strOf (xs : List Int) : (strOfNums xs).size = xs.length := by simp [strOfNums, ByteArray.size]
theorem bt_strOf (xs : List Int) (hx : ∀ x ∈ xs, 0 ≤ x ∧ x ≤ 255) (i : Nat) (h : i < xs.length) : bt (strOfNums xs) (i : Int) = rd xs (i : Int) := by
  have hs := size_strOf xs
  unfold bt
  rw [dif_pos (by rw [hs, Int.toNat_natCast]; exact h)]
  have e : ((strOfNums xs)[(i : Int).toNat]'(by rw [hs, Int.toNat_natCast]; exact h)) = UInt8.ofNat (xs[i]).toNat := by
    have h2 : i < (strOfNums xs).data.size := by simp [strOfNums]; exact h
    show (strOfNums xs).data[i]'h2 = _
    simp [strOfNums]
  rw [e]
  obtain ⟨h0, h1⟩ := hx xs[i] (List.getElem_mem h)
  have : rd xs (i : Int) = xs[i] := by simp [rd, List.getD_eq_getElem?_getD, h]
  rw [this]
  simp
  omega
theorem extract_strOf (xs : List Int) (k : Nat) : (strOfNums xs).extract 0 k = strOfNums (xs.take k) := by
  apply ByteArray.ext
  simp [strOfNums, ByteArray.data_extract, List.map_take]

set_option maxHeartbeats 1000000 in
set_option maxRecDepth 100000 in
theorem rcut_any (l : List Int) (hl : ∀ x ∈ l, 0 ≤ x ∧ x ≤ 255) (hlen : l.length ≤ 1000000000) (w : World) : Calls Try.prog 75 #[.string (strOfNums l)] w fun e w' => e = .returned (.string (strOfNums (trim l))) ∧ w' = w := by
  have HL := Aside0.mk hl
  clear hl
  obtain ⟨s0, hs0⟩ : ∃ s0, s0 = strOfNums l := ⟨_, rfl⟩
  have HS0 := Aside0.mk hs0
  rw [← hs0]
  clear hs0
  go_enter Try.func75, Try.ntmps75
  go_wp2
  go_loopg [0] l.length (fun q v0 wr => ∃ (m : Nat) (s : ByteArray), v0 = .string s ∧ m ≤ l.length ∧ Aside0 (q = m) ∧ Aside0 (s = strOfNums (l.take m)) ∧ Aside0 (trim (l.take m) = trim l) ∧ wr = w)
  case atStart => exact ⟨l.length, s0, rfl, Nat.le_refl _, ⟨rfl⟩, ⟨by rw [List.take_length]; exact HS0.out⟩, ⟨by rw [List.take_length]⟩, rfl⟩
  case round =>
    obtain ⟨m, s, rfl, hm, hq, HS, HT, rfl⟩ := hrel
    have HSZ := Aside0.mk (show s.size = m by rw [HS.out, size_strOf, List.length_take]; omega)
    by_cases hpos : 0 < m
    · obtain ⟨k, rfl⟩ : ∃ k, m = k + 1 := ⟨m - 1, by omega⟩
      have hsz1 : 0 < s.size := by rw [HSZ.out]; omega
      have hsz2 : s.size ≤ 1000000000 := by rw [HSZ.out]; omega
      have hts := trim_step l k (by omega)
      have hbt : bt s ((s.size : Int) - 1) = rd l (k : Int) := by
        rw [HSZ.out, show (((k + 1 : Nat) : Int) - 1) = (k : Int) by omega, HS.out, bt_strOf _ (fun x hx => HL.out x (List.mem_of_mem_take hx)) k (by rw [List.length_take]; omega)]
        simp [rd, List.getD_eq_getElem?_getD]
      obtain ⟨x, hxE⟩ : ∃ x, x = rd l (k : Int) := ⟨_, rfl⟩
      rw [← hxE] at hts hbt
      have hx : ∀ h : s.size - 1 < s.size, ((s[s.size - 1]'h).toNat : Int) = x := by
        intro h
        rw [← hbt]
        unfold bt
        rw [dif_pos (by omega)]
        simp only [show ((s.size : Int) - 1).toNat = s.size - 1 by omega]
      clear hxE hbt
      by_cases hbl : isBl x
      · rw [if_pos hbl] at hts
        have HTS := Aside0.mk hts
        clear hts
        rcases hbl with rfl | rfl | rfl
        · skip
          go_wp2_with fail
          go_roundg k
          case measure => have := hq.out; omega
          case rel => exact ⟨k, _, rfl, by omega, ⟨rfl⟩, ⟨by rw [HSZ.out, HS.out, Nat.add_sub_cancel, extract_strOf, List.take_take, Nat.min_eq_left (by omega)]⟩, ⟨by rw [← HTS.out]; exact HT.out⟩, rfl⟩
        · skip
          go_wp2_with fail
          go_roundg k
          case measure => have := hq.out; omega
          case rel => exact ⟨k, _, rfl, by omega, ⟨rfl⟩, ⟨by rw [HSZ.out, HS.out, Nat.add_sub_cancel, extract_strOf, List.take_take, Nat.min_eq_left (by omega)]⟩, ⟨by rw [← HTS.out]; exact HT.out⟩, rfl⟩
        · skip
          go_wp2_with fail
          go_roundg k
          case measure => have := hq.out; omega
          case rel => exact ⟨k, _, rfl, by omega, ⟨rfl⟩, ⟨by rw [HSZ.out, HS.out, Nat.add_sub_cancel, extract_strOf, List.take_take, Nat.min_eq_left (by omega)]⟩, ⟨by rw [← HTS.out]; exact HT.out⟩, rfl⟩
      · rw [if_neg hbl] at hts
        have HTS := Aside0.mk hts
        have n1 : (x == 32) = false := beq_eq_false_iff_ne.mpr (fun h => hbl (.inl h))
        have n2 : (x == 9) = false := beq_eq_false_iff_ne.mpr (fun h => hbl (.inr (.inl h)))
        have n3 : (x == 13) = false := beq_eq_false_iff_ne.mpr (fun h => hbl (.inr (.inr h)))
        clear hts hbl
        go_wp2_with fail
        go_ret
        exact ⟨ret_str (by rw [HS.out, ← HTS.out, HT.out]), rfl⟩
    · obtain rfl : m = 0 := by omega
      have hs0 : s.size = 0 := HSZ.out
      obtain rfl : s = ByteArray.empty := ByteArray.size_eq_zero_iff.1 hs0
      go_wp2_with fail
      go_ret
      exact ⟨ret_str (by rw [HS.out, ← HT.out]; rfl), rfl⟩

/-! ### New -/
def mostL (m : Int) : Int := if m < 1 then 1 else if 512 < m then 512 else m
theorem snew_any (m : Int) (w : World) : Calls Try.prog 44 #[.int .i64 m] w fun e w' => e = .returned (.pointer (some ⟨w.heap.size, 0, none⟩)) ∧ w'.heap[w.heap.size]? = some (.cells #[.slice none 0 0, .int .i64 (mostL m), .bool false] 130 (0, 0)) ∧ Below w.heap.size w w' := by
  by_cases h : m < 1
  · have e : mostL m = 1 := by unfold mostL; rw [if_pos h]
    rw [e]
    go_enter Try.func44, Try.ntmps44
    go_wp2
    go_ret
    exact ⟨rfl, blk_new _ _, below_alloc (Below.refl _ _) _⟩
  · by_cases h2 : 512 < m
    · have e : mostL m = 512 := by unfold mostL; rw [if_neg h, if_pos h2]
      rw [e]
      go_enter Try.func44, Try.ntmps44
      go_wp2
      go_ret
      exact ⟨rfl, blk_new _ _, below_alloc (Below.refl _ _) _⟩
    · have e : mostL m = m := by unfold mostL; rw [if_neg h, if_neg h2]
      rw [e]
      go_enter Try.func44, Try.ntmps44
      go_wp2
      go_ret
      exact ⟨rfl, blk_new _ _, below_alloc (Below.refl _ _) _⟩

/-! ### What has none, or is closed -/
theorem swrite_nil (A : Option Addr) (n c : Nat) (w : World) : Calls Try.prog 45 #[.pointer none, .slice A n c] w fun e w' => e = .returned (.slice none 0 0) ∧ w' = w := by
  go_enter Try.func45, Try.ntmps45
  go_wp2
  go_ret
  exact ⟨rfl, rfl⟩
theorem swrite_done (g : Nat) (v : Value) (mo : Int) (A : Option Addr) (n c : Nat) (w : World) (hb : w.heap[g]? = some (.cells #[v, .int .i64 mo, .bool true] 130 (0, 0))) : Calls Try.prog 45 #[.pointer (some ⟨g, 0, none⟩), .slice A n c] w fun e w' => e = .returned (.slice none 0 0) ∧ w' = w := by
  have hd0 := (blk_cell hb 2).trans (rfl : _ = some (Value.bool true))
  clear hb
  go_enter Try.func45, Try.ntmps45
  go_wp2
  go_ret
  exact ⟨rfl, rfl⟩
theorem sclose_nil (w : World) : Calls Try.prog 49 #[.pointer none] w fun e w' => e = .returned (.slice none 0 0) ∧ w' = w := by
  go_enter Try.func49, Try.ntmps49
  go_wp2
  go_ret
  exact ⟨rfl, rfl⟩
theorem sclose_done (g : Nat) (v : Value) (mo : Int) (w : World) (hb : w.heap[g]? = some (.cells #[v, .int .i64 mo, .bool true] 130 (0, 0))) : Calls Try.prog 49 #[.pointer (some ⟨g, 0, none⟩)] w fun e w' => e = .returned (.slice none 0 0) ∧ w' = w := by
  have hd0 := (blk_cell hb 2).trans (rfl : _ = some (Value.bool true))
  clear hb
  go_enter Try.func49, Try.ntmps49
  go_wp2
  go_ret
  exact ⟨rfl, rfl⟩
theorem spending_nil (w : World) : Calls Try.prog 48 #[.pointer none] w fun e w' => e = .returned (.slice none 0 0) ∧ w' = w := by
  go_enter Try.func48, Try.ntmps48
  go_wp2
  go_ret
  exact ⟨rfl, rfl⟩
theorem spending_any (b g : Nat) (v : Value) (r : List Int) (mo : Int) (dn : Bool) (w : World) (hb : w.heap[g]? = some (.cells #[v, .int .i64 mo, .bool dn] 130 (0, 0))) (hR : Kd.R (Kd.int .u8) 5 w b (fun k => k ≠ g) v r) (hn : r.length ≤ 1099511627776) :
    Calls Try.prog 48 #[.pointer (some ⟨g, 0, none⟩)] w fun e w' => ∃ A' c', e = .returned (.slice A' r.length c') ∧ Kd.C (Kd.int .u8) w' A' r.length r ∧ Below w.heap.size w w' := by
  obtain ⟨A, c, rfl, hc, hC⟩ := Kd.R_reads hR
  have hc0 := (blk_cell hb 0).trans (rfl : _ = some (Value.slice A r.length c))
  have HC := Aside0.mk hC
  clear hb hR hC
  go_enter Try.func48, Try.ntmps48
  go_wp2_with (go_at_call 76; refine (clone_bytes A r.length c r _ HC.out hn).mono ?_; rintro e w1 ⟨A1, c1, rfl, hc1, hv, hb1⟩; have HV := Aside0.mk hv; have HB := Aside0.mk hb1; clear hv hb1)
  go_ret
  exact ⟨_, _, rfl, C_own HV.out, HB.out⟩

/-! ### Close -/
def closeL (r : List Int) : List Ln := if r = [] then [] else [⟨strOfNums (trim r), 4⟩]
theorem C_line (W : World) (x : Ln) : Kd.C kLn (W.alloc (.cells #[.string x.t, .int .i64 x.e] 59)) (some ⟨W.heap.size, 0, none⟩) 1 [x] := by
  refine ⟨rfl, by omega, fun _ => ⟨_, rfl, fun j p hj => ?_⟩⟩
  have hj0 : j = 0 := by
    have := (List.getElem?_eq_some_iff.1 hj).1
    simp at this
    omega
  subst hj0
  cases hj
  refine ⟨[.string x.t, .int .i64 x.e], rfl, ⟨[.string x.t], [.int .i64 x.e], rfl, rfl, rfl⟩, fun i u hu => ?_⟩
  have hn := blk_cell (blk_new W (.cells #[.string x.t, .int .i64 x.e] 59 (0, 0))) i
  rw [add_plain]
  rw [show 0 * kLn.sz + i = i by simp]
  refine hn.trans ?_
  simpa using hu
end Go.Proofs.Ytldiginkmmlojaa
