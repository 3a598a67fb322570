/- Directories: which names are right; alike texts; the reference's Names and Did. -/
import Derived.Test.YtpnbjpkdbiiogaaDiB
namespace Go.Proofs.Ytpnbjpkdbiiogaa
set_option linter.unusedVariables false
open Go.RowKit Go.Proofs.YtpnbjpkdbiiogaaW.PrintWords
attribute [local go_sem] mx2 mn2 mxTwo mnTwo

theorem ret_bool {a b : Bool} (h : a = b) : Ending.returned (.bool a) = .returned (.bool b) := by rw [h]
def okC (c : UInt8) : Bool := decide (33 ≤ (c.toNat : Int) ∧ (c.toNat : Int) ≤ 126 ∧ (c.toNat : Int) ≠ 47)
/-- Is a name right? -/
def rightB (s : ByteArray) : Bool := s.data.toList.all okC && decide (1 ≤ s.size) && decide (s.size ≤ 100)
theorem all_take (s : ByteArray) (k : Nat) (h : k < s.size) : (s.data.toList.take (k + 1)).all okC = ((s.data.toList.take k).all okC && okC s[k]) := by
  have e : s.data.toList.take (k + 1) = s.data.toList.take k ++ [s[k]] := by
    rw [List.take_succ_eq_append_getElem (by simpa using h)]
    rfl
  rw [e, List.all_append]
  simp
theorem all_fail (s : ByteArray) (k : Nat) (h : k < s.size) (hk : okC s[k] = false) : s.data.toList.all okC = false := by
  rw [List.all_eq_false]
  refine ⟨s[k], ?_, by simp [hk]⟩
  rw [Array.mem_toList_iff]
  exact Array.getElem_mem h
theorem all_len (s : ByteArray) (k : Nat) (h : s.size ≤ k) : (s.data.toList.take k).all okC = s.data.toList.all okC := by rw [List.take_of_length_le (by rw [data_length]; exact h)]
theorem okC_false {c : UInt8} (h : okC c = false) : (c.toNat : Int) < 33 ∨ 33 ≤ (c.toNat : Int) ∧ 126 < (c.toNat : Int) ∨ 33 ≤ (c.toNat : Int) ∧ (c.toNat : Int) ≤ 126 ∧ (c.toNat : Int) = 47 := by
  unfold okC at h
  have := of_decide_eq_false h
  omega
theorem okC_true {c : UInt8} (h : okC c = true) : 33 ≤ (c.toNat : Int) ∧ (c.toNat : Int) ≤ 126 ∧ (c.toNat : Int) ≠ 47 := of_decide_eq_true h
set_option maxHeartbeats 1000000 in
theorem rright_any (s : ByteArray) (w : World) (hs : s.size ≤ maxLen) : Calls Try.prog 55 #[.string s] w fun e w' => e = .returned (.bool (rightB s)) ∧ w = w' := by
  unfold maxLen at hs
  go_enter Try.func55, Try.ntmps55
  go_wp2
  go_loopg [3] s.size (fun q v3 wr => ∃ k : Nat, v3 = .int .i64 (k : Int) ∧ k ≤ s.size ∧ Aside0 (q = s.size - k) ∧ Aside0 ((s.data.toList.take k).all okC = true) ∧ wr = w)
  case atStart => exact ⟨0, rfl, Nat.zero_le _, ⟨rfl⟩, ⟨rfl⟩, rfl⟩
  case round =>
    obtain ⟨k, rfl, hk, hq, HA, rfl⟩ := hrel
    by_cases hlt : k < s.size
    · have hst := all_take s k hlt
      rw [HA.out, Bool.true_and] at hst
      cases hc : okC s[k] with
      | true =>
        rw [hc] at hst
        have HST := Aside0.mk hst
        obtain ⟨h1, h2, h3⟩ := okC_true hc
        have q1 : ((s[k].toNat : Int) == 47) = false := beq_eq_false_iff_ne.mpr h3
        have q2 : (s[k].toNat == 47) = false := beq_eq_false_iff_ne.mpr (by omega)
        clear hst hc h3
        go_wp2
        go_roundg (s.size - (k + 1))
        case measure => have := hq.out; omega
        case rel => exact ⟨k + 1, by go_num, by omega, ⟨rfl⟩, HST, rfl⟩
      | false =>
        have HR := Aside0.mk (show rightB s = false by unfold rightB; rw [all_fail s k hlt hc]; rfl)
        have hcf := okC_false hc
        clear hst hc
        rcases hcf with h1 | ⟨h1, h2⟩ | ⟨h1, h2, h3⟩
        · go_wp2
          go_ret
          rw [HR.out]
          exact ⟨rfl, rfl⟩
        · go_wp2
          go_ret
          rw [HR.out]
          exact ⟨rfl, rfl⟩
        · have q1 : ((s[k].toNat : Int) == 47) = true := beq_iff_eq.mpr h3
          have q2 : (s[k].toNat == 47) = true := beq_iff_eq.mpr (by omega)
          clear h3
          go_wp2
          go_ret
          rw [HR.out]
          exact ⟨rfl, rfl⟩
    · have e := HA.out
      rw [all_len s k (by omega)] at e
      have HE := Aside0.mk e
      clear e
      by_cases h1 : 1 ≤ s.size
      · by_cases h2 : s.size ≤ 100
        · have HR := Aside0.mk (show rightB s = true by unfold rightB; rw [HE.out, decide_eq_true h1, decide_eq_true h2]; rfl)
          go_wp2
          go_ret
          rw [HR.out]
          exact ⟨ret_bool (decide_eq_true (by omega)), rfl⟩
        · have HR := Aside0.mk (show rightB s = false by unfold rightB; rw [HE.out, decide_eq_true h1, decide_eq_false h2]; rfl)
          go_wp2
          go_ret
          rw [HR.out]
          exact ⟨ret_bool (decide_eq_false (by omega)), rfl⟩
      · have HR := Aside0.mk (show rightB s = false by unfold rightB; rw [HE.out, decide_eq_false h1]; rfl)
        go_wp2
        go_ret
        rw [HR.out]
        exact ⟨rfl, rfl⟩
set_option maxHeartbeats 1000000 in
set_option maxRecDepth 100000 in
theorem right_any (s : ByteArray) (w : World) (hs : s.size ≤ maxLen) : Calls Try.prog 54 #[.string s] w fun e w' => e = .returned (.bool (rightB s)) ∧ Below w.heap.size w w' := by
  unfold maxLen at hs
  by_cases h1 : 1 ≤ s.size
  · have q0 : (s.toList == []) = false := by
      rw [beq_eq_false_iff_ne, ByteArray.toList_eq]
      intro e
      have := data_length s
      rw [e] at this
      simp at this
      omega
    have q0' : (s.data.toList == []) = false := by rwa [← ByteArray.toList_eq]
    have q0e : s.toList.isEmpty = false := by rw [List.isEmpty_eq_false_iff]; exact beq_eq_false_iff_ne.1 q0
    have q0e' : s.data.toList.isEmpty = false := by rw [List.isEmpty_eq_false_iff]; exact beq_eq_false_iff_ne.1 q0'
    by_cases h2 : s.size ≤ 100
    · have kb := fun W => print_bytes (P := Try.prog) 9 22 5 Try.underlying9 Try.underlying22 Try.underlying5 s W
      obtain ⟨W1, hW1⟩ : ∃ W1, W1 = Lib.bytesWorld w 5 s := ⟨_, rfl⟩
      have HW := Aside0.mk hW1
      have hb1 : Below w.heap.size w W1 := by rw [hW1]; exact bytes_below (Below.refl _ _) (Nat.le_refl _) _ _
      have HB := Aside0.mk hb1
      have HCL := Aside0.mk (show ∀ j, j < s.size → W1.cell? ⟨w.heap.size, j, none⟩ = some (.int .u8 ((s.data.toList.getD j 0).toNat : Int)) by rw [hW1]; exact fun j hj => Lib.bytesWorld_cell w 5 s j hj)
      clear hW1 hb1
      have kb1 := kb w
      rw [← HW.out] at kb1
      clear kb
      go_enter Try.func54, Try.ntmps54
      go_wp2
      obtain ⟨b0, hb0⟩ : ∃ b0, b0 = w.heap.size := ⟨_, rfl⟩
      rw [← hb0] at HCL ⊢
      clear hb0 kb1
      go_loopg [15] s.size (fun q v3 wr => ∃ k : Nat, v3 = .int .i64 (k : Int) ∧ k ≤ s.size ∧ Aside0 (q = s.size - k) ∧ Aside0 ((s.data.toList.take k).all okC = true) ∧ wr = W1)
      case atStart => exact ⟨0, rfl, Nat.zero_le _, ⟨rfl⟩, ⟨rfl⟩, rfl⟩
      case round =>
        obtain ⟨k, rfl, hk, hq, HA, rfl⟩ := hrel
        by_cases hlt : k < s.size
        · have hst := all_take s k hlt
          rw [HA.out, Bool.true_and] at hst
          have hcell := HCL.out k hlt
          have e : s.data.toList.getD k 0 = s[k] := by
            rw [List.getD_eq_getElem?_getD, List.getElem?_eq_getElem (by rw [data_length]; exact hlt)]
            rfl
          rw [e] at hcell
          obtain ⟨c, hce⟩ : ∃ c, c = s[k] := ⟨_, rfl⟩
          have hff := all_fail s k hlt
          rw [← hce] at hst hcell hff
          clear e hce
          cases hc : okC c with
          | true =>
            rw [hc] at hst
            have HST := Aside0.mk hst
            obtain ⟨h1, h2, h3⟩ := okC_true hc
            have q1 : ((c.toNat : Int) == 47) = false := beq_eq_false_iff_ne.mpr h3
            have q2 : (c.toNat == 47) = false := beq_eq_false_iff_ne.mpr (by omega)
            clear hst hc h3 hff
            go_wp2
            go_roundg (s.size - (k + 1))
            case measure => have := hq.out; omega
            case rel => exact ⟨k + 1, by go_num, by omega, ⟨rfl⟩, HST, rfl⟩
          | false =>
            have HR := Aside0.mk (show rightB s = false by unfold rightB; rw [hff hc]; rfl)
            have hcf := okC_false hc
            clear hst hc hff
            rcases hcf with h1 | ⟨h1, h2⟩ | ⟨h1, h2, h3⟩
            · go_wp2
              go_ret
              rw [HR.out]
              exact ⟨rfl, HB.out⟩
            · go_wp2
              go_ret
              rw [HR.out]
              exact ⟨rfl, HB.out⟩
            · have q1 : ((c.toNat : Int) == 47) = true := beq_iff_eq.mpr h3
              have q2 : (c.toNat == 47) = true := beq_iff_eq.mpr (by omega)
              clear h3
              go_wp2
              go_ret
              rw [HR.out]
              exact ⟨rfl, HB.out⟩
        · have e := HA.out
          rw [all_len s k (by omega)] at e
          have HR := Aside0.mk (show rightB s = true by unfold rightB; rw [e, decide_eq_true h1, decide_eq_true h2]; rfl)
          clear e
          go_wp2
          go_ret
          rw [HR.out]
          exact ⟨rfl, HB.out⟩
    · have HR := Aside0.mk (show rightB s = false by unfold rightB; rw [decide_eq_false h2, Bool.and_false])
      go_enter Try.func54, Try.ntmps54
      go_wp2
      go_ret
      rw [HR.out]
      exact ⟨rfl, Below.refl _ _⟩
  · have HR := Aside0.mk (show rightB s = false by unfold rightB; rw [decide_eq_false h1, Bool.and_false, Bool.false_and])
    have hz : s.data.toList = [] := List.eq_nil_of_length_eq_zero (by rw [data_length]; omega)
    have q0 : (s.toList == []) = true := by rw [ByteArray.toList_eq, hz]; rfl
    have q0' : (s.data.toList == []) = true := by rw [hz]; rfl
    have q0e : s.toList.isEmpty = true := by rw [ByteArray.toList_eq, hz]; rfl
    have q0e' : s.data.toList.isEmpty = true := by rw [hz]; rfl
    clear hz
    go_enter Try.func54, Try.ntmps54
    go_wp2
    go_ret
    rw [HR.out]
    exact ⟨rfl, Below.refl _ _⟩
end Go.Proofs.Ytpnbjpkdbiiogaa
