/- Directories: which names are right; alike texts; the reference's Names and Did. -/
import Derived.Test.YtpnbjpkdbiiogaaGreatJc
namespace Go.Proofs.YtpnbjpkdbiiogaaGreat
set_option linter.unusedVariables false
open Go.RowKit Go.Proofs.YtpnbjpkdbiiogaaGreatW.PrintWords
attribute [local go_sem] mx2 mn2 mxTwo mnTwo

theorem ret_bool {a b : Bool} (h : a = b) : Ending.returned (.bool a) = .returned (.bool b) := by rw [h]
def okC (c : UInt8) : Bool := decide (33 ≤ (c.toNat : Int) ∧ (c.toNat : Int) ≤ 126 ∧ (c.toNat : Int) ≠ 47)
/-- Is a name right? -/
def rightB (s : ByteArray) : Bool := s.data.toList.all okC && decide (1 ≤ s.size) && decide (s.size ≤ 100)
theorem all_take (s : ByteArray) (k : Nat) (h : k < s.size) : (s.data.toList.take (k + 1)).all okC = ((s.data.toList.take k).all okC && okC s[k]) := by
  have e : s.data.toList.take (k + 1) = s.data.toList.take k ++ [s[k]] := by
    rw [List.take_succ_eq_append_getElem (by simpa using h)]
    rfl
  rw [e, List.all_append]
  simp
theorem all_fail (s : ByteArray) (k : Nat) (h : k < s.size) (hk : okC s[k] = false) : s.data.toList.all okC = false := by
  rw [List.all_eq_false]
  refine ⟨s[k], ?_, by simp [hk]⟩
  rw [Array.mem_toList_iff]
  exact Array.getElem_mem h
theorem all_len (s : ByteArray) (k : Nat) (h : s.size ≤ k) : (s.data.toList.take k).all okC = s.data.toList.all okC := by rw [List.take_of_length_le (by rw [data_length]; exact h)]
theorem okC_false {c : UInt8} (h : okC c = false) : (c.toNat : Int) < 33 ∨ 33 ≤ (c.toNat : Int) ∧ 126 < (c.toNat : Int) ∨ 33 ≤ (c.toNat : Int) ∧ (c.toNat : Int) ≤ 126 ∧ (c.toNat : Int) = 47 := by
  unfold okC at h
  have := of_decide_eq_false h
  omega
theorem okC_true {c : UInt8} (h : okC c = true) : 33 ≤ (c.toNat : Int) ∧ (c.toNat : Int) ≤ 126 ∧ (c.toNat : Int) ≠ 47 := of_decide_eq_true h
set_option maxHeartbeats 1000000 in
theorem rright_any (s : ByteArray) (w : World) (hs : s.size ≤ maxLen) : Calls Tryz.prog 93 #[.string s] w fun e w' => e = .returned (.bool (rightB s)) ∧ w = w' := by
  unfold maxLen at hs
  go_enter Tryz.func93, Tryz.ntmps93
  go_wp2
  go_loopg [3] s.size (fun q v3 wr => ∃ k : Nat, v3 = .int .i64 (k : Int) ∧ k ≤ s.size ∧ Aside0 (q = s.size - k) ∧ Aside0 ((s.data.toList.take k).all okC = true) ∧ wr = w)
  case atStart => exact ⟨0, rfl, Nat.zero_le _, ⟨rfl⟩, ⟨rfl⟩, rfl⟩
  case round =>
    obtain ⟨k, rfl, hk, hq, HA, rfl⟩ := hrel
    by_cases hlt : k < s.size
    · have hst := all_take s k hlt
      rw [HA.out, Bool.true_and] at hst
      cases hc : okC s[k] with
      | true =>
        rw [hc] at hst
        have HST := Aside0.mk hst
        obtain ⟨h1, h2, h3⟩ := okC_true hc
        have q1 : ((s[k].toNat : Int) == 47) = false := beq_eq_false_iff_ne.mpr h3
        have q2 : (s[k].toNat == 47) = false := beq_eq_false_iff_ne.mpr (by omega)
        clear hst hc h3
        go_wp2
        go_roundg (s.size - (k + 1))
        case measure => have := hq.out; omega
        case rel => exact ⟨k + 1, by go_num, by omega, ⟨rfl⟩, HST, rfl⟩
      | false =>
        have HR := Aside0.mk (show rightB s = false by unfold rightB; rw [all_fail s k hlt hc]; rfl)
        have hcf := okC_false hc
        clear hst hc
        rcases hcf with h1 | ⟨h1, h2⟩ | ⟨h1, h2, h3⟩
        · go_wp2
          go_ret
          rw [HR.out]
          exact ⟨rfl, rfl⟩
        · go_wp2
          go_ret
          rw [HR.out]
          exact ⟨rfl, rfl⟩
        · have q1 : ((s[k].toNat : Int) == 47) = true := beq_iff_eq.mpr h3
          have q2 : (s[k].toNat == 47) = true := beq_iff_eq.mpr (by omega)
          clear h3
          go_wp2
          go_ret
          rw [HR.out]
          exact ⟨rfl, rfl⟩
    · have e := HA.out
      rw [all_len s k (by omega)] at e
      have HE := Aside0.mk e
      clear e
      by_cases h1 : 1 ≤ s.size
      · by_cases h2 : s.size ≤ 100
        · have HR := Aside0.mk (show rightB s = true by unfold rightB; rw [HE.out, decide_eq_true h1, decide_eq_true h2]; rfl)
          go_wp2
          go_ret
          rw [HR.out]
          exact ⟨ret_bool (decide_eq_true (by omega)), rfl⟩
        · have HR := Aside0.mk (show rightB s = false by unfold rightB; rw [HE.out, decide_eq_true h1, decide_eq_false h2]; rfl)
          go_wp2
          go_ret
          rw [HR.out]
          exact ⟨ret_bool (decide_eq_false (by omega)), rfl⟩
      · have HR := Aside0.mk (show rightB s = false by unfold rightB; rw [HE.out, decide_eq_false h1]; rfl)
        go_wp2
        go_ret
        rw [HR.out]
        exact ⟨rfl, rfl⟩
set_option maxHeartbeats 1000000 in
set_option maxRecDepth 100000 in
theorem right_any (s : ByteArray) (w : World) (hs : s.size ≤ maxLen) : Calls Tryz.prog 87 #[.string s] w fun e w' => e = .returned (.bool (rightB s)) ∧ Below w.heap.size w w' := by
  unfold maxLen at hs
  by_cases h1 : 1 ≤ s.size
  · have q0 : (s.toList == []) = false := by
      rw [beq_eq_false_iff_ne, ByteArray.toList_eq]
      intro e
      have := data_length s
      rw [e] at this
      simp at this
      omega
    have q0' : (s.data.toList == []) = false := by rwa [← ByteArray.toList_eq]
    have q0e : s.toList.isEmpty = false := by rw [List.isEmpty_eq_false_iff]; exact beq_eq_false_iff_ne.1 q0
    have q0e' : s.data.toList.isEmpty = false := by rw [List.isEmpty_eq_false_iff]; exact beq_eq_false_iff_ne.1 q0'
    by_cases h2 : s.size ≤ 100
    · have kb := fun W => print_bytes (P := Tryz.prog) 9 30 5 Tryz.underlying9 Tryz.underlying30 Tryz.underlying5 s W
      obtain ⟨W1, hW1⟩ : ∃ W1, W1 = Lib.bytesWorld w 5 s := ⟨_, rfl⟩
      have HW := Aside0.mk hW1
      have hb1 : Below w.heap.size w W1 := by rw [hW1]; exact bytes_below (Below.refl _ _) (Nat.le_refl _) _ _
      have HB := Aside0.mk hb1
      have HCL := Aside0.mk (show ∀ j, j < s.size → W1.cell? ⟨w.heap.size, j, none⟩ = some (.int .u8 ((s.data.toList.getD j 0).toNat : Int)) by rw [hW1]; exact fun j hj => Lib.bytesWorld_cell w 5 s j hj)
      clear hW1 hb1
      have kb1 := kb w
      rw [← HW.out] at kb1
      clear kb
      go_enter Tryz.func87, Tryz.ntmps87
      go_wp2
      obtain ⟨b0, hb0⟩ : ∃ b0, b0 = w.heap.size := ⟨_, rfl⟩
      rw [← hb0] at HCL ⊢
      clear hb0 kb1
      go_loopg [15] s.size (fun q v3 wr => ∃ k : Nat, v3 = .int .i64 (k : Int) ∧ k ≤ s.size ∧ Aside0 (q = s.size - k) ∧ Aside0 ((s.data.toList.take k).all okC = true) ∧ wr = W1)
      case atStart => exact ⟨0, rfl, Nat.zero_le _, ⟨rfl⟩, ⟨rfl⟩, rfl⟩
      case round =>
        obtain ⟨k, rfl, hk, hq, HA, rfl⟩ := hrel
        by_cases hlt : k < s.size
        · have hst := all_take s k hlt
          rw [HA.out, Bool.true_and] at hst
          have hcell := HCL.out k hlt
          have e : s.data.toList.getD k 0 = s[k] := by
            rw [List.getD_eq_getElem?_getD, List.getElem?_eq_getElem (by rw [data_length]; exact hlt)]
            rfl
          rw [e] at hcell
          obtain ⟨c, hce⟩ : ∃ c, c = s[k] := ⟨_, rfl⟩
          have hff := all_fail s k hlt
          rw [← hce] at hst hcell hff
          clear e hce
          cases hc : okC c with
          | true =>
            rw [hc] at hst
            have HST := Aside0.mk hst
            obtain ⟨h1, h2, h3⟩ := okC_true hc
            have q1 : ((c.toNat : Int) == 47) = false := beq_eq_false_iff_ne.mpr h3
            have q2 : (c.toNat == 47) = false := beq_eq_false_iff_ne.mpr (by omega)
            clear hst hc h3 hff
            go_wp2
            go_roundg (s.size - (k + 1))
            case measure => have := hq.out; omega
            case rel => exact ⟨k + 1, by go_num, by omega, ⟨rfl⟩, HST, rfl⟩
          | false =>
            have HR := Aside0.mk (show rightB s = false by unfold rightB; rw [hff hc]; rfl)
            have hcf := okC_false hc
            clear hst hc hff
            rcases hcf with h1 | ⟨h1, h2⟩ | ⟨h1, h2, h3⟩
            · go_wp2
              go_ret
              rw [HR.out]
              exact ⟨rfl, HB.out⟩
            · go_wp2
              go_ret
              rw [HR.out]
              exact ⟨rfl, HB.out⟩
            · have q1 : ((c.toNat : Int) == 47) = true := beq_iff_eq.mpr h3
              have q2 : (c.toNat == 47) = true := beq_iff_eq.mpr (by omega)
              clear h3
              go_wp2
              go_ret
              rw [HR.out]
              exact ⟨rfl, HB.out⟩
        · have e := HA.out
          rw [all_len s k (by omega)] at e
          have HR := Aside0.mk (show rightB s = true by unfold rightB; rw [e, decide_eq_true h1, decide_eq_true h2]; rfl)
          clear e
          go_wp2
          go_ret
          rw [HR.out]
          exact ⟨rfl, HB.out⟩
    · have HR := Aside0.mk (show rightB s = false by unfold rightB; rw [decide_eq_false h2, Bool.and_false])
      go_enter Tryz.func87, Tryz.ntmps87
      go_wp2
      go_ret
      rw [HR.out]
      exact ⟨rfl, Below.refl _ _⟩
  · have HR := Aside0.mk (show rightB s = false by unfold rightB; rw [decide_eq_false h1, Bool.and_false, Bool.false_and])
    have hz : s.data.toList = [] := List.eq_nil_of_length_eq_zero (by rw [data_length]; omega)
    have q0 : (s.toList == []) = true := by rw [ByteArray.toList_eq, hz]; rfl
    have q0' : (s.data.toList == []) = true := by rw [hz]; rfl
    have q0e : s.toList.isEmpty = true := by rw [ByteArray.toList_eq, hz]; rfl
    have q0e' : s.data.toList.isEmpty = true := by rw [hz]; rfl
    clear hz
    go_enter Tryz.func87, Tryz.ntmps87
    go_wp2
    go_ret
    rw [HR.out]
    exact ⟨rfl, Below.refl _ _⟩
end Go.Proofs.YtpnbjpkdbiiogaaGreat
/- Directories: alike texts; the reference's Names and Did. -/
namespace Go.Proofs.YtpnbjpkdbiiogaaGreat
set_option linter.unusedVariables false
open Go.RowKit Go.Proofs.YtpnbjpkdbiiogaaGreatW.PrintWords
attribute [local go_sem] mx2 mn2 mxTwo mnTwo

theorem infoStr : (Tryz.prog.info? 9).map (fun i => (i.zero, i.size, i.bytes)) = some (some (.string ⟨#[]⟩), 1, 16) := by kernel_rfl
theorem at_str {w : World} {A : Option Addr} {n : Nat} {xs : List ByteArray} (h : Kd.string.C w A n xs) (i : Nat) (h1 : i < n) : ∃ ad, A = some ad ∧ w.cell? (ad.add i) = some (.string (xs.getD i ⟨#[]⟩)) := by
  obtain ⟨ad, c, e, _, hK, hc0⟩ := Kd.C_get h (⟨#[]⟩ : ByteArray) (i : Int) (by omega) (by omega)
  simp only [Int.toNat_natCast] at hK hc0
  have hK' : c = [.string (xs.getD i ⟨#[]⟩)] := hK
  subst hK'
  exact ⟨ad, e, by have := hc0 0 _ rfl; rwa [show i * Kd.string.sz + 0 = i from Nat.mul_one i] at this⟩
set_option maxHeartbeats 1000000 in
theorem texts_any (A0 A1 : Option Addr) (n m c0 c1 : Nat) (l : List ByteArray) (w : World) (h0 : Kd.string.C w A0 n l) (h1 : Kd.string.C w A1 m l) :
    Calls Tryz.prog 15 #[.slice A0 n c0, .slice A1 m c1] w fun e w' => e = .returned (.bool true) ∧ Below w.heap.size w w' := by
  obtain rfl : l.length = n := h0.1
  obtain rfl : l.length = m := h1.1
  have hm := Kd.C_max h0
  have H0 := Aside0.mk h0
  have H1 := Aside0.mk h1
  clear h0 h1
  go_enter Tryz.func15, Tryz.ntmps15
  go_wp2
  go_loopg [5] l.length (fun q v5 wr => ∃ i : Nat, v5 = .int .i64 (i : Int) ∧ i ≤ l.length ∧ Aside0 (q = l.length - i) ∧ Aside0 (Below w.heap.size w wr))
  case atStart => exact ⟨0, rfl, Nat.zero_le _, ⟨rfl⟩, ⟨Below.refl _ _⟩⟩
  case round =>
    obtain ⟨i, rfl, hi, hq, HB⟩ := hrel
    by_cases hlt : i < l.length
    · obtain ⟨ad, rfl, r1⟩ := at_str H0.out i hlt
      obtain ⟨ad2, rfl, r2⟩ := at_str H1.out i hlt
      obtain ⟨s, hs⟩ : ∃ s, s = l.getD i ⟨#[]⟩ := ⟨_, rfl⟩
      rw [← hs] at r1 r2
      replace r1 := pw_cell_below HB.out r1
      replace r2 := pw_cell_below HB.out r2
      have q1 := bs_eq s s rfl
      clear hs
      go_wp2_with fail
      go_quiet (fail)
      go_wp2_with fail
      go_roundg (l.length - (i + 1))
      case measure => have := hq.out; omega
      case rel => exact ⟨i + 1, by go_num, by omega, ⟨rfl⟩, ⟨pw_below_drewN HB.out _⟩⟩
    · go_wp2_with fail
      go_ret
      exact ⟨rfl, HB.out⟩
set_option maxHeartbeats 1000000 in
theorem rnames_any (A : Option Addr) (n c : Nat) (l : List DN) (w : World) (hr : Kd.C kDN w A n l) (hn : n ≤ 1000000) :
    Calls Tryz.prog 11 #[.slice A n c] w fun e w' => ∃ v, e = .returned v ∧ Kd.R Kd.string 9 w' w.heap.size (fun _ => True) v (l.map (·.1)) ∧ Below w.heap.size w w' := by
  obtain rfl : l.length = n := hr.1
  have HR := Aside0.mk hr
  clear hr
  go_enter Tryz.func11, Tryz.ntmps11
  go_wp2
  go_loopg [3, 4] l.length (fun q v3 v4 wr => ∃ i : Nat, v4 = .int .i64 (i : Int) ∧ i ≤ l.length ∧ Aside0 (q = l.length - i) ∧ Aside0 (Kd.R Kd.string 9 wr w.heap.size (fun _ => True) v3 ((l.take i).map (·.1))) ∧ Aside0 (Below w.heap.size w wr))
  case atStart => exact ⟨0, rfl, Nat.zero_le _, ⟨rfl⟩, ⟨Kd.R_nil _ _ _ _ _⟩, ⟨Below.refl _ _⟩⟩
  case round =>
    obtain ⟨i, rfl, hi, hq, HO, HB⟩ := hrel
    by_cases hlt : i < l.length
    · obtain ⟨ad, e1, r1, r2⟩ := at_DN HR.out i hlt
      subst e1
      have HT := Aside0.mk (show (l.take (i + 1)).map (·.1) = (l.take i).map (·.1) ++ [(l.getD i zDN).1] by rw [take_succ_getD l i hlt, List.map_append]; rfl)
      obtain ⟨p, hp⟩ : ∃ p, p = l.getD i zDN := ⟨_, rfl⟩
      rw [← hp] at r1 r2 HT
      replace r1 := pw_cell_below HB.out r1
      have HLB := Aside0.mk (show ((l.take i).map (·.1)).length ≤ l.length by rw [List.length_map, List.length_take]; omega)
      clear hp r2
      go_wp2_with (at_builtin; refine Kd.R_append Kd.string (w0 := w) w.heap.size rfl (.tmp 11) (.tmp 17) 35 9 (.string ⟨#[]⟩) 16 rfl Tryz.underlying35 infoStr rfl (by decide) (by omega) u3 _ p.1 [.string p.1] (fun _ => True) (fun _ => False) rfl rfl rfl (fun _ h => h.elim) (fun _ _ => trivial) HO.out HB.out (below_size HB.out) (by have := HLB.out; omega) ?_; intro v1 w1 h1 hb1 _ _; rw [← HT.out] at h1; clear HO HB; have HO := Aside0.mk h1; have HB := Aside0.mk hb1; clear h1 hb1)
      go_roundg (l.length - (i + 1))
      case measure => have := hq.out; omega
      case rel => exact ⟨i + 1, by go_num, by omega, ⟨rfl⟩, HO, HB⟩
    · have h9 := HO.out
      rw [List.take_of_length_le (by omega)] at h9
      have HO9 := Aside0.mk h9
      clear h9
      go_wp2_with fail
      go_ret
      exact ⟨_, rfl, HO9.out, HB.out⟩
/-- What is read of a row of one's own. -/
theorem C_own9 {α : Type} {d : Kd α} {e : Nat} {w : World} {base : Nat} {ok : Nat → Prop} {A : Option Addr} {n c : Nat} {xs : List α} (h : d.R e w base ok (.slice A n c) xs) : d.C w A n xs := by
  obtain ⟨rfl, _, h3⟩ := Kd.R_reads' h
  exact h3
set_option maxHeartbeats 2000000 in
set_option maxRecDepth 100000 in
theorem did_any (b : Nat) (A : Option Addr) (n c : Nat) (l : List DN) (kd : Int) (sa sb : ByteArray) (id : Int) (w : World) (hr : Kd.R kDN 80 w b (fun _ => True) (.slice A n c) l) (hbw : b ≤ w.heap.size) (hn : n ≤ 100000) :
    Calls Tryz.prog 94 #[.slice A n c, (.agg #[.int .i64 kd, .string sa, .string sb, .int .i64 id])] w fun e w' => ∃ v, e = .returned v ∧ Kd.R kDN 80 w' b (fun _ => True) v (didL l ⟨kd, sa, sb, id⟩) ∧ Below w.heap.size w w' := by
  have HR := Aside0.mk hr
  clear hr
  by_cases h0 : kd = 0
  · subst h0
    have HD := Aside0.mk (show didL l ⟨0, sa, sb, id⟩ = withL l sa id by unfold didL; rw [if_pos rfl])
    obtain ⟨g, hg⟩ : ∃ g, g = getN l sa := ⟨_, rfl⟩
    have HG := Aside0.mk hg.symm
    clear hg
    go_enter Tryz.func94, Tryz.ntmps94
    go_wp2_with (first
      | (go_at_call 53; refine (rget_any A n c l sa _ (C_own9 (Kd.R_alloc HR.out _))).mono ?_; rw [HG.out]; rintro e w9 ⟨rfl, hw9⟩; subst hw9)
      | (go_at_call 105; refine (rwith_any A n c l sa id _ (C_own9 (Kd.R_alloc HR.out _)) (by omega)).mono ?_; rintro e w5 ⟨v5, rfl, hv, hb⟩; have HV := Aside0.mk (Kd.R_lower hv (Nat.le_trans hbw (below_alloc (Below.refl w.heap.size w) _).size)); have HB := Aside0.mk (below_step (below_alloc (Below.refl _ _) _) hb); clear hv hb))
    go_ret
    rw [HD.out]
    exact ⟨_, rfl, HV.out, HB.out⟩
  · have q0 : (kd == 0) = false := beq_eq_false_iff_ne.mpr h0
    cases hg : getN l sa with
    | none =>
      have HG := Aside0.mk hg
      have HD := Aside0.mk (show didL l ⟨kd, sa, sb, id⟩ = l by unfold didL; rw [if_neg h0]; simp only; rw [hg])
      clear hg h0
      go_enter Tryz.func94, Tryz.ntmps94
      go_wp2_with (first
        | (go_at_call 53; refine (rget_any A n c l sa _ (C_own9 (Kd.R_alloc HR.out _))).mono ?_; rw [HG.out]; rintro e w9 ⟨rfl, hw9⟩; subst hw9)
        | fail)
      go_ret
      rw [HD.out]
      exact ⟨_, rfl, Kd.R_alloc HR.out _, below_alloc (Below.refl _ _) _⟩
    | some y =>
      have HG := Aside0.mk hg
      have hnb := blk_new w (.cells #[.int .i64 kd, .string sa, .string sb, .int .i64 id] 109)
      have HT0 := Aside0.mk ((blk_cell hnb 0).trans (rfl : _ = some (Value.int .i64 kd)))
      have HT2 := Aside0.mk ((blk_cell hnb 2).trans (rfl : _ = some (Value.string sb)))
      clear hnb
      have hwl := withoutL_len l sa
      have hln : l.length = n := (C_own9 HR.out).1
      by_cases h1 : kd = 1
      · subst h1
        have HD := Aside0.mk (show didL l ⟨1, sa, sb, id⟩ = withL (withoutL l sa) sb y by unfold didL; rw [if_neg h0]; simp [hg])
        clear hg h0
        have hw2 : (withoutL l sa).length ≤ 1000000 := by omega
        clear hln
        go_enter Tryz.func94, Tryz.ntmps94
        go_wp2_with (first
          | (go_at_call 53; refine (rget_any A n c l sa _ (C_own9 (Kd.R_alloc HR.out _))).mono ?_; rw [HG.out]; rintro e w9 ⟨rfl, hw9⟩; subst hw9)
          | (go_at_call 106; refine (rwithout_any A n c l sa _ (C_own9 (Kd.R_alloc HR.out _)) (by omega)).mono ?_; rintro e w5 ⟨v5, rfl, hv, hb⟩; obtain ⟨A5, c5, rfl, _, hC5⟩ := Kd.R_reads hv; have t0 := pw_cell_below hb HT0.out; have t2 := pw_cell_below hb HT2.out; have HC5 := Aside0.mk hC5; have HB := Aside0.mk (below_step (below_alloc (Below.refl _ _) _) hb); clear hv hb hC5)
          | (go_at_call 105; refine (rwith_any A5 (withoutL l sa).length c5 (withoutL l sa) sb y _ HC5.out hw2).mono ?_; rintro e w6 ⟨v6, rfl, hv, hb⟩; have HV := Aside0.mk (Kd.R_lower hv (Nat.le_trans hbw HB.out.size)); have hbn := below_step HB.out hb; clear HB; have HB := Aside0.mk hbn; clear hv hb hbn))
        go_ret
        rw [HD.out]
        exact ⟨_, rfl, HV.out, HB.out⟩
      · have HD := Aside0.mk (show didL l ⟨kd, sa, sb, id⟩ = withoutL l sa by unfold didL; rw [if_neg h0]; simp only; rw [hg]; exact if_neg h1)
        have q1 : (kd == 1) = false := beq_eq_false_iff_ne.mpr h1
        clear hg h0 h1 hln
        go_enter Tryz.func94, Tryz.ntmps94
        go_wp2_with (first
          | (go_at_call 53; refine (rget_any A n c l sa _ (C_own9 (Kd.R_alloc HR.out _))).mono ?_; rw [HG.out]; rintro e w9 ⟨rfl, hw9⟩; subst hw9)
          | (go_at_call 106; refine (rwithout_any A n c l sa _ (C_own9 (Kd.R_alloc HR.out _)) (by omega)).mono ?_; rintro e w5 ⟨v5, rfl, hv, hb⟩; have t0 := pw_cell_below hb HT0.out; have HV := Aside0.mk (Kd.R_lower hv (Nat.le_trans hbw (below_alloc (Below.refl w.heap.size w) _).size)); have HB := Aside0.mk (below_step (below_alloc (Below.refl _ _) _) hb); clear hv hb))
        go_ret
        rw [HD.out]
        exact ⟨_, rfl, HV.out, HB.out⟩
end Go.Proofs.YtpnbjpkdbiiogaaGreat
/- The reference's directory in memory; Do, Sync. -/
namespace Go.Proofs.YtpnbjpkdbiiogaaGreat
set_option linter.unusedVariables false
open Go.RowKit Go.Proofs.YtpnbjpkdbiiogaaGreatW.PrintWords
attribute [local go_sem] mx2 mn2 mxTwo mnTwo

def kDop : Kd DOp := Kd.iso (Kd.pair (Kd.int .i64) (Kd.pair Kd.string (Kd.pair Kd.string (Kd.int .i64)))) (fun x : DOp => (x.kd, x.a, x.b, x.id))
theorem kDop_mkM (w : World) (base : Nat) (ok : Nat → Prop) (x : DOp) : kDop.M w base ok x [.int .i64 x.kd, .string x.a, .string x.b, .int .i64 x.id] :=
  ⟨[.int .i64 x.kd], [.string x.a, .string x.b, .int .i64 x.id], rfl, rfl, ⟨[.string x.a], [.string x.b, .int .i64 x.id], rfl, rfl, ⟨[.string x.b], [.int .i64 x.id], rfl, rfl, rfl⟩⟩⟩
theorem infoRDop : (Tryz.prog.info? 109).map (fun i => (i.zero, i.size, i.bytes)) = some (some (.agg #[(.int .i64 0), (.string ⟨#[]⟩), (.string ⟨#[]⟩), (.int .i64 0)]), 4, 48) := by kernel_rfl
theorem infoDop : (Tryz.prog.info? 122).map (fun i => (i.zero, i.size, i.bytes)) = some (some (.agg #[(.int .i64 0), (.string ⟨#[]⟩), (.string ⟨#[]⟩), (.int .i64 0)]), 4, 48) := by kernel_rfl
theorem at_Dop {w : World} {A : Option Addr} {n : Nat} {xs : List DOp} (h : Kd.C kDop w A n xs) (i : Nat) (h1 : i < n) : ∃ ad, A = some ad ∧ w.cell? (ad.add (i * 4)) = some (.int .i64 (xs.getD i zDop).kd) ∧ w.cell? ⟨(ad.add (i * 4)).block, (ad.add (i * 4)).off + 1, none⟩ = some (.string (xs.getD i zDop).a) ∧ w.cell? ⟨(ad.add (i * 4)).block, (ad.add (i * 4)).off + 2, none⟩ = some (.string (xs.getD i zDop).b) ∧ w.cell? ⟨(ad.add (i * 4)).block, (ad.add (i * 4)).off + 3, none⟩ = some (.int .i64 (xs.getD i zDop).id) := by
  obtain ⟨ad, c, e, _, hK, hc0⟩ := Kd.C_get h zDop (i : Int) (by omega) (by omega)
  simp only [Int.toNat_natCast] at hK hc0
  have hc : ∀ j u, c[j]? = some u → w.cell? (ad.add (i * 4 + j)) = some u := hc0
  obtain ⟨_, _, rfl, rfl, ⟨_, _, rfl, rfl, ⟨_, _, rfl, rfl, rfl⟩⟩⟩ := hK
  exact ⟨ad, e, hc 0 _ rfl, by rw [← add_field _ _ 1 (by omega)]; exact hc 1 _ rfl, by rw [← add_field _ _ 2 (by omega)]; exact hc 2 _ rfl, by rw [← add_field _ _ 3 (by omega)]; exact hc 3 _ rfl⟩
/-- The reference's directory. -/
structure RD (W : World) (b g : Nat) (vn vs vo : Value) (now safe : List DN) (ops : List DOp) : Prop where
  hb : W.heap[g]? = some (.cells #[vn, vs, vo] 40 (0, 0))
  hn : Kd.R kDN 80 W b (fun _ => True) vn now
  hs : Kd.R kDN 80 W b (fun _ => True) vs safe
  ho : Kd.R kDop 109 W b (fun _ => True) vo ops
  hg : b ≤ g
theorem dnE (t : Nat) (h1 : 80 ≠ t) : ∀ q, q ∈ 80 :: kDN.E → q ≠ t := by
  intro q hq
  have : kDN.E = [] := rfl
  rw [this] at hq
  simp at hq
  omega
theorem ropE7 (e t : Nat) (h1 : e ≠ t) : ∀ q, q ∈ e :: kDop.E → q ≠ t := by
  intro q hq
  have : kDop.E = [] := rfl
  rw [this] at hq
  simp at hq
  omega
section
variable {W W1 : World} {b g i : Nat} {x x' : Nat → Prop} {v vo : Value} {cs : Array Value} {t : TypeId}
theorem dfarN {xs : List DN} (h : Kd.R kDN 80 W b x v xs) (hb : W.heap[g]? = some (.cells cs t (0, 0))) (ht : 80 ≠ t) (u : Value) : Kd.R kDN 80 (W.setCell ⟨g, i, none⟩ u) b x v xs :=
  Kd.R_mono (Kd.R_far (Kd.R_types h hb (dnE _ ht)) (p := ⟨g, i, none⟩) (fun k hk => hk.2) u) (fun k hk => hk.1)
theorem dfarO {e : Nat} {xs : List DOp} (h : Kd.R kDop e W b x v xs) (hb : W.heap[g]? = some (.cells cs t (0, 0))) (ht : e ≠ t) (u : Value) : Kd.R kDop e (W.setCell ⟨g, i, none⟩ u) b x v xs :=
  Kd.R_mono (Kd.R_far (Kd.R_types h hb (ropE7 _ _ ht)) (p := ⟨g, i, none⟩) (fun k hk => hk.2) u) (fun k hk => hk.1)
theorem dgrowN {e : Nat} {xs : List DN} {ops : List DOp} (h : Kd.R kDN 80 W b x v xs) (ho : Kd.R kDop e W b x' vo ops) (he : 80 ≠ e) (hg : W.grownBy W1 vo.ownBlock) : Kd.R kDN 80 W1 b x v xs :=
  Kd.R_mono (Kd.R_grown (Kd.R_apartR h ho (dnE _ he)) hg (fun k hk => hk.2)) (fun k hk => hk.1)
end
section
variable {W W1 : World} {b g : Nat} {vn vs vo v1 : Value} {now safe now1 : List DN} {ops : List DOp} {o : DOp}
theorem RD.below (h : RD W b g vn vs vo now safe ops) (hb : Below W.heap.size W W1) : RD W1 b g vn vs vo now safe ops := ⟨blk_below h.hb hb, Kd.R_below h.hn hb, Kd.R_below h.hs hb, Kd.R_below h.ho hb, h.hg⟩
theorem RD.setNow (h : RD W b g vn vs vo now safe ops) (hv : Kd.R kDN 80 W b (fun _ => True) v1 now1) : RD (W.setCell ⟨g, 0, none⟩ v1) b g v1 vs vo now1 safe ops :=
  ⟨blk_put h.hb 0 _ rfl, dfarN hv h.hb (by decide) _, dfarN h.hs h.hb (by decide) _, dfarO h.ho h.hb (by decide) _, h.hg⟩
theorem RD.addOp (h : RD W b g vn vs vo now safe ops) (ho : Kd.R kDop 109 W1 b (fun _ => True) v1 (ops ++ [o])) (hg : W.grownBy W1 vo.ownBlock) : RD (W1.setCell ⟨g, 2, none⟩ v1) b g vn vs v1 now safe (ops ++ [o]) := by
  have hb := blk_grown h.hb hg (Kd.R_ne h.ho h.hb (by decide))
  exact ⟨blk_put hb 2 _ rfl, dfarN (dgrowN h.hn h.ho (by decide) hg) hb (by decide) _, dfarN (dgrowN h.hs h.ho (by decide) hg) hb (by decide) _, dfarO ho hb (by decide) _, h.hg⟩
end
theorem rdsync_any (b g : Nat) (vn vs vo : Value) (now safe : List DN) (ops : List DOp) (w : World) (h : RD w b g vn vs vo now safe ops) : Calls Tryz.prog 68 #[.pointer (some ⟨g, 0, none⟩)] w fun e w' => e = .returned (.tuple #[]) ∧ RD w' b g vn vn (.slice none 0 0) now now [] ∧ KeepBut w w' g none ∧ Below b w w' := by
  obtain ⟨A, c, rfl⟩ := Kd.R_slice h.hn
  have hc0 := (blk_cell h.hb 0).trans (rfl : _ = some (Value.slice A now.length c))
  have hc1 := (blk_cell h.hb 1).trans (rfl : _ = some vs)
  have hc2 := (blk_cell h.hb 2).trans (rfl : _ = some vo)
  have f1 := blk_frozen h.hb 1
  have f2 := blk_frozen h.hb 2
  have H := Aside0.mk h
  clear h
  go_enter Tryz.func68, Tryz.ntmps68
  go_wp2_with fail
  first | go_end0 | ((try simp only [Exit.inBlock, Exit.then]); refine bodyPost_ret (results_none rfl _ _ _) rfl ?_)
  have h1 := blk_put H.out.hb 1 (.slice A now.length c) rfl
  exact ⟨rfl, ⟨blk_put h1 2 _ rfl, dfarN (dfarN H.out.hn H.out.hb (by decide) _) h1 (by decide) _, dfarN (dfarN H.out.hn H.out.hb (by decide) _) h1 (by decide) _, Kd.R_nil _ _ _ _ _, H.out.hg⟩, ((KeepBut.refl _ _ _).set_ 1 _).set_ 2 _, (((Below.refl _ _).setCell (p := ⟨g, 1, none⟩) H.out.hg _).setCell (p := ⟨g, 2, none⟩) H.out.hg _)⟩
def doCode (now : List DN) (o : DOp) : Int :=
  if o.kd = 0 ∧ (getN now o.a).isSome = true then 7 else
  if o.kd ≠ 0 ∧ (getN now o.a).isSome = false then 6 else
  if o.kd = 0 ∧ rightB o.a = false ∨ o.kd = 1 ∧ rightB o.b = false then 1 else 0
def doNow (now : List DN) (o : DOp) : List DN := if doCode now o = 0 then didL now o else now
def doOps (now : List DN) (ops : List DOp) (o : DOp) : List DOp := if doCode now o = 0 then ops ++ [o] else ops
end Go.Proofs.YtpnbjpkdbiiogaaGreat
/- The reference's directory: Do. -/
namespace Go.Proofs.YtpnbjpkdbiiogaaGreat
set_option linter.unusedVariables false
open Go.RowKit Go.Proofs.YtpnbjpkdbiiogaaGreatW.PrintWords
attribute [local go_sem] mx2 mn2 mxTwo mnTwo

theorem rget_is (A : Option Addr) (n c : Nat) (l : List DN) (s : ByteArray) (w : World) (y : Int) (bo : Bool) (hg : (getN l s).getD 0 = y ∧ (getN l s).isSome = bo) (hr : Kd.C kDN w A n l) :
    Calls Tryz.prog 53 #[.slice A n c, .string s] w fun e w' => e = .returned (.tuple #[.int .i64 y, .bool bo]) ∧ w = w' := by
  refine (rget_any A n c l s w hr).mono ?_
  rintro e w' ⟨rfl, h⟩
  exact ⟨by rw [hg.1, hg.2], h⟩
set_option maxHeartbeats 400000 in
set_option maxRecDepth 100000 in
theorem rddo_twice (b g : Nat) (vn vs vo : Value) (now safe : List DN) (ops : List DOp) (sa sb : ByteArray) (id : Int) (w : World) (h : RD w b g vn vs vo now safe ops) (hsa : sa.size ≤ maxLen) (hsb : sb.size ≤ maxLen) (hln : now.length ≤ 100000) (hlo : ops.length ≤ 100000) (hg : (getN now sa).isSome = true) : Calls Tryz.prog 63 #[.pointer (some ⟨g, 0, none⟩), (.agg #[.int .i64 0, .string sa, .string sb, .int .i64 id])] w (fun e w' => e = .returned (.int .i64 7) ∧ ∃ vn' vo', RD w' b g vn' vs vo' (now) safe (ops) ∧ (vo'.ownBlock = vo.ownBlock ∨ ∃ k, vo'.ownBlock = some k ∧ w.heap.size ≤ k) ∧ KeepBut w w' g vo.ownBlock ∧ Below b w w') := by
  obtain ⟨y, hy⟩ : ∃ y, y = (getN now sa).getD 0 := ⟨_, rfl⟩
  have HG := Aside0.mk (show (getN now sa).getD 0 = y ∧ (getN now sa).isSome = true from ⟨hy.symm, hg⟩)
  have HRA : Aside0 (rightB sa = rightB sa) := ⟨rfl⟩
  clear hg hy
  have HSA := Aside0.mk hsa
  have HSB := Aside0.mk hsb
  clear hsa hsb
  obtain ⟨A, c, hvn⟩ := Kd.R_slice h.hn
  have HVN := Aside0.mk hvn
  have H := Aside0.mk h
  have hbw : b ≤ w.heap.size := Nat.le_trans h.hg (Nat.le_of_lt (blk_lt h.hb))
  clear h hvn
  go_enter Tryz.func63, Tryz.ntmps63
  go_wp2_with fail
  obtain ⟨W1, hW1⟩ : ∃ W1, W1 = w.alloc (.cells #[.int .i64 0, .string sa, .string sb, .int .i64 id] 109) := ⟨_, rfl⟩
  have hnb : W1.heap[w.heap.size]? = some (.cells #[.int .i64 0, .string sa, .string sb, .int .i64 id] 109 (0, 0)) := by rw [hW1]; exact blk_new _ _
  have hb1 : Below w.heap.size w W1 := by rw [hW1]; exact below_alloc (Below.refl _ _) _
  rw [← hW1]
  obtain ⟨p3, hp3⟩ : ∃ p3, p3 = w.heap.size := ⟨_, rfl⟩
  have hp3w : w.heap.size ≤ p3 := by omega
  rw [← hp3] at hnb ⊢
  have t0 := (blk_cell hnb 0).trans (rfl : _ = some (Value.int .i64 0))
  have t1 := (blk_cell hnb 1).trans (rfl : _ = some (Value.string sa))
  have t2 := (blk_cell hnb 2).trans (rfl : _ = some (Value.string sb))
  have t3 := (blk_cell hnb 3).trans (rfl : _ = some (Value.int .i64 id))
  have HS := Aside0.mk (RD.below (W1 := W1) H.out hb1)
  have HB1 := Aside0.mk hb1
  have hgp : g ≠ p3 := by have := blk_lt H.out.hb; omega
  have s0 := (blk_cell HS.out.hb 0).trans (rfl : _ = some vn)
  rw [HVN.out] at s0
  have HCN := Aside0.mk (C_own9 (HVN.out ▸ (Kd.R_drew HS.out.hn) : Kd.R kDN 80 W1.drew b (fun _ => True) (.slice A now.length c) now))
  have HNB := Aside0.mk hnb
  clear hnb hb1 hp3 hW1
  go_region_held3 (fun w' => w'.cell? ⟨g, 0, none⟩ = some (.slice A now.length c) ∧ w'.cell? ⟨p3, 1, none⟩ = some (.string sa)) (first | with_reducible exact ⟨s0, t1⟩ | exact ⟨s0, t1⟩) (first
    | (go_at_call 53; refine (rget_is A now.length c now sa _ y true HG.out HCN.out).mono ?_; rintro e w9 ⟨rfl, rfl⟩))
  all_goals
    go_wp2_with (first
      | (go_at_call 93; (with_reducible refine (rright_any sa _ HSA.out).mono ?_); rw [HRA.out]; rintro e w8 ⟨rfl, rfl⟩)
      | (go_at_call 93; (with_reducible refine (rright_any sb _ HSB.out).mono ?_); rw [HRA.out]; rintro e w8 ⟨rfl, rfl⟩))
    go_ret
    exact ⟨rfl, _, _, HS.out.below (below_drew1 (Below.refl _ _)), .inl rfl, KeepBut.of_below (HB1.out.trans (below_drew1 (Below.refl _ _))) _ _, (HB1.out.mono hbw).trans (below_drew1 (Below.refl _ _))⟩
set_option maxHeartbeats 400000 in
set_option maxRecDepth 100000 in
theorem rddo_none (b g : Nat) (vn vs vo : Value) (now safe : List DN) (ops : List DOp) (sa sb : ByteArray) (id : Int) (w : World) (h : RD w b g vn vs vo now safe ops) (hsa : sa.size ≤ maxLen) (hsb : sb.size ≤ maxLen) (hln : now.length ≤ 100000) (hlo : ops.length ≤ 100000) (kd : Int) (hk : kd ≠ 0) (hg : getN now sa = none) : Calls Tryz.prog 63 #[.pointer (some ⟨g, 0, none⟩), (.agg #[.int .i64 kd, .string sa, .string sb, .int .i64 id])] w (fun e w' => e = .returned (.int .i64 6) ∧ ∃ vn' vo', RD w' b g vn' vs vo' (now) safe (ops) ∧ (vo'.ownBlock = vo.ownBlock ∨ ∃ k, vo'.ownBlock = some k ∧ w.heap.size ≤ k) ∧ KeepBut w w' g vo.ownBlock ∧ Below b w w') := by
  have HG := Aside0.mk (show (getN now sa).getD 0 = 0 ∧ (getN now sa).isSome = false by rw [hg]; exact ⟨rfl, rfl⟩)
  have HRA : Aside0 (rightB sa = rightB sa) := ⟨rfl⟩
  have q0 : (kd == 0) = false := beq_eq_false_iff_ne.mpr hk
  have q0' : (kd != 0) = true := bne_iff_ne.mpr hk
  clear hg hk
  have HSA := Aside0.mk hsa
  have HSB := Aside0.mk hsb
  clear hsa hsb
  obtain ⟨A, c, hvn⟩ := Kd.R_slice h.hn
  have HVN := Aside0.mk hvn
  have H := Aside0.mk h
  have hbw : b ≤ w.heap.size := Nat.le_trans h.hg (Nat.le_of_lt (blk_lt h.hb))
  clear h hvn
  go_enter Tryz.func63, Tryz.ntmps63
  go_wp2_with fail
  obtain ⟨W1, hW1⟩ : ∃ W1, W1 = w.alloc (.cells #[.int .i64 kd, .string sa, .string sb, .int .i64 id] 109) := ⟨_, rfl⟩
  have hnb : W1.heap[w.heap.size]? = some (.cells #[.int .i64 kd, .string sa, .string sb, .int .i64 id] 109 (0, 0)) := by rw [hW1]; exact blk_new _ _
  have hb1 : Below w.heap.size w W1 := by rw [hW1]; exact below_alloc (Below.refl _ _) _
  rw [← hW1]
  obtain ⟨p3, hp3⟩ : ∃ p3, p3 = w.heap.size := ⟨_, rfl⟩
  have hp3w : w.heap.size ≤ p3 := by omega
  rw [← hp3] at hnb ⊢
  have t0 := (blk_cell hnb 0).trans (rfl : _ = some (Value.int .i64 kd))
  have t1 := (blk_cell hnb 1).trans (rfl : _ = some (Value.string sa))
  have t2 := (blk_cell hnb 2).trans (rfl : _ = some (Value.string sb))
  have t3 := (blk_cell hnb 3).trans (rfl : _ = some (Value.int .i64 id))
  have HS := Aside0.mk (RD.below (W1 := W1) H.out hb1)
  have HB1 := Aside0.mk hb1
  have hgp : g ≠ p3 := by have := blk_lt H.out.hb; omega
  have s0 := (blk_cell HS.out.hb 0).trans (rfl : _ = some vn)
  rw [HVN.out] at s0
  have HCN := Aside0.mk (C_own9 (HVN.out ▸ (Kd.R_drew HS.out.hn) : Kd.R kDN 80 W1.drew b (fun _ => True) (.slice A now.length c) now))
  have HNB := Aside0.mk hnb
  clear hnb hb1 hp3 hW1
  go_region_held3 (fun w' => w'.cell? ⟨g, 0, none⟩ = some (.slice A now.length c) ∧ w'.cell? ⟨p3, 1, none⟩ = some (.string sa)) (first | with_reducible exact ⟨s0, t1⟩ | exact ⟨s0, t1⟩) (first
    | (go_at_call 53; refine (rget_is A now.length c now sa _ 0 false HG.out HCN.out).mono ?_; rintro e w9 ⟨rfl, rfl⟩))
  all_goals
    go_wp2_with (first
      | (go_at_call 93; (with_reducible refine (rright_any sa _ HSA.out).mono ?_); rw [HRA.out]; rintro e w8 ⟨rfl, rfl⟩)
      | (go_at_call 93; (with_reducible refine (rright_any sb _ HSB.out).mono ?_); rw [HRA.out]; rintro e w8 ⟨rfl, rfl⟩))
    go_ret
    exact ⟨rfl, _, _, HS.out.below (below_drew1 (Below.refl _ _)), .inl rfl, KeepBut.of_below (HB1.out.trans (below_drew1 (Below.refl _ _))) _ _, (HB1.out.mono hbw).trans (below_drew1 (Below.refl _ _))⟩
set_option maxHeartbeats 400000 in
set_option maxRecDepth 100000 in
theorem rddo_wrong0 (b g : Nat) (vn vs vo : Value) (now safe : List DN) (ops : List DOp) (sa sb : ByteArray) (id : Int) (w : World) (h : RD w b g vn vs vo now safe ops) (hsa : sa.size ≤ maxLen) (hsb : sb.size ≤ maxLen) (hln : now.length ≤ 100000) (hlo : ops.length ≤ 100000) (hg : getN now sa = none) (hr : rightB sa = false) : Calls Tryz.prog 63 #[.pointer (some ⟨g, 0, none⟩), (.agg #[.int .i64 0, .string sa, .string sb, .int .i64 id])] w (fun e w' => e = .returned (.int .i64 1) ∧ ∃ vn' vo', RD w' b g vn' vs vo' (now) safe (ops) ∧ (vo'.ownBlock = vo.ownBlock ∨ ∃ k, vo'.ownBlock = some k ∧ w.heap.size ≤ k) ∧ KeepBut w w' g vo.ownBlock ∧ Below b w w') := by
  have HG := Aside0.mk (show (getN now sa).getD 0 = 0 ∧ (getN now sa).isSome = false by rw [hg]; exact ⟨rfl, rfl⟩)
  have HRA := Aside0.mk hr
  clear hg hr
  have HSA := Aside0.mk hsa
  have HSB := Aside0.mk hsb
  clear hsa hsb
  obtain ⟨A, c, hvn⟩ := Kd.R_slice h.hn
  have HVN := Aside0.mk hvn
  have H := Aside0.mk h
  have hbw : b ≤ w.heap.size := Nat.le_trans h.hg (Nat.le_of_lt (blk_lt h.hb))
  clear h hvn
  go_enter Tryz.func63, Tryz.ntmps63
  go_wp2_with fail
  obtain ⟨W1, hW1⟩ : ∃ W1, W1 = w.alloc (.cells #[.int .i64 0, .string sa, .string sb, .int .i64 id] 109) := ⟨_, rfl⟩
  have hnb : W1.heap[w.heap.size]? = some (.cells #[.int .i64 0, .string sa, .string sb, .int .i64 id] 109 (0, 0)) := by rw [hW1]; exact blk_new _ _
  have hb1 : Below w.heap.size w W1 := by rw [hW1]; exact below_alloc (Below.refl _ _) _
  rw [← hW1]
  obtain ⟨p3, hp3⟩ : ∃ p3, p3 = w.heap.size := ⟨_, rfl⟩
  have hp3w : w.heap.size ≤ p3 := by omega
  rw [← hp3] at hnb ⊢
  have t0 := (blk_cell hnb 0).trans (rfl : _ = some (Value.int .i64 0))
  have t1 := (blk_cell hnb 1).trans (rfl : _ = some (Value.string sa))
  have t2 := (blk_cell hnb 2).trans (rfl : _ = some (Value.string sb))
  have t3 := (blk_cell hnb 3).trans (rfl : _ = some (Value.int .i64 id))
  have HS := Aside0.mk (RD.below (W1 := W1) H.out hb1)
  have HB1 := Aside0.mk hb1
  have hgp : g ≠ p3 := by have := blk_lt H.out.hb; omega
  have s0 := (blk_cell HS.out.hb 0).trans (rfl : _ = some vn)
  rw [HVN.out] at s0
  have HCN := Aside0.mk (C_own9 (HVN.out ▸ (Kd.R_drew HS.out.hn) : Kd.R kDN 80 W1.drew b (fun _ => True) (.slice A now.length c) now))
  have HNB := Aside0.mk hnb
  clear hnb hb1 hp3 hW1
  go_region_held3 (fun w' => w'.cell? ⟨g, 0, none⟩ = some (.slice A now.length c) ∧ w'.cell? ⟨p3, 1, none⟩ = some (.string sa)) (first | with_reducible exact ⟨s0, t1⟩ | exact ⟨s0, t1⟩) (first
    | (go_at_call 53; refine (rget_is A now.length c now sa _ 0 false HG.out HCN.out).mono ?_; rintro e w9 ⟨rfl, rfl⟩))
  all_goals
    go_wp2_with (first
      | (go_at_call 93; (with_reducible refine (rright_any sa _ HSA.out).mono ?_); rw [HRA.out]; rintro e w8 ⟨rfl, rfl⟩)
      | (go_at_call 93; (with_reducible refine (rright_any sb _ HSB.out).mono ?_); rw [HRA.out]; rintro e w8 ⟨rfl, rfl⟩))
    go_ret
    exact ⟨rfl, _, _, HS.out.below (below_drew1 (Below.refl _ _)), .inl rfl, KeepBut.of_below (HB1.out.trans (below_drew1 (Below.refl _ _))) _ _, (HB1.out.mono hbw).trans (below_drew1 (Below.refl _ _))⟩
set_option maxHeartbeats 400000 in
set_option maxRecDepth 100000 in
theorem rddo_wrong1 (b g : Nat) (vn vs vo : Value) (now safe : List DN) (ops : List DOp) (sa sb : ByteArray) (id : Int) (w : World) (h : RD w b g vn vs vo now safe ops) (hsa : sa.size ≤ maxLen) (hsb : sb.size ≤ maxLen) (hln : now.length ≤ 100000) (hlo : ops.length ≤ 100000) (hg : (getN now sa).isSome = true) (hr : rightB sb = false) : Calls Tryz.prog 63 #[.pointer (some ⟨g, 0, none⟩), (.agg #[.int .i64 1, .string sa, .string sb, .int .i64 id])] w (fun e w' => e = .returned (.int .i64 1) ∧ ∃ vn' vo', RD w' b g vn' vs vo' (now) safe (ops) ∧ (vo'.ownBlock = vo.ownBlock ∨ ∃ k, vo'.ownBlock = some k ∧ w.heap.size ≤ k) ∧ KeepBut w w' g vo.ownBlock ∧ Below b w w') := by
  obtain ⟨y, hy⟩ : ∃ y, y = (getN now sa).getD 0 := ⟨_, rfl⟩
  have HG := Aside0.mk (show (getN now sa).getD 0 = y ∧ (getN now sa).isSome = true from ⟨hy.symm, hg⟩)
  have HRA := Aside0.mk hr
  clear hg hy hr
  have HSA := Aside0.mk hsa
  have HSB := Aside0.mk hsb
  clear hsa hsb
  obtain ⟨A, c, hvn⟩ := Kd.R_slice h.hn
  have HVN := Aside0.mk hvn
  have H := Aside0.mk h
  have hbw : b ≤ w.heap.size := Nat.le_trans h.hg (Nat.le_of_lt (blk_lt h.hb))
  clear h hvn
  go_enter Tryz.func63, Tryz.ntmps63
  go_wp2_with fail
  obtain ⟨W1, hW1⟩ : ∃ W1, W1 = w.alloc (.cells #[.int .i64 1, .string sa, .string sb, .int .i64 id] 109) := ⟨_, rfl⟩
  have hnb : W1.heap[w.heap.size]? = some (.cells #[.int .i64 1, .string sa, .string sb, .int .i64 id] 109 (0, 0)) := by rw [hW1]; exact blk_new _ _
  have hb1 : Below w.heap.size w W1 := by rw [hW1]; exact below_alloc (Below.refl _ _) _
  rw [← hW1]
  obtain ⟨p3, hp3⟩ : ∃ p3, p3 = w.heap.size := ⟨_, rfl⟩
  have hp3w : w.heap.size ≤ p3 := by omega
  rw [← hp3] at hnb ⊢
  have t0 := (blk_cell hnb 0).trans (rfl : _ = some (Value.int .i64 1))
  have t1 := (blk_cell hnb 1).trans (rfl : _ = some (Value.string sa))
  have t2 := (blk_cell hnb 2).trans (rfl : _ = some (Value.string sb))
  have t3 := (blk_cell hnb 3).trans (rfl : _ = some (Value.int .i64 id))
  have HS := Aside0.mk (RD.below (W1 := W1) H.out hb1)
  have HB1 := Aside0.mk hb1
  have hgp : g ≠ p3 := by have := blk_lt H.out.hb; omega
  have s0 := (blk_cell HS.out.hb 0).trans (rfl : _ = some vn)
  rw [HVN.out] at s0
  have HCN := Aside0.mk (C_own9 (HVN.out ▸ (Kd.R_drew HS.out.hn) : Kd.R kDN 80 W1.drew b (fun _ => True) (.slice A now.length c) now))
  have HNB := Aside0.mk hnb
  clear hnb hb1 hp3 hW1
  go_region_held3 (fun w' => w'.cell? ⟨g, 0, none⟩ = some (.slice A now.length c) ∧ w'.cell? ⟨p3, 1, none⟩ = some (.string sa)) (first | with_reducible exact ⟨s0, t1⟩ | exact ⟨s0, t1⟩) (first
    | (go_at_call 53; refine (rget_is A now.length c now sa _ y true HG.out HCN.out).mono ?_; rintro e w9 ⟨rfl, rfl⟩))
  all_goals
    go_wp2_with (first
      | (go_at_call 93; (with_reducible refine (rright_any sa _ HSA.out).mono ?_); rw [HRA.out]; rintro e w8 ⟨rfl, rfl⟩)
      | (go_at_call 93; (with_reducible refine (rright_any sb _ HSB.out).mono ?_); rw [HRA.out]; rintro e w8 ⟨rfl, rfl⟩))
    go_ret
    exact ⟨rfl, _, _, HS.out.below (below_drew1 (Below.refl _ _)), .inl rfl, KeepBut.of_below (HB1.out.trans (below_drew1 (Below.refl _ _))) _ _, (HB1.out.mono hbw).trans (below_drew1 (Below.refl _ _))⟩
set_option maxHeartbeats 4000000 in
set_option maxRecDepth 100000 in
theorem rddo_create (b g : Nat) (vn vs vo : Value) (now safe : List DN) (ops : List DOp) (sa sb : ByteArray) (id : Int) (w : World) (h : RD w b g vn vs vo now safe ops) (hsa : sa.size ≤ maxLen) (hsb : sb.size ≤ maxLen) (hln : now.length ≤ 100000) (hlo : ops.length ≤ 100000) (hg : getN now sa = none) (hr : rightB sa = true) : Calls Tryz.prog 63 #[.pointer (some ⟨g, 0, none⟩), (.agg #[.int .i64 0, .string sa, .string sb, .int .i64 id])] w (fun e w' => e = .returned (.int .i64 0) ∧ ∃ vn' vo', RD w' b g vn' vs vo' (didL now ⟨0, sa, sb, id⟩) safe (ops ++ [⟨0, sa, sb, id⟩]) ∧ (vo'.ownBlock = vo.ownBlock ∨ ∃ k, vo'.ownBlock = some k ∧ w.heap.size ≤ k) ∧ KeepBut w w' g vo.ownBlock ∧ Below b w w') := by
  have HG := Aside0.mk (show (getN now sa).getD 0 = 0 ∧ (getN now sa).isSome = false by rw [hg]; exact ⟨rfl, rfl⟩)
  have HRA := Aside0.mk hr
  clear hg hr
  have HSA := Aside0.mk hsa
  have HSB := Aside0.mk hsb
  clear hsa hsb
  obtain ⟨A, c, hvn⟩ := Kd.R_slice h.hn
  have HVN := Aside0.mk hvn
  have H := Aside0.mk h
  have hbw : b ≤ w.heap.size := Nat.le_trans h.hg (Nat.le_of_lt (blk_lt h.hb))
  clear h hvn
  go_enter Tryz.func63, Tryz.ntmps63
  go_wp2_with fail
  obtain ⟨W1, hW1⟩ : ∃ W1, W1 = w.alloc (.cells #[.int .i64 0, .string sa, .string sb, .int .i64 id] 109) := ⟨_, rfl⟩
  have hnb : W1.heap[w.heap.size]? = some (.cells #[.int .i64 0, .string sa, .string sb, .int .i64 id] 109 (0, 0)) := by rw [hW1]; exact blk_new _ _
  have hb1 : Below w.heap.size w W1 := by rw [hW1]; exact below_alloc (Below.refl _ _) _
  rw [← hW1]
  obtain ⟨p3, hp3⟩ : ∃ p3, p3 = w.heap.size := ⟨_, rfl⟩
  have hp3w : w.heap.size ≤ p3 := by omega
  rw [← hp3] at hnb ⊢
  have t0 := (blk_cell hnb 0).trans (rfl : _ = some (Value.int .i64 0))
  have t1 := (blk_cell hnb 1).trans (rfl : _ = some (Value.string sa))
  have t2 := (blk_cell hnb 2).trans (rfl : _ = some (Value.string sb))
  have t3 := (blk_cell hnb 3).trans (rfl : _ = some (Value.int .i64 id))
  have HS := Aside0.mk (RD.below (W1 := W1) H.out hb1)
  have HB1 := Aside0.mk hb1
  have hgp : g ≠ p3 := by have := blk_lt H.out.hb; omega
  have s0 := (blk_cell HS.out.hb 0).trans (rfl : _ = some vn)
  rw [HVN.out] at s0
  have HCN := Aside0.mk (C_own9 (HVN.out ▸ (Kd.R_drew HS.out.hn) : Kd.R kDN 80 W1.drew b (fun _ => True) (.slice A now.length c) now))
  have HNB := Aside0.mk hnb
  clear hnb hb1 hp3 hW1
  go_region_held3 (fun w' => w'.cell? ⟨g, 0, none⟩ = some (.slice A now.length c) ∧ w'.cell? ⟨p3, 1, none⟩ = some (.string sa)) (first | with_reducible exact ⟨s0, t1⟩ | exact ⟨s0, t1⟩) (first
    | (go_at_call 53; refine (rget_is A now.length c now sa _ 0 false HG.out HCN.out).mono ?_; rintro e w9 ⟨rfl, rfl⟩))
  all_goals
    go_wp2_with (first
      | (go_at_call 93; (with_reducible refine (rright_any sa _ HSA.out).mono ?_); rw [HRA.out]; rintro e w8 ⟨rfl, rfl⟩)
      | (go_at_call 93; (with_reducible refine (rright_any sb _ HSB.out).mono ?_); rw [HRA.out]; rintro e w8 ⟨rfl, rfl⟩))
    obtain ⟨W2, hW2⟩ : ∃ W2, W2 = W1.drew := ⟨_, rfl⟩
    have hb2 : Below w.heap.size w W2 := by rw [hW2]; exact HB1.out.trans (below_drew1 (Below.refl _ _))
    have hs2 : RD W2 b g vn vs vo now safe ops := by rw [hW2]; exact HS.out.below (below_drew1 (Below.refl _ _))
    have hnb2 : W2.heap[p3]? = some (.cells #[.int .i64 0, .string sa, .string sb, .int .i64 id] 109 (0, 0)) := by rw [hW2]; exact blk_drew HNB.out
    rw [← hW2]
    clear HS HB1 HNB HCN t0 t1 t2 t3 s0 hW2
    have t0 := (blk_cell hnb2 0).trans (rfl : _ = some (Value.int .i64 0))
    have t1 := (blk_cell hnb2 1).trans (rfl : _ = some (Value.string sa))
    have t2 := (blk_cell hnb2 2).trans (rfl : _ = some (Value.string sb))
    have t3 := (blk_cell hnb2 3).trans (rfl : _ = some (Value.int .i64 id))
    have s0 := (blk_cell hs2.hb 0).trans (rfl : _ = some vn)
    rw [HVN.out] at s0
    have z0 := blk_frozen hs2.hb 0
    have HRN := Aside0.mk (HVN.out ▸ hs2.hn : Kd.R kDN 80 W2 b (fun _ => True) (.slice A now.length c) now)
    have hbw2 : b ≤ W2.heap.size := Nat.le_trans hbw hb2.size
    have HS := Aside0.mk hs2
    have HB2 := Aside0.mk hb2
    have HNB := Aside0.mk hnb2
    clear hs2 hb2 hnb2
    go_region_law ((go_simp; go_at_call 94; refine (did_any b A now.length c now 0 sa sb id _ (Kd.R_drew HRN.out) hbw2 hln).mono ?_; rintro e w5 ⟨v5, rfl, hv, hb⟩; obtain ⟨A5, c5, rfl⟩ := Kd.R_slice hv; replace s0 := pw_cell_below hb s0; have hs5 := (HS.out.below (below_drew1 (Below.refl _ _))).below hb; have z5 := blk_frozen hs5.hb 0; have hn5 := blk_below (blk_drew HNB.out) hb; have hb5 := HB2.out.trans ((below_drew1 (Below.refl _ _)).trans (hb.mono HB2.out.size)); clear HS HB2 HNB HRN; have HS := Aside0.mk hs5; have HB2 := Aside0.mk hb5; have HNB := Aside0.mk hn5; have HV := Aside0.mk hv; clear hs5 hb5 hn5 hv hb))
    all_goals
      obtain ⟨N2, hN2⟩ : ∃ N2, N2 = didL now ⟨0, sa, sb, id⟩ := ⟨_, rfl⟩
      rw [← hN2] at HV ⊢
      obtain ⟨W6, hW6⟩ : ∃ W6, W6 = w5.setCell ⟨g, 0, none⟩ (.slice A5 N2.length c5) := ⟨_, rfl⟩
      have hs6 := HS.out.setNow HV.out
      have hn6 := blk_far HNB.out (p := ⟨g, 0, none⟩) (Ne.symm hgp) (.slice A5 N2.length c5)
      rw [← hW6] at hs6 hn6
      have hk6 : KeepBut w W6 g vo.ownBlock := by rw [hW6]; exact (KeepBut.of_below HB2.out _ _).set_ 0 _
      have hb6 : Below b w W6 := by rw [hW6]; exact (HB2.out.mono hbw).setCell (p := ⟨g, 0, none⟩) hs6.hg _
      rw [← hW6]
      clear HS HV HNB HB2 hW6 s0 z5 t0 t1 t2 t3
      have t0 := (blk_cell hn6 0).trans (rfl : _ = some (Value.int .i64 0))
      have t1 := (blk_cell hn6 1).trans (rfl : _ = some (Value.string sa))
      have t2 := (blk_cell hn6 2).trans (rfl : _ = some (Value.string sb))
      have t3 := (blk_cell hn6 3).trans (rfl : _ = some (Value.int .i64 id))
      obtain ⟨A11, c11, hvo⟩ := Kd.R_slice hs6.ho
      have s2 := (blk_cell hs6.hb 2).trans (rfl : _ = some vo)
      rw [hvo] at s2
      have z2 := blk_frozen hs6.hb 2
      have s2a := cell_al (.cells #[.int .i64 0, .string sa, .string sb, .int .i64 id] 109) s2
      have hoA : Kd.R kDop 109 W6 b (fun _ => True) (.slice A11 ops.length c11) ops := hvo ▸ hs6.ho
      have HG0 := Aside0.mk (Kd.R_ne hoA hs6.hb (by decide))
      have hbs : b ≤ W6.heap.size := Nat.le_trans hs6.hg (Nat.le_of_lt (blk_lt hs6.hb))
      have HOA := Aside0.mk hoA
      have HVO := Aside0.mk hvo
      have HS6 := Aside0.mk hs6
      have HK6 := Aside0.mk hk6
      have HB6 := Aside0.mk hb6
      clear hs6 hn6 hvo hoA hk6 hb6
      go_wp2_with fail
      go_region_law ((refine Kd.R_append_step kDop (W := W6.drew) (w0 := W6.drew) b (by rfl) (.tmp 63) (.tmp 65) 38 109 (.agg #[(.int .i64 0), (.string ⟨#[]⟩), (.string ⟨#[]⟩), (.int .i64 0)]) 48 rfl Tryz.underlying38 infoRDop rfl (by decide) (by omega) (.slice A11 ops.length c11) ops ⟨0, sa, sb, id⟩ [.int .i64 0, .string sa, .string sb, .int .i64 id] (fun _ => True) (fun _ => False) (by rfl) (by rfl) (kDop_mkM _ _ _ ⟨0, sa, sb, id⟩) (fun _ h => h.elim) (fun _ _ => trivial) (Kd.R_drew HOA.out) (Below.refl _ _) hbs (by omega) ?_); intro v7 w7 ho7 hl7 hg7 hat7; obtain ⟨g7, c7', e7, _, _, _⟩ := Kd.R_form ho7 (by simp); rw [List.length_append, List.length_singleton] at e7; subst e7; have hb7 := blk_grown (blk_drew HS6.out.hb) hg7 HG0.out; have s7 := (blk_cell hb7 2).trans (rfl : _ = some vo); rw [HVO.out] at s7; have z7 := blk_frozen hb7 2; have HO7 := Aside0.mk ho7; have HL7 := Aside0.mk hl7; have HG7 := Aside0.mk hg7; have HAT7 := Aside0.mk hat7; clear ho7 hl7 hg7 hat7 hb7)
      all_goals
        go_wp2_with fail
        go_ret
        have hg7 := HG7.out
        have hat7 := HAT7.out
        rw [← HVO.out] at hg7 hat7
        have hfin := (HS6.out.below (below_drew1 (Below.refl _ _))).addOp HO7.out hg7
        rw [hN2] at hfin
        exact ⟨rfl, _, _, hfin, hat7.imp (fun h => h) (fun ⟨k, e, hk⟩ => ⟨k, e, Nat.le_trans HK6.out.1 hk⟩), ((keep_drew HK6.out).trans (KeepBut.of_grown hg7 g) (.inl rfl)).set_ 2 _, ((HB6.out.trans (below_drew1 (Below.refl _ _))).trans HL7.out).setCell (p := ⟨g, 2, none⟩) HS6.out.hg _⟩
set_option maxHeartbeats 1000000 in
set_option maxRecDepth 100000 in
theorem rddo_rename (b g : Nat) (vn vs vo : Value) (now safe : List DN) (ops : List DOp) (sa sb : ByteArray) (id : Int) (w : World) (h : RD w b g vn vs vo now safe ops) (hsa : sa.size ≤ maxLen) (hsb : sb.size ≤ maxLen) (hln : now.length ≤ 100000) (hlo : ops.length ≤ 100000) (hg : (getN now sa).isSome = true) (hr : rightB sb = true) : Calls Tryz.prog 63 #[.pointer (some ⟨g, 0, none⟩), (.agg #[.int .i64 1, .string sa, .string sb, .int .i64 id])] w (fun e w' => e = .returned (.int .i64 0) ∧ ∃ vn' vo', RD w' b g vn' vs vo' (didL now ⟨1, sa, sb, id⟩) safe (ops ++ [⟨1, sa, sb, id⟩]) ∧ (vo'.ownBlock = vo.ownBlock ∨ ∃ k, vo'.ownBlock = some k ∧ w.heap.size ≤ k) ∧ KeepBut w w' g vo.ownBlock ∧ Below b w w') := by
  obtain ⟨y, hy⟩ : ∃ y, y = (getN now sa).getD 0 := ⟨_, rfl⟩
  have HG := Aside0.mk (show (getN now sa).getD 0 = y ∧ (getN now sa).isSome = true from ⟨hy.symm, hg⟩)
  have HRA := Aside0.mk hr
  clear hg hy hr
  have HSA := Aside0.mk hsa
  have HSB := Aside0.mk hsb
  clear hsa hsb
  obtain ⟨A, c, hvn⟩ := Kd.R_slice h.hn
  have HVN := Aside0.mk hvn
  have H := Aside0.mk h
  have hbw : b ≤ w.heap.size := Nat.le_trans h.hg (Nat.le_of_lt (blk_lt h.hb))
  clear h hvn
  go_enter Tryz.func63, Tryz.ntmps63
  go_wp2_with fail
  obtain ⟨W1, hW1⟩ : ∃ W1, W1 = w.alloc (.cells #[.int .i64 1, .string sa, .string sb, .int .i64 id] 109) := ⟨_, rfl⟩
  have hnb : W1.heap[w.heap.size]? = some (.cells #[.int .i64 1, .string sa, .string sb, .int .i64 id] 109 (0, 0)) := by rw [hW1]; exact blk_new _ _
  have hb1 : Below w.heap.size w W1 := by rw [hW1]; exact below_alloc (Below.refl _ _) _
  rw [← hW1]
  obtain ⟨p3, hp3⟩ : ∃ p3, p3 = w.heap.size := ⟨_, rfl⟩
  have hp3w : w.heap.size ≤ p3 := by omega
  rw [← hp3] at hnb ⊢
  have t0 := (blk_cell hnb 0).trans (rfl : _ = some (Value.int .i64 1))
  have t1 := (blk_cell hnb 1).trans (rfl : _ = some (Value.string sa))
  have t2 := (blk_cell hnb 2).trans (rfl : _ = some (Value.string sb))
  have t3 := (blk_cell hnb 3).trans (rfl : _ = some (Value.int .i64 id))
  have HS := Aside0.mk (RD.below (W1 := W1) H.out hb1)
  have HB1 := Aside0.mk hb1
  have hgp : g ≠ p3 := by have := blk_lt H.out.hb; omega
  have s0 := (blk_cell HS.out.hb 0).trans (rfl : _ = some vn)
  rw [HVN.out] at s0
  have HCN := Aside0.mk (C_own9 (HVN.out ▸ (Kd.R_drew HS.out.hn) : Kd.R kDN 80 W1.drew b (fun _ => True) (.slice A now.length c) now))
  have HNB := Aside0.mk hnb
  clear hnb hb1 hp3 hW1
  go_region_held3 (fun w' => w'.cell? ⟨g, 0, none⟩ = some (.slice A now.length c) ∧ w'.cell? ⟨p3, 1, none⟩ = some (.string sa)) (first | with_reducible exact ⟨s0, t1⟩ | exact ⟨s0, t1⟩) (first
    | (go_at_call 53; refine (rget_is A now.length c now sa _ y true HG.out HCN.out).mono ?_; rintro e w9 ⟨rfl, rfl⟩))
  all_goals
    go_wp2_with (first
      | (go_at_call 93; (with_reducible refine (rright_any sa _ HSA.out).mono ?_); rw [HRA.out]; rintro e w8 ⟨rfl, rfl⟩)
      | (go_at_call 93; (with_reducible refine (rright_any sb _ HSB.out).mono ?_); rw [HRA.out]; rintro e w8 ⟨rfl, rfl⟩))
    obtain ⟨W2, hW2⟩ : ∃ W2, W2 = W1.drew := ⟨_, rfl⟩
    have hb2 : Below w.heap.size w W2 := by rw [hW2]; exact HB1.out.trans (below_drew1 (Below.refl _ _))
    have hs2 : RD W2 b g vn vs vo now safe ops := by rw [hW2]; exact HS.out.below (below_drew1 (Below.refl _ _))
    have hnb2 : W2.heap[p3]? = some (.cells #[.int .i64 1, .string sa, .string sb, .int .i64 id] 109 (0, 0)) := by rw [hW2]; exact blk_drew HNB.out
    rw [← hW2]
    clear HS HB1 HNB HCN t0 t1 t2 t3 s0 hW2
    have t0 := (blk_cell hnb2 0).trans (rfl : _ = some (Value.int .i64 1))
    have t1 := (blk_cell hnb2 1).trans (rfl : _ = some (Value.string sa))
    have t2 := (blk_cell hnb2 2).trans (rfl : _ = some (Value.string sb))
    have t3 := (blk_cell hnb2 3).trans (rfl : _ = some (Value.int .i64 id))
    have s0 := (blk_cell hs2.hb 0).trans (rfl : _ = some vn)
    rw [HVN.out] at s0
    have z0 := blk_frozen hs2.hb 0
    have HRN := Aside0.mk (HVN.out ▸ hs2.hn : Kd.R kDN 80 W2 b (fun _ => True) (.slice A now.length c) now)
    have hbw2 : b ≤ W2.heap.size := Nat.le_trans hbw hb2.size
    have HS := Aside0.mk hs2
    have HB2 := Aside0.mk hb2
    have HNB := Aside0.mk hnb2
    clear hs2 hb2 hnb2
    go_region_law ((go_simp; go_at_call 94; refine (did_any b A now.length c now 1 sa sb id _ (Kd.R_drew HRN.out) hbw2 hln).mono ?_; rintro e w5 ⟨v5, rfl, hv, hb⟩; obtain ⟨A5, c5, rfl⟩ := Kd.R_slice hv; replace s0 := pw_cell_below hb s0; have hs5 := (HS.out.below (below_drew1 (Below.refl _ _))).below hb; have z5 := blk_frozen hs5.hb 0; have hn5 := blk_below (blk_drew HNB.out) hb; have hb5 := HB2.out.trans ((below_drew1 (Below.refl _ _)).trans (hb.mono HB2.out.size)); clear HS HB2 HNB HRN; have HS := Aside0.mk hs5; have HB2 := Aside0.mk hb5; have HNB := Aside0.mk hn5; have HV := Aside0.mk hv; clear hs5 hb5 hn5 hv hb))
    all_goals
      obtain ⟨N2, hN2⟩ : ∃ N2, N2 = didL now ⟨1, sa, sb, id⟩ := ⟨_, rfl⟩
      rw [← hN2] at HV ⊢
      obtain ⟨W6, hW6⟩ : ∃ W6, W6 = w5.setCell ⟨g, 0, none⟩ (.slice A5 N2.length c5) := ⟨_, rfl⟩
      have hs6 := HS.out.setNow HV.out
      have hn6 := blk_far HNB.out (p := ⟨g, 0, none⟩) (Ne.symm hgp) (.slice A5 N2.length c5)
      rw [← hW6] at hs6 hn6
      have hk6 : KeepBut w W6 g vo.ownBlock := by rw [hW6]; exact (KeepBut.of_below HB2.out _ _).set_ 0 _
      have hb6 : Below b w W6 := by rw [hW6]; exact (HB2.out.mono hbw).setCell (p := ⟨g, 0, none⟩) hs6.hg _
      rw [← hW6]
      clear HS HV HNB HB2 hW6 s0 z5 t0 t1 t2 t3
      have t0 := (blk_cell hn6 0).trans (rfl : _ = some (Value.int .i64 1))
      have t1 := (blk_cell hn6 1).trans (rfl : _ = some (Value.string sa))
      have t2 := (blk_cell hn6 2).trans (rfl : _ = some (Value.string sb))
      have t3 := (blk_cell hn6 3).trans (rfl : _ = some (Value.int .i64 id))
      obtain ⟨A11, c11, hvo⟩ := Kd.R_slice hs6.ho
      have s2 := (blk_cell hs6.hb 2).trans (rfl : _ = some vo)
      rw [hvo] at s2
      have z2 := blk_frozen hs6.hb 2
      have s2a := cell_al (.cells #[.int .i64 1, .string sa, .string sb, .int .i64 id] 109) s2
      have hoA : Kd.R kDop 109 W6 b (fun _ => True) (.slice A11 ops.length c11) ops := hvo ▸ hs6.ho
      have HG0 := Aside0.mk (Kd.R_ne hoA hs6.hb (by decide))
      have hbs : b ≤ W6.heap.size := Nat.le_trans hs6.hg (Nat.le_of_lt (blk_lt hs6.hb))
      have HOA := Aside0.mk hoA
      have HVO := Aside0.mk hvo
      have HS6 := Aside0.mk hs6
      have HK6 := Aside0.mk hk6
      have HB6 := Aside0.mk hb6
      clear hs6 hn6 hvo hoA hk6 hb6
      go_wp2_with fail
      go_region_law ((refine Kd.R_append_step kDop (W := W6.drew) (w0 := W6.drew) b (by rfl) (.tmp 63) (.tmp 65) 38 109 (.agg #[(.int .i64 0), (.string ⟨#[]⟩), (.string ⟨#[]⟩), (.int .i64 0)]) 48 rfl Tryz.underlying38 infoRDop rfl (by decide) (by omega) (.slice A11 ops.length c11) ops ⟨1, sa, sb, id⟩ [.int .i64 1, .string sa, .string sb, .int .i64 id] (fun _ => True) (fun _ => False) (by rfl) (by rfl) (kDop_mkM _ _ _ ⟨1, sa, sb, id⟩) (fun _ h => h.elim) (fun _ _ => trivial) (Kd.R_drew HOA.out) (Below.refl _ _) hbs (by omega) ?_); intro v7 w7 ho7 hl7 hg7 hat7; obtain ⟨g7, c7', e7, _, _, _⟩ := Kd.R_form ho7 (by simp); rw [List.length_append, List.length_singleton] at e7; subst e7; have hb7 := blk_grown (blk_drew HS6.out.hb) hg7 HG0.out; have s7 := (blk_cell hb7 2).trans (rfl : _ = some vo); rw [HVO.out] at s7; have z7 := blk_frozen hb7 2; have HO7 := Aside0.mk ho7; have HL7 := Aside0.mk hl7; have HG7 := Aside0.mk hg7; have HAT7 := Aside0.mk hat7; clear ho7 hl7 hg7 hat7 hb7)
      all_goals
        go_wp2_with fail
        go_ret
        have hg7 := HG7.out
        have hat7 := HAT7.out
        rw [← HVO.out] at hg7 hat7
        have hfin := (HS6.out.below (below_drew1 (Below.refl _ _))).addOp HO7.out hg7
        rw [hN2] at hfin
        exact ⟨rfl, _, _, hfin, hat7.imp (fun h => h) (fun ⟨k, e, hk⟩ => ⟨k, e, Nat.le_trans HK6.out.1 hk⟩), ((keep_drew HK6.out).trans (KeepBut.of_grown hg7 g) (.inl rfl)).set_ 2 _, ((HB6.out.trans (below_drew1 (Below.refl _ _))).trans HL7.out).setCell (p := ⟨g, 2, none⟩) HS6.out.hg _⟩
set_option maxHeartbeats 1000000 in
set_option maxRecDepth 100000 in
theorem rddo_unlink (b g : Nat) (vn vs vo : Value) (now safe : List DN) (ops : List DOp) (sa sb : ByteArray) (id : Int) (w : World) (h : RD w b g vn vs vo now safe ops) (hsa : sa.size ≤ maxLen) (hsb : sb.size ≤ maxLen) (hln : now.length ≤ 100000) (hlo : ops.length ≤ 100000) (kd : Int) (hk : kd ≠ 0) (hk1 : kd ≠ 1) (hg : (getN now sa).isSome = true) : Calls Tryz.prog 63 #[.pointer (some ⟨g, 0, none⟩), (.agg #[.int .i64 kd, .string sa, .string sb, .int .i64 id])] w (fun e w' => e = .returned (.int .i64 0) ∧ ∃ vn' vo', RD w' b g vn' vs vo' (didL now ⟨kd, sa, sb, id⟩) safe (ops ++ [⟨kd, sa, sb, id⟩]) ∧ (vo'.ownBlock = vo.ownBlock ∨ ∃ k, vo'.ownBlock = some k ∧ w.heap.size ≤ k) ∧ KeepBut w w' g vo.ownBlock ∧ Below b w w') := by
  obtain ⟨y, hy⟩ : ∃ y, y = (getN now sa).getD 0 := ⟨_, rfl⟩
  have HG := Aside0.mk (show (getN now sa).getD 0 = y ∧ (getN now sa).isSome = true from ⟨hy.symm, hg⟩)
  have HRA : Aside0 (rightB sa = rightB sa) := ⟨rfl⟩
  have q0 : (kd == 0) = false := beq_eq_false_iff_ne.mpr hk
  have q0' : (kd != 0) = true := bne_iff_ne.mpr hk
  have q1 : (kd == 1) = false := beq_eq_false_iff_ne.mpr hk1
  clear hg hy hk hk1
  have HSA := Aside0.mk hsa
  have HSB := Aside0.mk hsb
  clear hsa hsb
  obtain ⟨A, c, hvn⟩ := Kd.R_slice h.hn
  have HVN := Aside0.mk hvn
  have H := Aside0.mk h
  have hbw : b ≤ w.heap.size := Nat.le_trans h.hg (Nat.le_of_lt (blk_lt h.hb))
  clear h hvn
  go_enter Tryz.func63, Tryz.ntmps63
  go_wp2_with fail
  obtain ⟨W1, hW1⟩ : ∃ W1, W1 = w.alloc (.cells #[.int .i64 kd, .string sa, .string sb, .int .i64 id] 109) := ⟨_, rfl⟩
  have hnb : W1.heap[w.heap.size]? = some (.cells #[.int .i64 kd, .string sa, .string sb, .int .i64 id] 109 (0, 0)) := by rw [hW1]; exact blk_new _ _
  have hb1 : Below w.heap.size w W1 := by rw [hW1]; exact below_alloc (Below.refl _ _) _
  rw [← hW1]
  obtain ⟨p3, hp3⟩ : ∃ p3, p3 = w.heap.size := ⟨_, rfl⟩
  have hp3w : w.heap.size ≤ p3 := by omega
  rw [← hp3] at hnb ⊢
  have t0 := (blk_cell hnb 0).trans (rfl : _ = some (Value.int .i64 kd))
  have t1 := (blk_cell hnb 1).trans (rfl : _ = some (Value.string sa))
  have t2 := (blk_cell hnb 2).trans (rfl : _ = some (Value.string sb))
  have t3 := (blk_cell hnb 3).trans (rfl : _ = some (Value.int .i64 id))
  have HS := Aside0.mk (RD.below (W1 := W1) H.out hb1)
  have HB1 := Aside0.mk hb1
  have hgp : g ≠ p3 := by have := blk_lt H.out.hb; omega
  have s0 := (blk_cell HS.out.hb 0).trans (rfl : _ = some vn)
  rw [HVN.out] at s0
  have HCN := Aside0.mk (C_own9 (HVN.out ▸ (Kd.R_drew HS.out.hn) : Kd.R kDN 80 W1.drew b (fun _ => True) (.slice A now.length c) now))
  have HNB := Aside0.mk hnb
  clear hnb hb1 hp3 hW1
  go_region_held3 (fun w' => w'.cell? ⟨g, 0, none⟩ = some (.slice A now.length c) ∧ w'.cell? ⟨p3, 1, none⟩ = some (.string sa)) (first | with_reducible exact ⟨s0, t1⟩ | exact ⟨s0, t1⟩) (first
    | (go_at_call 53; refine (rget_is A now.length c now sa _ y true HG.out HCN.out).mono ?_; rintro e w9 ⟨rfl, rfl⟩))
  all_goals
    go_wp2_with (first
      | (go_at_call 93; (with_reducible refine (rright_any sa _ HSA.out).mono ?_); rw [HRA.out]; rintro e w8 ⟨rfl, rfl⟩)
      | (go_at_call 93; (with_reducible refine (rright_any sb _ HSB.out).mono ?_); rw [HRA.out]; rintro e w8 ⟨rfl, rfl⟩))
    obtain ⟨W2, hW2⟩ : ∃ W2, W2 = W1.drew := ⟨_, rfl⟩
    have hb2 : Below w.heap.size w W2 := by rw [hW2]; exact HB1.out.trans (below_drew1 (Below.refl _ _))
    have hs2 : RD W2 b g vn vs vo now safe ops := by rw [hW2]; exact HS.out.below (below_drew1 (Below.refl _ _))
    have hnb2 : W2.heap[p3]? = some (.cells #[.int .i64 kd, .string sa, .string sb, .int .i64 id] 109 (0, 0)) := by rw [hW2]; exact blk_drew HNB.out
    rw [← hW2]
    clear HS HB1 HNB HCN t0 t1 t2 t3 s0 hW2
    have t0 := (blk_cell hnb2 0).trans (rfl : _ = some (Value.int .i64 kd))
    have t1 := (blk_cell hnb2 1).trans (rfl : _ = some (Value.string sa))
    have t2 := (blk_cell hnb2 2).trans (rfl : _ = some (Value.string sb))
    have t3 := (blk_cell hnb2 3).trans (rfl : _ = some (Value.int .i64 id))
    have s0 := (blk_cell hs2.hb 0).trans (rfl : _ = some vn)
    rw [HVN.out] at s0
    have z0 := blk_frozen hs2.hb 0
    have HRN := Aside0.mk (HVN.out ▸ hs2.hn : Kd.R kDN 80 W2 b (fun _ => True) (.slice A now.length c) now)
    have hbw2 : b ≤ W2.heap.size := Nat.le_trans hbw hb2.size
    have HS := Aside0.mk hs2
    have HB2 := Aside0.mk hb2
    have HNB := Aside0.mk hnb2
    clear hs2 hb2 hnb2
    go_region_law ((go_simp; go_at_call 94; refine (did_any b A now.length c now kd sa sb id _ (Kd.R_drew HRN.out) hbw2 hln).mono ?_; rintro e w5 ⟨v5, rfl, hv, hb⟩; obtain ⟨A5, c5, rfl⟩ := Kd.R_slice hv; replace s0 := pw_cell_below hb s0; have hs5 := (HS.out.below (below_drew1 (Below.refl _ _))).below hb; have z5 := blk_frozen hs5.hb 0; have hn5 := blk_below (blk_drew HNB.out) hb; have hb5 := HB2.out.trans ((below_drew1 (Below.refl _ _)).trans (hb.mono HB2.out.size)); clear HS HB2 HNB HRN; have HS := Aside0.mk hs5; have HB2 := Aside0.mk hb5; have HNB := Aside0.mk hn5; have HV := Aside0.mk hv; clear hs5 hb5 hn5 hv hb))
    all_goals
      obtain ⟨N2, hN2⟩ : ∃ N2, N2 = didL now ⟨kd, sa, sb, id⟩ := ⟨_, rfl⟩
      rw [← hN2] at HV ⊢
      obtain ⟨W6, hW6⟩ : ∃ W6, W6 = w5.setCell ⟨g, 0, none⟩ (.slice A5 N2.length c5) := ⟨_, rfl⟩
      have hs6 := HS.out.setNow HV.out
      have hn6 := blk_far HNB.out (p := ⟨g, 0, none⟩) (Ne.symm hgp) (.slice A5 N2.length c5)
      rw [← hW6] at hs6 hn6
      have hk6 : KeepBut w W6 g vo.ownBlock := by rw [hW6]; exact (KeepBut.of_below HB2.out _ _).set_ 0 _
      have hb6 : Below b w W6 := by rw [hW6]; exact (HB2.out.mono hbw).setCell (p := ⟨g, 0, none⟩) hs6.hg _
      rw [← hW6]
      clear HS HV HNB HB2 hW6 s0 z5 t0 t1 t2 t3
      have t0 := (blk_cell hn6 0).trans (rfl : _ = some (Value.int .i64 kd))
      have t1 := (blk_cell hn6 1).trans (rfl : _ = some (Value.string sa))
      have t2 := (blk_cell hn6 2).trans (rfl : _ = some (Value.string sb))
      have t3 := (blk_cell hn6 3).trans (rfl : _ = some (Value.int .i64 id))
      obtain ⟨A11, c11, hvo⟩ := Kd.R_slice hs6.ho
      have s2 := (blk_cell hs6.hb 2).trans (rfl : _ = some vo)
      rw [hvo] at s2
      have z2 := blk_frozen hs6.hb 2
      have s2a := cell_al (.cells #[.int .i64 kd, .string sa, .string sb, .int .i64 id] 109) s2
      have hoA : Kd.R kDop 109 W6 b (fun _ => True) (.slice A11 ops.length c11) ops := hvo ▸ hs6.ho
      have HG0 := Aside0.mk (Kd.R_ne hoA hs6.hb (by decide))
      have hbs : b ≤ W6.heap.size := Nat.le_trans hs6.hg (Nat.le_of_lt (blk_lt hs6.hb))
      have HOA := Aside0.mk hoA
      have HVO := Aside0.mk hvo
      have HS6 := Aside0.mk hs6
      have HK6 := Aside0.mk hk6
      have HB6 := Aside0.mk hb6
      clear hs6 hn6 hvo hoA hk6 hb6
      go_wp2_with fail
      go_region_law ((refine Kd.R_append_step kDop (W := W6.drew) (w0 := W6.drew) b (by rfl) (.tmp 63) (.tmp 65) 38 109 (.agg #[(.int .i64 0), (.string ⟨#[]⟩), (.string ⟨#[]⟩), (.int .i64 0)]) 48 rfl Tryz.underlying38 infoRDop rfl (by decide) (by omega) (.slice A11 ops.length c11) ops ⟨kd, sa, sb, id⟩ [.int .i64 kd, .string sa, .string sb, .int .i64 id] (fun _ => True) (fun _ => False) (by rfl) (by rfl) (kDop_mkM _ _ _ ⟨kd, sa, sb, id⟩) (fun _ h => h.elim) (fun _ _ => trivial) (Kd.R_drew HOA.out) (Below.refl _ _) hbs (by omega) ?_); intro v7 w7 ho7 hl7 hg7 hat7; obtain ⟨g7, c7', e7, _, _, _⟩ := Kd.R_form ho7 (by simp); rw [List.length_append, List.length_singleton] at e7; subst e7; have hb7 := blk_grown (blk_drew HS6.out.hb) hg7 HG0.out; have s7 := (blk_cell hb7 2).trans (rfl : _ = some vo); rw [HVO.out] at s7; have z7 := blk_frozen hb7 2; have HO7 := Aside0.mk ho7; have HL7 := Aside0.mk hl7; have HG7 := Aside0.mk hg7; have HAT7 := Aside0.mk hat7; clear ho7 hl7 hg7 hat7 hb7)
      all_goals
        go_wp2_with fail
        go_ret
        have hg7 := HG7.out
        have hat7 := HAT7.out
        rw [← HVO.out] at hg7 hat7
        have hfin := (HS6.out.below (below_drew1 (Below.refl _ _))).addOp HO7.out hg7
        rw [hN2] at hfin
        exact ⟨rfl, _, _, hfin, hat7.imp (fun h => h) (fun ⟨k, e, hk⟩ => ⟨k, e, Nat.le_trans HK6.out.1 hk⟩), ((keep_drew HK6.out).trans (KeepBut.of_grown hg7 g) (.inl rfl)).set_ 2 _, ((HB6.out.trans (below_drew1 (Below.refl _ _))).trans HL7.out).setCell (p := ⟨g, 2, none⟩) HS6.out.hg _⟩
theorem rddo_any (b g : Nat) (vn vs vo : Value) (now safe : List DN) (ops : List DOp) (sa sb : ByteArray) (id : Int) (w : World) (h : RD w b g vn vs vo now safe ops) (hsa : sa.size ≤ maxLen) (hsb : sb.size ≤ maxLen) (hln : now.length ≤ 100000) (hlo : ops.length ≤ 100000) (kd : Int) : Calls Tryz.prog 63 #[.pointer (some ⟨g, 0, none⟩), (.agg #[.int .i64 kd, .string sa, .string sb, .int .i64 id])] w (fun e w' => e = .returned (.int .i64 (doCode now ⟨kd, sa, sb, id⟩)) ∧ ∃ vn' vo', RD w' b g vn' vs vo' (doNow now ⟨kd, sa, sb, id⟩) safe (doOps now ops ⟨kd, sa, sb, id⟩) ∧ (vo'.ownBlock = vo.ownBlock ∨ ∃ k, vo'.ownBlock = some k ∧ w.heap.size ≤ k) ∧ KeepBut w w' g vo.ownBlock ∧ Below b w w') := by
  unfold doNow doOps doCode
  dsimp only
  by_cases k0 : kd = 0
  · subst k0
    cases hg : getN now sa with
    | some y =>
      rw [if_pos ⟨rfl, rfl⟩]
      exact rddo_twice b g vn vs vo now safe ops sa sb id w h hsa hsb hln hlo (by rw [hg]; rfl)
    | none =>
      cases hr : rightB sa with
      | false => simpa using rddo_wrong0 b g vn vs vo now safe ops sa sb id w h hsa hsb hln hlo hg hr
      | true => simpa using rddo_create b g vn vs vo now safe ops sa sb id w h hsa hsb hln hlo hg hr
  · cases hg : getN now sa with
    | none => simpa [k0] using rddo_none b g vn vs vo now safe ops sa sb id w h hsa hsb hln hlo kd k0 hg
    | some y =>
      by_cases k1 : kd = 1
      · subst k1
        cases hr : rightB sb with
        | false => simpa using rddo_wrong1 b g vn vs vo now safe ops sa sb id w h hsa hsb hln hlo (by rw [hg]; rfl) hr
        | true => simpa using rddo_rename b g vn vs vo now safe ops sa sb id w h hsa hsb hln hlo (by rw [hg]; rfl) hr
      · simpa [k0, k1] using rddo_unlink b g vn vs vo now safe ops sa sb id w h hsa hsb hln hlo kd k0 k1 (by rw [hg]; rfl)
end Go.Proofs.YtpnbjpkdbiiogaaGreat
/- The reference's directory: Crash. -/
namespace Go.Proofs.YtpnbjpkdbiiogaaGreat
set_option linter.unusedVariables false
open Go.RowKit Go.Proofs.YtpnbjpkdbiiogaaGreatW.PrintWords
attribute [local go_sem] mx2 mn2 mxTwo mnTwo

/-- What a crash leaves, of the first i things. -/
def crashD (safe : List DN) (ops : List DOp) (keep : List Bool) : Nat → List DN
  | 0 => safe
  | i + 1 => if keep.getD i false then didL (crashD safe ops keep i) (ops.getD i zDop) else crashD safe ops keep i
theorem crashD_len (safe : List DN) (ops : List DOp) (kl : List Bool) : ∀ i, (crashD safe ops kl i).length ≤ safe.length + i
  | 0 => Nat.le_refl _
  | i + 1 => by
    have ih := crashD_len safe ops kl i
    unfold crashD
    split
    · have := didL_len (crashD safe ops kl i) (ops.getD i zDop); omega
    · omega
theorem crashD_end (safe : List DN) (ops : List DOp) (kl : List Bool) (n : Nat) (h : kl.length ≤ n) : ∀ i, n ≤ i → crashD safe ops kl i = crashD safe ops kl n
  | 0, hi => by rw [Nat.le_zero.1 hi]
  | i + 1, hi => by
    by_cases e : n = i + 1
    · rw [e]
    · have ih := crashD_end safe ops kl n h i (by omega)
      unfold crashD
      rw [if_neg (by rw [List.getD_eq_getElem?_getD, List.getElem?_eq_none (by omega)]; simp)]
      rw [ih]
      cases n with
      | zero => rfl
      | succ m => rfl
set_option maxHeartbeats 1000000 in
set_option maxRecDepth 100000 in
theorem rdcrash_any (b g : Nat) (vn vs vo : Value) (now safe : List DN) (ops : List DOp) (A : Option Addr) (n c : Nat) (kl : List Bool) (w : World) (h : RD w b g vn vs vo now safe ops) (hk : Kd.bool.C w A n kl) (hs : safe.length + ops.length ≤ 100000) :
    Calls Tryz.prog 72 #[.pointer (some ⟨g, 0, none⟩), .slice A n c] w fun e w' => ∃ g2 v, e = .returned (.pointer (some ⟨g2, 0, none⟩)) ∧ w.heap.size ≤ g2 ∧ RD w' b g2 v v (.slice none 0 0) (crashD safe ops kl ops.length) (crashD safe ops kl ops.length) [] ∧ Below w.heap.size w w' := by
  obtain rfl : kl.length = n := hk.1
  have hkm := Kd.C_max hk
  have hbw : b ≤ w.heap.size := Nat.le_trans h.hg (Nat.le_of_lt (blk_lt h.hb))
  obtain ⟨A1, c1, rfl⟩ := Kd.R_slice h.hs
  obtain ⟨A2, c2, rfl, _, hC2⟩ := Kd.R_reads h.ho
  have HS1 := Aside0.mk ((blk_cell h.hb 1).trans (rfl : _ = some (Value.slice A1 safe.length c1)))
  have HS2 := Aside0.mk ((blk_cell h.hb 2).trans (rfl : _ = some (Value.slice A2 ops.length c2)))
  have hs1 := HS1.out
  have HK := Aside0.mk hk
  have HC2 := Aside0.mk hC2
  have HSF := Aside0.mk h.hs
  have hol : ops.length ≤ 100000 := by omega
  have HLEN := Aside0.mk (show ∀ i, i ≤ ops.length → (crashD safe ops kl i).length ≤ 100000 from fun i hi => by have := crashD_len safe ops kl i; omega)
  clear h hk hC2 hs
  go_enter Tryz.func72, Tryz.ntmps72
  go_wp2
  go_loopg [5, 6] ops.length (fun q v5 v6 wr => ∃ i : Nat, v6 = .int .i64 (i : Int) ∧ i ≤ ops.length ∧ i ≤ kl.length ∧ Aside0 (q = ops.length - i) ∧ Aside0 (Kd.R kDN 80 wr b (fun _ => True) v5 (crashD safe ops kl i)) ∧ Aside0 (Below w.heap.size w wr))
  case atStart => exact ⟨0, rfl, Nat.zero_le _, Nat.zero_le _, ⟨rfl⟩, HSF, ⟨Below.refl _ _⟩⟩
  case round =>
    obtain ⟨i, rfl, hi, hik, hq, HC, HB⟩ := hrel
    have s2 := pw_cell_below HB.out HS2.out
    by_cases hlt : i < ops.length
    · by_cases hkl : i < kl.length
      · obtain ⟨ad2, e2, hkb0⟩ := at_bool HK.out i hkl
        subst e2
        have hkb := pw_cell_below HB.out hkb0
        clear hkb0
        cases hb : kl.getD i false with
        | false =>
          rw [hb] at hkb
          have HSTEP := Aside0.mk (show crashD safe ops kl (i + 1) = crashD safe ops kl i by show (if kl.getD i false = true then didL (crashD safe ops kl i) (ops.getD i zDop) else crashD safe ops kl i) = _; rw [hb]; rfl)
          clear hb
          go_wp2_with fail
          go_roundg (ops.length - (i + 1))
          case measure => have := hq.out; omega
          case rel => exact ⟨i + 1, by go_num, by omega, by omega, ⟨rfl⟩, ⟨by rw [HSTEP.out]; exact HC.out⟩, HB⟩
        | true =>
          rw [hb] at hkb
          obtain ⟨ad, e1, r1, r2, r3, r4⟩ := at_Dop (Kd.C_below HC2.out HB.out) i hlt
          subst e1
          obtain ⟨o, ho⟩ : ∃ o, o = ops.getD i zDop := ⟨_, rfl⟩
          have HSTEP := Aside0.mk (show crashD safe ops kl (i + 1) = didL (crashD safe ops kl i) ⟨o.kd, o.a, o.b, o.id⟩ by show (if kl.getD i false = true then didL (crashD safe ops kl i) (ops.getD i zDop) else crashD safe ops kl i) = _; rw [hb, ← ho]; rfl)
          rw [← ho] at r1 r2 r3 r4
          have hl9 := HLEN.out i hi
          obtain ⟨L, hL⟩ : ∃ L, L = crashD safe ops kl i := ⟨_, rfl⟩
          rw [← hL] at HC HSTEP hl9
          clear hb ho hL
          obtain ⟨A5, c5, hu⟩ := Kd.R_slice HC.out
          subst hu
          go_wp2_with (go_at_call 94; refine (did_any b A5 L.length c5 L o.kd o.a o.b o.id _ HC.out (Nat.le_trans hbw HB.out.size) hl9).mono ?_; rintro e w5 ⟨v5, rfl, hv, hb5⟩; obtain ⟨A6, c6, rfl⟩ := Kd.R_slice hv; have HV := Aside0.mk hv; have HB5 := Aside0.mk (below_step HB.out hb5); clear hv hb5)
          go_roundg (ops.length - (i + 1))
          case measure => have := hq.out; omega
          case rel => exact ⟨i + 1, by go_num, by omega, by omega, ⟨rfl⟩, ⟨by rw [HSTEP.out]; exact HV.out⟩, HB5⟩
      · have HE := Aside0.mk (crashD_end safe ops kl i (by omega) ops.length hi)
        obtain ⟨A5, c5, hu⟩ := Kd.R_slice HC.out
        subst hu
        go_wp2_with fail
        go_ret
        rw [HE.out]
        exact ⟨_, _, rfl, HB.out.size, ⟨blk_new _ _, Kd.R_alloc HC.out _, Kd.R_alloc HC.out _, Kd.R_nil _ _ _ _ _, Nat.le_trans hbw HB.out.size⟩, below_alloc HB.out _⟩
    · obtain rfl : i = ops.length := by omega
      obtain ⟨A5, c5, hu⟩ := Kd.R_slice HC.out
      subst hu
      go_wp2_with fail
      go_ret
      exact ⟨_, _, rfl, HB.out.size, ⟨blk_new _ _, Kd.R_alloc HC.out _, Kd.R_alloc HC.out _, Kd.R_nil _ _ _ _ _, Nat.le_trans hbw HB.out.size⟩, below_alloc HB.out _⟩
end Go.Proofs.YtpnbjpkdbiiogaaGreat
/- The code's directory in memory: New, Get, Pending, do. -/
namespace Go.Proofs.YtpnbjpkdbiiogaaGreat
set_option linter.unusedVariables false
open Go.RowKit Go.Maps Go.Proofs.YtpnbjpkdbiiogaaGreatW.PrintWords
attribute [local go_sem] mx2 mn2 mxTwo mnTwo

theorem lawS : Keyed Tryz.prog 9 := string_keyed Tryz.underlying9
theorem zeroI (w : World) : (zeroValue 3).run Tryz.prog w = .ok (.int .i64 0) w := by kernel_rfl
/-- The code's directory. -/
structure DI (W : World) (b g mn ms : Nat) (vo : Value) (N : Nat) (now safe : List DN) (ops : List DOp) : Prop where
  hb : W.heap[g]? = some (.cells #[.map (some mn), .map (some ms), vo] 99 (0, 0))
  hn : MV W Tryz.prog 9 mn N (mapF now)
  hs : MV W Tryz.prog 9 ms N (mapF safe)
  ho : Kd.R kDop 122 W b (fun _ => True) vo ops
  hg : b ≤ g
  hmn : b ≤ mn
  hms : b ≤ ms
  ne : mn ≠ ms
theorem DI.below {W W1 : World} {b g mn ms N : Nat} {vo : Value} {now safe : List DN} {ops : List DOp} (h : DI W b g mn ms vo N now safe ops) (hb : Below W.heap.size W W1) : DI W1 b g mn ms vo N now safe ops :=
  ⟨blk_below h.hb hb, h.hn.below hb, h.hs.below hb, Kd.R_below h.ho hb, h.hg, h.hmn, h.hms, h.ne⟩
theorem mapF_nil : mapF [] = fun _ => none := rfl
theorem dnew_any (b : Nat) (w : World) (hb : b ≤ w.heap.size) : Calls Tryz.prog 26 #[] w fun e w' => ∃ g mn ms, e = .returned (.pointer (some ⟨g, 0, none⟩)) ∧ w.heap.size ≤ g ∧ w.heap.size ≤ mn ∧ w.heap.size ≤ ms ∧ DI w' b g mn ms (.slice none 0 0) 0 [] [] [] ∧ Below w.heap.size w w' := by
  have hmm := @run_makeMap Tryz.prog
  go_enter Tryz.func26, Tryz.ntmps26
  go_wp2
  go_ret
  have h1 := MV.made w Tryz.prog 9
  have h2 := MV.made (w.alloc (.map #[] 0)) Tryz.prog 9
  have hz : (w.alloc (.map #[] 0)).heap.size = w.heap.size + 1 := World.size_alloc ..
  rw [hz] at h2
  have hz2 : ((w.alloc (.map #[] 0)).alloc (.map #[] 0)).heap.size = w.heap.size + 2 := by rw [World.size_alloc, hz]
  refine ⟨_, _, _, rfl, ?_, Nat.le_refl _, ?_, ⟨?_, (h1.below (below_alloc (Below.refl _ _) _)).below (below_alloc (Below.refl _ _) _), h2.below (below_alloc (Below.refl _ _) _), Kd.R_nil _ _ _ _ _, ?_, hb, ?_, ?_⟩, below_alloc (below_alloc (below_alloc (Below.refl _ _) _) _) _⟩
  all_goals first | (have := blk_new ((w.alloc (.map #[] 0)).alloc (.map #[] 0)) (.cells #[.map (some w.heap.size), .map (some (w.heap.size + 1)), .slice none 0 0] 99); rw [hz2] at this; exact this) | omega
theorem dget_any (b g mn ms N : Nat) (vo : Value) (now safe : List DN) (ops : List DOp) (s : ByteArray) (w : World) (h : DI w b g mn ms vo N now safe ops) (hs : s.size ≤ maxLen) : Calls Tryz.prog 46 #[.pointer (some ⟨g, 0, none⟩), .string s] w fun e w' => e = .returned (.tuple #[.int .i64 ((getN now s).getD 0), .bool (getN now s).isSome]) ∧ w = w' := by
  have hc0 := (blk_cell h.hb 0).trans (rfl : _ = some (Value.map (some mn)))
  have HM := Aside0.mk h.hn
  have hkey := Go.WideMaps.keyOf_string_mk (P := Tryz.prog) Tryz.underlying9 hs
  have HK := Aside0.mk hkey
  have HV := Aside0.mk (show (mapF now (kS s)).getD (Value.int .i64 0) = .int .i64 ((getN now s).getD 0) ∧ (mapF now (kS s)).isSome = (getN now s).isSome by rw [mapF_at]; cases getN now s <;> exact ⟨rfl, rfl⟩)
  clear h hkey
  go_enter Tryz.func46, Tryz.ntmps46
  go_wp2_with (at_lookup; refine mv_lookup_ok rfl _ _ 96 rfl 9 3 lawS Tryz.underlying96 (zeroI _) mn N (mapF now) rfl HM.out _ (kS s) rfl HK.out _ _ HV.out.1 HV.out.2 ?_)
  go_ret2
  exact ⟨rfl, rfl⟩
theorem dget_nil (s : ByteArray) (w : World) : Calls Tryz.prog 46 #[.pointer none, .string s] w fun e w' => e = .returned (.tuple #[.int .i64 0, .bool false]) ∧ w = w' := by
  go_enter Tryz.func46, Tryz.ntmps46
  go_wp2
  go_ret2
  exact ⟨rfl, rfl⟩
theorem dpending_any (b g mn ms N : Nat) (vo : Value) (now safe : List DN) (ops : List DOp) (w : World) (h : DI w b g mn ms vo N now safe ops) : Calls Tryz.prog 45 #[.pointer (some ⟨g, 0, none⟩)] w fun e w' => e = .returned (.int .i64 (ops.length : Int)) ∧ w = w' := by
  obtain ⟨A, c, rfl⟩ := Kd.R_slice h.ho
  have hc0 := (blk_cell h.hb 2).trans (rfl : _ = some (Value.slice A ops.length c))
  clear h
  go_enter Tryz.func45, Tryz.ntmps45
  go_wp2
  go_ret
  exact ⟨rfl, rfl⟩
theorem dpending_nil (w : World) : Calls Tryz.prog 45 #[.pointer none] w fun e w' => e = .returned (.int .i64 0) ∧ w = w' := by
  go_enter Tryz.func45, Tryz.ntmps45
  go_wp2
  go_ret
  exact ⟨rfl, rfl⟩
/-- A map is turned, no other block. -/
structure Turn (w w' : World) (m : Nat) : Prop where
  k : KeepBut w w' m none
  l : ∀ b, b ≤ m → b ≤ w.heap.size → Below b w w'
theorem Turn.of_below {w w' : World} {m : Nat} (h : Below w.heap.size w w') : Turn w w' m := ⟨KeepBut.of_below h _ _, fun b _ hb => h.mono hb⟩
theorem Turn.step {w W W' : World} {m : Nat} (h : Turn w W m) (ht : W.mapTurned W' m) : Turn w W' m := by
  have hg := ht.grown
  refine ⟨⟨Nat.le_trans h.k.1 hg.size, fun i hi hne _ => (hg.block i (Nat.lt_of_lt_of_le hi h.k.1) (fun e => hne (by injection e))).trans (h.k.2 i hi hne (by simp))⟩, fun b hm hb => ?_⟩
  have h1 := h.l b hm hb
  exact ⟨hg.os.trans h1.os, hg.tape.trans h1.tape, hg.output.trans h1.output, Nat.le_trans h1.size hg.size, fun i hi => (hg.block i (by have := h1.size; omega) (fun e => by injection e; omega)).trans (h1.block i hi)⟩
theorem upd_none (l : List DN) (s : ByteArray) (h : getN l s = none) : upd (mapF l) (kS s) none = mapF l := by
  funext q
  by_cases e : q = kS s
  · subst e
    rw [upd_same, mapF_at, h]
    rfl
  · rw [upd_other _ _ e]
set_option maxHeartbeats 1000000 in
set_option maxRecDepth 100000 in
theorem ddo_any (m N : Nat) (l : List DN) (kd : Int) (sa sb : ByteArray) (id : Int) (w : World) (h : MV w Tryz.prog 9 m N (mapF l)) (hN : N < 1000000) (hsa : sa.size ≤ maxLen) (hsb : sb.size ≤ maxLen) :
    Calls Tryz.prog 76 #[.map (some m), (.agg #[.int .i64 kd, .string sa, .string sb, .int .i64 id])] w fun e w' => e = .returned (.tuple #[]) ∧ MV w' Tryz.prog 9 m (N + 1) (mapF (didL l ⟨kd, sa, sb, id⟩)) ∧ Turn w w' m := by
  by_cases h0 : kd = 0
  · subst h0
    have HD := Aside0.mk (show mapF (didL l ⟨0, sa, sb, id⟩) = upd (mapF l) (kS sa) (some (.int .i64 id)) by rw [show didL l ⟨0, sa, sb, id⟩ = withL l sa id from rfl, mapF_with])
    have HKA := Aside0.mk (Go.WideMaps.keyOf_string_mk (P := Tryz.prog) Tryz.underlying9 hsa)
    have HKB := Aside0.mk (Go.WideMaps.keyOf_string_mk (P := Tryz.prog) Tryz.underlying9 hsb)
    have HT := Aside0.mk (Turn.of_below (m := m) (below_alloc (Below.refl w.heap.size w) (.cells #[.int .i64 0, .string sa, .string sb, .int .i64 id] 122)))
    have hnb := blk_new w (.cells #[.int .i64 0, .string sa, .string sb, .int .i64 id] 122)
    have HNB := Aside0.mk hnb
    have HM := Aside0.mk (MV.below h (below_alloc (Below.refl w.heap.size w) (.cells #[.int .i64 0, .string sa, .string sb, .int .i64 id] 122)))
    have hmw := h.lt
    clear h hsa hsb hnb
    go_enter Tryz.func76, Tryz.ntmps76
    go_wp2_with (at_mapUpdate; refine mv_store rfl _ _ _ 96 rfl 9 3 lawS Tryz.underlying96 m N (mapF l) rfl HM.out (by unfold maxLen; omega) _ _ (kS sa) rfl rfl HKA.out ?_; intro w1 hm1 ht1; have HM1 := Aside0.mk hm1; have HT1 := Aside0.mk (HT.out.step ht1); clear hm1 ht1)
    first | go_end0 | ((try simp only [Exit.inBlock, Exit.then]); refine bodyPost_ret (results_none rfl _ _ _) rfl ?_)
    exact ⟨rfl, by rw [HD.out]; exact HM1.out, HT1.out⟩
  · have q0 : (kd == 0) = false := beq_eq_false_iff_ne.mpr h0
    by_cases h1 : kd = 1
    · subst h1
      cases hg : getN l sa with
      | none =>
        have HD := Aside0.mk (show didL l ⟨1, sa, sb, id⟩ = l by unfold didL; rw [if_neg h0]; simp [hg])
        have HV := Aside0.mk (show (mapF l (kS sa)).getD (Value.int .i64 0) = .int .i64 0 ∧ (mapF l (kS sa)).isSome = false by rw [mapF_at, hg]; exact ⟨rfl, rfl⟩)
        clear hg h0
        have HKA := Aside0.mk (Go.WideMaps.keyOf_string_mk (P := Tryz.prog) Tryz.underlying9 hsa)
        have HKB := Aside0.mk (Go.WideMaps.keyOf_string_mk (P := Tryz.prog) Tryz.underlying9 hsb)
        have HT := Aside0.mk (Turn.of_below (m := m) (below_alloc (Below.refl w.heap.size w) (.cells #[.int .i64 1, .string sa, .string sb, .int .i64 id] 122)))
        have hnb := blk_new w (.cells #[.int .i64 1, .string sa, .string sb, .int .i64 id] 122)
        have HNB := Aside0.mk hnb
        have HM := Aside0.mk (MV.below h (below_alloc (Below.refl w.heap.size w) (.cells #[.int .i64 1, .string sa, .string sb, .int .i64 id] 122)))
        have hmw := h.lt
        clear h hsa hsb hnb
        go_enter Tryz.func76, Tryz.ntmps76
        go_wp2_with (at_lookup; refine mv_lookup_ok rfl _ _ 96 rfl 9 3 lawS Tryz.underlying96 (zeroI _) m N (mapF l) rfl HM.out _ (kS sa) rfl HKA.out _ _ HV.out.1 HV.out.2 ?_)
        first | go_end0 | ((try simp only [Exit.inBlock, Exit.then]); refine bodyPost_ret (results_none rfl _ _ _) rfl ?_)
        exact ⟨rfl, by rw [HD.out]; exact HM.out.mono (Nat.le_succ _), HT.out⟩
      | some y =>
        have HD := Aside0.mk (show mapF (didL l ⟨1, sa, sb, id⟩) = upd (upd (mapF l) (kS sa) none) (kS sb) (some (.int .i64 y)) by
          have e : didL l ⟨1, sa, sb, id⟩ = withL (withoutL l sa) sb y := by unfold didL; rw [if_neg h0]; simp [hg]
          rw [e, mapF_with, mapF_without])
        have HV := Aside0.mk (show (mapF l (kS sa)).getD (Value.int .i64 0) = .int .i64 y ∧ (mapF l (kS sa)).isSome = true by rw [mapF_at, hg]; exact ⟨rfl, rfl⟩)
        clear hg h0
        have HKA := Aside0.mk (Go.WideMaps.keyOf_string_mk (P := Tryz.prog) Tryz.underlying9 hsa)
        have HKB := Aside0.mk (Go.WideMaps.keyOf_string_mk (P := Tryz.prog) Tryz.underlying9 hsb)
        have HT := Aside0.mk (Turn.of_below (m := m) (below_alloc (Below.refl w.heap.size w) (.cells #[.int .i64 1, .string sa, .string sb, .int .i64 id] 122)))
        have hnb := blk_new w (.cells #[.int .i64 1, .string sa, .string sb, .int .i64 id] 122)
        have HNB := Aside0.mk hnb
        have HM := Aside0.mk (MV.below h (below_alloc (Below.refl w.heap.size w) (.cells #[.int .i64 1, .string sa, .string sb, .int .i64 id] 122)))
        have hmw := h.lt
        clear h hsa hsb hnb
        go_enter Tryz.func76, Tryz.ntmps76
        go_wp2_with (first
          | (at_lookup; refine mv_lookup_ok rfl _ _ 96 rfl 9 3 lawS Tryz.underlying96 (zeroI _) m N (mapF l) rfl HM.out _ (kS sa) rfl HKA.out _ _ HV.out.1 HV.out.2 ?_)
          | (at_delete; refine mv_delete rfl _ _ 96 9 rfl 3 lawS Tryz.underlying96 m N (mapF l) rfl HM.out _ (kS sa) rfl HKA.out ?_; intro w1 hm1 ht1; have hn1 := (ht1.grown.block w.heap.size (blk_lt HNB.out) (fun e => by injection e; omega)).trans HNB.out; have t2 := (blk_cell hn1 2).trans (rfl : _ = some (Value.string sb)); have HM1 := Aside0.mk hm1; have HT1 := Aside0.mk (HT.out.step ht1); clear hm1 ht1 hn1)
          | (at_mapUpdate; refine mv_store rfl _ _ _ 96 rfl 9 3 lawS Tryz.underlying96 m N _ rfl HM1.out (by unfold maxLen; omega) _ _ (kS sb) rfl rfl HKB.out ?_; intro w2 hm2 ht2; have HM2 := Aside0.mk hm2; have HT2 := Aside0.mk (HT1.out.step ht2); clear hm2 ht2))
        first | go_end0 | ((try simp only [Exit.inBlock, Exit.then]); refine bodyPost_ret (results_none rfl _ _ _) rfl ?_)
        exact ⟨rfl, by rw [HD.out]; exact HM2.out, HT2.out⟩
    · have HD := Aside0.mk (show mapF (didL l ⟨kd, sa, sb, id⟩) = upd (mapF l) (kS sa) none by
        cases hg : getN l sa with
        | none =>
          have e : didL l ⟨kd, sa, sb, id⟩ = l := by unfold didL; rw [if_neg h0]; simp [hg]
          rw [e, upd_none l sa hg]
        | some y =>
          have e : didL l ⟨kd, sa, sb, id⟩ = withoutL l sa := by unfold didL; rw [if_neg h0]; simp [hg, h1]
          rw [e, mapF_without])
      have q1 : (kd == 1) = false := beq_eq_false_iff_ne.mpr h1
      clear h0 h1
      have HKA := Aside0.mk (Go.WideMaps.keyOf_string_mk (P := Tryz.prog) Tryz.underlying9 hsa)
      have HKB := Aside0.mk (Go.WideMaps.keyOf_string_mk (P := Tryz.prog) Tryz.underlying9 hsb)
      have HT := Aside0.mk (Turn.of_below (m := m) (below_alloc (Below.refl w.heap.size w) (.cells #[.int .i64 kd, .string sa, .string sb, .int .i64 id] 122)))
      have hnb := blk_new w (.cells #[.int .i64 kd, .string sa, .string sb, .int .i64 id] 122)
      have HNB := Aside0.mk hnb
      have HM := Aside0.mk (MV.below h (below_alloc (Below.refl w.heap.size w) (.cells #[.int .i64 kd, .string sa, .string sb, .int .i64 id] 122)))
      have hmw := h.lt
      clear h hsa hsb hnb
      go_enter Tryz.func76, Tryz.ntmps76
      go_wp2_with (at_delete; refine mv_delete rfl _ _ 96 9 rfl 3 lawS Tryz.underlying96 m N (mapF l) rfl HM.out _ (kS sa) rfl HKA.out ?_; intro w1 hm1 ht1; have HM1 := Aside0.mk hm1; have HT1 := Aside0.mk (HT.out.step ht1); clear hm1 ht1)
      first | go_end0 | ((try simp only [Exit.inBlock, Exit.then]); refine bodyPost_ret (results_none rfl _ _ _) rfl ?_)
      exact ⟨rfl, by rw [HD.out]; exact HM1.out.mono (Nat.le_succ _), HT1.out⟩
end Go.Proofs.YtpnbjpkdbiiogaaGreat
