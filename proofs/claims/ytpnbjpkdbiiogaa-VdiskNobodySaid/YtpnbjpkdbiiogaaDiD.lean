/- Directories: alike texts; the reference's Names and Did. -/
import Derived.Test.YtpnbjpkdbiiogaaDiC
namespace Go.Proofs.Ytpnbjpkdbiiogaa
set_option linter.unusedVariables false
open Go.RowKit Go.Proofs.YtpnbjpkdbiiogaaW.PrintWords
attribute [local go_sem] mx2 mn2 mxTwo mnTwo

theorem infoStr : (Try.prog.info? 9).map (fun i => (i.zero, i.size, i.bytes)) = some (some (.string ⟨#[]⟩), 1, 16) := by kernel_rfl
theorem at_str {w : World} {A : Option Addr} {n : Nat} {xs : List ByteArray} (h : Kd.string.C w A n xs) (i : Nat) (h1 : i < n) : ∃ ad, A = some ad ∧ w.cell? (ad.add i) = some (.string (xs.getD i ⟨#[]⟩)) := by
  obtain ⟨ad, c, e, _, hK, hc0⟩ := Kd.C_get h (⟨#[]⟩ : ByteArray) (i : Int) (by omega) (by omega)
  simp only [Int.toNat_natCast] at hK hc0
  have hK' : c = [.string (xs.getD i ⟨#[]⟩)] := hK
  subst hK'
  exact ⟨ad, e, by have := hc0 0 _ rfl; rwa [show i * Kd.string.sz + 0 = i from Nat.mul_one i] at this⟩
set_option maxHeartbeats 1000000 in
theorem texts_any (A0 A1 : Option Addr) (n m c0 c1 : Nat) (l : List ByteArray) (w : World) (h0 : Kd.string.C w A0 n l) (h1 : Kd.string.C w A1 m l) :
    Calls Try.prog 49 #[.slice A0 n c0, .slice A1 m c1] w fun e w' => e = .returned (.bool true) ∧ Below w.heap.size w w' := by
  obtain rfl : l.length = n := h0.1
  obtain rfl : l.length = m := h1.1
  have hm := Kd.C_max h0
  have H0 := Aside0.mk h0
  have H1 := Aside0.mk h1
  clear h0 h1
  go_enter Try.func49, Try.ntmps49
  go_wp2
  go_loopg [5] l.length (fun q v5 wr => ∃ i : Nat, v5 = .int .i64 (i : Int) ∧ i ≤ l.length ∧ Aside0 (q = l.length - i) ∧ Aside0 (Below w.heap.size w wr))
  case atStart => exact ⟨0, rfl, Nat.zero_le _, ⟨rfl⟩, ⟨Below.refl _ _⟩⟩
  case round =>
    obtain ⟨i, rfl, hi, hq, HB⟩ := hrel
    by_cases hlt : i < l.length
    · obtain ⟨ad, rfl, r1⟩ := at_str H0.out i hlt
      obtain ⟨ad2, rfl, r2⟩ := at_str H1.out i hlt
      obtain ⟨s, hs⟩ : ∃ s, s = l.getD i ⟨#[]⟩ := ⟨_, rfl⟩
      rw [← hs] at r1 r2
      replace r1 := pw_cell_below HB.out r1
      replace r2 := pw_cell_below HB.out r2
      have q1 := bs_eq s s rfl
      clear hs
      go_wp2_with fail
      go_quiet (fail)
      go_wp2_with fail
      go_roundg (l.length - (i + 1))
      case measure => have := hq.out; omega
      case rel => exact ⟨i + 1, by go_num, by omega, ⟨rfl⟩, ⟨pw_below_drewN HB.out _⟩⟩
    · go_wp2_with fail
      go_ret
      exact ⟨rfl, HB.out⟩
set_option maxHeartbeats 1000000 in
theorem rnames_any (A : Option Addr) (n c : Nat) (l : List DN) (w : World) (hr : Kd.C kDN w A n l) (hn : n ≤ 1000000) :
    Calls Try.prog 51 #[.slice A n c] w fun e w' => ∃ v, e = .returned v ∧ Kd.R Kd.string 9 w' w.heap.size (fun _ => True) v (l.map (·.1)) ∧ Below w.heap.size w w' := by
  obtain rfl : l.length = n := hr.1
  have HR := Aside0.mk hr
  clear hr
  go_enter Try.func51, Try.ntmps51
  go_wp2
  go_loopg [3, 4] l.length (fun q v3 v4 wr => ∃ i : Nat, v4 = .int .i64 (i : Int) ∧ i ≤ l.length ∧ Aside0 (q = l.length - i) ∧ Aside0 (Kd.R Kd.string 9 wr w.heap.size (fun _ => True) v3 ((l.take i).map (·.1))) ∧ Aside0 (Below w.heap.size w wr))
  case atStart => exact ⟨0, rfl, Nat.zero_le _, ⟨rfl⟩, ⟨Kd.R_nil _ _ _ _ _⟩, ⟨Below.refl _ _⟩⟩
  case round =>
    obtain ⟨i, rfl, hi, hq, HO, HB⟩ := hrel
    by_cases hlt : i < l.length
    · obtain ⟨ad, e1, r1, r2⟩ := at_DN HR.out i hlt
      subst e1
      have HT := Aside0.mk (show (l.take (i + 1)).map (·.1) = (l.take i).map (·.1) ++ [(l.getD i zDN).1] by rw [take_succ_getD l i hlt, List.map_append]; rfl)
      obtain ⟨p, hp⟩ : ∃ p, p = l.getD i zDN := ⟨_, rfl⟩
      rw [← hp] at r1 r2 HT
      replace r1 := pw_cell_below HB.out r1
      have HLB := Aside0.mk (show ((l.take i).map (·.1)).length ≤ l.length by rw [List.length_map, List.length_take]; omega)
      clear hp r2
      go_wp2_with (at_builtin; refine Kd.R_append Kd.string (w0 := w) w.heap.size rfl (.tmp 11) (.tmp 17) 78 9 (.string ⟨#[]⟩) 16 rfl Try.underlying78 infoStr rfl (by decide) (by omega) u3 _ p.1 [.string p.1] (fun _ => True) (fun _ => False) rfl rfl rfl (fun _ h => h.elim) (fun _ _ => trivial) HO.out HB.out (below_size HB.out) (by have := HLB.out; omega) ?_; intro v1 w1 h1 hb1 _ _; rw [← HT.out] at h1; clear HO HB; have HO := Aside0.mk h1; have HB := Aside0.mk hb1; clear h1 hb1)
      go_roundg (l.length - (i + 1))
      case measure => have := hq.out; omega
      case rel => exact ⟨i + 1, by go_num, by omega, ⟨rfl⟩, HO, HB⟩
    · have h9 := HO.out
      rw [List.take_of_length_le (by omega)] at h9
      have HO9 := Aside0.mk h9
      clear h9
      go_wp2_with fail
      go_ret
      exact ⟨_, rfl, HO9.out, HB.out⟩
/-- What is read of a row of one's own. -/
theorem C_own9 {α : Type} {d : Kd α} {e : Nat} {w : World} {base : Nat} {ok : Nat → Prop} {A : Option Addr} {n c : Nat} {xs : List α} (h : d.R e w base ok (.slice A n c) xs) : d.C w A n xs := by
  obtain ⟨rfl, _, h3⟩ := Kd.R_reads' h
  exact h3
set_option maxHeartbeats 2000000 in
set_option maxRecDepth 100000 in
theorem did_any (b : Nat) (A : Option Addr) (n c : Nat) (l : List DN) (kd : Int) (sa sb : ByteArray) (id : Int) (w : World) (hr : Kd.R kDN 156 w b (fun _ => True) (.slice A n c) l) (hbw : b ≤ w.heap.size) (hn : n ≤ 100000) :
    Calls Try.prog 112 #[.slice A n c, (.agg #[.int .i64 kd, .string sa, .string sb, .int .i64 id])] w fun e w' => ∃ v, e = .returned v ∧ Kd.R kDN 156 w' b (fun _ => True) v (didL l ⟨kd, sa, sb, id⟩) ∧ Below w.heap.size w w' := by
  have HR := Aside0.mk hr
  clear hr
  by_cases h0 : kd = 0
  · subst h0
    have HD := Aside0.mk (show didL l ⟨0, sa, sb, id⟩ = withL l sa id by unfold didL; rw [if_pos rfl])
    obtain ⟨g, hg⟩ : ∃ g, g = getN l sa := ⟨_, rfl⟩
    have HG := Aside0.mk hg.symm
    clear hg
    go_enter Try.func112, Try.ntmps112
    go_wp2_with (first
      | (go_at_call 101; refine (rget_any A n c l sa _ (C_own9 (Kd.R_alloc HR.out _))).mono ?_; rw [HG.out]; rintro e w9 ⟨rfl, hw9⟩; subst hw9)
      | (go_at_call 120; refine (rwith_any A n c l sa id _ (C_own9 (Kd.R_alloc HR.out _)) (by omega)).mono ?_; rintro e w5 ⟨v5, rfl, hv, hb⟩; have HV := Aside0.mk (Kd.R_lower hv (Nat.le_trans hbw (below_alloc (Below.refl w.heap.size w) _).size)); have HB := Aside0.mk (below_step (below_alloc (Below.refl _ _) _) hb); clear hv hb))
    go_ret
    rw [HD.out]
    exact ⟨_, rfl, HV.out, HB.out⟩
  · have q0 : (kd == 0) = false := beq_eq_false_iff_ne.mpr h0
    cases hg : getN l sa with
    | none =>
      have HG := Aside0.mk hg
      have HD := Aside0.mk (show didL l ⟨kd, sa, sb, id⟩ = l by unfold didL; rw [if_neg h0]; simp only; rw [hg])
      clear hg h0
      go_enter Try.func112, Try.ntmps112
      go_wp2_with (first
        | (go_at_call 101; refine (rget_any A n c l sa _ (C_own9 (Kd.R_alloc HR.out _))).mono ?_; rw [HG.out]; rintro e w9 ⟨rfl, hw9⟩; subst hw9)
        | fail)
      go_ret
      rw [HD.out]
      exact ⟨_, rfl, Kd.R_alloc HR.out _, below_alloc (Below.refl _ _) _⟩
    | some y =>
      have HG := Aside0.mk hg
      have hnb := blk_new w (.cells #[.int .i64 kd, .string sa, .string sb, .int .i64 id] 144)
      have HT0 := Aside0.mk ((blk_cell hnb 0).trans (rfl : _ = some (Value.int .i64 kd)))
      have HT2 := Aside0.mk ((blk_cell hnb 2).trans (rfl : _ = some (Value.string sb)))
      clear hnb
      have hwl := withoutL_len l sa
      have hln : l.length = n := (C_own9 HR.out).1
      by_cases h1 : kd = 1
      · subst h1
        have HD := Aside0.mk (show didL l ⟨1, sa, sb, id⟩ = withL (withoutL l sa) sb y by unfold didL; rw [if_neg h0]; simp [hg])
        clear hg h0
        have hw2 : (withoutL l sa).length ≤ 1000000 := by omega
        clear hln
        go_enter Try.func112, Try.ntmps112
        go_wp2_with (first
          | (go_at_call 101; refine (rget_any A n c l sa _ (C_own9 (Kd.R_alloc HR.out _))).mono ?_; rw [HG.out]; rintro e w9 ⟨rfl, hw9⟩; subst hw9)
          | (go_at_call 121; refine (rwithout_any A n c l sa _ (C_own9 (Kd.R_alloc HR.out _)) (by omega)).mono ?_; rintro e w5 ⟨v5, rfl, hv, hb⟩; obtain ⟨A5, c5, rfl, _, hC5⟩ := Kd.R_reads hv; have t0 := pw_cell_below hb HT0.out; have t2 := pw_cell_below hb HT2.out; have HC5 := Aside0.mk hC5; have HB := Aside0.mk (below_step (below_alloc (Below.refl _ _) _) hb); clear hv hb hC5)
          | (go_at_call 120; refine (rwith_any A5 (withoutL l sa).length c5 (withoutL l sa) sb y _ HC5.out hw2).mono ?_; rintro e w6 ⟨v6, rfl, hv, hb⟩; have HV := Aside0.mk (Kd.R_lower hv (Nat.le_trans hbw HB.out.size)); have hbn := below_step HB.out hb; clear HB; have HB := Aside0.mk hbn; clear hv hb hbn))
        go_ret
        rw [HD.out]
        exact ⟨_, rfl, HV.out, HB.out⟩
      · have HD := Aside0.mk (show didL l ⟨kd, sa, sb, id⟩ = withoutL l sa by unfold didL; rw [if_neg h0]; simp only; rw [hg]; exact if_neg h1)
        have q1 : (kd == 1) = false := beq_eq_false_iff_ne.mpr h1
        clear hg h0 h1 hln
        go_enter Try.func112, Try.ntmps112
        go_wp2_with (first
          | (go_at_call 101; refine (rget_any A n c l sa _ (C_own9 (Kd.R_alloc HR.out _))).mono ?_; rw [HG.out]; rintro e w9 ⟨rfl, hw9⟩; subst hw9)
          | (go_at_call 121; refine (rwithout_any A n c l sa _ (C_own9 (Kd.R_alloc HR.out _)) (by omega)).mono ?_; rintro e w5 ⟨v5, rfl, hv, hb⟩; have t0 := pw_cell_below hb HT0.out; have HV := Aside0.mk (Kd.R_lower hv (Nat.le_trans hbw (below_alloc (Below.refl w.heap.size w) _).size)); have HB := Aside0.mk (below_step (below_alloc (Below.refl _ _) _) hb); clear hv hb))
        go_ret
        rw [HD.out]
        exact ⟨_, rfl, HV.out, HB.out⟩
end Go.Proofs.Ytpnbjpkdbiiogaa
