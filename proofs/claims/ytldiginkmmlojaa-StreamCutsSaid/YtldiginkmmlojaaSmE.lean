/- Streams: Close; the law's awake; the walk of StreamSays. -/
import Derived.Test.YtldiginkmmlojaaSmD
namespace Go.Proofs.Ytldiginkmmlojaa
set_option linter.unusedVariables false
open Go.RowKit Go.Proofs.YtldiginkmmlojaaW.PrintWords
attribute [local go_sem] mx2 mn2 mxTwo mnTwo

set_option maxHeartbeats 1000000 in
set_option maxRecDepth 100000 in
theorem sclose_any (b g : Nat) (v : Value) (r : List Int) (mo : Int) (w : World) (hb : w.heap[g]? = some (.cells #[v, .int .i64 mo, .bool false] 130 (0, 0))) (hR : Kd.R (Kd.int .u8) 5 w b (fun k => k ≠ g) v r) (hg : b ≤ g) :
    Calls Try.prog 49 #[.pointer (some ⟨g, 0, none⟩)] w fun e w' => ∃ A' c', e = .returned (.slice A' (closeL r).length c') ∧ Kd.C kLn w' A' (closeL r).length (closeL r) ∧ (∃ v', w'.heap[g]? = some (.cells #[v', .int .i64 mo, .bool true] 130 (0, 0))) ∧ KeepBut w w' g none ∧ Below b w w' := by
  obtain ⟨A, c, rfl, hc, hC⟩ := Kd.R_reads hR
  have hm := Kd.C_max hC
  have HR := Aside0.mk hR
  have HBk := Aside0.mk hb
  have hc0 := (blk_cell hb 0).trans (rfl : _ = some (Value.slice A r.length c))
  have hc2 := (blk_cell hb 2).trans (rfl : _ = some (Value.bool false))
  have hf2 := blk_frozen hb 2
  clear hR hC hb
  by_cases h0 : r.length = 0
  · obtain rfl := List.eq_nil_of_length_eq_zero h0
    go_enter Try.func49, Try.ntmps49
    go_wp2
    go_ret
    exact ⟨none, 0, rfl, ⟨rfl, by simp [closeL], fun h => absurd h (by simp [closeL])⟩, ⟨_, blk_put HBk.out 2 _ rfl⟩, KeepBut.set_ (KeepBut.refl w g none) 2 _, (Below.refl b w).setCell (p := ⟨g, 2, none⟩) hg _⟩
  · have hr : r ≠ [] := fun e => h0 (by rw [e]; rfl)
    have HE := Aside0.mk (show closeL r = [⟨strOfNums (trim r), 4⟩] by unfold closeL; rw [if_neg hr])
    clear hr
    go_enter Try.func49, Try.ntmps49
    go_wp2_with (go_at_call 74; refine (scut_any b g _ _ mo true 4 _ (blk_put HBk.out 2 _ rfl) (Kd.R_far HR.out (p := ⟨g, 2, none⟩) (fun k hk => hk) _) hg).mono ?_; rintro e w1 ⟨rfl, hb1, hk1, hl1⟩; have HB1 := Aside0.mk hb1; have HK1 := Aside0.mk ((KeepBut.set_ (KeepBut.refl w g none) 2 (.bool true)).trans hk1 (.inl rfl)); have HL1 := Aside0.mk (((Below.refl b w).setCell (p := ⟨g, 2, none⟩) hg (.bool true)).trans hl1); clear hb1 hk1 hl1)
    go_ret
    rw [HE.out]
    exact ⟨_, _, rfl, C_line w1 ⟨strOfNums (trim r), 4⟩, ⟨_, blk_alloc HB1.out _⟩, keep_alloc HK1.out _, HL1.out.alloc (Nat.le_trans hg (Nat.le_of_lt (blk_lt HB1.out))) _⟩

def zLn : Ln := ⟨ByteArray.empty, 0⟩
theorem at_Ln {w : World} {A : Option Addr} {n : Nat} {xs : List Ln} (h : Kd.C kLn w A n xs) (i : Nat) (h1 : i < n) : ∃ ad, A = some ad ∧ w.cell? (ad.add (i * 2)) = some (.string (xs.getD i zLn).t) ∧ w.cell? ⟨(ad.add (i * 2)).block, (ad.add (i * 2)).off + 1, none⟩ = some (.int .i64 (xs.getD i zLn).e) := by
  obtain ⟨ad, c, e, _, hK, hc0⟩ := Kd.C_get h zLn (i : Int) (by omega) (by omega)
  simp only [Int.toNat_natCast] at hK hc0
  have hc : ∀ j u, c[j]? = some u → w.cell? (ad.add (i * 2 + j)) = some u := hc0
  obtain ⟨_, _, rfl, rfl, rfl⟩ := hK
  exact ⟨ad, e, hc 0 _ rfl, by rw [← add_field _ _ 1 (by omega)]; exact hc 1 _ rfl⟩
theorem writeL_awake : writeL 80 [] [97, 98, 10, 99] = ([99], [⟨⟨#[97, 98]⟩, 1⟩]) := by rfl
theorem closeL_awake : closeL [99] = [⟨⟨#[99]⟩, 4⟩] := by rfl

/-- A literal row of bytes stays while a stream that was there is written. -/
theorem lit_stays (W : World) (b g : Nat) (xs : List Int) (hm : xs.length ≤ 9223372036854775807) (hg : g < W.heap.size) : ∀ W', KeepBut (W.alloc (.cells (xs.map (Value.int .u8)).toArray 5)) W' g none → Below b (W.alloc (.cells (xs.map (Value.int .u8)).toArray 5)) W' → Kd.C (Kd.int .u8) W' (some ⟨W.heap.size, 0, none⟩) xs.length xs := by
  intro W' hk _
  have h := World.ownsRow_lit (base := W.heap.size) (e := 5) (size := 1) W (xs.map (Value.int .u8)).toArray xs.length (Nat.le_refl _) (by simpa [maxLen] using hm) (by simp)
  have h2 : (Kd.int .u8).R 5 (W.alloc (.cells (xs.map (Value.int .u8)).toArray 5)) W.heap.size (fun _ => True) (.slice (some ⟨W.heap.size, 0, none⟩) xs.length xs.length) xs := ⟨fun _ _ => trivial, _, h, Reps.imp_ (Kd.reps_scalar (enc := Value.int .u8) xs) (fun p c h => h)⟩
  exact C_own (Kd.R_keep (Kd.R_bound h2) hk (fun k hk => by have := hk.2.1; omega))

set_option maxHeartbeats 1000000 in
set_option maxRecDepth 100000 in
theorem awake37_any (w : World) : Calls Try.prog 34 #[] w fun e w' => e = .returned (.bool true) ∧ Below w.heap.size w w' := by
  go_enter Try.func34, Try.ntmps34
  go_wp2_with (first
    | (go_at_call 44; refine (snew_any 80 _).mono ?_; rintro e W ⟨rfl, hs, hb⟩; have HS := Aside0.mk hs; have HB := Aside0.mk hb; clear hs hb)
    | (go_at_call 45; refine (swrite_any w.heap.size w.heap.size (.slice none 0 0) [] 80 (some ⟨W.heap.size, 0, none⟩) 4 4 [97, 98, 10, 99] _ (blk_alloc HS.out _) (Kd.R_nil _ _ _ _ _) (Nat.le_refl _) rfl (lit_stays W w.heap.size w.heap.size [97, 98, 10, 99] (by simp) (blk_lt HS.out)) (by omega) (by simp)).mono ?_; rw [writeL_awake]; rintro e W2 ⟨vr, vo, rfl, hw⟩; obtain ⟨A5, c5, rfl, _, hl5⟩ := Kd.R_reads hw.ho; obtain ⟨g5, c6, hE, _, _, _⟩ := Kd.R_form hw.ho (by simp); have HW := Aside0.mk hw; have HB2 := Aside0.mk ((below_alloc HB.out _).trans hw.hl); clear hw hl5)
    | (go_at_call 49; refine (sclose_any w.heap.size w.heap.size vr [99] 80 _ HW.out.hb HW.out.hr (Nat.le_refl _)).mono ?_; rw [closeL_awake]; rintro e W3 ⟨A7, c7, rfl, hc7, _, hk7, hl7⟩; have ho3 := C_own (Kd.R_keep (Kd.R_types HW.out.ho HW.out.hb kLnE) hk7 (fun k hk => hk.2)); obtain ⟨ad1, e1, p1, _⟩ := at_Ln ho3 0 (by simp); obtain ⟨ad2, e2, p2, _⟩ := at_Ln hc7 0 (by simp); injection e1 with e1; subst e1; subst e2; rw [add_plain] at p1; have p1' : W3.cell? ⟨g5, 0, none⟩ = some (.string ⟨#[97, 98]⟩) := p1; have p2' : W3.cell? ad2 = some (.string ⟨#[99]⟩) := (by have h : W3.cell? (ad2.add 0) = some (.string ⟨#[99]⟩) := p2; rw [Addr.add_zero'] at h; exact h); have HB3 := Aside0.mk (HB2.out.trans hl7); clear p1 p2 hc7 hk7 hl7 ho3))
  go_ret
  exact ⟨rfl, HB3.out⟩

theorem suffix_any (s : ByteArray) (en : Int) (w : World) : Calls Try.prog 33 #[.agg #[.string s, .int .i64 en]] w fun e w' => e = .returned (.string (if en = 2 then ⟨#[95, 76, 73, 78, 69, 95, 66, 82, 69, 65, 75, 61, 110, 117, 108]⟩ else if en = 3 then ⟨#[95, 76, 73, 78, 69, 95, 66, 82, 69, 65, 75, 61, 108, 105, 110, 101, 45, 109, 97, 120]⟩ else if en = 4 then ⟨#[95, 76, 73, 78, 69, 95, 66, 82, 69, 65, 75, 61, 101, 111, 102]⟩ else ⟨#[]⟩)) ∧ Below w.heap.size w w' := by
  by_cases h2 : en = 2
  · subst h2
    go_enter Try.func33, Try.ntmps33
    go_wp2
    go_ret
    exact ⟨rfl, below_alloc (Below.refl _ _) _⟩
  · have q2 : (en == 2) = false := beq_eq_false_iff_ne.mpr h2
    rw [if_neg h2]
    by_cases h3 : en = 3
    · subst h3
      go_enter Try.func33, Try.ntmps33
      go_wp2
      go_ret
      exact ⟨rfl, below_alloc (Below.refl _ _) _⟩
    · have q3 : (en == 3) = false := beq_eq_false_iff_ne.mpr h3
      rw [if_neg h3]
      by_cases h4 : en = 4
      · subst h4
        go_enter Try.func33, Try.ntmps33
        go_wp2
        go_ret
        exact ⟨rfl, below_alloc (Below.refl _ _) _⟩
      · have q4 : (en == 4) = false := beq_eq_false_iff_ne.mpr h4
        rw [if_neg h4]
        go_enter Try.func33, Try.ntmps33
        go_wp2
        go_ret
        exact ⟨rfl, below_alloc (Below.refl _ _) _⟩

set_option maxHeartbeats 1000000 in
set_option maxRecDepth 100000 in
theorem says_walk (en : Int) (w : World) (h0 : -9223372036854775808 ≤ en) (h1 : en ≤ 9223372036854775807) : Calls Try.prog 6 #[.int .i64 en] w fun e w' => e = .returned (.bool true) ∧ Below w.heap.size w w' := by
  by_cases h2 : en = 2
  · subst h2
    have hcat : ((⟨#[95, 76, 73, 78, 69, 95, 66, 82, 69, 65, 75, 61]⟩ : ByteArray) ++ ⟨#[110, 117, 108]⟩) = ⟨#[95, 76, 73, 78, 69, 95, 66, 82, 69, 65, 75, 61, 110, 117, 108]⟩ := by rfl
    go_enter Try.func6, Try.ntmps6
    go_wp2_with (first
      | (go_at_call 33; refine (suffix_any _ 2 _).mono ?_; rintro e W1 ⟨rfl, hb⟩; have HB := Aside0.mk (below_step (by first | exact Below.refl _ _ | exact below_alloc (Below.refl _ _) _) hb : Below w.heap.size w W1); clear hb)
      | (go_at_call 34; refine (awake37_any _).mono ?_; rintro e W2 ⟨rfl, hb⟩; have hbn := below_step HB.out hb; clear HB; have HB := Aside0.mk hbn; clear hb hbn))
    go_ret
    exact ⟨rfl, HB.out⟩
  · by_cases h3 : en = 3
    · subst h3
      have hcat : ((⟨#[95, 76, 73, 78, 69, 95, 66, 82, 69, 65, 75, 61]⟩ : ByteArray) ++ ⟨#[108, 105, 110, 101, 45, 109, 97, 120]⟩) = ⟨#[95, 76, 73, 78, 69, 95, 66, 82, 69, 65, 75, 61, 108, 105, 110, 101, 45, 109, 97, 120]⟩ := by rfl
      go_enter Try.func6, Try.ntmps6
      go_wp2_with (first
        | (go_at_call 33; refine (suffix_any _ 3 _).mono ?_; rintro e W1 ⟨rfl, hb⟩; have HB := Aside0.mk (below_step (by first | exact Below.refl _ _ | exact below_alloc (Below.refl _ _) _) hb : Below w.heap.size w W1); clear hb)
        | (go_at_call 34; refine (awake37_any _).mono ?_; rintro e W2 ⟨rfl, hb⟩; have hbn := below_step HB.out hb; clear HB; have HB := Aside0.mk hbn; clear hb hbn))
      go_ret
      exact ⟨rfl, HB.out⟩
    · by_cases h4 : en = 4
      · subst h4
        have hcat : ((⟨#[95, 76, 73, 78, 69, 95, 66, 82, 69, 65, 75, 61]⟩ : ByteArray) ++ ⟨#[101, 111, 102]⟩) = ⟨#[95, 76, 73, 78, 69, 95, 66, 82, 69, 65, 75, 61, 101, 111, 102]⟩ := by rfl
        go_enter Try.func6, Try.ntmps6
        go_wp2_with (first
          | (go_at_call 33; refine (suffix_any _ 4 _).mono ?_; rintro e W1 ⟨rfl, hb⟩; have HB := Aside0.mk (below_step (by first | exact Below.refl _ _ | exact below_alloc (Below.refl _ _) _) hb : Below w.heap.size w W1); clear hb)
          | (go_at_call 34; refine (awake37_any _).mono ?_; rintro e W2 ⟨rfl, hb⟩; have hbn := below_step HB.out hb; clear HB; have HB := Aside0.mk hbn; clear hb hbn))
        go_ret
        exact ⟨rfl, HB.out⟩
      · have q2 : (en == 2) = false := beq_eq_false_iff_ne.mpr h2
        have q3 : (en == 3) = false := beq_eq_false_iff_ne.mpr h3
        have q4 : (en == 4) = false := beq_eq_false_iff_ne.mpr h4
        have hx : (if en = 2 then (⟨#[95, 76, 73, 78, 69, 95, 66, 82, 69, 65, 75, 61, 110, 117, 108]⟩ : ByteArray) else if en = 3 then ⟨#[95, 76, 73, 78, 69, 95, 66, 82, 69, 65, 75, 61, 108, 105, 110, 101, 45, 109, 97, 120]⟩ else if en = 4 then ⟨#[95, 76, 73, 78, 69, 95, 66, 82, 69, 65, 75, 61, 101, 111, 102]⟩ else ⟨#[]⟩) = ⟨#[]⟩ := by rw [if_neg h2, if_neg h3, if_neg h4]
        have HX := Aside0.mk hx
        clear hx
        by_cases h5 : en < 2
        · go_enter Try.func6, Try.ntmps6
          go_wp2_with (first
            | (go_at_call 33; refine (suffix_any _ en _).mono ?_; rw [HX.out]; rintro e W1 ⟨rfl, hb⟩; have HB := Aside0.mk hb; clear hb)
            | (go_at_call 34; refine (awake37_any _).mono ?_; rintro e W2 ⟨rfl, hb⟩; have hbn := below_step HB.out hb; clear HB; have HB := Aside0.mk hbn; clear hb hbn))
          go_ret
          exact ⟨rfl, HB.out⟩
        · have h6 : 4 < en := by omega
          go_enter Try.func6, Try.ntmps6
          go_wp2_with (first
            | (go_at_call 33; refine (suffix_any _ en _).mono ?_; rw [HX.out]; rintro e W1 ⟨rfl, hb⟩; have HB := Aside0.mk hb; clear hb)
            | (go_at_call 34; refine (awake37_any _).mono ?_; rintro e W2 ⟨rfl, hb⟩; have hbn := below_step HB.out hb; clear HB; have HB := Aside0.mk hbn; clear hb hbn))
          go_ret
          exact ⟨rfl, HB.out⟩
end Go.Proofs.Ytldiginkmmlojaa
