/- Merging: the lists in memory; least. -/
import Derived.Test.YtldiginkmmlojaaMeB
namespace Go.Proofs.Ytldiginkmmlojaa
set_option linter.unusedVariables false
open Go.RowKit Go.Proofs.YtldiginkmmlojaaW.PrintWords
attribute [local go_sem] mx2 mn2 mxTwo mnTwo

abbrev kLL : Kd (List Int) := Kd.slice 3 (Kd.int .i64)
theorem at_LL {w : World} {A : Option Addr} {n : Nat} {xs : List (List Int)} (h : Kd.C kLL w A n xs) (i : Nat) (h1 : i < n) : ∃ ad A2 c2, A = some ad ∧ w.cell? (ad.add i) = some (.slice A2 (xs.getD i []).length c2) ∧ (xs.getD i []).length ≤ c2 ∧ Kd.C (Kd.int .i64) w A2 (xs.getD i []).length (xs.getD i []) := by
  obtain ⟨ad, c, e, _, hK, hc0⟩ := Kd.C_get h [] (i : Int) (by omega) (by omega)
  simp only [Int.toNat_natCast] at hK hc0
  obtain ⟨A2, c2, rfl, hl, hC⟩ := hK
  exact ⟨ad, A2, c2, e, by have := hc0 0 _ rfl; rwa [show i * (Kd.slice 3 (Kd.int .i64)).sz + 0 = i from Nat.mul_one i] at this, hl, hC⟩
theorem at_i64 {w : World} {A : Option Addr} {n : Nat} {xs : List Int} (h : (Kd.int .i64).C w A n xs) (i : Nat) (h1 : i < n) : ∃ ad, A = some ad ∧ w.cell? (ad.add i) = some (.int .i64 (xs.getD i 0)) := by
  obtain ⟨ad, c, e, _, hK, hc0⟩ := Kd.C_get h (0 : Int) (i : Int) (by omega) (by omega)
  simp only [Int.toNat_natCast] at hK hc0
  have hK' : c = [.int .i64 (xs.getD i 0)] := hK
  subst hK'
  exact ⟨ad, e, by have := hc0 0 _ rfl; rwa [show i * (Kd.int .i64).sz + 0 = i from Nat.mul_one i] at this⟩
/-- The lists in memory. -/
structure LM (W : World) (g : Nat) (cf : Nat) (A : Option Addr) (c : Nat) (L : List (List Int)) : Prop where
  hb : W.heap[g]? = some (.cells #[.func (.func cf) #[] #[], .slice A L.length c] 126 (0, 0))
  hl : Kd.C kLL W A L.length L
theorem LM.below {W W1 : World} {g cf c : Nat} {A : Option Addr} {L : List (List Int)} (h : LM W g cf A c L) (hb : Below W.heap.size W W1) : LM W1 g cf A c L := ⟨blk_below h.hb hb, Kd.C_below h.hl hb⟩
/-- Where the rests begin. -/
def atI (ats : List Nat) : List Int := ats.map (fun (k : Nat) => (k : Int))
def sufF (L : List (List Int)) (ats : List Nat) : List (List Int) := List.zipWith (fun l k => l.drop k) L ats
theorem sufF_get {L : List (List Int)} {ats : List Nat} (he : ats.length = L.length) {i : Nat} (hi : i < L.length) : (sufF L ats).getD i [] = (L.getD i []).drop (ats.getD i 0) := by
  unfold sufF
  simp only [List.getD_eq_getElem?_getD, List.getElem?_zipWith, List.getElem?_eq_getElem hi, List.getElem?_eq_getElem (show i < ats.length by omega)]
  rfl
theorem atI_get {ats : List Nat} {i : Nat} (hi : i < ats.length) : (atI ats).getD i 0 = ((ats.getD i 0 : Nat) : Int) := by
  unfold atI
  rw [List.getD_eq_getElem?_getD, List.getElem?_map, List.getElem?_eq_getElem hi, List.getD_eq_getElem?_getD, List.getElem?_eq_getElem hi]
  rfl
theorem bestF_none {cmp : Int → Int → Int} {S : List (List Int)} {i : Nat} (h : S.getD i [] = []) : bestF cmp S (i + 1) = bestF cmp S i := by
  show (match S.getD i [] with | [] => _ | y :: _ => _) = _
  rw [h]
theorem bestF_first {cmp : Int → Int → Int} {S : List (List Int)} {i : Nat} {y : Int} {t : List Int} (h : S.getD i [] = y :: t) (hb : bestF cmp S i = none) : bestF cmp S (i + 1) = some (i, y) := by
  show (match S.getD i [] with | [] => _ | y :: _ => _) = _
  rw [h, hb]
theorem bestF_some {cmp : Int → Int → Int} {S : List (List Int)} {i : Nat} {y : Int} {t : List Int} {j : Nat} {z : Int} (h : S.getD i [] = y :: t) (hb : bestF cmp S i = some (j, z)) : bestF cmp S (i + 1) = if cmp y z < 0 then some (i, y) else some (j, z) := by
  show (match S.getD i [] with | [] => _ | y :: _ => _) = _
  rw [h, hb]
/-- The best one is there. -/
theorem bestF_at {cmp : Int → Int → Int} {S : List (List Int)} : ∀ {i j : Nat} {z : Int}, bestF cmp S i = some (j, z) → j < i ∧ ∃ t, S.getD j [] = z :: t
  | 0, j, z, h => by cases h
  | i + 1, j, z, h => by
    cases hS : S.getD i [] with
    | nil =>
      rw [bestF_none hS] at h
      obtain ⟨h1, h2⟩ := bestF_at h
      exact ⟨by omega, h2⟩
    | cons y t =>
      cases hb : bestF cmp S i with
      | none =>
        rw [bestF_first hS hb] at h
        cases h
        exact ⟨by omega, t, hS⟩
      | some p =>
        obtain ⟨j', z'⟩ := p
        rw [bestF_some hS hb] at h
        split at h
        · cases h
          exact ⟨by omega, t, hS⟩
        · cases h
          obtain ⟨h1, h2⟩ := bestF_at hb
          exact ⟨by omega, h2⟩
theorem drop_cons {l : List Int} {k : Nat} (h : k < l.length) : l.drop k = l.getD k 0 :: l.drop (k + 1) := by
  rw [List.drop_eq_getElem_cons h, List.getD_eq_getElem?_getD, List.getElem?_eq_getElem h]
  rfl
set_option maxHeartbeats 2000000 in
set_option maxRecDepth 100000 in
theorem least_T (g c c2 : Nat) (A A2 : Option Addr) (L : List (List Int)) (ats : List Nat) (w : World) (h : LM w g 38 A c L) (hat : Kd.C (Kd.int .i64) w A2 L.length (atI ats)) (he : ats.length = L.length) (hv : ∀ l ∈ L, ∀ x ∈ l, 0 ≤ x ∧ x ≤ 1000000) :
    Calls Try.prog 72 #[.pointer (some ⟨g, 0, none⟩), .slice A2 L.length c2] w fun e w' => e = .returned (.int .i64 (codeB (bestF cT (sufF L ats) L.length))) ∧ ∃ q, w' = w.drewN q := by
  have hmx := Kd.C_max h.hl
  have hc0 := (blk_cell h.hb 0).trans (rfl : _ = some (Value.func (.func 38) #[] #[]))
  have hc1 := (blk_cell h.hb 1).trans (rfl : _ = some (Value.slice A L.length c))
  have HL := Aside0.mk h.hl
  have HA := Aside0.mk hat
  have HV := Aside0.mk (show ∀ i k, i < L.length → k < (L.getD i []).length → 0 ≤ (L.getD i []).getD k 0 ∧ (L.getD i []).getD k 0 ≤ 1000000 from fun i k hi hk => hv _ (List.mem_of_getElem? (show L[i]? = some (L.getD i []) by rw [List.getD_eq_getElem?_getD, List.getElem?_eq_getElem hi]; rfl)) _ (List.mem_of_getElem? (show (L.getD i [])[k]? = some ((L.getD i []).getD k 0) by rw [List.getD_eq_getElem?_getD (l := L.getD i []), List.getElem?_eq_getElem hk]; rfl)))
  clear h hat hv
  go_enter Try.func72, Try.ntmps72
  go_wp2_with fail
  go_loopg [5, 6, 7, 13] L.length (fun q v5 v6 v7 v13 wr => ∃ i : Nat, v5 = .int .i64 (codeB (bestF cT (sufF L ats) i)) ∧ v13 = .int .i64 (i : Int) ∧ i ≤ L.length ∧ Aside0 (q = L.length - i) ∧ Aside0 (∃ q, wr = w.drewN q))
  case atStart => exact ⟨0, rfl, rfl, Nat.zero_le _, ⟨rfl⟩, ⟨⟨0, rfl⟩⟩⟩
  case round =>
    obtain ⟨i, rfl, rfl, hi, hq, HW⟩ := hrel
    have hbw : Below w.heap.size w wr := by obtain ⟨q, rfl⟩ := HW.out; exact pw_below_drewN (Below.refl _ _) _
    replace hc0 := pw_cell_below hbw hc0
    replace hc1 := pw_cell_below hbw hc1
    have HBW := Aside0.mk hbw
    clear hbw
    by_cases hlt : i < L.length
    · obtain ⟨ad, A3, c3, rfl, r1, hl3, hC3⟩ := at_LL (Kd.C_below HL.out HBW.out) i hlt
      obtain ⟨ad2, rfl, r2⟩ := at_i64 (Kd.C_below HA.out HBW.out) i hlt
      rw [atI_get (by omega)] at r2
      have HSG := Aside0.mk (sufF_get he hlt)
      have HC3 := Aside0.mk hC3
      have HVI := Aside0.mk (fun k hk => HV.out i k hlt hk)
      clear hC3
      generalize hk : ats.getD i 0 = k at *
      generalize hli : L.getD i [] = li at *
      have HK := Aside0.mk hk
      have HLI := Aside0.mk hli
      clear hk hli
      by_cases hkl : k < li.length
      · obtain ⟨ad3, rfl, r3⟩ := at_i64 HC3.out k hkl
        have HY := Aside0.mk (HVI.out k hkl)
        have HSC := Aside0.mk (HSG.out.trans (drop_cons hkl))
        generalize li.getD k 0 = y at *
        have d1 : decide (k < li.length) = true := decide_eq_true hkl
        cases hbf : bestF cT (sufF L ats) i with
        | none =>
          have HN := Aside0.mk (bestF_first (cmp := cT) HSC.out hbf)
          have e0 : codeB none = -1 := rfl
          go_wp2_with fail
          go_quiet (fail)
          go_wp2_with fail
          go_roundg (L.length - (i + 1))
          case measure => have := hq.out; omega
          case rel =>
            obtain ⟨q0, e9⟩ := HW.out
            exact ⟨i + 1, (by rw [HN.out]; first | done | rfl), by go_num, by omega, ⟨rfl⟩, ⟨⟨_, by rw [e9, World.drewN_drewN]⟩⟩⟩
        | some p =>
          obtain ⟨j, z⟩ := p
          have e0 : codeB (some (j, z)) = (j : Int) := rfl
          obtain ⟨hji, t9, hS9⟩ := bestF_at hbf
          have hjL : j < L.length := by omega
          have hj0 : (0 : Int) ≤ (j : Int) := by omega
          have hS8 := sufF_get he hjL
          rw [hS9] at hS8
          obtain ⟨adj, A5, c5, ej, s1, hl5, hC5⟩ := at_LL (Kd.C_below HL.out HBW.out) j hjL
          obtain rfl : ad = adj := by injection ej
          obtain ⟨adj2, ej2, s2⟩ := at_i64 (Kd.C_below HA.out HBW.out) j hjL
          obtain rfl : ad2 = adj2 := by injection ej2
          clear ej ej2
          rw [atI_get (by omega)] at s2
          have HVJ := Aside0.mk (fun k hk => HV.out j k hjL hk)
          have HC5 := Aside0.mk hC5
          clear hC5
          generalize ats.getD j 0 = kj at *
          generalize L.getD j [] = lj at *
          have hkj : kj < lj.length := by
            rcases Nat.lt_or_ge kj lj.length with h | h
            · exact h
            · rw [List.drop_eq_nil_of_le h] at hS8
              cases hS8
          rw [drop_cons hkj] at hS8
          obtain ⟨ad5, rfl, s3⟩ := at_i64 HC5.out kj hkj
          have HZ := Aside0.mk (HVJ.out kj hkj)
          have hz : lj.getD kj 0 = z := by injection hS8 with h _; exact h.symm
          rw [hz] at s3 HZ
          have HN0 := Aside0.mk (bestF_some (cmp := cT) HSC.out hbf)
          clear hS8 hS9 hz hbf
          by_cases hcm : cT y z < 0
          · have dc := decide_eq_true hcm
            have HN := Aside0.mk (show bestF cT (sufF L ats) (i + 1) = some (i, y) by rw [HN0.out, if_pos hcm])
            clear hcm
            go_wp2_with fail
            go_quiet (first | (go_at_call 38; exact Calls.quiet_of_same (tens_any y z _ HY.out HZ.out)))
            go_wp2_with fail
            go_roundg (L.length - (i + 1))
            case measure => have := hq.out; omega
            case rel =>
              obtain ⟨q0, e9⟩ := HW.out
              exact ⟨i + 1, (by rw [HN.out]; first | done | rfl), by go_num, by omega, ⟨rfl⟩, ⟨⟨_, by rw [e9, World.drewN_drewN]⟩⟩⟩
          · have dc := decide_eq_false hcm
            have HN := Aside0.mk (show bestF cT (sufF L ats) (i + 1) = some (j, z) by rw [HN0.out, if_neg hcm])
            clear hcm
            go_wp2_with fail
            go_quiet (first | (go_at_call 38; exact Calls.quiet_of_same (tens_any y z _ HY.out HZ.out)))
            go_wp2_with fail
            go_roundg (L.length - (i + 1))
            case measure => have := hq.out; omega
            case rel =>
              obtain ⟨q0, e9⟩ := HW.out
              exact ⟨i + 1, (by rw [HN.out]; first | done | rfl), by go_num, by omega, ⟨rfl⟩, ⟨⟨_, by rw [e9, World.drewN_drewN]⟩⟩⟩
      · have d1 : decide (k < li.length) = false := decide_eq_false hkl
        have HN := Aside0.mk (bestF_none (cmp := cT) (show (sufF L ats).getD i [] = [] by rw [HSG.out, List.drop_eq_nil_of_le (by omega)]))
        go_wp2_with fail
        go_quiet (fail)
        go_wp2_with fail
        go_roundg (L.length - (i + 1))
        case measure => have := hq.out; omega
        case rel =>
          obtain ⟨q0, e9⟩ := HW.out
          exact ⟨i + 1, (by rw [HN.out]; first | done | rfl), by go_num, by omega, ⟨rfl⟩, ⟨⟨_, by rw [e9, World.drewN_drewN]⟩⟩⟩
    · obtain rfl : i = L.length := by omega
      go_wp2_with fail
      go_ret
      exact ⟨rfl, HW.out⟩
set_option maxHeartbeats 2000000 in
set_option maxRecDepth 100000 in
theorem least_S (g c c2 : Nat) (A A2 : Option Addr) (L : List (List Int)) (ats : List Nat) (w : World) (h : LM w g 67 A c L) (hat : Kd.C (Kd.int .i64) w A2 L.length (atI ats)) (he : ats.length = L.length) (hv : ∀ l ∈ L, ∀ x ∈ l, 0 ≤ x ∧ x ≤ 1000000) :
    Calls Try.prog 72 #[.pointer (some ⟨g, 0, none⟩), .slice A2 L.length c2] w fun e w' => e = .returned (.int .i64 (codeB (bestF cS (sufF L ats) L.length))) ∧ ∃ q, w' = w.drewN q := by
  have hmx := Kd.C_max h.hl
  have hc0 := (blk_cell h.hb 0).trans (rfl : _ = some (Value.func (.func 67) #[] #[]))
  have hc1 := (blk_cell h.hb 1).trans (rfl : _ = some (Value.slice A L.length c))
  have HL := Aside0.mk h.hl
  have HA := Aside0.mk hat
  have HV := Aside0.mk (show ∀ i k, i < L.length → k < (L.getD i []).length → 0 ≤ (L.getD i []).getD k 0 ∧ (L.getD i []).getD k 0 ≤ 1000000 from fun i k hi hk => hv _ (List.mem_of_getElem? (show L[i]? = some (L.getD i []) by rw [List.getD_eq_getElem?_getD, List.getElem?_eq_getElem hi]; rfl)) _ (List.mem_of_getElem? (show (L.getD i [])[k]? = some ((L.getD i []).getD k 0) by rw [List.getD_eq_getElem?_getD (l := L.getD i []), List.getElem?_eq_getElem hk]; rfl)))
  clear h hat hv
  go_enter Try.func72, Try.ntmps72
  go_wp2_with fail
  go_loopg [5, 6, 7, 13] L.length (fun q v5 v6 v7 v13 wr => ∃ i : Nat, v5 = .int .i64 (codeB (bestF cS (sufF L ats) i)) ∧ v13 = .int .i64 (i : Int) ∧ i ≤ L.length ∧ Aside0 (q = L.length - i) ∧ Aside0 (∃ q, wr = w.drewN q))
  case atStart => exact ⟨0, rfl, rfl, Nat.zero_le _, ⟨rfl⟩, ⟨⟨0, rfl⟩⟩⟩
  case round =>
    obtain ⟨i, rfl, rfl, hi, hq, HW⟩ := hrel
    have hbw : Below w.heap.size w wr := by obtain ⟨q, rfl⟩ := HW.out; exact pw_below_drewN (Below.refl _ _) _
    replace hc0 := pw_cell_below hbw hc0
    replace hc1 := pw_cell_below hbw hc1
    have HBW := Aside0.mk hbw
    clear hbw
    by_cases hlt : i < L.length
    · obtain ⟨ad, A3, c3, rfl, r1, hl3, hC3⟩ := at_LL (Kd.C_below HL.out HBW.out) i hlt
      obtain ⟨ad2, rfl, r2⟩ := at_i64 (Kd.C_below HA.out HBW.out) i hlt
      rw [atI_get (by omega)] at r2
      have HSG := Aside0.mk (sufF_get he hlt)
      have HC3 := Aside0.mk hC3
      have HVI := Aside0.mk (fun k hk => HV.out i k hlt hk)
      clear hC3
      generalize hk : ats.getD i 0 = k at *
      generalize hli : L.getD i [] = li at *
      have HK := Aside0.mk hk
      have HLI := Aside0.mk hli
      clear hk hli
      by_cases hkl : k < li.length
      · obtain ⟨ad3, rfl, r3⟩ := at_i64 HC3.out k hkl
        have HY := Aside0.mk (HVI.out k hkl)
        have HSC := Aside0.mk (HSG.out.trans (drop_cons hkl))
        generalize li.getD k 0 = y at *
        have d1 : decide (k < li.length) = true := decide_eq_true hkl
        cases hbf : bestF cS (sufF L ats) i with
        | none =>
          have HN := Aside0.mk (bestF_first (cmp := cS) HSC.out hbf)
          have e0 : codeB none = -1 := rfl
          go_wp2_with fail
          go_quiet (fail)
          go_wp2_with fail
          go_roundg (L.length - (i + 1))
          case measure => have := hq.out; omega
          case rel =>
            obtain ⟨q0, e9⟩ := HW.out
            exact ⟨i + 1, (by rw [HN.out]; first | done | rfl), by go_num, by omega, ⟨rfl⟩, ⟨⟨_, by rw [e9, World.drewN_drewN]⟩⟩⟩
        | some p =>
          obtain ⟨j, z⟩ := p
          have e0 : codeB (some (j, z)) = (j : Int) := rfl
          obtain ⟨hji, t9, hS9⟩ := bestF_at hbf
          have hjL : j < L.length := by omega
          have hj0 : (0 : Int) ≤ (j : Int) := by omega
          have hS8 := sufF_get he hjL
          rw [hS9] at hS8
          obtain ⟨adj, A5, c5, ej, s1, hl5, hC5⟩ := at_LL (Kd.C_below HL.out HBW.out) j hjL
          obtain rfl : ad = adj := by injection ej
          obtain ⟨adj2, ej2, s2⟩ := at_i64 (Kd.C_below HA.out HBW.out) j hjL
          obtain rfl : ad2 = adj2 := by injection ej2
          clear ej ej2
          rw [atI_get (by omega)] at s2
          have HVJ := Aside0.mk (fun k hk => HV.out j k hjL hk)
          have HC5 := Aside0.mk hC5
          clear hC5
          generalize ats.getD j 0 = kj at *
          generalize L.getD j [] = lj at *
          have hkj : kj < lj.length := by
            rcases Nat.lt_or_ge kj lj.length with h | h
            · exact h
            · rw [List.drop_eq_nil_of_le h] at hS8
              cases hS8
          rw [drop_cons hkj] at hS8
          obtain ⟨ad5, rfl, s3⟩ := at_i64 HC5.out kj hkj
          have HZ := Aside0.mk (HVJ.out kj hkj)
          have hz : lj.getD kj 0 = z := by injection hS8 with h _; exact h.symm
          rw [hz] at s3 HZ
          have HN0 := Aside0.mk (bestF_some (cmp := cS) HSC.out hbf)
          clear hS8 hS9 hz hbf
          by_cases hcm : cS y z < 0
          · have dc := decide_eq_true hcm
            have HN := Aside0.mk (show bestF cS (sufF L ats) (i + 1) = some (i, y) by rw [HN0.out, if_pos hcm])
            clear hcm
            go_wp2_with fail
            go_quiet (first | (go_at_call 67; exact Calls.quiet_of_same (subs_any y z _ HY.out HZ.out)))
            go_wp2_with fail
            go_roundg (L.length - (i + 1))
            case measure => have := hq.out; omega
            case rel =>
              obtain ⟨q0, e9⟩ := HW.out
              exact ⟨i + 1, (by rw [HN.out]; first | done | rfl), by go_num, by omega, ⟨rfl⟩, ⟨⟨_, by rw [e9, World.drewN_drewN]⟩⟩⟩
          · have dc := decide_eq_false hcm
            have HN := Aside0.mk (show bestF cS (sufF L ats) (i + 1) = some (j, z) by rw [HN0.out, if_neg hcm])
            clear hcm
            go_wp2_with fail
            go_quiet (first | (go_at_call 67; exact Calls.quiet_of_same (subs_any y z _ HY.out HZ.out)))
            go_wp2_with fail
            go_roundg (L.length - (i + 1))
            case measure => have := hq.out; omega
            case rel =>
              obtain ⟨q0, e9⟩ := HW.out
              exact ⟨i + 1, (by rw [HN.out]; first | done | rfl), by go_num, by omega, ⟨rfl⟩, ⟨⟨_, by rw [e9, World.drewN_drewN]⟩⟩⟩
      · have d1 : decide (k < li.length) = false := decide_eq_false hkl
        have HN := Aside0.mk (bestF_none (cmp := cS) (show (sufF L ats).getD i [] = [] by rw [HSG.out, List.drop_eq_nil_of_le (by omega)]))
        go_wp2_with fail
        go_quiet (fail)
        go_wp2_with fail
        go_roundg (L.length - (i + 1))
        case measure => have := hq.out; omega
        case rel =>
          obtain ⟨q0, e9⟩ := HW.out
          exact ⟨i + 1, (by rw [HN.out]; first | done | rfl), by go_num, by omega, ⟨rfl⟩, ⟨⟨_, by rw [e9, World.drewN_drewN]⟩⟩⟩
    · obtain rfl : i = L.length := by omega
      go_wp2_with fail
      go_ret
      exact ⟨rfl, HW.out⟩
end Go.Proofs.Ytldiginkmmlojaa
