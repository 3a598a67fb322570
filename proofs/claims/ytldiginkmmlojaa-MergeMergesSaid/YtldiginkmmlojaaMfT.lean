/- Merging: the law's lists, made to rise. -/
import Derived.Test.YtldiginkmmlojaaMfS
import Derived.Test.YtldiginkmmlojaaOpen
namespace Go.Proofs.Ytldiginkmmlojaa
set_option linter.unusedVariables false
set_option linter.unusedSimpArgs false
open Go.RowKit Go.Proofs.YtldiginkmmlojaaW.PrintWords

abbrev kUU : Kd (List Int) := Kd.slice 63 (Kd.int .u16)
theorem opens_t62 : Opens Try.prog 62 (Kd.slice 93 kUU) (fun xs => ∀ x ∈ xs, ∀ y ∈ x, (Lit.int .u16 y).wf = true) := opens_slice Try.underlying62 (by kernel_rfl) (opens_slice Try.underlying93 (by kernel_rfl) (opens_int Try.underlying63))
theorem at_UU {w : World} {A : Option Addr} {n : Nat} {xs : List (List Int)} (h : Kd.C kUU w A n xs) (i : Nat) (h1 : i < n) : ∃ ad A2 c2, A = some ad ∧ w.cell? (ad.add i) = some (.slice A2 (xs.getD i []).length c2) ∧ (xs.getD i []).length ≤ c2 ∧ Kd.C (Kd.int .u16) w A2 (xs.getD i []).length (xs.getD i []) := by
  obtain ⟨ad, c, e, _, hK, hc0⟩ := Kd.C_get h [] (i : Int) (by omega) (by omega)
  simp only [Int.toNat_natCast] at hK hc0
  obtain ⟨A2, c2, rfl, hl, hC⟩ := hK
  exact ⟨ad, A2, c2, e, by have := hc0 0 _ rfl; rwa [show i * (Kd.slice 63 (Kd.int .u16)).sz + 0 = i from Nat.mul_one i] at this, hl, hC⟩
theorem at_16 {w : World} {A : Option Addr} {n : Nat} {xs : List Int} (h : (Kd.int .u16).C w A n xs) (i : Nat) (h1 : i < n) : ∃ ad, A = some ad ∧ w.cell? (ad.add i) = some (.int .u16 (xs.getD i 0)) := by
  obtain ⟨ad, c, e, _, hK, hc0⟩ := Kd.C_get h (0 : Int) (i : Int) (by omega) (by omega)
  simp only [Int.toNat_natCast] at hK hc0
  have hK' : c = [.int .u16 (xs.getD i 0)] := hK
  subst hK'
  exact ⟨ad, e, by have := hc0 0 _ rfl; rwa [show i * (Kd.int .u16).sz + 0 = i from Nat.mul_one i] at this⟩
/-- The lists, and how many things they have. -/
def liT (us : List (List Int)) (i : Nat) : List (List Int) := (us.take i).map (fun r => sortT (r.take 100))
def cnT (us : List (List Int)) (i : Nat) : Nat := ((us.take i).map (fun r => min r.length 100)).sum
theorem liT_step (us : List (List Int)) (i : Nat) (h : i < us.length) : liT us (i + 1) = liT us i ++ [sortT ((us.getD i []).take 100)] := by
  unfold liT
  rw [List.take_succ_eq_append_getElem h, List.map_append, List.getD_eq_getElem?_getD, List.getElem?_eq_getElem h]
  rfl
theorem cnT_step (us : List (List Int)) (i : Nat) (h : i < us.length) : cnT us (i + 1) = cnT us i + min (us.getD i []).length 100 := by
  unfold cnT
  rw [List.take_succ_eq_append_getElem h, List.map_append, List.sum_append, List.getD_eq_getElem?_getD, List.getElem?_eq_getElem h]
  simp
theorem liT_len (us : List (List Int)) (i : Nat) (h : i ≤ us.length) : (liT us i).length = i := by
  unfold liT
  rw [List.length_map, List.length_take]
  omega
set_option maxRecDepth 100000 in
set_option maxHeartbeats 4000000 in
theorem lists25_any (A : Option Addr) (c : Nat) (us : List (List Int)) (w : World) (hC : Kd.C kUU w A us.length us) (hv : ∀ l ∈ us, ∀ y ∈ l, 0 ≤ y ∧ y ≤ 65535) :
    Calls Try.prog 36 #[.slice A us.length c] w fun e w' => ∃ A' c', e = .returned (.tuple #[.slice A' (min us.length 20) c', .bool (decide (us.length ≤ 20 ∧ cnT us (min us.length 20) ≤ 200))]) ∧ Kd.R kLL 70 w' w.heap.size (fun _ => True) (.slice A' (min us.length 20) c') (liT us (min us.length 20)) ∧ Below w.heap.size w w' := by
  have hmu := Kd.C_max hC
  have HC := Aside0.mk hC
  have HVI := Aside0.mk (show ∀ i k, i < us.length → k < (us.getD i []).length → 0 ≤ (us.getD i []).getD k 0 ∧ (us.getD i []).getD k 0 ≤ 65535 from fun i k hi hk => hv _ (List.mem_of_getElem? (show us[i]? = some (us.getD i []) by rw [List.getD_eq_getElem?_getD, List.getElem?_eq_getElem hi]; rfl)) _ (List.mem_of_getElem? (show (us.getD i [])[k]? = some ((us.getD i []).getD k 0) by rw [List.getD_eq_getElem?_getD (l := us.getD i []), List.getElem?_eq_getElem hk]; rfl)))
  clear hC hv
  go_enter Try.func36, Try.ntmps36
  go_wp2_with fail
  go_loopg [4, 5, 6] us.length (fun q v4 v5 v6 wr => ∃ (i n c4 : Nat) (A4 : Option Addr), v4 = .slice A4 i c4 ∧ v5 = .int .i64 (n : Int) ∧ v6 = .int .i64 (i : Int) ∧ i ≤ us.length ∧ i ≤ 20 ∧ n ≤ 100 * i ∧ Aside0 (n = cnT us i) ∧ Aside0 (q = us.length - i) ∧ Aside0 (Kd.R kLL 70 wr w.heap.size (fun _ => True) (.slice A4 i c4) (liT us i)) ∧ Aside0 (Below w.heap.size w wr))
  case atStart => exact ⟨0, 0, 0, none, rfl, rfl, rfl, Nat.zero_le _, Nat.zero_le _, Nat.zero_le _, ⟨rfl⟩, ⟨rfl⟩, ⟨Kd.R_nil _ _ _ _ _⟩, ⟨Below.refl _ _⟩⟩
  case round =>
    obtain ⟨i, n, c4, A4, rfl, rfl, rfl, hi, hi20, hn, HN, hq, HA, HB⟩ := hrel
    by_cases hlt : i < us.length
    · have d1 : decide (i < us.length) = true := decide_eq_true hlt
      by_cases h20 : i < 20
      · have d2 : decide ((i : Int) < 20) = true := decide_eq_true (by omega)
        have hll := at_UU (Kd.C_below HC.out HB.out) i hlt
        obtain ⟨ad0, _, _, rfl, _, _, hC0⟩ := hll
        have hlm := Kd.C_max hC0
        have HUS := Aside0.mk (fun W (h : Below w.heap.size w W) => at_UU (Kd.C_below HC.out h) i hlt)
        have HVK := Aside0.mk (fun k => HVI.out i k hlt)
        have HLS := Aside0.mk (liT_step us i hlt)
        have HCS := Aside0.mk (cnT_step us i hlt)
        have HLL := Aside0.mk (liT_len us i hi)
        have HLL2 := Aside0.mk (liT_len us (i + 1) hlt)
        clear hC0
        generalize us.getD i [] = li at *
        have HB0 := HB
        obtain ⟨WR, hWR⟩ : ∃ WR, WR = wr := ⟨_, rfl⟩
        rw [← hWR] at HB0 HA
        have HWR := Aside0.mk hWR
        clear hWR
        go_wp2_with fail
        go_loopg [5, 7, 8] li.length (fun q v5 v7 v8 wr2 => ∃ (k m c7 : Nat) (A7 : Option Addr) (xs : List Int), v5 = .int .i64 (m : Int) ∧ v7 = .slice A7 xs.length c7 ∧ v8 = .int .i64 (k : Int) ∧ k ≤ li.length ∧ k ≤ 100 ∧ m ≤ n + k ∧ xs.length ≤ k ∧ Aside0 (m = n + k) ∧ Aside0 (xs = li.take k) ∧ Aside0 (q = li.length - k) ∧ Aside0 (Kd.R (Kd.int .i64) 3 wr2 WR.heap.size (fun _ => True) (.slice A7 xs.length c7) xs) ∧ Aside0 (Below w.heap.size w wr2) ∧ Aside0 (Below WR.heap.size WR wr2))
        case atStart => exact ⟨0, n, 0, none, [], rfl, rfl, rfl, Nat.zero_le _, Nat.zero_le _, Nat.le_refl _, Nat.le_refl _, ⟨rfl⟩, ⟨rfl⟩, ⟨rfl⟩, ⟨Kd.R_nil _ _ _ _ _⟩, HB, ⟨by rw [HWR.out]; exact Below.refl _ _⟩⟩
        case round =>
          clear HB
          obtain ⟨k, m, c7, A7, xs, rfl, rfl, rfl, hk, hk1, hm, hxl, HM, HX, hq2, HR, HB, HBW⟩ := hrel
          obtain ⟨ad, A6, c6, e6, r1, hl6, hC6⟩ := HUS.out wr HB.out
          obtain rfl : ad0 = ad := by injection e6
          have hsz := HBW.out.size
          have hi0 : (0 : Int) ≤ (i : Int) := by omega
          have hi1 : (i : Int) < (us.length : Int) := by omega
          by_cases hkl : k < li.length
          · have d3 : decide (k < li.length) = true := decide_eq_true hkl
            by_cases hk2 : k < 100
            · have d4 : decide ((k : Int) < 100) = true := decide_eq_true (by omega)
              obtain ⟨ad3, rfl, r3⟩ := at_16 hC6 k hkl
              have HXB := HVK.out k hkl
              have HXS := Aside0.mk (show li.take (k + 1) = xs ++ [li.getD k 0] by rw [List.take_succ_eq_append_getElem hkl, ← HX.out, List.getD_eq_getElem?_getD, List.getElem?_eq_getElem hkl]; rfl)
              generalize li.getD k 0 = x at *
              obtain ⟨x0, x1⟩ := HXB
              have hcx : IntKind.i64.wrap x = x := by rw [IntKind.wrap_i64]; omega
              have hcn : IntKind.i64.wrap ((m : Int) + 1) = ((m + 1 : Nat) : Int) := by rw [IntKind.wrap_i64]; omega
              have hk0 : (0 : Int) ≤ (k : Int) := by omega
              have hkx : (k : Int) < (li.length : Int) := by omega
              clear hC6
              go_wp2_with (at_builtin; refine Kd.R_append (Kd.int .i64) (w0 := WR) WR.heap.size rfl (.tmp 32) (.tmp 41) 70 3 (.int .i64 0) 8 rfl Try.underlying70 infoI64 rfl (by decide) (by omega) _ xs x [.int .i64 x] (fun _ => True) (fun _ => False) rfl rfl rfl (fun _ h => h.elim) (fun _ _ => trivial) HR.out HBW.out hsz (by omega) ?_; intro v1 w1 h1 hb1 hg1 hat1; rw [← HXS.out] at h1; obtain ⟨A9, c9, rfl⟩ := Kd.R_slice h1; have hxl9 : (li.take (k + 1)).length ≤ k + 1 := (by rw [List.length_take]; omega); generalize hxn9 : li.take (k + 1) = xs9 at h1 hxl9 ⊢; have HX9 := Aside0.mk hxn9.symm; clear hxn9; have HR1 := Aside0.mk h1; have HB1 := Aside0.mk hb1; clear h1 hb1 hg1 hat1)
              go_roundg (li.length - (k + 1))
              case measure => have := hq2.out; omega
              case rel => exact ⟨k + 1, m + 1, c9, A9, xs9, by go_num, rfl, by go_num, by omega, by omega, by omega, hxl9, ⟨by rw [HM.out]; omega⟩, HX9, ⟨rfl⟩, HR1, ⟨below_step HB0.out HB1.out⟩, HB1⟩
            · have d4 : decide ((k : Int) < 100) = false := decide_eq_false (by omega)
              clear hC6
              have HKM := Aside0.mk (show k = min li.length 100 by omega)
              have HXT := Aside0.mk (show xs = li.take 100 by
                rw [HX.out, HKM.out]
                rw [Nat.min_comm]
                exact (List.take_eq_take_min ..).symm)
              have hszw := HB.out.size
              have HSO := Aside0.mk (sorted25_any A7 c7 xs wr (C_own HR.out) (by omega) (by
                intro y hy
                obtain ⟨j, hj⟩ := List.mem_iff_getElem?.1 (by rw [HX.out] at hy; exact hy)
                have hj2 := (List.getElem?_eq_some_iff.1 hj).1
                rw [List.length_take] at hj2
                have h9 := HVK.out j (by omega)
                rw [List.getElem?_take_of_lt (by omega)] at hj
                rw [List.getD_eq_getElem?_getD, hj] at h9
                exact ⟨h9.1, Int.le_trans h9.2 (by decide)⟩))
              have HA2 := Aside0.mk (Kd.R_below HA.out HBW.out)
              have HS := Aside0.mk (show liT us (i + 1) = liT us i ++ [sortT xs] by rw [HLS.out, HXT.out])
              go_wp2_with (first
                | (go_at_call 68; refine HSO.out.mono ?_; rintro e w1 ⟨A10, c10, rfl, hr, hb⟩; have HV1 := Aside0.mk hr; have HA1 := Aside0.mk (Kd.R_below HA2.out hb); have HB1 := Aside0.mk (below_step HB.out hb); have hsz1 := HB1.out.size; have hsb := hb.size; clear hr hb)
                | (at_builtin; refine Kd.R_append kLL (w0 := w) w.heap.size rfl (.tmp 45) (.tmp 48) 64 70 (.slice none 0 0) 24 rfl Try.underlying64 infoLI rfl (by decide) (by omega) _ (liT us i) (sortT xs) [.slice A10 (sortT xs).length c10] (fun _ => True) (fun q => wr.heap.size ≤ q) rfl rfl ⟨_, rfl, Kd.R_lower (R_reok64 HV1.out (fun q hq => Kd.R_base HV1.out q hq)) HB.out.size⟩ (fun q hq => ⟨trivial, fun e => by have := Kd.R_lt HA2.out q e.symm; omega⟩) (fun _ _ => trivial) HA1.out HB1.out hsz1 (by rw [HLL.out]; omega) ?_; intro v1 w2 h1 hb1 hg1 hat1; rw [← HS.out] at h1; obtain ⟨A11, c11, rfl⟩ := Kd.R_slice h1; rw [HLL2.out] at h1 ⊢; have HA3 := Aside0.mk h1; have HB3 := Aside0.mk hb1; clear h1 hb1 hg1 hat1))
              go_roundg (us.length - (i + 1))
              case measure => have := hq.out; omega
              case rel => exact ⟨i + 1, m, c11, A11, rfl, rfl, by go_num, by omega, by omega, by omega, ⟨by have h1 := HCS.out; have h2 := HM.out; have h3 := HN.out; have h4 := HKM.out; omega⟩, ⟨rfl⟩, HA3, HB3⟩
          · have d3 : decide (k < li.length) = false := decide_eq_false hkl
            clear hC6
            have HKM := Aside0.mk (show k = min li.length 100 by omega)
            have HXT := Aside0.mk (show xs = li.take 100 by
              rw [HX.out, HKM.out]
              rw [Nat.min_comm]
              exact (List.take_eq_take_min ..).symm)
            have hszw := HB.out.size
            have HSO := Aside0.mk (sorted25_any A7 c7 xs wr (C_own HR.out) (by omega) (by
              intro y hy
              obtain ⟨j, hj⟩ := List.mem_iff_getElem?.1 (by rw [HX.out] at hy; exact hy)
              have hj2 := (List.getElem?_eq_some_iff.1 hj).1
              rw [List.length_take] at hj2
              have h9 := HVK.out j (by omega)
              rw [List.getElem?_take_of_lt (by omega)] at hj
              rw [List.getD_eq_getElem?_getD, hj] at h9
              exact ⟨h9.1, Int.le_trans h9.2 (by decide)⟩))
            have HA2 := Aside0.mk (Kd.R_below HA.out HBW.out)
            have HS := Aside0.mk (show liT us (i + 1) = liT us i ++ [sortT xs] by rw [HLS.out, HXT.out])
            go_wp2_with (first
              | (go_at_call 68; refine HSO.out.mono ?_; rintro e w1 ⟨A10, c10, rfl, hr, hb⟩; have HV1 := Aside0.mk hr; have HA1 := Aside0.mk (Kd.R_below HA2.out hb); have HB1 := Aside0.mk (below_step HB.out hb); have hsz1 := HB1.out.size; have hsb := hb.size; clear hr hb)
              | (at_builtin; refine Kd.R_append kLL (w0 := w) w.heap.size rfl (.tmp 45) (.tmp 48) 64 70 (.slice none 0 0) 24 rfl Try.underlying64 infoLI rfl (by decide) (by omega) _ (liT us i) (sortT xs) [.slice A10 (sortT xs).length c10] (fun _ => True) (fun q => wr.heap.size ≤ q) rfl rfl ⟨_, rfl, Kd.R_lower (R_reok64 HV1.out (fun q hq => Kd.R_base HV1.out q hq)) HB.out.size⟩ (fun q hq => ⟨trivial, fun e => by have := Kd.R_lt HA2.out q e.symm; omega⟩) (fun _ _ => trivial) HA1.out HB1.out hsz1 (by rw [HLL.out]; omega) ?_; intro v1 w2 h1 hb1 hg1 hat1; rw [← HS.out] at h1; obtain ⟨A11, c11, rfl⟩ := Kd.R_slice h1; rw [HLL2.out] at h1 ⊢; have HA3 := Aside0.mk h1; have HB3 := Aside0.mk hb1; clear h1 hb1 hg1 hat1))
            go_roundg (us.length - (i + 1))
            case measure => have := hq.out; omega
            case rel => exact ⟨i + 1, m, c11, A11, rfl, rfl, by go_num, by omega, by omega, by omega, ⟨by have h1 := HCS.out; have h2 := HM.out; have h3 := HN.out; have h4 := HKM.out; omega⟩, ⟨rfl⟩, HA3, HB3⟩
      · have d2 : decide ((i : Int) < 20) = false := decide_eq_false (by omega)
        have HIE := Aside0.mk (show min us.length 20 = i by omega)
        by_cases h3 : us.length ≤ 20
        · have d3 : decide ((us.length : Int) ≤ 20) = true := decide_eq_true (by omega)
          by_cases h4 : n ≤ 200
          · have d4 : decide ((n : Int) ≤ 200) = true := decide_eq_true (by omega)
            have HOK := Aside0.mk (show decide (us.length ≤ 20 ∧ cnT us i ≤ 200) = true from decide_eq_true ⟨h3, by rw [← HN.out]; exact h4⟩)
            go_wp2_with fail
            go_ret2
            exact ⟨A4, c4, by rw [HIE.out, HOK.out]; rfl, by rw [HIE.out]; exact HA.out, HB.out⟩
          · have d4 : decide ((n : Int) ≤ 200) = false := decide_eq_false (by omega)
            have HOK := Aside0.mk (show decide (us.length ≤ 20 ∧ cnT us i ≤ 200) = false from decide_eq_false (fun h => h4 (by rw [HN.out]; exact h.2)))
            go_wp2_with fail
            go_ret2
            exact ⟨A4, c4, by rw [HIE.out, HOK.out]; rfl, by rw [HIE.out]; exact HA.out, HB.out⟩
        · have d3 : decide ((us.length : Int) ≤ 20) = false := decide_eq_false (by omega)
          have HOK := Aside0.mk (show decide (us.length ≤ 20 ∧ cnT us i ≤ 200) = false from decide_eq_false (fun h => h3 h.1))
          go_wp2_with fail
          go_ret2
          exact ⟨A4, c4, by rw [HIE.out, HOK.out]; rfl, by rw [HIE.out]; exact HA.out, HB.out⟩
    · have d1 : decide (i < us.length) = false := decide_eq_false hlt
      have HIE := Aside0.mk (show min us.length 20 = i by omega)
      by_cases h3 : us.length ≤ 20
      · have d3 : decide ((us.length : Int) ≤ 20) = true := decide_eq_true (by omega)
        by_cases h4 : n ≤ 200
        · have d4 : decide ((n : Int) ≤ 200) = true := decide_eq_true (by omega)
          have HOK := Aside0.mk (show decide (us.length ≤ 20 ∧ cnT us i ≤ 200) = true from decide_eq_true ⟨h3, by rw [← HN.out]; exact h4⟩)
          go_wp2_with fail
          go_ret2
          exact ⟨A4, c4, by rw [HIE.out, HOK.out]; rfl, by rw [HIE.out]; exact HA.out, HB.out⟩
        · have d4 : decide ((n : Int) ≤ 200) = false := decide_eq_false (by omega)
          have HOK := Aside0.mk (show decide (us.length ≤ 20 ∧ cnT us i ≤ 200) = false from decide_eq_false (fun h => h4 (by rw [HN.out]; exact h.2)))
          go_wp2_with fail
          go_ret2
          exact ⟨A4, c4, by rw [HIE.out, HOK.out]; rfl, by rw [HIE.out]; exact HA.out, HB.out⟩
      · have d3 : decide ((us.length : Int) ≤ 20) = false := decide_eq_false (by omega)
        have HOK := Aside0.mk (show decide (us.length ≤ 20 ∧ cnT us i ≤ 200) = false from decide_eq_false (fun h => h3 h.1))
        go_wp2_with fail
        go_ret2
        exact ⟨A4, c4, by rw [HIE.out, HOK.out]; rfl, by rw [HIE.out]; exact HA.out, HB.out⟩
end Go.Proofs.Ytldiginkmmlojaa
