/- The walk of the law StampPlays: it answers true. -/
import Derived.Test.YtldiginkmmlojaaStD
import Derived.OpenShut
namespace Go.Proofs.Ytldiginkmmlojaa
set_option linter.unusedVariables false
open Go.RowKit Go.Proofs.YtldiginkmmlojaaW.PrintWords

theorem opens_t34 : Opens Try.prog 34 (Kd.slice 37 (Kd.int .u64)) (fun xs => ∀ x ∈ xs, (Lit.int .u64 x).wf = true) := opens_slice Try.underlying34 (by kernel_rfl) (opens_int Try.underlying37)
theorem opens_t41 : Opens Try.prog 41 (Kd.slice 9 Kd.string) (fun xs => ∀ x ∈ xs, x.size ≤ maxLen) := opens_slice Try.underlying41 (by kernel_rfl) (opens_string Try.underlying9)

/-- The greatest number that was used, behind some of a list. -/
def usedAll (u : Int) (l : List Int) : Int := l.foldl max u
theorem usedAll_snoc (u : Int) (l : List Int) (k : Nat) (h : k < l.length) : usedAll u (l.take (k + 1)) = max (usedAll u (l.take k)) (rd l (k : Int)) := by
  unfold usedAll
  rw [List.take_succ_eq_append_getElem h, List.foldl_append]
  simp [rd, List.getD_eq_getElem?_getD, h]
theorem usedAll_in (l : List Int) (hl : ∀ x ∈ l, 0 ≤ x ∧ x ≤ 18446744073709551615) : ∀ (u : Int), 0 ≤ u → u ≤ 18446744073709551615 → 0 ≤ usedAll u l ∧ usedAll u l ≤ 18446744073709551615 := by
  induction l with
  | nil => intro u h0 h1; exact ⟨h0, h1⟩
  | cons x t ih =>
    intro u h0 h1
    obtain ⟨a, b⟩ := hl x (List.mem_cons_self ..)
    exact ih (fun y hy => hl y (List.mem_cons_of_mem _ hy)) (max u x) (by omega) (by omega)

theorem record_some (g : Nat) (nx mo bo : Int) (re mn : Int) (A : Option Addr) (n c : Nat) (l : List ByteArray) (w : World) (N : Int) (hb : w.heap[g]? = some (.cells #[.int .u64 nx, .int .u64 mo, .int .u64 bo] 122 (0, 0))) (hN : nextV nx mo = N) (h : ¬N = 0) (hr : Kd.C Kd.string w A n l) (hn : n ≤ 1099511627776) : Calls Try.prog 25 #[.pointer (some ⟨g, 0, none⟩), .int .u64 re, .int .u64 mn, .slice A n c] w fun e w' => ∃ A' c', e = .returned (.tuple #[.agg #[.int .u64 N, .int .u64 re, .int .u64 mn, .int .u64 bo, .slice A' n c'], .int .i64 0]) ∧ n ≤ c' ∧ Kd.C Kd.string w' A' n l ∧ Below w.heap.size w w' := by
  subst hN
  exact record_any g nx mo bo re mn A n c l w hb h hr hn
theorem next_eq (g : Nat) (nx mo bo : Int) (w : World) (N : Int) (hb : w.heap[g]? = some (.cells #[.int .u64 nx, .int .u64 mo, .int .u64 bo] 122 (0, 0))) (hN : nextV nx mo = N) : Calls Try.prog 27 #[.pointer (some ⟨g, 0, none⟩)] w fun e w' => e = .returned (.int .u64 N) ∧ ∃ m, w' = w.drewN m := by
  subst hN
  exact next_any g nx mo bo w hb
theorem rnext_eq (g : Nat) (u mo bo : Int) (w : World) (N : Int) (hb : w.heap[g]? = some (.cells #[.int .u64 u, .int .u64 mo, .int .u64 bo] 53 (0, 0))) (h0 : 0 ≤ u) (h1 : u ≤ 18446744073709551615) (h2 : mo ≤ 18446744073709551615) (hN : nvU u mo = N) : Calls Try.prog 26 #[.pointer (some ⟨g, 0, none⟩)] w fun e w' => e = .returned (.int .u64 N) ∧ ∃ m, w' = w.drewN m := by
  subst hN
  exact rnext_any g u mo bo w hb h0 h1 h2

set_option maxHeartbeats 4000000 in
set_option maxRecDepth 100000 in
theorem plays_walk (nx mo bo : Int) (A3 : Option Addr) (c3 : Nat) (us : List Int) (A4 : Option Addr) (c4 : Nat) (l : List ByteArray) (w : World) (h0 : 0 ≤ nx) (h1 : nx ≤ 18446744073709551615) (m0 : 0 ≤ mo) (m1 : mo ≤ 18446744073709551615) (b0 : 0 ≤ bo) (b1 : bo ≤ 18446744073709551615)
    (hu : (Kd.int .u64).C w A3 us.length us) (hc3 : us.length ≤ c3) (hg : ∀ x ∈ us, (Lit.int .u64 x).wf = true) (hl : Kd.string.C w A4 l.length l) (hc4 : l.length ≤ c4) (_hg4 : ∀ x ∈ l, x.size ≤ maxLen) :
    Calls Try.prog 4 #[.int .u64 nx, .int .u64 mo, .int .u64 bo, .slice A3 us.length c3, .slice A4 l.length c4] w fun e w' => e = .returned (.bool true) ∧ Below w.heap.size w w' := by
  have hmu := Kd.C_max hu
  have hml := Kd.C_max hl
  have HU := Aside0.mk hu
  have HL := Aside0.mk hl
  have HG := Aside0.mk (fun x hx => bounds_u64 (hg x hx))
  clear hu hl hg _hg4
  obtain ⟨u0, hu0⟩ : ∃ u, u = (if nx = 0 then 0 else nx - 1) := ⟨_, rfl⟩
  have hX : some (Obj.cells #[.int .u64 (if nx < 1 then 1 else nx), .int .u64 mo, .int .u64 bo] 122 (0, 0)) = some (.cells #[.int .u64 (nxU u0), .int .u64 mo, .int .u64 bo] 122 (0, 0)) := by
    have : (if nx < 1 then 1 else nx) = nxU u0 := by
      unfold nxU
      split <;> split at hu0 <;> omega
    rw [this]
  have hu1 : 0 ≤ u0 := by split at hu0 <;> omega
  have hu2 : u0 ≤ 18446744073709551615 := by split at hu0 <;> omega
  have HX := Aside0.mk hX
  have HU0 := Aside0.mk hu0
  clear hX hu0
  by_cases g1 : 100 < us.length
  · go_enter Try.func4, Try.ntmps4
    go_wp2_with (first
      | (go_at_call 22; refine (new_any nx mo bo _).mono ?_; rintro e W ⟨rfl, hW⟩; have hs : W.heap[w.heap.size]? = some (.cells #[.int .u64 (nxU u0), .int .u64 mo, .int .u64 bo] 122 (0, 0)) := (by rw [hW]; exact (blk_new _ _).trans HX.out); have hb : Below w.heap.size w W := (by rw [hW]; exact below_alloc (Below.refl _ _) _); have hsz : W.heap.size = w.heap.size + 1 := (by rw [hW]; simp); have HS := Aside0.mk hs; have HB := Aside0.mk hb; have HSZ := Aside0.mk hsz; clear hW hs hb hsz)
      | (go_at_call 23; refine (rnew_any nx mo bo _ h0 h1).mono ?_; rintro e W ⟨rfl, _, hb⟩; have hbn := below_step HB.out hb; clear HB; have HB := Aside0.mk hbn; clear hb hbn)
      | (go_at_call 24; refine (awake21_any _).mono ?_; rintro e W9 ⟨rfl, hb⟩; have hbn := below_step HB.out hb; clear HB; have HB := Aside0.mk hbn; clear hb hbn))
    go_ret
    exact ⟨rfl, HB.out⟩
  · by_cases g2 : 100 < l.length
    · go_enter Try.func4, Try.ntmps4
      go_wp2_with (first
        | (go_at_call 22; refine (new_any nx mo bo _).mono ?_; rintro e W ⟨rfl, hW⟩; have hs : W.heap[w.heap.size]? = some (.cells #[.int .u64 (nxU u0), .int .u64 mo, .int .u64 bo] 122 (0, 0)) := (by rw [hW]; exact (blk_new _ _).trans HX.out); have hb : Below w.heap.size w W := (by rw [hW]; exact below_alloc (Below.refl _ _) _); have hsz : W.heap.size = w.heap.size + 1 := (by rw [hW]; simp); have HS := Aside0.mk hs; have HB := Aside0.mk hb; have HSZ := Aside0.mk hsz; clear hW hs hb hsz)
        | (go_at_call 23; refine (rnew_any nx mo bo _ h0 h1).mono ?_; rintro e W ⟨rfl, _, hb⟩; have hbn := below_step HB.out hb; clear HB; have HB := Aside0.mk hbn; clear hb hbn)
        | (go_at_call 24; refine (awake21_any _).mono ?_; rintro e W9 ⟨rfl, hb⟩; have hbn := below_step HB.out hb; clear HB; have HB := Aside0.mk hbn; clear hb hbn))
      go_ret
      exact ⟨rfl, HB.out⟩
    · obtain ⟨g, hgE⟩ : ∃ g, g = w.heap.size := ⟨_, rfl⟩
      go_enter Try.func4, Try.ntmps4
      go_wp2_with (first
        | (go_at_call 22; refine (new_any nx mo bo _).mono ?_; rintro e W ⟨rfl, hW⟩; have hs : W.heap[w.heap.size]? = some (.cells #[.int .u64 (nxU u0), .int .u64 mo, .int .u64 bo] 122 (0, 0)) := (by rw [hW]; exact (blk_new _ _).trans HX.out); have hb : Below w.heap.size w W := (by rw [hW]; exact below_alloc (Below.refl _ _) _); have hsz : W.heap.size = w.heap.size + 1 := (by rw [hW]; simp); have HS := Aside0.mk hs; have HB := Aside0.mk hb; have HSZ := Aside0.mk hsz; clear hW hs hb hsz)
        | (go_at_call 23; refine (rnew_any nx mo bo _ h0 h1).mono ?_; rintro e W2 ⟨rfl, hr, hb⟩; rw [← HU0.out] at hr; have hbn := below_step HB.out hb; have hsn := blk_below HS.out hb; have hh : w.heap.size < W.heap.size := blk_lt HS.out; clear HB HS; have HB := Aside0.mk hbn; have HS := Aside0.mk hsn; have HR := Aside0.mk hr; clear hb hbn hsn hr))
      obtain ⟨h, hhE⟩ : ∃ h, h = W.heap.size := ⟨_, rfl⟩
      rw [← hhE] at HR hh ⊢
      clear hhE
      go_loopg [13] (us.length + 1) (fun q v13 wr => ∃ i : Nat, v13 = .int .i64 (i : Int) ∧ i ≤ us.length + 1 ∧ Aside0 (q = us.length + 1 - i) ∧ Aside0 (wr.heap[w.heap.size]? = some (.cells #[.int .u64 (nxU (usedAll u0 (us.take i))), .int .u64 mo, .int .u64 bo] 122 (0, 0))) ∧ Aside0 (wr.heap[h]? = some (.cells #[.int .u64 (usedAll u0 (us.take i)), .int .u64 mo, .int .u64 bo] 53 (0, 0))) ∧ Aside0 (Below w.heap.size w wr))
      case atStart => exact ⟨0, rfl, Nat.zero_le _, ⟨rfl⟩, HS, HR, HB⟩
      case round =>
        clear HS HR HB
        obtain ⟨i, rfl, hi, hq, HS, HR, HB⟩ := hrel
        by_cases hlast : i ≤ us.length
        · obtain ⟨u, hu⟩ : ∃ u, u = usedAll u0 (us.take i) := ⟨_, rfl⟩
          have hub := usedAll_in (us.take i) (fun x hx => HG.out x (List.mem_of_mem_take hx)) u0 hu1 hu2
          rw [← hu] at hub HS HR
          obtain ⟨hub0, hub1⟩ := hub
          have HUE := Aside0.mk hu
          clear hu
          obtain ⟨N, hN⟩ : ∃ N, N = nvU u mo := ⟨_, rfl⟩
          have HNV := Aside0.mk ((nextV_u u mo hub0 hub1 m1).trans hN.symm)
          have HNR := Aside0.mk hN.symm
          clear hN
          by_cases hz : N = 0
          · subst hz
            by_cases hlt : i < us.length
            · skip
              obtain ⟨ad3, hA3, hx3⟩ := at_nat HU.out i hlt
              subst hA3
              have HX3 := Aside0.mk hx3
              obtain ⟨x, hxE⟩ : ∃ x, x = rd us (i : Int) := ⟨_, rfl⟩
              rw [← hxE] at HX3
              have hxb : 0 ≤ x ∧ x ≤ 18446744073709551615 := HG.out x (by rw [hxE]; simp [rd, List.getD_eq_getElem?_getD, hlt])
              have HXE := Aside0.mk hxE
              clear hx3 hxE
              go_wp2_with (first
                | (go_at_call 25; refine (record_none w.heap.size _ _ _ _ _ _ _ _ _ HS.out HNV.out).mono ?_; rintro e W1 ⟨rfl, hb⟩; skip; have hsn := blk_below HS.out hb; have hrn := blk_below HR.out hb; have hbn := below_step HB.out hb; clear HS HR HB; have HS := Aside0.mk hsn; have HR := Aside0.mk hrn; have HB := Aside0.mk hbn; clear hb hsn hrn hbn)
                | (go_at_call 26; refine (rnext_eq h u mo bo _ _ (blk_alloc HR.out _) hub0 hub1 m1 HNR.out).mono ?_; rintro e W2 ⟨rfl, hW⟩; obtain ⟨hnb, hb⟩ := new_drawn hW; obtain ⟨⟨k0, k1, k2, k3, k4⟩, _⟩ := cells5 hnb; have hsn := blk_below HS.out hb; have hrn := blk_below HR.out hb; have hbn := below_step HB.out hb; clear HS HR HB; have HS := Aside0.mk hsn; have HR := Aside0.mk hrn; have HB := Aside0.mk hbn; have HB2 := Aside0.mk hb; clear hb hsn hrn hbn hW hnb))
              have r0 := (blk_cell HR.out 0).trans (rfl : _ = some (Value.int .u64 u))
              go_quiet (first
                | (go_at_call 27; exact Calls.quiet_of (next_eq w.heap.size _ _ _ _ _ (blk_drewN HS.out _) HNV.out))
                | (go_at_call 28; exact Calls.quiet_of_same (last_u w.heap.size u mo bo _ (blk_drewN HS.out _) hub0 hub1))
                | (go_at_call 29; exact Calls.quiet_of_same (boot_any w.heap.size _ mo bo _ (blk_drewN HS.out _))))
              have hxw := pw_cell_below HB.out HX3.out
              go_wp2_with (first
                | (go_at_call 30; refine (texts_any A5 A4 l.length c5 c4 l _ (Kd.C_drewN (Kd.C_below HC5.out HB2.out) _) (Kd.C_drewN (Kd.C_below HL.out HB.out) _)).mono ?_; rintro e W3 ⟨rfl, m, rfl⟩)
                | (go_at_call 31; refine (used_at w.heap.size w.heap.size (nxU u) mo bo x _ (blk_drewN HS.out _) (Nat.le_refl _)).mono ?_; rintro e W4 ⟨rfl, hs, he, hb⟩; rw [usedV_u u x hub0 hub1 hxb.1 hxb.2] at hs; have hrn := (he h (by omega)).trans (blk_drewN HR.out _); have hbn := (pw_below_drewN HB.out _).trans hb; clear HS HR HB; have HS := Aside0.mk hs; have HR := Aside0.mk hrn; have HB := Aside0.mk hbn; have hxw2 := pw_cell_below HB.out HX3.out; clear hs he hb hrn hbn)
                | (go_at_call 32; refine (ruse_any w.heap.size h u mo bo x _ HR.out (by omega)).mono ?_; rintro e W5 ⟨rfl, hr, he, hb⟩; have hsn := (he w.heap.size (by omega)).trans HS.out; have hbn := HB.out.trans hb; clear HS HR HB; have HS := Aside0.mk hsn; have HR := Aside0.mk hr; have HB := Aside0.mk hbn; clear hr he hb hsn hbn))
              go_roundg (us.length + 1 - (i + 1))
              case measure => have := hq.out; omega
              case rel =>
                have e : usedAll u0 (us.take (i + 1)) = max u x := by rw [usedAll_snoc _ _ _ hlt, ← HUE.out, ← HXE.out]
                exact ⟨i + 1, by go_num, by omega, ⟨rfl⟩, ⟨by rw [e]; exact HS.out⟩, ⟨by rw [e]; exact HR.out⟩, HB⟩
            · skip
              go_wp2_with (first
                | (go_at_call 25; refine (record_none w.heap.size _ _ _ _ _ _ _ _ _ HS.out HNV.out).mono ?_; rintro e W1 ⟨rfl, hb⟩; skip; have hsn := blk_below HS.out hb; have hrn := blk_below HR.out hb; have hbn := below_step HB.out hb; clear HS HR HB; have HS := Aside0.mk hsn; have HR := Aside0.mk hrn; have HB := Aside0.mk hbn; clear hb hsn hrn hbn)
                | (go_at_call 26; refine (rnext_eq h u mo bo _ _ (blk_alloc HR.out _) hub0 hub1 m1 HNR.out).mono ?_; rintro e W2 ⟨rfl, hW⟩; obtain ⟨hnb, hb⟩ := new_drawn hW; obtain ⟨⟨k0, k1, k2, k3, k4⟩, _⟩ := cells5 hnb; have hsn := blk_below HS.out hb; have hrn := blk_below HR.out hb; have hbn := below_step HB.out hb; clear HS HR HB; have HS := Aside0.mk hsn; have HR := Aside0.mk hrn; have HB := Aside0.mk hbn; have HB2 := Aside0.mk hb; clear hb hsn hrn hbn hW hnb))
              have r0 := (blk_cell HR.out 0).trans (rfl : _ = some (Value.int .u64 u))
              go_quiet (first
                | (go_at_call 27; exact Calls.quiet_of (next_eq w.heap.size _ _ _ _ _ (blk_drewN HS.out _) HNV.out))
                | (go_at_call 28; exact Calls.quiet_of_same (last_u w.heap.size u mo bo _ (blk_drewN HS.out _) hub0 hub1))
                | (go_at_call 29; exact Calls.quiet_of_same (boot_any w.heap.size _ mo bo _ (blk_drewN HS.out _))))
              go_wp2_with (first
                | (go_at_call 30; refine (texts_any A5 A4 l.length c5 c4 l _ (Kd.C_drewN (Kd.C_below HC5.out HB2.out) _) (Kd.C_drewN (Kd.C_below HL.out HB.out) _)).mono ?_; rintro e W3 ⟨rfl, m, rfl⟩))
              go_roundg (us.length + 1 - (i + 1))
              case measure => have := hq.out; omega
              case rel =>
                have e : usedAll u0 (us.take (i + 1)) = u := by rw [HUE.out, List.take_of_length_le (by omega), List.take_of_length_le (by omega)]
                exact ⟨i + 1, by go_num, by omega, ⟨rfl⟩, ⟨by rw [e]; exact HS.out⟩, ⟨by rw [e]; exact HR.out⟩, ⟨pw_below_drewN HB.out _⟩⟩
          · have hd := decide_eq_false hz
            by_cases hlt : i < us.length
            · skip
              obtain ⟨ad3, hA3, hx3⟩ := at_nat HU.out i hlt
              subst hA3
              have HX3 := Aside0.mk hx3
              obtain ⟨x, hxE⟩ : ∃ x, x = rd us (i : Int) := ⟨_, rfl⟩
              rw [← hxE] at HX3
              have hxb : 0 ≤ x ∧ x ≤ 18446744073709551615 := HG.out x (by rw [hxE]; simp [rd, List.getD_eq_getElem?_getD, hlt])
              have HXE := Aside0.mk hxE
              clear hx3 hxE
              go_wp2_with (first
                | (go_at_call 25; refine (record_some w.heap.size _ _ _ _ _ _ _ _ l _ N HS.out HNV.out hz (Kd.C_below HL.out HB.out) (by omega)).mono ?_; rintro e W1 ⟨A5, c5, rfl, hc5, hl5, hb⟩; (have HC5 := Aside0.mk hl5; clear hl5); have hsn := blk_below HS.out hb; have hrn := blk_below HR.out hb; have hbn := below_step HB.out hb; clear HS HR HB; have HS := Aside0.mk hsn; have HR := Aside0.mk hrn; have HB := Aside0.mk hbn; clear hb hsn hrn hbn)
                | (go_at_call 26; refine (rnext_eq h u mo bo _ _ (blk_alloc HR.out _) hub0 hub1 m1 HNR.out).mono ?_; rintro e W2 ⟨rfl, hW⟩; obtain ⟨hnb, hb⟩ := new_drawn hW; obtain ⟨⟨k0, k1, k2, k3, k4⟩, _⟩ := cells5 hnb; have hsn := blk_below HS.out hb; have hrn := blk_below HR.out hb; have hbn := below_step HB.out hb; clear HS HR HB; have HS := Aside0.mk hsn; have HR := Aside0.mk hrn; have HB := Aside0.mk hbn; have HB2 := Aside0.mk hb; clear hb hsn hrn hbn hW hnb))
              have r0 := (blk_cell HR.out 0).trans (rfl : _ = some (Value.int .u64 u))
              go_quiet (first
                | (go_at_call 27; exact Calls.quiet_of (next_eq w.heap.size _ _ _ _ _ (blk_drewN HS.out _) HNV.out))
                | (go_at_call 28; exact Calls.quiet_of_same (last_u w.heap.size u mo bo _ (blk_drewN HS.out _) hub0 hub1))
                | (go_at_call 29; exact Calls.quiet_of_same (boot_any w.heap.size _ mo bo _ (blk_drewN HS.out _))))
              have hxw := pw_cell_below HB.out HX3.out
              go_wp2_with (first
                | (go_at_call 30; refine (texts_any A5 A4 l.length c5 c4 l _ (Kd.C_drewN (Kd.C_below HC5.out HB2.out) _) (Kd.C_drewN (Kd.C_below HL.out HB.out) _)).mono ?_; rintro e W3 ⟨rfl, m, rfl⟩)
                | (go_at_call 31; refine (used_at w.heap.size w.heap.size (nxU u) mo bo x _ (blk_drewN HS.out _) (Nat.le_refl _)).mono ?_; rintro e W4 ⟨rfl, hs, he, hb⟩; rw [usedV_u u x hub0 hub1 hxb.1 hxb.2] at hs; have hrn := (he h (by omega)).trans (blk_drewN HR.out _); have hbn := (pw_below_drewN HB.out _).trans hb; clear HS HR HB; have HS := Aside0.mk hs; have HR := Aside0.mk hrn; have HB := Aside0.mk hbn; have hxw2 := pw_cell_below HB.out HX3.out; clear hs he hb hrn hbn)
                | (go_at_call 32; refine (ruse_any w.heap.size h u mo bo x _ HR.out (by omega)).mono ?_; rintro e W5 ⟨rfl, hr, he, hb⟩; have hsn := (he w.heap.size (by omega)).trans HS.out; have hbn := HB.out.trans hb; clear HS HR HB; have HS := Aside0.mk hsn; have HR := Aside0.mk hr; have HB := Aside0.mk hbn; clear hr he hb hsn hbn))
              go_roundg (us.length + 1 - (i + 1))
              case measure => have := hq.out; omega
              case rel =>
                have e : usedAll u0 (us.take (i + 1)) = max u x := by rw [usedAll_snoc _ _ _ hlt, ← HUE.out, ← HXE.out]
                exact ⟨i + 1, by go_num, by omega, ⟨rfl⟩, ⟨by rw [e]; exact HS.out⟩, ⟨by rw [e]; exact HR.out⟩, HB⟩
            · skip
              go_wp2_with (first
                | (go_at_call 25; refine (record_some w.heap.size _ _ _ _ _ _ _ _ l _ N HS.out HNV.out hz (Kd.C_below HL.out HB.out) (by omega)).mono ?_; rintro e W1 ⟨A5, c5, rfl, hc5, hl5, hb⟩; (have HC5 := Aside0.mk hl5; clear hl5); have hsn := blk_below HS.out hb; have hrn := blk_below HR.out hb; have hbn := below_step HB.out hb; clear HS HR HB; have HS := Aside0.mk hsn; have HR := Aside0.mk hrn; have HB := Aside0.mk hbn; clear hb hsn hrn hbn)
                | (go_at_call 26; refine (rnext_eq h u mo bo _ _ (blk_alloc HR.out _) hub0 hub1 m1 HNR.out).mono ?_; rintro e W2 ⟨rfl, hW⟩; obtain ⟨hnb, hb⟩ := new_drawn hW; obtain ⟨⟨k0, k1, k2, k3, k4⟩, _⟩ := cells5 hnb; have hsn := blk_below HS.out hb; have hrn := blk_below HR.out hb; have hbn := below_step HB.out hb; clear HS HR HB; have HS := Aside0.mk hsn; have HR := Aside0.mk hrn; have HB := Aside0.mk hbn; have HB2 := Aside0.mk hb; clear hb hsn hrn hbn hW hnb))
              have r0 := (blk_cell HR.out 0).trans (rfl : _ = some (Value.int .u64 u))
              go_quiet (first
                | (go_at_call 27; exact Calls.quiet_of (next_eq w.heap.size _ _ _ _ _ (blk_drewN HS.out _) HNV.out))
                | (go_at_call 28; exact Calls.quiet_of_same (last_u w.heap.size u mo bo _ (blk_drewN HS.out _) hub0 hub1))
                | (go_at_call 29; exact Calls.quiet_of_same (boot_any w.heap.size _ mo bo _ (blk_drewN HS.out _))))
              go_wp2_with (first
                | (go_at_call 30; refine (texts_any A5 A4 l.length c5 c4 l _ (Kd.C_drewN (Kd.C_below HC5.out HB2.out) _) (Kd.C_drewN (Kd.C_below HL.out HB.out) _)).mono ?_; rintro e W3 ⟨rfl, m, rfl⟩))
              go_roundg (us.length + 1 - (i + 1))
              case measure => have := hq.out; omega
              case rel =>
                have e : usedAll u0 (us.take (i + 1)) = u := by rw [HUE.out, List.take_of_length_le (by omega), List.take_of_length_le (by omega)]
                exact ⟨i + 1, by go_num, by omega, ⟨rfl⟩, ⟨by rw [e]; exact HS.out⟩, ⟨by rw [e]; exact HR.out⟩, ⟨pw_below_drewN HB.out _⟩⟩
        · go_wp2_with (first | (go_at_call 24; refine (awake21_any _).mono ?_; rintro e W9 ⟨rfl, hb⟩; have hbn := below_step HB.out hb; clear HB; have HB := Aside0.mk hbn; clear hb hbn))
          go_ret
          exact ⟨rfl, HB.out⟩
end Go.Proofs.Ytldiginkmmlojaa
