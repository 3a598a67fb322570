/- Sorting numbers: the patterns that are broken. -/
import Derived.Test.YtldiginkmmlojaaSoG
import Derived.Lib.BitFns
import Derived.Lib.Strings
import Derived.Lib.Small
import Derived.Lib.Slices
import Derived.Lib.Walk
import Derived.Sort.LotD5
import Derived.Laws.Bits64
import Derived.Laws.Bits64b
namespace Go.Proofs.Ytldiginkmmlojaa
set_option linter.unusedVariables false
set_option linter.unusedSimpArgs false
open Go.RowKit Go.Proofs.YtldiginkmmlojaaW.PrintWords
open Go.Sort (swp ltInt bitsLen xorNextN xorNext breakStep breakPatterns)

set_option maxRecDepth 100000 in
set_option maxHeartbeats 4000000 in
theorem len64_any (x : Int) (w : World) (h0 : 0 ≤ x) (h1 : x ≤ 255) : Calls Try.prog 110 #[.int .u64 x] w fun e w' => e = .returned (.int .i64 (Lib.bitLen x.toNat)) ∧ w' = w := by
  go_enter Try.func110, Try.ntmps110
  go_wp2
  go_ret
  refine ⟨congrArg Ending.returned (congrArg (Value.int IntKind.i64) ?_), rfl⟩
  have l := Lib.bitLen_le8' x h0 h1
  rw [Lib.len8_of x h0 h1]
  simp only [wrap64]
  omega
theorem len_any (x : Int) (w : World) (h0 : 0 ≤ x) (h1 : x ≤ 255) : Calls Try.prog 97 #[.int .u64 x] w fun e w' => e = .returned (.int .i64 (Lib.bitLen x.toNat)) ∧ w' = w := by
  go_enter Try.func97, Try.ntmps97
  go_wp2_with (go_at_call 110; refine (len64_any x _ h0 h1).mono ?_; rintro e w' ⟨rfl, rfl⟩)
  go_ret
  exact ⟨rfl, rfl⟩
theorem bits_eq : ∀ x : Nat, x < 64 → Lib.bitLen x = bitsLen x ∧ bitsLen x ≤ 6 := by decide
theorem pow_any (h : Nat) (w : World) (hh : h < 64) : Calls Try.prog 121 #[.int .i64 (h : Int)] w fun e w' => e = .returned (.int .u64 ((1 <<< bitsLen h : Nat) : Int)) ∧ w' = w := by
  obtain ⟨e1, e2⟩ := bits_eq h hh
  obtain ⟨k, hk⟩ : ∃ k, k = bitsLen h := ⟨_, rfl⟩
  rw [← hk] at e1 e2 ⊢
  have HL := Aside0.mk (show ∀ W, Calls Try.prog 97 #[.int .u64 (h : Int)] W fun e w' => e = .returned (.int .i64 (k : Int)) ∧ w' = W from fun W => by
    have := len_any (h : Int) W (by omega) (by omega)
    rwa [Int.toNat_natCast, e1] at this)
  have hwh : IntKind.u64.wrap (h : Int) = (h : Int) := by rw [IntKind.wrap_u64]; omega
  clear hk e1
  go_enter Try.func121, Try.ntmps121
  go_wp2_with (go_at_call 97; refine (HL.out _).mono ?_; rintro e w' ⟨rfl, rfl⟩)
  go_ret
  exact ⟨congrArg Ending.returned (congrArg (Value.int IntKind.u64) ((by decide : ∀ k : Nat, k ≤ 6 → IntKind.u64.wrap ((2 : Int) ^ k) = ((1 <<< k : Nat) : Int)) k e2)), rfl⟩
theorem DR.other {W W' : World} {base g n c s : Nat} {d : Array Int} (h : DR W base g n c d) (hg : g ≠ s) (hs : ∀ q, q ≠ s → W'.heap[q]? = W.heap[q]?) : DR W' base g n c d := by
  have h1 : Kd.R (Kd.int .u64) 37 W base (fun k => k ≠ s) (.slice (some ⟨g, 0, none⟩) n c) d.toList := ⟨fun k hk => by simp [Value.ownBlock] at hk; omega, h.row.2⟩
  have h2 := Kd.R_step h1 (w1 := W') (fun k ho _ => hs k ho)
  exact ⟨⟨fun _ _ => trivial, h2.2⟩, h.sz⟩
structure XC (w W : World) (s X : Nat) : Prop where
  c : W.cell? ⟨s, 0, none⟩ = some (.int .u64 (X : Int))
  f : W.frozen? ⟨s, 0, none⟩ = false
  o : ∀ q, q ≠ s → W.heap[q]? = w.heap[q]?
  b : Below s w W
theorem XC.set {w W : World} {s X : Nat} (h : XC w W s X) (Y : Nat) : XC w (W.setCell ⟨s, 0, none⟩ (.int .u64 (Y : Int))).drew s Y :=
  ⟨World.cell?_setCell_same _ _ _ h.c, (World.frozen?_setCell _ _ _ _).trans h.f, fun q hq => (Below.heap_setCell W ⟨s, 0, none⟩ _ q hq).trans (h.o q hq), below_drew1 (h.b.setCell (p := ⟨s, 0, none⟩) (Nat.le_refl _) _)⟩
set_option maxHeartbeats 1000000 in
set_option maxRecDepth 100000 in
theorem xnext_any (s X : Nat) (hX : X < 18446744073709551616) (w : World) (hc : w.cell? ⟨s, 0, none⟩ = some (.int .u64 (X : Int))) (hf : w.frozen? ⟨s, 0, none⟩ = false) :
    Calls Try.prog 122 #[.pointer (some ⟨s, 0, none⟩)] w fun e w' => e = .returned (.int .u64 (xorNextN X : Nat)) ∧ w'.cell? ⟨s, 0, none⟩ = some (.int .u64 (xorNextN X : Nat)) ∧ w'.frozen? ⟨s, 0, none⟩ = false ∧ (∀ q, q ≠ s → w'.heap[q]? = w.heap[q]?) ∧ Below s w w' := by
  obtain ⟨A, hA⟩ : ∃ A : Nat, A = X ^^^ (X * 8192 % 18446744073709551616) := ⟨_, rfl⟩
  obtain ⟨B, hB⟩ : ∃ B : Nat, B = A ^^^ (A / 128) := ⟨_, rfl⟩
  obtain ⟨C, hC⟩ : ∃ C : Nat, C = B ^^^ (B * 131072 % 18446744073709551616) := ⟨_, rfl⟩
  have lA : A < 18446744073709551616 := by rw [hA]; exact Nat.xor_lt_two_pow (n := 64) (by omega) (by omega)
  have lB : B < 18446744073709551616 := by rw [hB]; exact Nat.xor_lt_two_pow (n := 64) (by omega) (by omega)
  have e1 : bits .xor .u64 (X : Int) (IntKind.u64.wrap ((X : Int) * 8192)) = (A : Int) := by
    rw [IntKind.wrap_u64, show ((X : Int) * 8192 % 18446744073709551616) = ((X * 8192 % 18446744073709551616 : Nat) : Int) by omega, bits_xor_u64_nat _ _ hX (by omega), hA]
  have e2 : bits .xor .u64 (A : Int) ((A : Int) / 128) = (B : Int) := by
    rw [show ((A : Int) / 128) = ((A / 128 : Nat) : Int) by omega, bits_xor_u64_nat _ _ lA (by omega), hB]
  have e3 : bits .xor .u64 (B : Int) (IntKind.u64.wrap ((B : Int) * 131072)) = (C : Int) := by
    rw [IntKind.wrap_u64, show ((B : Int) * 131072 % 18446744073709551616) = ((B * 131072 % 18446744073709551616 : Nat) : Int) by omega, bits_xor_u64_nat _ _ lB (by omega), hC]
  have hv : xorNextN X = C := by unfold xorNextN; simp only []; rw [← hA, ← hB, ← hC]
  rw [hv]
  clear hA hB hC hv
  have H0 := Aside0.mk (XC.mk hc hf (fun _ _ => rfl) (Below.refl s w))
  go_enter Try.func122, Try.ntmps122
  go_wp2
  go_region
  have H1 := Aside0.mk (H0.out.set A)
  generalize World.drew (World.setCell w ⟨s, 0, none⟩ (.int .u64 (A : Int))) = w1 at H1 ⊢
  have c1 := H1.out.c
  have f1 := H1.out.f
  go_wp2
  go_region
  have H2 := Aside0.mk (H1.out.set B)
  generalize World.drew (World.setCell w1 ⟨s, 0, none⟩ (.int .u64 (B : Int))) = w2 at H2 ⊢
  have c2 := H2.out.c
  have f2 := H2.out.f
  go_wp2
  go_region
  have H3 := Aside0.mk (H2.out.set C)
  generalize World.drew (World.setCell w2 ⟨s, 0, none⟩ (.int .u64 (C : Int))) = w3 at H3 ⊢
  have c3 := H3.out.c
  have f3 := H3.out.f
  go_wp2
  go_ret
  exact ⟨rfl, H3.out.c, H3.out.f, H3.out.o, H3.out.b⟩
theorem keep2 {W : World} {s g : Nat} {u : Value} (hne : g ≠ s) (hc : W.cell? ⟨s, 0, none⟩ = some u) (hf : W.frozen? ⟨s, 0, none⟩ = false) (i j : Nat) (x y : Value) : (((W.setCell ⟨g, i, none⟩ x).setCell ⟨g, j, none⟩ y).drew).cell? ⟨s, 0, none⟩ = some u ∧ (((W.setCell ⟨g, i, none⟩ x).setCell ⟨g, j, none⟩ y).drew).frozen? ⟨s, 0, none⟩ = false := by
  refine ⟨?_, ?_⟩
  · show ((W.setCell ⟨g, i, none⟩ x).setCell ⟨g, j, none⟩ y).cell? ⟨s, 0, none⟩ = some u
    rw [World.cell?_setCell_far _ _ _ _ (by show g ≠ s; exact hne), World.cell?_setCell_far _ _ _ _ (by show g ≠ s; exact hne), hc]
  · show ((W.setCell ⟨g, i, none⟩ x).setCell ⟨g, j, none⟩ y).frozen? ⟨s, 0, none⟩ = false
    rw [World.frozen?_setCell, World.frozen?_setCell, hf]
/-- The rounds of breaking. -/
def bS (a h m i0 : Nat) (d : Array Int) : Nat → UInt64 × Array Int
  | 0 => (UInt64.ofNat h, d)
  | k + 1 => breakStep a h m (bS a h m i0 d k) (i0 + k)
theorem bS_end (a b : Nat) (d : Array Int) (h8 : 8 ≤ b - a) : breakPatterns d a b = (bS a (b - a) (1 <<< bitsLen (b - a)) (a + (b - a) / 4 * 2 - 1) d 3).2 := by
  unfold breakPatterns
  rw [if_pos h8]
  rfl
theorem bS_fst (a h m i0 : Nat) (d : Array Int) (k : Nat) : (bS a h m i0 d (k + 1)).1.toNat = xorNextN (bS a h m i0 d k).1.toNat := Sort.xorNext_toNat _
theorem pow_le : ∀ h : Nat, h < 64 → 0 < h → h < 1 <<< bitsLen h ∧ 1 <<< bitsLen h ≤ 2 * h := by decide
set_option maxRecDepth 100000 in
set_option maxHeartbeats 8000000 in
theorem break_any (base g n c a b : Nat) (d : Array Int) (w : World) (h : DR w base g n c d) (hbn : b ≤ n) (hn : n ≤ 60) (hab : a + 8 ≤ b) :
    Calls Try.prog 102 #[.slice (some ⟨g, 0, none⟩) n c, .int .i64 (a : Int), .int .i64 (b : Int)] w fun e w' => e = .returned (.tuple #[]) ∧ DR w' base g n c (breakPatterns d a b) ∧ Below base w w' := by
  have HD := Aside0.mk h
  have hglt := Kd.R_lt h.row g rfl
  have hgb := h.gb
  clear h
  obtain ⟨hh, hhe⟩ : ∃ hh, hh = b - a := ⟨_, rfl⟩
  obtain ⟨m, hm⟩ : ∃ m, m = 1 <<< bitsLen hh := ⟨_, rfl⟩
  obtain ⟨i0, hi0⟩ : ∃ i0, i0 = a + hh / 4 * 2 - 1 := ⟨_, rfl⟩
  obtain ⟨hp1, hp2⟩ := pow_le hh (by omega) (by omega)
  rw [← hm] at hp1 hp2
  have HEQ := Aside0.mk (show breakPatterns d a b = (bS a hh m i0 d 3).2 by rw [bS_end a b d (by omega), hi0, hm, hhe])
  have HPW := Aside0.mk (fun W => pow_any hh W (by omega))
  rw [← hm] at HPW
  have hwh : IntKind.i64.wrap ((b : Int) - (a : Int)) = (hh : Int) := by rw [IntKind.wrap_i64]; omega
  have hwu : IntKind.u64.wrap (hh : Int) = (hh : Int) := by rw [IntKind.wrap_u64]; omega
  have HI0 := Aside0.mk hi0
  have hh8 : 8 ≤ hh := by omega
  have hhn : a + hh ≤ n := by omega
  have hi0n : i0 + 3 ≤ n := by omega
  clear hhe hm hi0
  go_enter Try.func102, Try.ntmps102
  go_upto_region 4 with (go_at_call 121; refine (HPW.out _).mono ?_; rintro e w' ⟨rfl, rfl⟩)
  go_cut [9] (fun v9 wx => v9 = .int .i64 (i0 : Int) ∧ Aside0 (DR wx base g n c d) ∧ Aside0 (wx.cell? ⟨w.heap.size, 0, none⟩ = some (.int .u64 (hh : Int)) ∧ wx.frozen? ⟨w.heap.size, 0, none⟩ = false) ∧ Aside0 (Below base w wx))
  case first =>
    go_wp2_with fail
    go_meet
    exact ⟨congrArg (Value.int IntKind.i64) (by have := HI0.out; omega), ⟨HD.out.below (below_alloc (Below.refl _ _) _)⟩, ⟨(blk_cell (blk_new w _) 0).trans rfl, blk_frozen (blk_new w _) 0⟩, ⟨(below_alloc (Below.refl w.heap.size w) _).mono (by omega)⟩⟩
  case rest =>
    clear HD
    obtain ⟨rfl, HD, HS, HB⟩ := hcut
    obtain ⟨s, hs⟩ : ∃ s, s = w.heap.size := ⟨_, rfl⟩
    rw [← hs] at HS
    have hgs : g ≠ s := by omega
    have hsp : (Value.pointer (some ⟨w.heap.size, 0, none⟩)) = .pointer (some ⟨s, 0, none⟩) := by rw [hs]
    rw [hsp]
    have hbs : base ≤ s := by omega
    clear hs hsp hglt hgb
    go_wp2_with fail
    go_loopg [9] 3 (fun q v9 wr => ∃ k idx : Nat, v9 = .int .i64 (idx : Int) ∧ Aside0 (idx = i0 + k) ∧ k ≤ 3 ∧ idx ≤ n ∧ Aside0 (q = 3 - k) ∧ Aside0 (DR wr base g n c (bS a hh m i0 d k).2) ∧ Aside0 (wr.cell? ⟨s, 0, none⟩ = some (.int .u64 ((bS a hh m i0 d k).1.toNat : Int)) ∧ wr.frozen? ⟨s, 0, none⟩ = false) ∧ Aside0 (Below base w wr))
    case atStart => exact ⟨0, i0, rfl, ⟨rfl⟩, by omega, by omega, ⟨rfl⟩, HD, ⟨by rw [show (bS a hh m i0 d 0).1.toNat = hh from by show (UInt64.ofNat hh).toNat = hh; rw [UInt64.toNat_ofNat']; omega]; exact HS.out.1, HS.out.2⟩, HB⟩
    case round =>
      clear HD HS HB
      obtain ⟨k, idx, rfl, HIX, hk, hix, hq, HD, HS, HB⟩ := hrel
      by_cases hk3 : k < 3
      · have d5 : decide ((idx : Int) ≤ (a : Int) + (hh : Int) / 4 * 2 + 1) = true := decide_eq_true (by have := HIX.out; have := HI0.out; omega)
        have HD1 := Aside0.mk (show bS a hh m i0 d (k + 1) = breakStep a hh m (bS a hh m i0 d k) idx by rw [HIX.out]; rfl)
        generalize hst : bS a hh m i0 d k = st at *
        obtain ⟨X, hX⟩ : ∃ X, X = st.1.toNat := ⟨_, rfl⟩
        rw [← hX] at HS
        have hXl : X < 18446744073709551616 := by rw [hX]; exact st.1.toNat_lt
        obtain ⟨Y, hY⟩ : ∃ Y, Y = xorNextN X := ⟨_, rfl⟩
        have hYl : Y < 18446744073709551616 := by rw [hY]; exact Sort.xorNextN_lt X hXl
        have HNX := Aside0.mk (xnext_any s X hXl wr HS.out.1 HS.out.2)
        rw [← hY] at HNX
        obtain ⟨m1, hm1⟩ : ∃ m1, m1 = m - 1 := ⟨_, rfl⟩
        have hwm : IntKind.u64.wrap ((m : Int) - 1) = (m1 : Int) := by rw [IntKind.wrap_u64]; omega
        obtain ⟨o1, ho1⟩ : ∃ o1, o1 = Y &&& m1 := ⟨_, rfl⟩
        have hand : bits .and .u64 (Y : Int) (m1 : Int) = (o1 : Int) := by rw [bits_and_u64_nat _ _ hYl (by omega), ho1]
        have ho1m : o1 ≤ m1 := by rw [ho1]; exact Nat.and_le_right
        have ho1b : o1 ≤ 2 * hh := by omega
        have HO1 := Aside0.mk (show o1 = (Sort.xorNext st.1).toNat &&& (m - 1) by rw [ho1, hm1, Sort.xorNext_toNat, ← hX, hY])
        have HY := Aside0.mk (show (Sort.xorNext st.1).toNat = Y by rw [Sort.xorNext_toNat, ← hX, hY])
        have hin : idx < n := by have := HIX.out; omega
        have ho1h : o1 < 2 * hh := by omega
        clear hst hX hY hm1 ho1 ho1m
        go_upto_if 43 with (go_at_call 122; refine HNX.out.mono ?_; rintro e w1 ⟨rfl, hc1, hf1, ho, hb⟩; have HD2 := Aside0.mk (HD.out.other hgs ho); have HS2 := Aside0.mk (And.intro hc1 hf1); have HB2 := Aside0.mk (HB.out.trans (hb.mono hbs)); clear hc1 hf1 ho hb)
        go_cut [10] (fun v10 wx => ∃ o : Nat, v10 = .int .i64 (o : Int) ∧ Aside0 (o = if o1 ≥ hh then o1 - hh else o1) ∧ o < hh ∧ wx = w1)
        case first =>
          by_cases hoh : hh ≤ o1
          · have dq : decide (hh ≤ o1) = true := decide_eq_true hoh
            go_wp2_with fail
            go_meet
            exact ⟨o1 - hh, by go_num, ⟨by rw [if_pos hoh]⟩, by omega, rfl⟩
          · have dq : decide (hh ≤ o1) = false := decide_eq_false hoh
            go_wp2_with fail
            go_meet
            exact ⟨o1, rfl, ⟨by rw [if_neg hoh]⟩, by omega, rfl⟩
        case rest =>
          obtain ⟨o, rfl, HO, hoh, rfl⟩ := hcut
          obtain ⟨ao, hao⟩ : ∃ ao, ao = a + o := ⟨_, rfl⟩
          have hwa : IntKind.i64.wrap ((a : Int) + (o : Int)) = (ao : Int) := by rw [IntKind.wrap_i64]; omega
          have haon : ao < n := by omega
          have HST := Aside0.mk (show bS a hh m i0 d (k + 1) = (Sort.xorNext st.1, swp st.2 idx ao) by
            rw [HD1.out]
            unfold breakStep
            simp only [← HO1.out, ← HO.out, ← hao])
          clear HD HS HB HD1 HO HO1 hao
          have HD := HD2
          have HB := HB2
          clear HD2 HB2
          obtain ⟨d1, hd1⟩ : ∃ d1, d1 = st.2 := ⟨_, rfl⟩
          rw [← hd1] at HD HST
          clear hd1
          have hin : idx < n := by omega
          have hjn : ao < n := by omega
          obtain ⟨r1, f1⟩ := HD.out.at hin
          obtain ⟨r2, f2⟩ := HD.out.at hjn
          have hi0 : (0 : Int) ≤ (idx : Int) := by omega
          have hi1 : (idx : Int) < (n : Int) := by omega
          have hj0 : (0 : Int) ≤ (ao : Int) := by omega
          have hj1 : (ao : Int) < (n : Int) := by omega
          obtain ⟨x, hx⟩ : ∃ x, x = d1[idx]! := ⟨_, rfl⟩
          obtain ⟨y, hy⟩ : ∃ y, y = d1[ao]! := ⟨_, rfl⟩
          rw [← hx] at r1
          rw [← hy] at r2
          obtain ⟨r3, f3⟩ := (HD.out.put idx y).at hjn
          have HXY := Aside0.mk (And.intro hx hy)
          clear hx hy
          go_upto_region 10 with (fail)
          go_wp2_with fail
          go_region
          have HDn := Aside0.mk (HD.out.sw3 idx ao HXY.out)
          have HBn := Aside0.mk (HD.out.low3 HB.out idx ao x y)
          have HSn := Aside0.mk (keep2 hgs HS2.out.1 HS2.out.2 idx ao (.int .u64 y) (.int .u64 x))
          generalize World.drew (World.setCell (World.setCell wc ⟨g, idx, none⟩ (.int .u64 y)) ⟨g, ao, none⟩ (.int .u64 x)) = wn at HDn HBn HSn ⊢
          go_wp2_with fail
          go_roundg (3 - (k + 1))
          case measure => have := hq.out; omega
          case rel => exact ⟨k + 1, idx + 1, by go_num, ⟨by have := HIX.out; omega⟩, by omega, by omega, ⟨rfl⟩, ⟨by rw [HST.out]; exact HDn.out⟩, ⟨by rw [HST.out]; show wn.cell? _ = some (.int .u64 ((Sort.xorNext st.1).toNat : Int)) ∧ _; rw [HY.out]; exact HSn.out⟩, HBn⟩
      · obtain rfl : k = 3 := by omega
        have d5 : decide ((idx : Int) ≤ (a : Int) + (hh : Int) / 4 * 2 + 1) = false := decide_eq_false (by have := HIX.out; have := HI0.out; omega)
        go_wp2_with fail
        first | go_end0 | ((try simp only [Exit.inBlock, Exit.then]); refine bodyPost_ret (results_none rfl _ _ _) rfl ?_)
        exact ⟨rfl, by rw [HEQ.out]; exact HD.out, HB.out⟩
end Go.Proofs.Ytldiginkmmlojaa
