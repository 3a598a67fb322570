/- Sorting numbers: the pivot. -/
import Derived.Test.YtldiginkmmlojaaSoH
import Derived.Sort.LotD4
namespace Go.Proofs.Ytldiginkmmlojaa
set_option linter.unusedVariables false
set_option linter.unusedSimpArgs false
open Go.RowKit Go.Proofs.YtldiginkmmlojaaW.PrintWords
open Go.Sort (swp ltInt order2 median choosePivot Hint)

/-- The counter of the pivot. -/
structure PC (w W : World) (s : Nat) (k : Nat) : Prop where
  c : W.cell? ⟨s, 0, none⟩ = some (.int .i64 (k : Int))
  f : W.frozen? ⟨s, 0, none⟩ = false
  o : ∀ q, q ≠ s → W.heap[q]? = w.heap[q]?
  b : Below s w W
theorem PC.set {w W : World} {s X : Nat} (h : PC w W s X) (Y : Nat) : PC w (W.setCell ⟨s, 0, none⟩ (.int .i64 (Y : Int))) s Y :=
  ⟨World.cell?_setCell_same _ _ _ h.c, (World.frozen?_setCell _ _ _ _).trans h.f, fun q hq => (Below.heap_setCell W ⟨s, 0, none⟩ _ q hq).trans (h.o q hq), h.b.setCell (p := ⟨s, 0, none⟩) (Nat.le_refl _) _⟩
theorem PC.drewN {w W : World} {s X : Nat} (h : PC w W s X) (q : Nat) : PC w (W.drewN q) s X := ⟨h.c, h.f, h.o, pw_below_drewN h.b q⟩
theorem PC.trans {w W V : World} {s X Y : Nat} (h : PC w W s X) (k : PC W V s Y) : PC w V s Y := ⟨k.c, k.f, fun q hq => (k.o q hq).trans (h.o q hq), h.b.trans k.b⟩
set_option maxHeartbeats 4000000 in
set_option maxRecDepth 100000 in
theorem order2_any (base g n c a b s k : Nat) (d : Array Int) (w : World) (h : DR w base g n c d) (hp : PC w w s k) (ha : a < n) (hb : b < n) (hk : k ≤ 100) (hn : n ≤ 1000) :
    Calls Try.prog 130 #[.slice (some ⟨g, 0, none⟩) n c, .int .i64 (a : Int), .int .i64 (b : Int), .pointer (some ⟨s, 0, none⟩)] w fun e w' => e = .returned (.tuple #[.int .i64 ((order2 ltInt d a b k).1 : Int), .int .i64 ((order2 ltInt d a b k).2.1 : Int)]) ∧ PC w w' s (order2 ltInt d a b k).2.2 := by
  have HP := Aside0.mk hp
  obtain ⟨r1, f1⟩ := h.at ha
  obtain ⟨r2, f2⟩ := h.at hb
  have ha0 : (0 : Int) ≤ (a : Int) := by omega
  have ha1 : (a : Int) < (n : Int) := by omega
  have hb0 : (0 : Int) ≤ (b : Int) := by omega
  have hb1 : (b : Int) < (n : Int) := by omega
  clear hp h
  have HLS := Aside0.mk (fun W => less_any d[b]! d[a]! W)
  cases hl : ltInt d[b]! d[a]! with
  | true =>
    rw [hl] at HLS
    have HE := Aside0.mk (show order2 ltInt d a b k = (b, a, k + 1) by unfold order2; rw [if_pos hl])
    go_enter Try.func130, Try.ntmps130
    go_wp2_with fail
    go_quiet (first | (go_at_call 106; exact Calls.quiet_of_same (HLS.out _)))
    generalize hWq : World.drewN _ _ = wq
    have HPq := Aside0.mk (show PC w wq s k by rw [← hWq]; exact HP.out.drewN _)
    have c0 := HPq.out.c
    have f0 := HPq.out.f
    clear hWq r1 r2 f1 f2
    go_wp2_with fail
    go_ret2
    rw [HE.out]
    exact ⟨rfl, HPq.out.set (k + 1)⟩
  | false =>
    rw [hl] at HLS
    have HE := Aside0.mk (show order2 ltInt d a b k = (a, b, k) by unfold order2; rw [if_neg (by rw [hl]; exact Bool.false_ne_true)])
    go_enter Try.func130, Try.ntmps130
    go_wp2_with fail
    go_quiet (first | (go_at_call 106; exact Calls.quiet_of_same (HLS.out _)))
    go_wp2_with fail
    go_ret2
    rw [HE.out]
    exact ⟨rfl, HP.out.drewN _⟩
theorem order2_rng (d : Array Int) {a b n : Nat} (k : Nat) (ha : a < n) (hb : b < n) : (order2 ltInt d a b k).1 < n ∧ (order2 ltInt d a b k).2.1 < n ∧ (order2 ltInt d a b k).2.2 ≤ k + 1 := by
  unfold order2
  split
  · exact ⟨hb, ha, Nat.le_refl _⟩
  · exact ⟨ha, hb, Nat.le_succ _⟩
theorem PC.self {w W : World} {s k : Nat} (h : PC w W s k) : PC W W s k := ⟨h.c, h.f, fun _ _ => rfl, Below.refl _ _⟩
set_option maxHeartbeats 4000000 in
set_option maxRecDepth 100000 in
theorem median_any (base g n c a b e s k : Nat) (d : Array Int) (w : World) (h : DR w base g n c d) (hgs : g ≠ s) (hp : PC w w s k) (ha : a < n) (hb : b < n) (he : e < n) (hk : k ≤ 90) (hn : n ≤ 1000) :
    Calls Try.prog 124 #[.slice (some ⟨g, 0, none⟩) n c, .int .i64 (a : Int), .int .i64 (b : Int), .int .i64 (e : Int), .pointer (some ⟨s, 0, none⟩)] w fun r w' => r = .returned (.int .i64 ((median ltInt d a b e k).1 : Int)) ∧ PC w w' s (median ltInt d a b e k).2 := by
  have HD := Aside0.mk h
  have HP := Aside0.mk hp
  obtain ⟨p1, q1, m1⟩ := order2_rng d k ha hb
  have HE : (median ltInt d a b e k) = ((order2 ltInt d (order2 ltInt d a b k).1 (order2 ltInt d (order2 ltInt d a b k).2.1 e (order2 ltInt d a b k).2.2).1 (order2 ltInt d (order2 ltInt d a b k).2.1 e (order2 ltInt d a b k).2.2).2.2).2.1, (order2 ltInt d (order2 ltInt d a b k).1 (order2 ltInt d (order2 ltInt d a b k).2.1 e (order2 ltInt d a b k).2.2).1 (order2 ltInt d (order2 ltInt d a b k).2.1 e (order2 ltInt d a b k).2.2).2.2).2.2) := rfl
  have H1 := Aside0.mk (order2_any base g n c a b s k d w HD.out HP.out ha hb (by omega) hn)
  rw [HE]
  clear HE h hp
  generalize order2 ltInt d a b k = R1 at *
  obtain ⟨a1, b1, k1⟩ := R1
  simp only at p1 q1 m1
  obtain ⟨p2, q2, m2⟩ := order2_rng d k1 q1 he
  have H2 := Aside0.mk (fun W (hD : DR W base g n c d) (hP : PC W W s k1) => order2_any base g n c b1 e s k1 d W hD hP q1 he (by omega) hn)
  simp only
  generalize order2 ltInt d b1 e k1 = R2 at *
  obtain ⟨b2, e2, k2⟩ := R2
  simp only at p2 q2 m2
  have H3 := Aside0.mk (fun W (hD : DR W base g n c d) (hP : PC W W s k2) => order2_any base g n c a1 b2 s k2 d W hD hP p1 p2 (by omega) hn)
  simp only
  generalize order2 ltInt d a1 b2 k2 = R3 at *
  obtain ⟨a3, b3, k3⟩ := R3
  simp only at H1 H2 H3 ⊢
  go_enter Try.func124, Try.ntmps124
  go_wp2_with (first
    | (go_at_call 130; refine H1.out.mono ?_; rintro e0 w1 ⟨rfl, hw⟩; have HP1 := Aside0.mk hw; have HD1 := Aside0.mk (HD.out.other hgs hw.o); clear hw H1)
    | (go_at_call 130; refine (H2.out _ HD1.out HP1.out.self).mono ?_; rintro e0 w2 ⟨rfl, hw⟩; have HP2 := Aside0.mk (HP1.out.trans hw); have HD2 := Aside0.mk (HD1.out.other hgs hw.o); clear hw H2)
    | (go_at_call 130; refine (H3.out _ HD2.out HP2.out.self).mono ?_; rintro e0 w3 ⟨rfl, hw⟩; have HP3 := Aside0.mk (HP2.out.trans hw); clear hw H3))
  go_ret
  exact ⟨rfl, HP3.out⟩
theorem piv_eq (d : Array Int) (a b : Nat) (h8 : 12 < b - a) (h50 : b - a < 50) :
    choosePivot ltInt d a b = ((median ltInt d (a + (b - a) / 4 * 1) (a + (b - a) / 4 * 2) (a + (b - a) / 4 * 3) 0).1, if (median ltInt d (a + (b - a) / 4 * 1) (a + (b - a) / 4 * 2) (a + (b - a) / 4 * 3) 0).2 = 0 then .increasing else .unknown) := by
  have hc := Sort.median_count (lt := ltInt) d (a + (b - a) / 4 * 1) (a + (b - a) / 4 * 2) (a + (b - a) / 4 * 3) 0
  have h1 : b - a ≥ 8 := by omega
  have h2 : ¬ b - a ≥ 50 := by omega
  unfold choosePivot
  simp only [if_pos h1, if_neg h2]
  congr 1
  split
  · rfl
  · rw [if_neg (by omega)]
set_option maxHeartbeats 4000000 in
set_option maxRecDepth 100000 in
theorem pivot_any (base g n c a b : Nat) (d : Array Int) (w : World) (h : DR w base g n c d) (hbn : b ≤ n) (hn : n ≤ 1000) (h12 : 12 < b - a) (h50 : b - a < 50) :
    Calls Try.prog 103 #[.slice (some ⟨g, 0, none⟩) n c, .int .i64 (a : Int), .int .i64 (b : Int)] w fun e w' => e = .returned (.tuple #[.int .i64 ((choosePivot ltInt d a b).1 : Int), .int .i64 (if (choosePivot ltInt d a b).2 = .increasing then 1 else 0)]) ∧ DR w' base g n c d ∧ Below base w w' := by
  have HD := Aside0.mk h
  have hglt := Kd.R_lt h.row g rfl
  have hgb := h.gb
  clear h
  obtain ⟨qh, hqh⟩ : ∃ qh : Int, qh = (if (choosePivot ltInt d a b).2 = .increasing then 1 else 0) := ⟨_, rfl⟩
  rw [← hqh]
  have HQ := Aside0.mk hqh
  clear hqh
  have HPV := Aside0.mk (piv_eq d a b h12 h50)
  obtain ⟨l, hl⟩ : ∃ l, l = b - a := ⟨_, rfl⟩
  rw [← hl] at HPV h12 h50
  obtain ⟨i, hi⟩ : ∃ i, i = a + l / 4 * 1 := ⟨_, rfl⟩
  obtain ⟨j, hj⟩ : ∃ j, j = a + l / 4 * 2 := ⟨_, rfl⟩
  obtain ⟨k, hk⟩ : ∃ k, k = a + l / 4 * 3 := ⟨_, rfl⟩
  rw [← hi, ← hj, ← hk] at HPV
  have hin : i < n := by omega
  have hjn : j < n := by omega
  have hkn : k < n := by omega
  have hwl : IntKind.i64.wrap ((b : Int) - (a : Int)) = (l : Int) := by rw [IntKind.wrap_i64]; omega
  have HI := Aside0.mk hi
  have HJ := Aside0.mk hj
  have HK := Aside0.mk hk
  have hal : a + l ≤ n := by omega
  obtain ⟨s, hs⟩ : ∃ s, s = w.heap.size := ⟨_, rfl⟩
  have hgs : g ≠ s := by omega
  have hbs : base ≤ s := by omega
  have HW1 := Aside0.mk (show DR (w.alloc (.cells #[.int .i64 0] 3)) base g n c d ∧ PC (w.alloc (.cells #[.int .i64 0] 3)) (w.alloc (.cells #[.int .i64 0] 3)) s 0 ∧ Below base w (w.alloc (.cells #[.int .i64 0] 3)) from ⟨HD.out.below (below_alloc (Below.refl _ _) _), ⟨by rw [hs]; exact (blk_cell (blk_new w _) 0).trans rfl, by rw [hs]; exact blk_frozen (blk_new w _) 0, fun _ _ => rfl, Below.refl _ _⟩, (below_alloc (Below.refl w.heap.size w) _).mono (by omega)⟩)
  have HMD := Aside0.mk (fun W (hD : DR W base g n c d) (hP : PC W W s 0) => median_any base g n c i j k s 0 d W hD hgs hP hin hjn hkn (by omega) hn)
  have hmc := Sort.median_count (lt := ltInt) d i j k 0
  generalize median ltInt d i j k 0 = md at *
  obtain ⟨m1, m2⟩ := md
  simp only at HPV HMD hmc
  have hsp : (Value.pointer (some ⟨w.heap.size, 0, none⟩)) = .pointer (some ⟨s, 0, none⟩) := by rw [hs]
  have HSP := Aside0.mk hsp
  clear hl hi hj hk hsp hs hglt hgb HD
  go_enter Try.func103, Try.ntmps103
  go_upto_region 3 with (fail)
  go_cut [10] (fun vv wx => vv = .int .i64 (i : Int) ∧ Aside0 (DR wx base g n c d) ∧ Aside0 (PC wx wx s 0) ∧ Aside0 (Below base w wx))
  case first =>
    go_wp2_with fail
    go_meet
    exact ⟨congrArg (Value.int IntKind.i64) (by have := HI.out; omega), ⟨HW1.out.1⟩, ⟨HW1.out.2.1⟩, ⟨HW1.out.2.2⟩⟩
  case rest =>
    obtain ⟨rfl, HD, HP, HB⟩ := hcut
    rw [HSP.out]
    clear HSP HW1
    go_upto_region 4 with (fail)
    go_cut [11] (fun vv wx => vv = .int .i64 (j : Int) ∧ Aside0 (DR wx base g n c d) ∧ Aside0 (PC wx wx s 0) ∧ Aside0 (Below base w wx))
    case first =>
      go_wp2_with fail
      go_meet
      exact ⟨congrArg (Value.int IntKind.i64) (by have := HJ.out; omega), HD, HP, HB⟩
    case rest =>
      clear HD HP HB
      obtain ⟨rfl, HD, HP, HB⟩ := hcut
      go_upto_region 5 with (fail)
      go_cut [12] (fun vv wx => vv = .int .i64 (k : Int) ∧ Aside0 (DR wx base g n c d) ∧ Aside0 (PC wx wx s 0) ∧ Aside0 (Below base w wx))
      case first =>
        go_wp2_with fail
        go_meet
        exact ⟨congrArg (Value.int IntKind.i64) (by have := HK.out; omega), HD, HP, HB⟩
      case rest =>
        clear HD HP HB
        obtain ⟨rfl, HD, HP, HB⟩ := hcut
        have dl8 : decide ((8 : Int) ≤ (l : Int)) = true := decide_eq_true (by omega)
        have dl50 : decide ((50 : Int) ≤ (l : Int)) = false := decide_eq_false (by omega)
        go_upto_region 12 with (go_at_call 124; refine (HMD.out _ HD.out HP.out).mono ?_; rintro e0 w1 ⟨rfl, hw⟩; have HD1 := Aside0.mk (HD.out.other hgs hw.o); have HB1 := Aside0.mk (HB.out.trans (hw.b.mono hbs)); have hc1 := hw.c; clear hw)
        by_cases hm : m2 = 0
        · have HPV2 := Aside0.mk (show choosePivot ltInt d a b = (m1, .increasing) by rw [HPV.out, if_pos hm])
          have hmz : (m2 : Int) = 0 := by omega
          rw [hmz] at hc1
          clear hm hmz hmc
          go_wp2_with fail
          go_ret2
          have hq1 : qh = 1 := by rw [HQ.out, HPV2.out]; rfl
          rw [HPV2.out, hq1]
          exact ⟨rfl, HD1.out, HB1.out⟩
        · have dm : ((m2 : Int) == 0) = false := beq_eq_false_iff_ne.mpr (by omega)
          have dm2 : ((m2 : Int) == 12) = false := beq_eq_false_iff_ne.mpr (by omega)
          have HPV2 := Aside0.mk (show choosePivot ltInt d a b = (m1, .unknown) by rw [HPV.out, if_neg hm])
          go_wp2_with fail
          go_ret2
          have hq0 : qh = 0 := by rw [HQ.out, HPV2.out]; rfl
          rw [HPV2.out, hq0]
          exact ⟨rfl, HD1.out, HB1.out⟩
end Go.Proofs.Ytldiginkmmlojaa
