/- The walk of the law StreamCuts: it answers true. -/
import Derived.Test.YtldiginkmmlojaaSmH
namespace Go.Proofs.Ytldiginkmmlojaa
set_option linter.unusedVariables false
open Go.RowKit Go.Proofs.YtldiginkmmlojaaW.PrintWords
attribute [local go_sem] mx2 mn2 mxTwo mnTwo

/-- All bytes of some parts. -/
def allB (ps : List (List Int)) : List Int := ps.flatten
theorem allB_snoc (ps : List (List Int)) (i : Nat) (h : i < ps.length) : allB (ps.take (i + 1)) = allB (ps.take i) ++ ps.getD i [] := by
  unfold allB
  rw [List.take_succ_eq_append_getElem h, List.flatten_append]
  simp [List.getD_eq_getElem?_getD, h]
theorem writeL_len (mo : Int) (r l : List Int) : (writeL mo r l).1.length ≤ r.length + l.length ∧ (writeL mo r l).2.length ≤ l.length := by
  have := foldW_len mo l (r, [])
  simpa [writeL] using this

theorem stepW_mem (mo : Int) (s : List Int × List Ln) (c x : Int) (h : x ∈ (stepW mo s c).1) : x ∈ s.1 ∨ x = c := by
  unfold stepW at h
  split at h
  · simp at h
  · split at h
    · simp at h
    · split at h
      · simp at h
      · simpa using h
theorem foldW_mem (mo : Int) (l : List Int) : ∀ (s : List Int × List Ln) (x : Int), x ∈ (l.foldl (stepW mo) s).1 → x ∈ s.1 ∨ x ∈ l := by
  induction l with
  | nil => intro s x h; exact .inl h
  | cons c t ih =>
    intro s x h
    rcases ih (stepW mo s c) x h with h1 | h1
    · rcases stepW_mem mo s c x h1 with h2 | rfl
      · exact .inl h2
      · exact .inr (List.mem_cons_self ..)
    · exact .inr (List.mem_cons_of_mem _ h1)
theorem writeL_mem (mo : Int) (l : List Int) (x : Int) (h : x ∈ (writeL mo [] l).1) : x ∈ l := by
  rcases foldW_mem mo l ([], []) x h with h1 | h1
  · simp at h1
  · exact h1

set_option maxHeartbeats 4000000 in
set_option maxRecDepth 100000 in
theorem scuts_walk (A : Option Addr) (c : Nat) (ps : List (List Int)) (m : Int) (w : World) (hp : Kd.C (Kd.slice 5 (Kd.int .u8)) w A ps.length ps) (hc : ps.length ≤ c) (hg : ∀ x ∈ ps, ∀ y ∈ x, (Lit.int .u8 y).wf = true) (h0 : -9223372036854775808 ≤ m) (h1 : m ≤ 9223372036854775807) :
    Calls Try.prog 8 #[.slice A ps.length c, .int .i64 m] w fun e w' => e = .returned (.bool true) ∧ Below w.heap.size w w' := by
  have hm := Kd.C_max hp
  have HP := Aside0.mk hp
  have HG := Aside0.mk (show ∀ x ∈ ps, ∀ y ∈ x, 0 ≤ y ∧ y ≤ 255 from fun x hx y hy => bounds_u8 (hg x hx y hy))
  have HB := Aside0.mk (Below.refl w.heap.size w)
  clear hp hg
  obtain ⟨mo, hmo⟩ : ∃ mo, mo = mostL m := ⟨_, rfl⟩
  have HMO := Aside0.mk hmo
  clear hmo
  go_enter Try.func8, Try.ntmps8
  go_wp2_with (first
    | (go_at_call 34; refine (awake37_any _).mono ?_; rintro e W9 ⟨rfl, hb⟩; have hbn := below_step HB.out hb; clear HB; have HB := Aside0.mk hbn; clear hb hbn)
    | (go_at_call 44; refine (snew_any m _).mono ?_; rintro e W ⟨rfl, hs, hb⟩; rw [← HMO.out] at hs; have hci := CI.mk (w := w) (g := W9.heap.size) (mo := mo) (W := W) (vr := .slice none 0 0) (va := .slice none 0 0) (vg := .slice none 0 0) (r := []) (all := []) (got := []) hs (Kd.R_nil _ _ _ _ _) (Kd.R_nil _ _ _ _ _) (Kd.R_nil _ _ _ _ _) (fun k hk => (by simp [Value.ownBlock] at hk)) (below_step HB.out hb) (below_size HB.out); have HI := Aside0.mk hci; clear HB hs hb hci))
  obtain ⟨g, hgE⟩ : ∃ g, g = W9.heap.size := ⟨_, rfl⟩
  rw [← hgE] at HI ⊢
  clear hgE
  go_loopg [6, 7, 8] 31 (fun q v6 v7 v8 wr => ∃ (i : Nat) (vr : Value) (r all : List Int) (got : List Ln), v8 = .int .i64 (i : Int) ∧ i ≤ ps.length ∧ i ≤ 30 ∧ Aside0 (q = 31 - i) ∧ all.length ≤ 1500 * i ∧ r.length ≤ 1500 * i ∧ got.length ≤ 1500 * i ∧ Aside0 (all = allB (ps.take i)) ∧ Aside0 (writeL mo [] all = (r, got)) ∧ Aside0 (CI w g mo wr vr v6 v7 r all got))
  case atStart => exact ⟨0, _, [], [], [], rfl, Nat.zero_le _, Nat.zero_le _, ⟨rfl⟩, Nat.le_refl _, Nat.le_refl _, Nat.le_refl _, ⟨rfl⟩, ⟨rfl⟩, HI⟩
  case round =>
    clear HI
    obtain ⟨i, vr, r, all, got, rfl, hi, hi3, hq, hla, hlr, hlg, HA, HF, HI⟩ := hrel
    by_cases hgo : i < ps.length ∧ i < 30
    · obtain ⟨hlt, h30⟩ := hgo
      obtain ⟨ad, A2, c2, rfl, hx0, hlc, hC2⟩ := at_part HP.out i hlt
      have HAS := Aside0.mk (allB_snoc ps i hlt)
      obtain ⟨p, hpE⟩ : ∃ p, p = ps.getD i [] := ⟨_, rfl⟩
      rw [← hpE] at hx0 hlc hC2 HAS
      have HX := Aside0.mk hx0
      have HC2 := Aside0.mk hC2
      have hx := pw_cell_below HI.out.hl hx0
      clear hpE hx0 hC2
      by_cases hbig : 1500 < p.length
      · have HB := Aside0.mk HI.out.hl
        go_wp2_with (first | (go_at_call 34; refine (awake37_any _).mono ?_; rintro e W9 ⟨rfl, hb⟩; have hbn := below_step HB.out hb; clear HB; have HB := Aside0.mk hbn; clear hb hbn))
        go_ret
        exact ⟨rfl, HB.out⟩
      · have hwl := writeL_len mo r p
        have HWA := Aside0.mk (writeL_append mo [] all p)
        obtain ⟨r', hr'⟩ : ∃ r', r' = (writeL mo r p).1 := ⟨_, rfl⟩
        obtain ⟨out, hout⟩ : ∃ out, out = (writeL mo r p).2 := ⟨_, rfl⟩
        rw [← hr', ← hout] at hwl
        have HR' := Aside0.mk hr'
        have HOUT := Aside0.mk hout
        clear hr' hout
        go_wp2_with (first
          | (go_at_call 45; refine (swrite_any w.heap.size g vr r mo A2 p.length c2 p _ HI.out.hb HI.out.hr HI.out.hw rfl (fun W' _ hb' => Kd.C_below HC2.out (HI.out.hl.trans hb')) (by omega) (by omega)).mono ?_; rw [← HR'.out, ← HOUT.out]; rintro e W2 ⟨vr2, vo, rfl, hw⟩; have hci := HI.out.write hw; obtain ⟨A5, c5, rfl, _, hC5⟩ := Kd.R_reads hw.ho; have HC5 := Aside0.mk hC5; clear HI; have HI := Aside0.mk hci; have hx2 := pw_cell_below HI.out.hl HX.out; clear hw hci hC5)
          | (at_builtin; refine Kd.R_append_rows kLn (Rr := kLn.K W2) (w0 := w) w.heap.size rfl (.tmp 33) (.tmp 39) 83 59 (.agg #[(.string ⟨#[]⟩), (.int .i64 0)]) 24 rfl Try.underlying83 infoLnZ rfl (by decide) (by omega) u7 got out A5 out.length c5 (fun _ => True) (fun _ => False) rfl rfl HI.out.hg HC5.out (fun _ _ h => h) (fun _ h => h.elim) (fun _ _ => trivial) HI.out.hl (below_size HI.out.hl) (by omega) ?_; intro v3 w3 ho3 hbl3 hgr3 _; have hci := HI.out.lines ho3 hbl3 hgr3; clear HI; have HI := Aside0.mk hci; have hx3 := pw_cell_below HI.out.hl HX.out; clear hci ho3 hbl3 hgr3)
          | (at_builtin; refine Kd.R_append_rows (Kd.int .u8) (Rr := (Kd.int .u8).K w3) (w0 := w) w.heap.size rfl (.tmp 41) (.tmp 45) 82 5 (.int .u8 0) 1 rfl Try.underlying82 infoU8 rfl (by decide) (by omega) u6 all p A2 p.length c2 (fun _ => True) (fun _ => False) rfl rfl HI.out.ha (Kd.C_below HC2.out HI.out.hl) (fun _ _ h => h) (fun _ h => h.elim) (fun _ _ => trivial) HI.out.hl (below_size HI.out.hl) (by omega) ?_; intro v4 w4 ho4 hbl4 hgr4 hat4; have hci := HI.out.bytes ho4 hbl4 hgr4 hat4; clear HI; have HI := Aside0.mk hci; clear hci ho4 hbl4 hgr4 hat4))
        go_roundg (31 - (i + 1))
        case measure => have := hq.out; omega
        case rel => exact ⟨i + 1, vr2, r', all ++ p, got ++ out, by go_num, by omega, by omega, ⟨rfl⟩, by rw [List.length_append]; omega, by omega, by rw [List.length_append]; omega, ⟨by rw [HAS.out, ← HA.out]⟩, ⟨by rw [HWA.out, HF.out, HR'.out, HOUT.out]⟩, HI⟩
    · have HGA := Aside0.mk (show ∀ x ∈ all, 0 ≤ x ∧ x ≤ 255 by
        rw [HA.out]
        intro x hx
        obtain ⟨q, hq1, hq2⟩ := List.mem_flatten.1 hx
        exact HG.out q (List.mem_of_mem_take hq1) x hq2)
      have HGR := Aside0.mk (show ∀ x ∈ r, 0 ≤ x ∧ x ≤ 255 from fun x hx => HGA.out x (writeL_mem mo all x (by rw [HF.out]; exact hx)))
      obtain ⟨A6, c6, rfl, hc6, hC6⟩ := Kd.R_reads HI.out.ha
      obtain ⟨A7, c7, rfl, hc7, hC7⟩ := Kd.R_reads HI.out.hg
      have HC6 := Aside0.mk hC6
      clear hC6 hC7
      by_cases hlt : i < ps.length
      · have h30 : i = 30 := by omega
        subst h30
        go_wp2_with (first
          | (go_at_call 46; refine (rlines_any A6 all.length c6 all m _ HC6.out hc6 (by omega) HGA.out).mono ?_; rw [← HMO.out, HF.out]; rintro e W2 ⟨A8, c8, rfl, hc8, hb⟩; have HY := Aside0.mk hc8; have hci := HI.out.below hb; clear HI; have HI := Aside0.mk hci; have HX := Aside0.mk (C_own HI.out.hg); clear hc8 hb hci)
          | (go_at_call 47; refine (same37_any _ _ _ _ _ _ _ HX.out HY.out).mono ?_; rintro e W3 ⟨rfl, hk⟩; first
              | (have hb3 : Below W2.heap.size W2 W3 := (by obtain ⟨k, rfl⟩ := hk; exact pw_below_drewN (Below.refl _ _) _); have hci := HI.out.below hb3; clear HI HX HY; have HI := Aside0.mk hci; clear hb3 hci hk)
              | (have hb3 : Below W6.heap.size W6 W3 := (by obtain ⟨k, rfl⟩ := hk; exact pw_below_drewN (Below.refl _ _) _); have hd := blk_below HD.out hb3; have hbn := below_step HB.out hb3; clear HX HY HD HB; have HD := Aside0.mk hd; have HB := Aside0.mk hbn; clear hk hb3 hd hbn))
          | (go_at_call 48; have hgate := HI; clear hgate; refine (spending_any w.heap.size g vr r mo false _ HI.out.hb HI.out.hr (by omega)).mono ?_; rintro e W4 ⟨A9, c9, rfl, hc9, hb⟩; have hci := HI.out.below hb; clear HI; have HI := Aside0.mk hci; have hcv := Kd.C_string (P := Try.prog) (c := c9) Try.underlying82 Try.underlying5 Try.underlying9 hc9; clear hc9 hb hci)
          | (go_at_call 49; have hgate := HI; clear hgate; refine (sclose_any w.heap.size g vr r mo _ HI.out.hb HI.out.hr HI.out.hw).mono ?_; rintro e W5 ⟨A10, c10, rfl, hc10, ⟨v', hd⟩, hk, hl⟩; have HX := Aside0.mk hc10; have HD := Aside0.mk hd; have HB := Aside0.mk (HI.out.hl.trans hl); clear hc10 hd hk hl HI hcv)
          | (go_at_call 50; refine (rclose_any r HGR.out (by omega) _).mono ?_; rintro e W6 ⟨A11, c11, rfl, hc11, hb⟩; have HY := Aside0.mk hc11; have hx := Kd.C_below HX.out hb; have hd := blk_below HD.out hb; have hbn := below_step HB.out hb; clear HX HD HB; have HX := Aside0.mk hx; have HD := Aside0.mk hd; have HB := Aside0.mk hbn; clear hc11 hx hd hbn hb)
          | (go_at_call 45; (with_reducible refine (swrite_done g v' mo _ _ _ _ (blk_alloc HD.out _)).mono ?_); rintro e W8 ⟨rfl, rfl⟩)
          | (go_at_call 49; (with_reducible refine (sclose_done g v' mo _ (blk_alloc HD.out _)).mono ?_); rintro e W8 ⟨rfl, rfl⟩)
          | (go_at_call 45; (with_reducible refine (swrite_nil _ _ _ _).mono ?_); rintro e W8 ⟨rfl, rfl⟩)
          | (go_at_call 49; (with_reducible refine (sclose_nil _).mono ?_); rintro e W8 ⟨rfl, rfl⟩)
          | (go_at_call 48; refine (spending_nil _).mono ?_; rintro e W8 ⟨rfl, rfl⟩)
          | (go_at_call 34; refine (awake37_any _).mono ?_; rintro e W9 ⟨rfl, hb⟩; have hbn := below_step (below_alloc (below_alloc HB.out _) _) hb; clear HB; have HB := Aside0.mk hbn; clear hb hbn))
        go_ret
        exact ⟨rfl, HB.out⟩
      · have h30 : i = ps.length := by omega
        subst h30
        go_wp2_with (first
          | (go_at_call 46; refine (rlines_any A6 all.length c6 all m _ HC6.out hc6 (by omega) HGA.out).mono ?_; rw [← HMO.out, HF.out]; rintro e W2 ⟨A8, c8, rfl, hc8, hb⟩; have HY := Aside0.mk hc8; have hci := HI.out.below hb; clear HI; have HI := Aside0.mk hci; have HX := Aside0.mk (C_own HI.out.hg); clear hc8 hb hci)
          | (go_at_call 47; refine (same37_any _ _ _ _ _ _ _ HX.out HY.out).mono ?_; rintro e W3 ⟨rfl, hk⟩; first
              | (have hb3 : Below W2.heap.size W2 W3 := (by obtain ⟨k, rfl⟩ := hk; exact pw_below_drewN (Below.refl _ _) _); have hci := HI.out.below hb3; clear HI HX HY; have HI := Aside0.mk hci; clear hb3 hci hk)
              | (have hb3 : Below W6.heap.size W6 W3 := (by obtain ⟨k, rfl⟩ := hk; exact pw_below_drewN (Below.refl _ _) _); have hd := blk_below HD.out hb3; have hbn := below_step HB.out hb3; clear HX HY HD HB; have HD := Aside0.mk hd; have HB := Aside0.mk hbn; clear hk hb3 hd hbn))
          | (go_at_call 48; have hgate := HI; clear hgate; refine (spending_any w.heap.size g vr r mo false _ HI.out.hb HI.out.hr (by omega)).mono ?_; rintro e W4 ⟨A9, c9, rfl, hc9, hb⟩; have hci := HI.out.below hb; clear HI; have HI := Aside0.mk hci; have hcv := Kd.C_string (P := Try.prog) (c := c9) Try.underlying82 Try.underlying5 Try.underlying9 hc9; clear hc9 hb hci)
          | (go_at_call 49; have hgate := HI; clear hgate; refine (sclose_any w.heap.size g vr r mo _ HI.out.hb HI.out.hr HI.out.hw).mono ?_; rintro e W5 ⟨A10, c10, rfl, hc10, ⟨v', hd⟩, hk, hl⟩; have HX := Aside0.mk hc10; have HD := Aside0.mk hd; have HB := Aside0.mk (HI.out.hl.trans hl); clear hc10 hd hk hl HI hcv)
          | (go_at_call 50; refine (rclose_any r HGR.out (by omega) _).mono ?_; rintro e W6 ⟨A11, c11, rfl, hc11, hb⟩; have HY := Aside0.mk hc11; have hx := Kd.C_below HX.out hb; have hd := blk_below HD.out hb; have hbn := below_step HB.out hb; clear HX HD HB; have HX := Aside0.mk hx; have HD := Aside0.mk hd; have HB := Aside0.mk hbn; clear hc11 hx hd hbn hb)
          | (go_at_call 45; (with_reducible refine (swrite_done g v' mo _ _ _ _ (blk_alloc HD.out _)).mono ?_); rintro e W8 ⟨rfl, rfl⟩)
          | (go_at_call 49; (with_reducible refine (sclose_done g v' mo _ (blk_alloc HD.out _)).mono ?_); rintro e W8 ⟨rfl, rfl⟩)
          | (go_at_call 45; (with_reducible refine (swrite_nil _ _ _ _).mono ?_); rintro e W8 ⟨rfl, rfl⟩)
          | (go_at_call 49; (with_reducible refine (sclose_nil _).mono ?_); rintro e W8 ⟨rfl, rfl⟩)
          | (go_at_call 48; refine (spending_nil _).mono ?_; rintro e W8 ⟨rfl, rfl⟩)
          | (go_at_call 34; refine (awake37_any _).mono ?_; rintro e W9 ⟨rfl, hb⟩; have hbn := below_step (below_alloc (below_alloc HB.out _) _) hb; clear HB; have HB := Aside0.mk hbn; clear hb hbn))
        go_ret
        exact ⟨rfl, HB.out⟩
end Go.Proofs.Ytldiginkmmlojaa
