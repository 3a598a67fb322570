/- Merging: All goes through all things. -/
import Derived.Test.YtldiginkmmlojaaMeD
import Derived.Test.YtldiginkmmlojaaMeA
import Derived.Deep.Cut
import Derived.TacticsInMore
namespace Go.Proofs.Ytldiginkmmlojaa
set_option linter.unusedVariables false
set_option linter.unusedSimpArgs false
open Go.RowKit Go.Proofs.YtldiginkmmlojaaW.PrintWords
attribute [local go_sem] mx2 mn2 mxTwo mnTwo

theorem infoI64 : (Try.prog.info? 3).map (fun i => (i.zero, i.size, i.bytes)) = some (some (.int .i64 0), 1, 8) := by kernel_rfl
theorem Unt.setCell {B : Nat} {R : Nat → Prop} {A : World} {p : Addr} (hB : B ≤ p.block) (hR : ¬ R p.block) (u : Value) : Unt B R A (A.setCell p u) :=
  ⟨by simp, rfl, rfl, rfl, fun q hq hx => Below.heap_setCell A p u q (fun e => hx.elim (fun h => by omega) (fun h => hR (e ▸ h)))⟩
theorem Unt.drewN {B : Nat} {R : Nat → Prop} {A : World} (q : Nat) : Unt B R A (A.drewN q) := Unt.of_below (pw_below_drewN (Below.refl _ _) _)
theorem atI_zero (n : Nat) : List.replicate n (0 : Int) = atI (List.replicate n 0) := by unfold atI; simp
theorem R_reok64 {e : Nat} {w : World} {base : Nat} {ok ok' : Nat → Prop} {v : Value} {xs : List Int} (h : Kd.R (Kd.int .i64) e w base ok v xs) (h' : ∀ k, v.ownBlock = some k → ok' k) : Kd.R (Kd.int .i64) e w base ok' v xs := ⟨h', h.2⟩
/-- What holds between two things. -/
structure AI (w0 W : World) (A2 : Option Addr) (n c2 : Nat) (J : (Nat → Prop) → Nat → World → Prop) (R : Nat → Prop) (k : Nat) (ats : List Nat) (X : World) : Prop where
  row : Kd.R (Kd.int .i64) 3 X W.heap.size (fun q => ¬ R q) (.slice A2 n c2) (atI ats)
  j : J R k X
  rr : ∀ q, R q → W.heap.size ≤ q
  low : Below w0.heap.size w0 X
  sz : W.heap.size ≤ X.heap.size
theorem AI.drewN {w0 W X : World} {A2 : Option Addr} {n c2 k : Nat} {J : (Nat → Prop) → Nat → World → Prop} {R : Nat → Prop} {ats : List Nat} (h : AI w0 W A2 n c2 J R k ats X) (hJ : StableX W.heap.size J) (q : Nat) : AI w0 W A2 n c2 J R k ats (X.drewN q) :=
  ⟨Kd.R_drewN h.row q, hJ _ _ _ _ h.j (Unt.drewN q), h.rr, pw_below_drewN h.low q, h.sz⟩
theorem AI.store {w0 W X : World} {g n c2 k : Nat} {J : (Nat → Prop) → Nat → World → Prop} {R : Nat → Prop} {ats : List Nat} (h : AI w0 W (some ⟨g, 0, none⟩) n c2 J R k ats X) (hJ : StableX W.heap.size J) (hw : w0.heap.size ≤ W.heap.size) (i v : Nat) : AI w0 W (some ⟨g, 0, none⟩) n c2 J R k (ats.set i v) (X.setCell ⟨g, i, none⟩ (.int .i64 (v : Int))) := by
  have h1 := Kd.R_putn h.row (i : Int) (v : Int)
  rw [Int.toNat_natCast, atI_set] at h1
  have hg := Kd.R_base h.row g rfl
  exact ⟨h1, hJ _ _ _ _ h.j (Unt.setCell hg (h.row.1 g rfl) _), h.rr, h.low.setCell (p := ⟨g, i, none⟩) (Nat.le_trans hw hg) _, by simp; exact h.sz⟩
/-- While all rests are brought behind x: lists before kk are. -/
structure AInv (L : List (List Int)) (p : Int → Bool) (ats ats1 : List Nat) (kk : Nat) : Prop where
  len : ats1.length = L.length
  lo : ∀ j, j < kk → j < L.length → (L.getD j []).drop (ats1.getD j 0) = ((L.getD j []).drop (ats.getD j 0)).dropWhile p
  hi : ∀ j, kk ≤ j → ats1.getD j 0 = ats.getD j 0
/-- And while list kk is. -/
structure BInv (L : List (List Int)) (p : Int → Bool) (ats1 ats2 : List Nat) (kk : Nat) : Prop where
  len : ats2.length = L.length
  at_ : ((L.getD kk []).drop (ats2.getD kk 0)).dropWhile p = ((L.getD kk []).drop (ats1.getD kk 0)).dropWhile p
  ne : ∀ j, j ≠ kk → ats2.getD j 0 = ats1.getD j 0
theorem AInv.step {L : List (List Int)} {p : Int → Bool} {ats ats1 ats2 : List Nat} {kk : Nat} (h : AInv L p ats ats1 kk) (b : BInv L p ats1 ats2 kk) (he : ((L.getD kk []).drop (ats2.getD kk 0)).dropWhile p = (L.getD kk []).drop (ats2.getD kk 0)) : AInv L p ats ats2 (kk + 1) := by
  refine ⟨b.len, fun j hj hjL => ?_, fun j hj => ?_⟩
  · by_cases e : j = kk
    · subst e
      rw [← he, b.at_, h.hi j (Nat.le_refl _)]
    · rw [b.ne j e]
      exact h.lo j (by omega) hjL
  · rw [b.ne j (by omega)]
    exact h.hi j (by omega)
theorem BInv.step {L : List (List Int)} {p : Int → Bool} {ats1 ats2 : List Nat} {kk : Nat} (b : BInv L p ats1 ats2 kk) (hk : kk < L.length) (ha : ats2.getD kk 0 < (L.getD kk []).length) (hp : p ((L.getD kk []).getD (ats2.getD kk 0) 0) = true) : BInv L p ats1 (ats2.set kk (ats2.getD kk 0 + 1)) kk := by
  have hk2 : kk < ats2.length := by rw [b.len]; exact hk
  refine ⟨by rw [List.length_set]; exact b.len, ?_, fun j hj => ?_⟩
  · rw [getD_setN _ hk2, if_pos rfl, ← b.at_, drop_cons ha, List.dropWhile_cons, hp, if_pos rfl]
  · rw [getD_setN _ hk2, if_neg hj]
    exact b.ne j hj
theorem AI.yielded {w0 W X C : World} {g n c2 k k' : Nat} {J : (Nat → Prop) → Nat → World → Prop} {R R' : Nat → Prop} {ats : List Nat} (h : AI w0 W (some ⟨g, 0, none⟩) n c2 J R k ats X) (hf : FrX w0.heap.size W.heap.size R R' X C) (hj : J R' k' C) : AI w0 W (some ⟨g, 0, none⟩) n c2 J R' k' ats C := by
  have hg1 := Kd.R_base h.row g rfl
  have hg2 := Kd.R_lt h.row g rfl
  have hg3 := h.row.1 g rfl
  have h1 : Kd.R (Kd.int .i64) 3 X W.heap.size (fun q => q = g) (.slice (some ⟨g, 0, none⟩) n c2) (atI ats) := R_reok64 h.row (fun q hq => by simp [Value.ownBlock] at hq; exact hq.symm)
  have h2 : Kd.R (Kd.int .i64) 3 C W.heap.size (fun q => q = g) (.slice (some ⟨g, 0, none⟩) n c2) (atI ats) := Kd.R_step h1 (fun q hq _ => by subst hq; exact hf.own q hg2 hg1 hg3)
  refine ⟨R_reok64 h2 (fun q hq hr => ?_), hj, fun q hq => (hf.new q hq).elim (h.rr q) (fun h9 => Nat.le_trans h.sz h9), h.low.trans hf.low, Nat.le_trans h.sz hf.low.size⟩
  have : q = g := by simp [Value.ownBlock] at hq; exact hq.symm
  subst this
  exact (hf.new q hr).elim hg3 (fun h9 => by omega)
set_option maxHeartbeats 8000000 in
set_option maxRecDepth 100000 in
theorem all_T (n bx gM c f0 : Nat) (A : Option Addr) (L : List (List Int)) (w0 : World) (hbx : w0.cell? ⟨bx, 0, none⟩ = some (.pointer (some ⟨gM, 0, none⟩))) (hlm : LM w0 gM 38 A c L) (hv : ∀ l ∈ L, ∀ x ∈ l, 0 ≤ x ∧ x ≤ 1000000) (hL : L.length ≤ 1000000) (hLl : ∀ l ∈ L, l.length ≤ 1000000) (hf0 : totF L ≤ f0) :
    SeqX Fence.wide n Try.prog 71 #[.pointer (some ⟨bx, 0, none⟩)] (Value.int .i64) (allF cT f0 L) w0.heap.size w0 := by
  intro l J Jx W hW hN hJ hJx hY h0
  refine callsIn_wide.2 ?_
  have HBX := Aside0.mk hbx
  have HLM := Aside0.mk hlm
  have HV := Aside0.mk hv
  have HLL := Aside0.mk (show ∀ i, i < L.length → (L.getD i []).length ≤ 1000000 from fun i hi => hLl _ (List.mem_of_getElem? (show L[i]? = some (L.getD i []) by rw [List.getD_eq_getElem?_getD, List.getElem?_eq_getElem hi]; rfl)))
  have HVI := Aside0.mk (show ∀ i k, i < L.length → k < (L.getD i []).length → 0 ≤ (L.getD i []).getD k 0 ∧ (L.getD i []).getD k 0 ≤ 1000000 from fun i k hi hk => hv _ (List.mem_of_getElem? (show L[i]? = some (L.getD i []) by rw [List.getD_eq_getElem?_getD, List.getElem?_eq_getElem hi]; rfl)) _ (List.mem_of_getElem? (show (L.getD i [])[k]? = some ((L.getD i []).getD k 0) by rw [List.getD_eq_getElem?_getD (l := L.getD i []), List.getElem?_eq_getElem hk]; rfl)))
  have HFB := Aside0.mk (show ∀ X, Below w0.heap.size w0 X → X.cell? ⟨bx, 0, none⟩ = some (.pointer (some ⟨gM, 0, none⟩)) ∧ X.cell? ⟨gM, 0, none⟩ = some (.func (.func 38) #[] #[]) ∧ X.cell? ⟨gM, 1, none⟩ = some (.slice A L.length c) ∧ Kd.C kLL X A L.length L from fun X hX => by
    have h := HLM.out.below hX
    exact ⟨pw_cell_below hX HBX.out, (blk_cell h.hb 0).trans rfl, (blk_cell h.hb 1).trans rfl, h.hl⟩)
  have HJ := Aside0.mk hJ
  have HY := Aside0.mk hY
  have HN := Aside0.mk hN
  obtain ⟨xs, hxs⟩ : ∃ xs, xs = allF cT f0 L := ⟨_, rfl⟩
  rw [← hxs] at HY ⊢
  have HXS := Aside0.mk hxs
  obtain ⟨b0, b1, b2, _⟩ := HFB.out W hW
  have HW := Aside0.mk hW
  have H0 := Aside0.mk h0
  have HF0 := Aside0.mk hf0
  have hmx := Kd.C_max hlm.hl
  clear hbx hlm hv hLl hJ hJx hY h0 hN hW hxs hf0
  go_enter Try.func71, Try.ntmps71
  go_wp2_with (first
    | (at_make; refine Kd.R_make (Kd.int .i64) (w0 := W) W.heap.size 3 rfl (N := 15) rfl 70 (.tmp 14) (.tmp 14) rfl (L.length : Int) rfl rfl Try.underlying70 (.int .i64 0) 8 infoI64 rfl (by decide) (by omega) (0 : Int) (ok := fun _ => True) (okp := fun _ => False) rfl (fun _ h => h.elim) trivial (by omega) (by rw [Int.toNat_natCast]; omega) (Below.refl _ _) (Nat.le_refl _) ?_; intro v1 w1 h1 hb1 _ _; rw [Int.toNat_natCast, atI_zero] at h1; obtain ⟨A2, c2, rfl⟩ := Kd.R_slice h1; rw [show (atI (List.replicate L.length 0)).length = L.length by unfold atI; simp] at h1 ⊢; have HAI := Aside0.mk (show AI w0 W A2 L.length c2 J (fun _ => False) 0 (List.replicate L.length 0) w1 from ⟨R_reok64 h1 (fun _ _ h => h), HJ.out _ _ _ _ H0.out (Unt.of_below hb1), fun _ h => h.elim, HW.out.trans (hb1.mono HN.out), hb1.size⟩); obtain ⟨b0', b1', b2', _⟩ := HFB.out w1 HAI.out.low; clear h1 hb1)
    | (go_at_call 72; refine (least_T gM c c2 A A2 L (List.replicate L.length 0) _ (HLM.out.below HAI.out.low) (C_own HAI.out.row) (by simp) HV.out).mono ?_; rintro e w2 ⟨rfl, q2, rfl⟩))
  clear b0 b1 b2 b0' b1' b2'
  go_loopg [4] f0 (fun q v4 wr => ∃ (R : Nat → Prop) (k f : Nat) (ats : List Nat), v4 = .int .i64 (codeB (bestF cT (sufF L ats) L.length)) ∧ Aside0 (q = f) ∧ Aside0 (k ≤ xs.length ∧ xs.drop k = allF cT f (sufF L ats) ∧ totF (sufF L ats) ≤ f ∧ ats.length = L.length) ∧ Aside0 (AI w0 W A2 L.length c2 J R k ats wr))
  case atStart => exact ⟨_, 0, f0, List.replicate L.length 0, rfl, ⟨rfl⟩, ⟨Nat.zero_le _, by rw [tot_start, List.drop_zero]; exact HXS.out, by rw [tot_start]; exact HF0.out, by simp⟩, ⟨HAI.out.drewN HJ.out q2⟩⟩
  case round =>
    clear HAI HF0 HXS
    obtain ⟨R, k, f, ats, rfl, hq, HP, HAI⟩ := hrel
    obtain ⟨b0, b1, b2, hlC⟩ := HFB.out wr HAI.out.low
    have HLC := Aside0.mk hlC
    clear hlC
    cases hb : bestF cT (sufF L ats) L.length with
    | none =>
      have e0 : codeB none = -1 := rfl
      have HK := Aside0.mk (show k = xs.length by
        have h1 := HP.out.2.1
        rw [allF_none (by rw [sufF_len HP.out.2.2.2]; exact hb)] at h1
        have h2 := congrArg List.length h1
        rw [List.length_drop, List.length_nil] at h2
        have := HP.out.1
        omega)
      clear hb
      go_wp2_with fail
      first | go_end0 | ((try simp only [Exit.inBlock, Exit.then]); refine bodyPost_ret (results_none rfl _ _ _) rfl ?_)
      exact ⟨⟨_, rfl⟩, R, HAI.out.rr, .inl (by rw [← HK.out]; exact HAI.out.j)⟩
    | some pr =>
      obtain ⟨i, x⟩ := pr
      have e0 : codeB (some (i, x)) = (i : Int) := rfl
      obtain ⟨hiL, t9, hS9⟩ := bestF_at hb
      have hi0 : (0 : Int) ≤ (i : Int) := by omega
      have hi1 : (i : Int) < (L.length : Int) := by omega
      have hS8 := sufF_get HP.out.2.2.2 hiL
      rw [hS9] at hS8
      have htl := totF_lt (fun y => cT y x == 0) (sufF L ats) i x t9 hS9 (cT_refl x)
      obtain ⟨f', rfl⟩ : ∃ f', f = f' + 1 := ⟨f - 1, by have := HP.out.2.2.1; omega⟩
      have hal := HP.out.2.1
      rw [allF_some (by rw [sufF_len HP.out.2.2.2]; exact hb)] at hal
      have HX := Aside0.mk (show xs[k]? = some x by
        have := List.getElem?_drop (xs := xs) (i := k) (j := 0)
        rw [hal] at this
        simpa using this.symm)
      have HXD := Aside0.mk (show k + 1 ≤ xs.length ∧ xs.drop (k + 1) = allF cT f' ((sufF L ats).map (fun l => l.dropWhile (fun y => cT y x == 0))) from ⟨(List.getElem?_eq_some_iff.1 HX.out).1, by rw [← List.drop_drop, hal]; rfl⟩)
      have HTL := Aside0.mk (show totF ((sufF L ats).map (fun l => l.dropWhile (fun y => cT y x == 0))) ≤ f' by have := HP.out.2.2.1; omega)
      clear hal htl hb
      obtain ⟨ad, A3, c3, rfl, r1, hl3, hC3⟩ := at_LL HLC.out i hiL
      obtain ⟨ad2, rfl, r2⟩ := at_i64 (C_own HAI.out.row) i hiL
      rw [atI_get (by rw [HP.out.2.2.2]; exact hiL)] at r2
      have hka : ats.getD i 0 < (L.getD i []).length := by
        rcases Nat.lt_or_ge (ats.getD i 0) (L.getD i []).length with h | h
        · exact h
        · rw [List.drop_eq_nil_of_le h] at hS8
          cases hS8
      rw [drop_cons hka] at hS8
      have hxx : (L.getD i []).getD (ats.getD i 0) 0 = x := by injection hS8 with h _; exact h.symm
      obtain ⟨ad3, rfl, r3⟩ := at_i64 hC3 _ hka
      rw [hxx] at r3
      have HXB := Aside0.mk (show 0 ≤ x ∧ x ≤ 1000000 by rw [← hxx]; exact HVI.out i _ hiL hka)
      have HATL := Aside0.mk HP.out.2.2.2
      clear hS8 hS9 hxx hC3
      generalize ats.getD i 0 = ki at *
      generalize L.getD i [] = li at *
      have hki0 : (0 : Int) ≤ (ki : Int) := by omega
      have hki1 : (ki : Int) < (li.length : Int) := by omega
      obtain ⟨g2, e2⟩ : ∃ g2, ad2 = ⟨g2, 0, none⟩ := by
        have hlen : 0 < (atI ats).length := by unfold atI; rw [List.length_map, HATL.out]; omega
        obtain ⟨g2, cap, e, _⟩ := Kd.R_form HAI.out.row hlen
        injection e with e _ _
        injection e with e
        exact ⟨g2, e⟩
      subst e2
      rw [add_plain] at r2
      go_wp2_with fail
      go_quiet (fail)
      go_wp2_with fail
      generalize hWq : World.drewN _ _ = wq
      have HAQ := Aside0.mk (show AI w0 W (some ⟨g2, 0, none⟩) L.length c2 J R k ats wq by rw [← hWq]; exact HAI.out.drewN HJ.out _)
      clear hWq HAI r1 r2 r3 b0 b1 b2 HLC hka hki0 hki1 hi0 hi1 hiL hl3 e0
      obtain ⟨b0, b1, b2, hlC⟩ := HFB.out wq HAQ.out.low
      clear hlC
      go_wp2_with fail
      go_loopg [6, 7, 42] L.length (fun q v6 v7 v42 wr2 => ∃ (kk : Nat) (ats1 : List Nat), v42 = .int .i64 (kk : Int) ∧ kk ≤ L.length ∧ Aside0 (q = L.length - kk) ∧ Aside0 (AInv L (fun y => cT y x == 0) ats ats1 kk) ∧ Aside0 (AI w0 W (some ⟨g2, 0, none⟩) L.length c2 J R k ats1 wr2))
      case atStart => exact ⟨0, ats, rfl, Nat.zero_le _, ⟨rfl⟩, ⟨⟨HATL.out, fun j hj => absurd hj (Nat.not_lt_zero _), fun _ _ => rfl⟩⟩, HAQ⟩
      case round =>
        clear HAQ b0 b1 b2
        obtain ⟨kk, ats1, rfl, hkk, hq2, HAV, HAI⟩ := hrel
        by_cases hlt : kk < L.length
        · obtain ⟨b0, b1, b2, hlC⟩ := HFB.out wr HAI.out.low
          obtain ⟨adx, A3, c3, e3, r10, hl3, hC30⟩ := at_LL HLM.out.hl kk hlt
          obtain rfl : ad = adx := by injection e3
          have r1 := pw_cell_below HAI.out.low r10
          clear e3 hlC r10
          obtain ⟨lk, hlk⟩ : ∃ lk, lk = L.getD kk [] := ⟨_, rfl⟩
          rw [← hlk] at r1 hl3 hC30
          have HLK := Aside0.mk hlk
          have HC30 := Aside0.mk hC30
          have HVK := Aside0.mk (show ∀ q, q < lk.length → 0 ≤ lk.getD q 0 ∧ lk.getD q 0 ≤ 1000000 by rw [hlk]; exact fun q hq => HVI.out kk q hlt hq)
          have hLk : lk.length ≤ 1000000 := by rw [hlk]; exact HLL.out kk hlt
          clear hlk hC30
          go_wp2_with fail
          go_loopg [47] (lk.length - ats1.getD kk 0) (fun q v47 wr3 => ∃ (ats2 : List Nat), Aside0 (q = lk.length - ats2.getD kk 0) ∧ Aside0 (BInv L (fun y => cT y x == 0) ats1 ats2 kk) ∧ Aside0 (AI w0 W (some ⟨g2, 0, none⟩) L.length c2 J R k ats2 wr3))
          case atStart => exact ⟨ats1, ⟨rfl⟩, ⟨⟨HAV.out.len, rfl, fun _ _ => rfl⟩⟩, HAI⟩
          case round =>
            clear HAI b0 b1 b2 r1
            obtain ⟨ats2, hq3, HBV, HAI⟩ := hrel
            obtain ⟨b0, b1, b2, hlC⟩ := HFB.out wr HAI.out.low
            clear hlC
            obtain ⟨ad4, e4, r2⟩ := at_i64 (C_own HAI.out.row) kk hlt
            obtain rfl : (⟨g2, 0, none⟩ : Addr) = ad4 := by injection e4
            clear e4
            rw [add_plain, atI_get (by rw [HBV.out.len]; exact hlt)] at r2
            have hfz := (Kd.R_celln (0 : Int) HAI.out.row (kk : Int) (by omega) (by omega)).2
            rw [Int.toNat_natCast] at hfz
            have HA2 := Aside0.mk (show ∀ a, a = ats2.getD kk 0 → ats2.getD kk 0 = a from fun a h => h.symm)
            obtain ⟨a, ha⟩ : ∃ a, a = ats2.getD kk 0 := ⟨_, rfl⟩
            rw [← ha] at r2
            have HAA := Aside0.mk ha
            clear ha HA2
            have ha0 : (0 : Int) ≤ (a : Int) := by omega
            have hkk0 : (0 : Int) ≤ (kk : Int) := by omega
            have hkk1 : (kk : Int) < (L.length : Int) := by omega
            by_cases hal : a < lk.length
            · have ha1 : (a : Int) < (lk.length : Int) := by omega
              have d1 : decide (a < lk.length) = true := decide_eq_true hal
              obtain ⟨ad6, rfl, r3⟩ := at_i64 (Kd.C_below HC30.out HAI.out.low) a hal
              have HYB := Aside0.mk (HVK.out a hal)
              obtain ⟨y, hy⟩ : ∃ y, y = lk.getD a 0 := ⟨_, rfl⟩
              rw [← hy] at r3 HYB
              have HYY := Aside0.mk hy
              clear hy
              by_cases hc : cT y x = 0
              · have dc : (cT y x == 0) = true := beq_iff_eq.mpr hc
                have HP2 := Aside0.mk dc
                clear hc
                have hwa : IntKind.i64.wrap ((a : Int) + 1) = ((a + 1 : Nat) : Int) := by rw [IntKind.wrap_i64]; omega
                go_wp2_with fail
                go_quiet (first | (go_at_call 38; exact Calls.quiet_of_same (tens_any y x _ HYB.out HXB.out)))
                go_wp2_with fail
                go_roundg (lk.length - (a + 1))
                case measure => have h9 := hq3.out; rw [← HAA.out] at h9; omega
                case rel =>
                  have hbs := HBV.out.step hlt (by rw [← HAA.out, ← HLK.out]; exact hal) (by rw [← HAA.out, ← HLK.out, ← HYY.out]; exact HP2.out)
                  rw [← HAA.out] at hbs
                  have hst := (HAI.out.drewN HJ.out nq).store HJ.out HN.out kk (a + 1)
                  refine ⟨ats2.set kk (a + 1), ⟨by rw [getD_setN _ (by rw [HBV.out.len]; exact hlt), if_pos rfl]⟩, ⟨hbs⟩, ⟨?_⟩⟩
                  simpa using hst
              · have dc : (cT y x == 0) = false := beq_eq_false_iff_ne.mpr hc
                have HP2 := Aside0.mk dc
                clear hc
                go_wp2_with fail
                go_quiet (first | (go_at_call 38; exact Calls.quiet_of_same (tens_any y x _ HYB.out HXB.out)))
                go_wp2_with fail
                go_roundg (L.length - (kk + 1))
                case measure => have := hq2.out; omega
                case rel =>
                  refine ⟨kk + 1, ats2, by go_num, by omega, ⟨rfl⟩, ⟨HAV.out.step HBV.out ?_⟩, ⟨HAI.out.drewN HJ.out _⟩⟩
                  rw [← HLK.out, ← HAA.out, drop_cons hal, List.dropWhile_cons, ← HYY.out, HP2.out]
                  rfl
            · have d1 : decide (a < lk.length) = false := decide_eq_false hal
              go_wp2_with fail
              go_quiet (fail)
              go_wp2_with fail
              go_roundg (L.length - (kk + 1))
              case measure => have := hq2.out; omega
              case rel =>
                refine ⟨kk + 1, ats2, by go_num, by omega, ⟨rfl⟩, ⟨HAV.out.step HBV.out ?_⟩, ⟨HAI.out.drewN HJ.out _⟩⟩
                rw [← HLK.out, ← HAA.out, List.drop_eq_nil_of_le (by omega)]
                rfl
        · obtain rfl : kk = L.length := by omega
          obtain ⟨b0, b1, b2, hlC⟩ := HFB.out wr HAI.out.low
          clear hlC
          obtain ⟨fn, tmps, assign, body, hy, hR⟩ := HY.out R k wr x HX.out HAI.out.j HAI.out.rr HAI.out.sz
          have HRY := Aside0.mk hR
          clear hR
          go_upto_region 12 with (fail)
          refine (wpIn_wide (n := n)).1 ?_
          gi_wp2
          refine ⟨fun h => by simp [Fence.wide] at h, HRY.out.mono ?_⟩
          rintro e C ⟨R', hfr, (⟨rfl, hj⟩ | ⟨rfl, hj⟩)⟩
          · have HAC := Aside0.mk (HAI.out.yielded hfr hj)
            clear hfr hj
            obtain ⟨c0, c1', c2', hlC⟩ := HFB.out C HAC.out.low
            clear hlC b0 b1 b2 HRY hy
            gi_wp2
            go_wp2_with (first
              | (go_at_call 72; refine (least_T gM c c2 (some ad) (some ⟨g2, 0, none⟩) L ats1 _ (HLM.out.below HAC.out.low) (C_own HAC.out.row) HAV.out.len HV.out).mono ?_; rintro e w2 ⟨rfl, q2, rfl⟩))
            go_roundg f'
            case measure => have := hq.out; omega
            case rel =>
              refine ⟨R', k + 1, f', ats1, rfl, ⟨rfl⟩, ⟨HXD.out.1, ?_, ?_, HAV.out.len⟩, ⟨HAC.out.drewN HJ.out _⟩⟩
              · rw [sufF_map HATL.out HAV.out.len _ (fun j hj => HAV.out.lo j hj hj)]
                exact HXD.out.2
              · rw [sufF_map HATL.out HAV.out.len _ (fun j hj => HAV.out.lo j hj hj)]
                exact HTL.out
          · have HEND := Aside0.mk (show (∀ q, R' q → W.heap.size ≤ q) ∧ Jx R' (k + 1) C from ⟨fun q hq => (hfr.new q hq).elim (HAI.out.rr q) (fun h9 => Nat.le_trans HAI.out.sz h9), hj⟩)
            clear hfr hj b0 b1 b2 HRY hy
            gi_wp2
            go_wp2_with fail
            first | go_end0 | ((try simp only [Exit.inBlock, Exit.then]); refine bodyPost_ret (results_none rfl _ _ _) rfl ?_)
            exact ⟨⟨_, rfl⟩, R', HEND.out.1, .inr ⟨k + 1, HXD.out.1, HEND.out.2⟩⟩
set_option maxHeartbeats 8000000 in
set_option maxRecDepth 100000 in
theorem all_S (n bx gM c f0 : Nat) (A : Option Addr) (L : List (List Int)) (w0 : World) (hbx : w0.cell? ⟨bx, 0, none⟩ = some (.pointer (some ⟨gM, 0, none⟩))) (hlm : LM w0 gM 67 A c L) (hv : ∀ l ∈ L, ∀ x ∈ l, 0 ≤ x ∧ x ≤ 1000000) (hL : L.length ≤ 1000000) (hLl : ∀ l ∈ L, l.length ≤ 1000000) (hf0 : totF L ≤ f0) :
    SeqX Fence.wide n Try.prog 71 #[.pointer (some ⟨bx, 0, none⟩)] (Value.int .i64) (allF cS f0 L) w0.heap.size w0 := by
  intro l J Jx W hW hN hJ hJx hY h0
  refine callsIn_wide.2 ?_
  have HBX := Aside0.mk hbx
  have HLM := Aside0.mk hlm
  have HV := Aside0.mk hv
  have HLL := Aside0.mk (show ∀ i, i < L.length → (L.getD i []).length ≤ 1000000 from fun i hi => hLl _ (List.mem_of_getElem? (show L[i]? = some (L.getD i []) by rw [List.getD_eq_getElem?_getD, List.getElem?_eq_getElem hi]; rfl)))
  have HVI := Aside0.mk (show ∀ i k, i < L.length → k < (L.getD i []).length → 0 ≤ (L.getD i []).getD k 0 ∧ (L.getD i []).getD k 0 ≤ 1000000 from fun i k hi hk => hv _ (List.mem_of_getElem? (show L[i]? = some (L.getD i []) by rw [List.getD_eq_getElem?_getD, List.getElem?_eq_getElem hi]; rfl)) _ (List.mem_of_getElem? (show (L.getD i [])[k]? = some ((L.getD i []).getD k 0) by rw [List.getD_eq_getElem?_getD (l := L.getD i []), List.getElem?_eq_getElem hk]; rfl)))
  have HFB := Aside0.mk (show ∀ X, Below w0.heap.size w0 X → X.cell? ⟨bx, 0, none⟩ = some (.pointer (some ⟨gM, 0, none⟩)) ∧ X.cell? ⟨gM, 0, none⟩ = some (.func (.func 67) #[] #[]) ∧ X.cell? ⟨gM, 1, none⟩ = some (.slice A L.length c) ∧ Kd.C kLL X A L.length L from fun X hX => by
    have h := HLM.out.below hX
    exact ⟨pw_cell_below hX HBX.out, (blk_cell h.hb 0).trans rfl, (blk_cell h.hb 1).trans rfl, h.hl⟩)
  have HJ := Aside0.mk hJ
  have HY := Aside0.mk hY
  have HN := Aside0.mk hN
  obtain ⟨xs, hxs⟩ : ∃ xs, xs = allF cS f0 L := ⟨_, rfl⟩
  rw [← hxs] at HY ⊢
  have HXS := Aside0.mk hxs
  obtain ⟨b0, b1, b2, _⟩ := HFB.out W hW
  have HW := Aside0.mk hW
  have H0 := Aside0.mk h0
  have HF0 := Aside0.mk hf0
  have hmx := Kd.C_max hlm.hl
  clear hbx hlm hv hLl hJ hJx hY h0 hN hW hxs hf0
  go_enter Try.func71, Try.ntmps71
  go_wp2_with (first
    | (at_make; refine Kd.R_make (Kd.int .i64) (w0 := W) W.heap.size 3 rfl (N := 15) rfl 70 (.tmp 14) (.tmp 14) rfl (L.length : Int) rfl rfl Try.underlying70 (.int .i64 0) 8 infoI64 rfl (by decide) (by omega) (0 : Int) (ok := fun _ => True) (okp := fun _ => False) rfl (fun _ h => h.elim) trivial (by omega) (by rw [Int.toNat_natCast]; omega) (Below.refl _ _) (Nat.le_refl _) ?_; intro v1 w1 h1 hb1 _ _; rw [Int.toNat_natCast, atI_zero] at h1; obtain ⟨A2, c2, rfl⟩ := Kd.R_slice h1; rw [show (atI (List.replicate L.length 0)).length = L.length by unfold atI; simp] at h1 ⊢; have HAI := Aside0.mk (show AI w0 W A2 L.length c2 J (fun _ => False) 0 (List.replicate L.length 0) w1 from ⟨R_reok64 h1 (fun _ _ h => h), HJ.out _ _ _ _ H0.out (Unt.of_below hb1), fun _ h => h.elim, HW.out.trans (hb1.mono HN.out), hb1.size⟩); obtain ⟨b0', b1', b2', _⟩ := HFB.out w1 HAI.out.low; clear h1 hb1)
    | (go_at_call 72; refine (least_S gM c c2 A A2 L (List.replicate L.length 0) _ (HLM.out.below HAI.out.low) (C_own HAI.out.row) (by simp) HV.out).mono ?_; rintro e w2 ⟨rfl, q2, rfl⟩))
  clear b0 b1 b2 b0' b1' b2'
  go_loopg [4] f0 (fun q v4 wr => ∃ (R : Nat → Prop) (k f : Nat) (ats : List Nat), v4 = .int .i64 (codeB (bestF cS (sufF L ats) L.length)) ∧ Aside0 (q = f) ∧ Aside0 (k ≤ xs.length ∧ xs.drop k = allF cS f (sufF L ats) ∧ totF (sufF L ats) ≤ f ∧ ats.length = L.length) ∧ Aside0 (AI w0 W A2 L.length c2 J R k ats wr))
  case atStart => exact ⟨_, 0, f0, List.replicate L.length 0, rfl, ⟨rfl⟩, ⟨Nat.zero_le _, by rw [tot_start, List.drop_zero]; exact HXS.out, by rw [tot_start]; exact HF0.out, by simp⟩, ⟨HAI.out.drewN HJ.out q2⟩⟩
  case round =>
    clear HAI HF0 HXS
    obtain ⟨R, k, f, ats, rfl, hq, HP, HAI⟩ := hrel
    obtain ⟨b0, b1, b2, hlC⟩ := HFB.out wr HAI.out.low
    have HLC := Aside0.mk hlC
    clear hlC
    cases hb : bestF cS (sufF L ats) L.length with
    | none =>
      have e0 : codeB none = -1 := rfl
      have HK := Aside0.mk (show k = xs.length by
        have h1 := HP.out.2.1
        rw [allF_none (by rw [sufF_len HP.out.2.2.2]; exact hb)] at h1
        have h2 := congrArg List.length h1
        rw [List.length_drop, List.length_nil] at h2
        have := HP.out.1
        omega)
      clear hb
      go_wp2_with fail
      first | go_end0 | ((try simp only [Exit.inBlock, Exit.then]); refine bodyPost_ret (results_none rfl _ _ _) rfl ?_)
      exact ⟨⟨_, rfl⟩, R, HAI.out.rr, .inl (by rw [← HK.out]; exact HAI.out.j)⟩
    | some pr =>
      obtain ⟨i, x⟩ := pr
      have e0 : codeB (some (i, x)) = (i : Int) := rfl
      obtain ⟨hiL, t9, hS9⟩ := bestF_at hb
      have hi0 : (0 : Int) ≤ (i : Int) := by omega
      have hi1 : (i : Int) < (L.length : Int) := by omega
      have hS8 := sufF_get HP.out.2.2.2 hiL
      rw [hS9] at hS8
      have htl := totF_lt (fun y => cS y x == 0) (sufF L ats) i x t9 hS9 (cS_refl x)
      obtain ⟨f', rfl⟩ : ∃ f', f = f' + 1 := ⟨f - 1, by have := HP.out.2.2.1; omega⟩
      have hal := HP.out.2.1
      rw [allF_some (by rw [sufF_len HP.out.2.2.2]; exact hb)] at hal
      have HX := Aside0.mk (show xs[k]? = some x by
        have := List.getElem?_drop (xs := xs) (i := k) (j := 0)
        rw [hal] at this
        simpa using this.symm)
      have HXD := Aside0.mk (show k + 1 ≤ xs.length ∧ xs.drop (k + 1) = allF cS f' ((sufF L ats).map (fun l => l.dropWhile (fun y => cS y x == 0))) from ⟨(List.getElem?_eq_some_iff.1 HX.out).1, by rw [← List.drop_drop, hal]; rfl⟩)
      have HTL := Aside0.mk (show totF ((sufF L ats).map (fun l => l.dropWhile (fun y => cS y x == 0))) ≤ f' by have := HP.out.2.2.1; omega)
      clear hal htl hb
      obtain ⟨ad, A3, c3, rfl, r1, hl3, hC3⟩ := at_LL HLC.out i hiL
      obtain ⟨ad2, rfl, r2⟩ := at_i64 (C_own HAI.out.row) i hiL
      rw [atI_get (by rw [HP.out.2.2.2]; exact hiL)] at r2
      have hka : ats.getD i 0 < (L.getD i []).length := by
        rcases Nat.lt_or_ge (ats.getD i 0) (L.getD i []).length with h | h
        · exact h
        · rw [List.drop_eq_nil_of_le h] at hS8
          cases hS8
      rw [drop_cons hka] at hS8
      have hxx : (L.getD i []).getD (ats.getD i 0) 0 = x := by injection hS8 with h _; exact h.symm
      obtain ⟨ad3, rfl, r3⟩ := at_i64 hC3 _ hka
      rw [hxx] at r3
      have HXB := Aside0.mk (show 0 ≤ x ∧ x ≤ 1000000 by rw [← hxx]; exact HVI.out i _ hiL hka)
      have HATL := Aside0.mk HP.out.2.2.2
      clear hS8 hS9 hxx hC3
      generalize ats.getD i 0 = ki at *
      generalize L.getD i [] = li at *
      have hki0 : (0 : Int) ≤ (ki : Int) := by omega
      have hki1 : (ki : Int) < (li.length : Int) := by omega
      obtain ⟨g2, e2⟩ : ∃ g2, ad2 = ⟨g2, 0, none⟩ := by
        have hlen : 0 < (atI ats).length := by unfold atI; rw [List.length_map, HATL.out]; omega
        obtain ⟨g2, cap, e, _⟩ := Kd.R_form HAI.out.row hlen
        injection e with e _ _
        injection e with e
        exact ⟨g2, e⟩
      subst e2
      rw [add_plain] at r2
      go_wp2_with fail
      go_quiet (fail)
      go_wp2_with fail
      generalize hWq : World.drewN _ _ = wq
      have HAQ := Aside0.mk (show AI w0 W (some ⟨g2, 0, none⟩) L.length c2 J R k ats wq by rw [← hWq]; exact HAI.out.drewN HJ.out _)
      clear hWq HAI r1 r2 r3 b0 b1 b2 HLC hka hki0 hki1 hi0 hi1 hiL hl3 e0
      obtain ⟨b0, b1, b2, hlC⟩ := HFB.out wq HAQ.out.low
      clear hlC
      go_wp2_with fail
      go_loopg [6, 7, 42] L.length (fun q v6 v7 v42 wr2 => ∃ (kk : Nat) (ats1 : List Nat), v42 = .int .i64 (kk : Int) ∧ kk ≤ L.length ∧ Aside0 (q = L.length - kk) ∧ Aside0 (AInv L (fun y => cS y x == 0) ats ats1 kk) ∧ Aside0 (AI w0 W (some ⟨g2, 0, none⟩) L.length c2 J R k ats1 wr2))
      case atStart => exact ⟨0, ats, rfl, Nat.zero_le _, ⟨rfl⟩, ⟨⟨HATL.out, fun j hj => absurd hj (Nat.not_lt_zero _), fun _ _ => rfl⟩⟩, HAQ⟩
      case round =>
        clear HAQ b0 b1 b2
        obtain ⟨kk, ats1, rfl, hkk, hq2, HAV, HAI⟩ := hrel
        by_cases hlt : kk < L.length
        · obtain ⟨b0, b1, b2, hlC⟩ := HFB.out wr HAI.out.low
          obtain ⟨adx, A3, c3, e3, r10, hl3, hC30⟩ := at_LL HLM.out.hl kk hlt
          obtain rfl : ad = adx := by injection e3
          have r1 := pw_cell_below HAI.out.low r10
          clear e3 hlC r10
          obtain ⟨lk, hlk⟩ : ∃ lk, lk = L.getD kk [] := ⟨_, rfl⟩
          rw [← hlk] at r1 hl3 hC30
          have HLK := Aside0.mk hlk
          have HC30 := Aside0.mk hC30
          have HVK := Aside0.mk (show ∀ q, q < lk.length → 0 ≤ lk.getD q 0 ∧ lk.getD q 0 ≤ 1000000 by rw [hlk]; exact fun q hq => HVI.out kk q hlt hq)
          have hLk : lk.length ≤ 1000000 := by rw [hlk]; exact HLL.out kk hlt
          clear hlk hC30
          go_wp2_with fail
          go_loopg [47] (lk.length - ats1.getD kk 0) (fun q v47 wr3 => ∃ (ats2 : List Nat), Aside0 (q = lk.length - ats2.getD kk 0) ∧ Aside0 (BInv L (fun y => cS y x == 0) ats1 ats2 kk) ∧ Aside0 (AI w0 W (some ⟨g2, 0, none⟩) L.length c2 J R k ats2 wr3))
          case atStart => exact ⟨ats1, ⟨rfl⟩, ⟨⟨HAV.out.len, rfl, fun _ _ => rfl⟩⟩, HAI⟩
          case round =>
            clear HAI b0 b1 b2 r1
            obtain ⟨ats2, hq3, HBV, HAI⟩ := hrel
            obtain ⟨b0, b1, b2, hlC⟩ := HFB.out wr HAI.out.low
            clear hlC
            obtain ⟨ad4, e4, r2⟩ := at_i64 (C_own HAI.out.row) kk hlt
            obtain rfl : (⟨g2, 0, none⟩ : Addr) = ad4 := by injection e4
            clear e4
            rw [add_plain, atI_get (by rw [HBV.out.len]; exact hlt)] at r2
            have hfz := (Kd.R_celln (0 : Int) HAI.out.row (kk : Int) (by omega) (by omega)).2
            rw [Int.toNat_natCast] at hfz
            have HA2 := Aside0.mk (show ∀ a, a = ats2.getD kk 0 → ats2.getD kk 0 = a from fun a h => h.symm)
            obtain ⟨a, ha⟩ : ∃ a, a = ats2.getD kk 0 := ⟨_, rfl⟩
            rw [← ha] at r2
            have HAA := Aside0.mk ha
            clear ha HA2
            have ha0 : (0 : Int) ≤ (a : Int) := by omega
            have hkk0 : (0 : Int) ≤ (kk : Int) := by omega
            have hkk1 : (kk : Int) < (L.length : Int) := by omega
            by_cases hal : a < lk.length
            · have ha1 : (a : Int) < (lk.length : Int) := by omega
              have d1 : decide (a < lk.length) = true := decide_eq_true hal
              obtain ⟨ad6, rfl, r3⟩ := at_i64 (Kd.C_below HC30.out HAI.out.low) a hal
              have HYB := Aside0.mk (HVK.out a hal)
              obtain ⟨y, hy⟩ : ∃ y, y = lk.getD a 0 := ⟨_, rfl⟩
              rw [← hy] at r3 HYB
              have HYY := Aside0.mk hy
              clear hy
              by_cases hc : cS y x = 0
              · have dc : (cS y x == 0) = true := beq_iff_eq.mpr hc
                have HP2 := Aside0.mk dc
                clear hc
                have hwa : IntKind.i64.wrap ((a : Int) + 1) = ((a + 1 : Nat) : Int) := by rw [IntKind.wrap_i64]; omega
                go_wp2_with fail
                go_quiet (first | (go_at_call 67; exact Calls.quiet_of_same (subs_any y x _ HYB.out HXB.out)))
                go_wp2_with fail
                go_roundg (lk.length - (a + 1))
                case measure => have h9 := hq3.out; rw [← HAA.out] at h9; omega
                case rel =>
                  have hbs := HBV.out.step hlt (by rw [← HAA.out, ← HLK.out]; exact hal) (by rw [← HAA.out, ← HLK.out, ← HYY.out]; exact HP2.out)
                  rw [← HAA.out] at hbs
                  have hst := (HAI.out.drewN HJ.out nq).store HJ.out HN.out kk (a + 1)
                  refine ⟨ats2.set kk (a + 1), ⟨by rw [getD_setN _ (by rw [HBV.out.len]; exact hlt), if_pos rfl]⟩, ⟨hbs⟩, ⟨?_⟩⟩
                  simpa using hst
              · have dc : (cS y x == 0) = false := beq_eq_false_iff_ne.mpr hc
                have HP2 := Aside0.mk dc
                clear hc
                go_wp2_with fail
                go_quiet (first | (go_at_call 67; exact Calls.quiet_of_same (subs_any y x _ HYB.out HXB.out)))
                go_wp2_with fail
                go_roundg (L.length - (kk + 1))
                case measure => have := hq2.out; omega
                case rel =>
                  refine ⟨kk + 1, ats2, by go_num, by omega, ⟨rfl⟩, ⟨HAV.out.step HBV.out ?_⟩, ⟨HAI.out.drewN HJ.out _⟩⟩
                  rw [← HLK.out, ← HAA.out, drop_cons hal, List.dropWhile_cons, ← HYY.out, HP2.out]
                  rfl
            · have d1 : decide (a < lk.length) = false := decide_eq_false hal
              go_wp2_with fail
              go_quiet (fail)
              go_wp2_with fail
              go_roundg (L.length - (kk + 1))
              case measure => have := hq2.out; omega
              case rel =>
                refine ⟨kk + 1, ats2, by go_num, by omega, ⟨rfl⟩, ⟨HAV.out.step HBV.out ?_⟩, ⟨HAI.out.drewN HJ.out _⟩⟩
                rw [← HLK.out, ← HAA.out, List.drop_eq_nil_of_le (by omega)]
                rfl
        · obtain rfl : kk = L.length := by omega
          obtain ⟨b0, b1, b2, hlC⟩ := HFB.out wr HAI.out.low
          clear hlC
          obtain ⟨fn, tmps, assign, body, hy, hR⟩ := HY.out R k wr x HX.out HAI.out.j HAI.out.rr HAI.out.sz
          have HRY := Aside0.mk hR
          clear hR
          go_upto_region 12 with (fail)
          refine (wpIn_wide (n := n)).1 ?_
          gi_wp2
          refine ⟨fun h => by simp [Fence.wide] at h, HRY.out.mono ?_⟩
          rintro e C ⟨R', hfr, (⟨rfl, hj⟩ | ⟨rfl, hj⟩)⟩
          · have HAC := Aside0.mk (HAI.out.yielded hfr hj)
            clear hfr hj
            obtain ⟨c0, c1', c2', hlC⟩ := HFB.out C HAC.out.low
            clear hlC b0 b1 b2 HRY hy
            gi_wp2
            go_wp2_with (first
              | (go_at_call 72; refine (least_S gM c c2 (some ad) (some ⟨g2, 0, none⟩) L ats1 _ (HLM.out.below HAC.out.low) (C_own HAC.out.row) HAV.out.len HV.out).mono ?_; rintro e w2 ⟨rfl, q2, rfl⟩))
            go_roundg f'
            case measure => have := hq.out; omega
            case rel =>
              refine ⟨R', k + 1, f', ats1, rfl, ⟨rfl⟩, ⟨HXD.out.1, ?_, ?_, HAV.out.len⟩, ⟨HAC.out.drewN HJ.out _⟩⟩
              · rw [sufF_map HATL.out HAV.out.len _ (fun j hj => HAV.out.lo j hj hj)]
                exact HXD.out.2
              · rw [sufF_map HATL.out HAV.out.len _ (fun j hj => HAV.out.lo j hj hj)]
                exact HTL.out
          · have HEND := Aside0.mk (show (∀ q, R' q → W.heap.size ≤ q) ∧ Jx R' (k + 1) C from ⟨fun q hq => (hfr.new q hq).elim (HAI.out.rr q) (fun h9 => Nat.le_trans HAI.out.sz h9), hj⟩)
            clear hfr hj b0 b1 b2 HRY hy
            gi_wp2
            go_wp2_with fail
            first | go_end0 | ((try simp only [Exit.inBlock, Exit.then]); refine bodyPost_ret (results_none rfl _ _ _) rfl ?_)
            exact ⟨⟨_, rfl⟩, R', HEND.out.1, .inr ⟨k + 1, HXD.out.1, HEND.out.2⟩⟩
end Go.Proofs.Ytldiginkmmlojaa
