/- The code's directory: Create, Rename, Unlink. -/
import Derived.Test.YtpnbjpkdbiiogaaDiH
namespace Go.Proofs.Ytpnbjpkdbiiogaa
set_option linter.unusedVariables false
open Go.RowKit Go.Maps Go.Proofs.YtpnbjpkdbiiogaaW.PrintWords
attribute [local go_sem] mx2 mn2 mxTwo mnTwo

/-- A map is turned: a row stays. -/
theorem R_turn {α : Type} {d : Kd α} {e : Nat} {W W1 : World} {b : Nat} {x : Nat → Prop} {v : Value} {xs : List α} {P : Program} {k : TypeId} {m n : Nat} {f : Lit → Option Value} (h : d.R e W b x v xs) (hm : MV W P k m n f) (ht : KeepBut W W1 m none) : d.R e W1 b x v xs :=
  Kd.R_mono (Kd.R_step (Kd.R_bound h) (fun q ho hlt => by
    obtain ⟨_, _, _, t, _, cells, hc⟩ := ho
    exact ht.2 q hlt (fun e => hm.ne hc e.symm) (by simp))) (fun q hq => hq.1)
section
variable {W W1 : World} {b g mn ms N : Nat} {vo v1 : Value} {now safe now1 : List DN} {ops : List DOp} {o : DOp}
theorem DI.turn (h : DI W b g mn ms vo N now safe ops) (ht : Turn W W1 mn) (hn : MV W1 Try.prog 9 mn (N + 1) (mapF now1)) : DI W1 b g mn ms vo (N + 1) now1 safe ops :=
  ⟨(ht.k.2 g (blk_lt h.hb) (fun e => h.hn.ne h.hb e.symm) (by simp)).trans h.hb, hn, (h.hs.move (ht.k.2 ms h.hs.lt (Ne.symm h.ne) (by simp))).mono (Nat.le_succ _), R_turn h.ho h.hn ht.k, h.hg, h.hmn, h.hms, h.ne⟩
theorem DI.addOp (h : DI W b g mn ms vo N now safe ops) (ho : Kd.R kDop 149 W1 b (fun _ => True) v1 (ops ++ [o])) (hg : W.grownBy W1 vo.ownBlock) : DI (W1.setCell ⟨g, 2, none⟩ v1) b g mn ms v1 N now safe (ops ++ [o]) := by
  have hb := blk_grown h.hb hg (Kd.R_ne h.ho h.hb (by decide))
  have hvo : ∀ k, vo.ownBlock = some k → ∃ cells, W.heap[k]? = some (.cells cells 149 (0, 0)) := fun k hk => own_typed h.ho.2.choose_spec.1 k hk
  have hmv : ∀ (m : Nat) (f : Lit → Option Value), MV W Try.prog 9 m N f → MV (W1.setCell ⟨g, 2, none⟩ v1) Try.prog 9 m N f := by
    intro m f hm
    have h1 : MV W1 Try.prog 9 m N f := hm.move (hg.block m hm.lt (fun e => by
      obtain ⟨c, hc⟩ := hvo m e.symm
      exact hm.ne hc rfl))
    exact h1.setCell (h1.ne hb) _
  exact ⟨blk_put hb 2 _ rfl, hmv _ _ h.hn, hmv _ _ h.hs, dfarO ho hb (by decide) _, h.hg, h.hmn, h.hms, h.ne⟩
end
set_option maxHeartbeats 1000000 in
set_option maxRecDepth 100000 in
theorem ddone_any (b g mn ms N : Nat) (vo : Value) (now safe : List DN) (ops : List DOp) (kd : Int) (sa sb : ByteArray) (id : Int) (w : World) (h : DI w b g mn ms vo N now safe ops) (hN : N < 1000000) (hlo : ops.length ≤ 100000) (hsa : sa.size ≤ maxLen) (hsb : sb.size ≤ maxLen) :
    Calls Try.prog 102 #[.pointer (some ⟨g, 0, none⟩), (.agg #[.int .i64 kd, .string sa, .string sb, .int .i64 id])] w fun e w' => e = .returned (.int .i64 0) ∧ ∃ vo', DI w' b g mn ms vo' (N + 1) (didL now ⟨kd, sa, sb, id⟩) safe (ops ++ [⟨kd, sa, sb, id⟩]) ∧ (vo'.ownBlock = vo.ownBlock ∨ ∃ k, vo'.ownBlock = some k ∧ w.heap.size ≤ k) ∧ Keep3 w w' g (some mn) vo.ownBlock ∧ Below b w w' := by
  have hbw : b ≤ w.heap.size := Nat.le_trans h.hg (Nat.le_of_lt (blk_lt h.hb))
  have H := Aside0.mk h
  have HSA := Aside0.mk hsa
  have HSB := Aside0.mk hsb
  clear h hsa hsb
  go_enter Try.func102, Try.ntmps102
  go_wp2_with fail
  obtain ⟨W1, hW1⟩ : ∃ W1, W1 = w.alloc (.cells #[.int .i64 kd, .string sa, .string sb, .int .i64 id] 149) := ⟨_, rfl⟩
  have hnb : W1.heap[w.heap.size]? = some (.cells #[.int .i64 kd, .string sa, .string sb, .int .i64 id] 149 (0, 0)) := by rw [hW1]; exact blk_new _ _
  have hb1 : Below w.heap.size w W1 := by rw [hW1]; exact below_alloc (Below.refl _ _) _
  rw [← hW1]
  obtain ⟨p3, hp3⟩ : ∃ p3, p3 = w.heap.size := ⟨_, rfl⟩
  rw [← hp3] at hnb ⊢
  have t0 := (blk_cell hnb 0).trans (rfl : _ = some (Value.int .i64 kd))
  have t1 := (blk_cell hnb 1).trans (rfl : _ = some (Value.string sa))
  have t2 := (blk_cell hnb 2).trans (rfl : _ = some (Value.string sb))
  have t3 := (blk_cell hnb 3).trans (rfl : _ = some (Value.int .i64 id))
  have hs1 := H.out.below hb1
  have hgp : g ≠ p3 := by have := blk_lt H.out.hb; omega
  have hmp : p3 ≠ mn := fun e => hs1.hn.ne hnb e.symm
  have s0 := (blk_cell hs1.hb 0).trans (rfl : _ = some (Value.map (some mn)))
  have HS := Aside0.mk hs1
  have HB1 := Aside0.mk hb1
  have HNB := Aside0.mk hnb
  clear hnb hb1 hp3 hW1 hs1
  go_region_held3 (fun w' => w'.cell? ⟨g, 0, none⟩ = some (.map (some mn)) ∧ w'.cell? ⟨p3, 0, none⟩ = some (.int .i64 kd) ∧ w'.cell? ⟨p3, 1, none⟩ = some (.string sa) ∧ w'.cell? ⟨p3, 2, none⟩ = some (.string sb) ∧ w'.cell? ⟨p3, 3, none⟩ = some (.int .i64 id)) (first | with_reducible exact ⟨s0, t0, t1, t2, t3⟩ | exact ⟨s0, t0, t1, t2, t3⟩) (first
    | (go_at_call 98; refine (ddo_any mn N now kd sa sb id _ (MV.drew HS.out.hn) hN HSA.out HSB.out).mono ?_; rintro e w5 ⟨rfl, hm5, ht5⟩; have hs5 := (HS.out.below (below_drew1 (Below.refl _ _))).turn ht5 hm5; have hn5 := (ht5.k.2 p3 (blk_lt (blk_drew HNB.out)) hmp (by simp)).trans (blk_drew HNB.out); replace s0 := (blk_cell hs5.hb 0).trans (rfl : _ = some (Value.map (some mn))); replace t0 := (blk_cell hn5 0).trans (rfl : _ = some (Value.int .i64 kd)); replace t1 := (blk_cell hn5 1).trans (rfl : _ = some (Value.string sa)); replace t2 := (blk_cell hn5 2).trans (rfl : _ = some (Value.string sb)); replace t3 := (blk_cell hn5 3).trans (rfl : _ = some (Value.int .i64 id)); have HS5 := Aside0.mk hs5; have HN5 := Aside0.mk hn5; have HT5 := Aside0.mk ht5; clear hm5 ht5 hs5 hn5))
  all_goals
    first | go_end0 | skip
    go_wp2_with fail
    obtain ⟨N2, hN2⟩ : ∃ N2, N2 = didL now ⟨kd, sa, sb, id⟩ := ⟨_, rfl⟩
    rw [← hN2] at HS5
    have hs6 := HS5.out
    have hk6 : Keep3 w w5 g (some mn) vo.ownBlock := ((Keep3.refl w g (some mn) vo.ownBlock).step (q1 := none) (q2 := none) (W' := W1.drew) HB1.out.size (fun i hi _ _ _ => HB1.out.block i hi) (.inr (.inl rfl)) (.inr (.inl rfl))).step (q1 := some mn) (q2 := none) (W' := w5) HT5.out.k.1 (fun i hi _ h1 _ => HT5.out.k.2 i hi (fun e => h1 (by rw [e])) (by simp)) (.inl rfl) (.inr (.inl rfl))
    have hb6 : Below b w w5 := ((HB1.out.mono hbw).trans (below_drew1 (Below.refl _ _))).trans (HT5.out.l b hs6.hmn (Nat.le_trans hbw HB1.out.size))
    obtain ⟨A11, c11, hvo⟩ := Kd.R_slice hs6.ho
    have s2 := (blk_cell hs6.hb 2).trans (rfl : _ = some vo)
    rw [hvo] at s2
    have z2 := blk_frozen hs6.hb 2
    have s2a := cell_al (.cells #[.int .i64 kd, .string sa, .string sb, .int .i64 id] 149) s2
    have hoA : Kd.R kDop 149 w5 b (fun _ => True) (.slice A11 ops.length c11) ops := hvo ▸ hs6.ho
    have HG0 := Aside0.mk (Kd.R_ne hoA hs6.hb (by decide))
    have hbs : b ≤ w5.heap.size := Nat.le_trans hs6.hg (Nat.le_of_lt (blk_lt hs6.hb))
    have HOA := Aside0.mk hoA
    have HVO := Aside0.mk hvo
    have HS6 := Aside0.mk hs6
    have HK6 := Aside0.mk hk6
    have HB6 := Aside0.mk hb6
    clear hs6 hvo hoA hk6 hb6 HS5 HT5 HS HB1 HNB HN5
    go_region_law ((refine Kd.R_append_step kDop (W := w5.drew) (w0 := w5.drew) b (by rfl) (.tmp 15) (.tmp 17) 86 149 (.agg #[(.int .i64 0), (.string ⟨#[]⟩), (.string ⟨#[]⟩), (.int .i64 0)]) 48 rfl Try.underlying86 infoDop rfl (by decide) (by omega) (.slice A11 ops.length c11) ops ⟨kd, sa, sb, id⟩ [.int .i64 kd, .string sa, .string sb, .int .i64 id] (fun _ => True) (fun _ => False) (by rfl) (by rfl) (kDop_mkM _ _ _ ⟨kd, sa, sb, id⟩) (fun _ h => h.elim) (fun _ _ => trivial) (Kd.R_drew HOA.out) (Below.refl _ _) hbs (by omega) ?_); intro v7 w7 ho7 hl7 hg7 hat7; obtain ⟨g7, c7', e7, _, _, _⟩ := Kd.R_form ho7 (by simp); rw [List.length_append, List.length_singleton] at e7; subst e7; have hb7 := blk_grown (blk_drew HS6.out.hb) hg7 HG0.out; have s7 := (blk_cell hb7 2).trans (rfl : _ = some vo); rw [HVO.out] at s7; have z7 := blk_frozen hb7 2; have HO7 := Aside0.mk ho7; have HL7 := Aside0.mk hl7; have HG7 := Aside0.mk hg7; have HAT7 := Aside0.mk hat7; clear ho7 hl7 hg7 hat7 hb7)
    all_goals
      go_wp2_with fail
      go_ret
      have hg7 := HG7.out
      have hat7 := HAT7.out
      rw [← HVO.out] at hg7 hat7
      have hfin := (HS6.out.below (below_drew1 (Below.refl _ _))).addOp HO7.out hg7
      rw [hN2] at hfin
      exact ⟨rfl, _, hfin, hat7.imp (fun h => h) (fun ⟨k, e, hk⟩ => ⟨k, e, Nat.le_trans HK6.out.1 hk⟩), (HK6.out.step (q1 := none) (q2 := vo.ownBlock) (W' := w7) hg7.size (fun i hi _ _ h2 => hg7.block i hi h2) (.inr (.inl rfl)) (.inl rfl)).step (q1 := none) (q2 := none) (by rw [setsz]; exact Nat.le_refl _) (fun i hi hne _ _ => Below.heap_setCell _ ⟨g, 2, none⟩ _ i hne) (.inr (.inl rfl)) (.inr (.inl rfl)), ((HB6.out.trans (below_drew1 (Below.refl _ _))).trans HL7.out).setCell (p := ⟨g, 2, none⟩) HS6.out.hg _⟩
/-- What the code keeps of a call. -/
def nrm (o : DOp) : DOp := if o.kd = 0 then ⟨0, o.a, ⟨#[]⟩, o.id⟩ else if o.kd = 1 then ⟨1, o.a, o.b, 0⟩ else ⟨2, o.a, ⟨#[]⟩, 0⟩
theorem did_nrm (l : List DN) (o : DOp) : didL l (nrm o) = didL l o := by
  unfold nrm
  by_cases h0 : o.kd = 0
  · rw [if_pos h0]; unfold didL; simp [h0]
  · rw [if_neg h0]
    by_cases h1 : o.kd = 1
    · rw [if_pos h1]; unfold didL; simp [h1]
    · rw [if_neg h1]; unfold didL; simp [h0, h1]
theorem empty_ok : (⟨#[]⟩ : ByteArray).size ≤ maxLen := by decide
end Go.Proofs.Ytpnbjpkdbiiogaa
