/- The code's directory: Create, Rename, Unlink. -/
import Derived.Test.YtpnbjpkdbiiogaaGreatJd
import Derived.WalkSpells
import Derived.Shelf.SlIter.Nil
import Derived.Shelf.SlIterI.Nil
import Derived.Shelf.SlIterI.Sorted
import Derived.Shelf.SortM.Plain
import Derived.Shelf.SortM.SortNone
import Derived.Shelf.SlMaps.Clone
import Derived.Ground.GgzProg
import Derived.Ground.SlgmProg
import Derived.Ground.SlmcProg
import Derived.Test.YtpnbjpkdbiiogaaGreatProg
import Derived.Test.YtpnbjpkdbiiogaaGreatJb
namespace Go.Proofs.YtpnbjpkdbiiogaaGreat
set_option linter.unusedVariables false
open Go.RowKit Go.Maps Go.Proofs.YtpnbjpkdbiiogaaGreatW.PrintWords
attribute [local go_sem] mx2 mn2 mxTwo mnTwo

/-- A map is turned: a row stays. -/
theorem R_turn {α : Type} {d : Kd α} {e : Nat} {W W1 : World} {b : Nat} {x : Nat → Prop} {v : Value} {xs : List α} {P : Program} {k : TypeId} {m n : Nat} {f : Lit → Option Value} (h : d.R e W b x v xs) (hm : MV W P k m n f) (ht : KeepBut W W1 m none) : d.R e W1 b x v xs :=
  Kd.R_mono (Kd.R_step (Kd.R_bound h) (fun q ho hlt => by
    obtain ⟨_, _, _, t, _, cells, hc⟩ := ho
    exact ht.2 q hlt (fun e => hm.ne hc e.symm) (by simp))) (fun q hq => hq.1)
section
variable {W W1 : World} {b g mn ms N : Nat} {vo v1 : Value} {now safe now1 : List DN} {ops : List DOp} {o : DOp}
theorem DI.turn (h : DI W b g mn ms vo N now safe ops) (ht : Turn W W1 mn) (hn : MV W1 Tryz.prog 9 mn (N + 1) (mapF now1)) : DI W1 b g mn ms vo (N + 1) now1 safe ops :=
  ⟨(ht.k.2 g (blk_lt h.hb) (fun e => h.hn.ne h.hb e.symm) (by simp)).trans h.hb, hn, (h.hs.move (ht.k.2 ms h.hs.lt (Ne.symm h.ne) (by simp))).mono (Nat.le_succ _), R_turn h.ho h.hn ht.k, h.hg, h.hmn, h.hms, h.ne⟩
theorem DI.addOp (h : DI W b g mn ms vo N now safe ops) (ho : Kd.R kDop 122 W1 b (fun _ => True) v1 (ops ++ [o])) (hg : W.grownBy W1 vo.ownBlock) : DI (W1.setCell ⟨g, 2, none⟩ v1) b g mn ms v1 N now safe (ops ++ [o]) := by
  have hb := blk_grown h.hb hg (Kd.R_ne h.ho h.hb (by decide))
  have hvo : ∀ k, vo.ownBlock = some k → ∃ cells, W.heap[k]? = some (.cells cells 122 (0, 0)) := fun k hk => own_typed h.ho.2.choose_spec.1 k hk
  have hmv : ∀ (m : Nat) (f : Lit → Option Value), MV W Tryz.prog 9 m N f → MV (W1.setCell ⟨g, 2, none⟩ v1) Tryz.prog 9 m N f := by
    intro m f hm
    have h1 : MV W1 Tryz.prog 9 m N f := hm.move (hg.block m hm.lt (fun e => by
      obtain ⟨c, hc⟩ := hvo m e.symm
      exact hm.ne hc rfl))
    exact h1.setCell (h1.ne hb) _
  exact ⟨blk_put hb 2 _ rfl, hmv _ _ h.hn, hmv _ _ h.hs, dfarO ho hb (by decide) _, h.hg, h.hmn, h.hms, h.ne⟩
end
set_option maxHeartbeats 1000000 in
set_option maxRecDepth 100000 in
theorem ddone_any (b g mn ms N : Nat) (vo : Value) (now safe : List DN) (ops : List DOp) (kd : Int) (sa sb : ByteArray) (id : Int) (w : World) (h : DI w b g mn ms vo N now safe ops) (hN : N < 1000000) (hlo : ops.length ≤ 100000) (hsa : sa.size ≤ maxLen) (hsb : sb.size ≤ maxLen) :
    Calls Tryz.prog 88 #[.pointer (some ⟨g, 0, none⟩), (.agg #[.int .i64 kd, .string sa, .string sb, .int .i64 id])] w fun e w' => e = .returned (.int .i64 0) ∧ ∃ vo', DI w' b g mn ms vo' (N + 1) (didL now ⟨kd, sa, sb, id⟩) safe (ops ++ [⟨kd, sa, sb, id⟩]) ∧ (vo'.ownBlock = vo.ownBlock ∨ ∃ k, vo'.ownBlock = some k ∧ w.heap.size ≤ k) ∧ Keep3 w w' g (some mn) vo.ownBlock ∧ Below b w w' := by
  have hbw : b ≤ w.heap.size := Nat.le_trans h.hg (Nat.le_of_lt (blk_lt h.hb))
  have H := Aside0.mk h
  have HSA := Aside0.mk hsa
  have HSB := Aside0.mk hsb
  clear h hsa hsb
  go_enter Tryz.func88, Tryz.ntmps88
  go_wp2_with fail
  obtain ⟨W1, hW1⟩ : ∃ W1, W1 = w.alloc (.cells #[.int .i64 kd, .string sa, .string sb, .int .i64 id] 122) := ⟨_, rfl⟩
  have hnb : W1.heap[w.heap.size]? = some (.cells #[.int .i64 kd, .string sa, .string sb, .int .i64 id] 122 (0, 0)) := by rw [hW1]; exact blk_new _ _
  have hb1 : Below w.heap.size w W1 := by rw [hW1]; exact below_alloc (Below.refl _ _) _
  rw [← hW1]
  obtain ⟨p3, hp3⟩ : ∃ p3, p3 = w.heap.size := ⟨_, rfl⟩
  rw [← hp3] at hnb ⊢
  have t0 := (blk_cell hnb 0).trans (rfl : _ = some (Value.int .i64 kd))
  have t1 := (blk_cell hnb 1).trans (rfl : _ = some (Value.string sa))
  have t2 := (blk_cell hnb 2).trans (rfl : _ = some (Value.string sb))
  have t3 := (blk_cell hnb 3).trans (rfl : _ = some (Value.int .i64 id))
  have hs1 := H.out.below hb1
  have hgp : g ≠ p3 := by have := blk_lt H.out.hb; omega
  have hmp : p3 ≠ mn := fun e => hs1.hn.ne hnb e.symm
  have s0 := (blk_cell hs1.hb 0).trans (rfl : _ = some (Value.map (some mn)))
  have HS := Aside0.mk hs1
  have HB1 := Aside0.mk hb1
  have HNB := Aside0.mk hnb
  clear hnb hb1 hp3 hW1 hs1
  go_region_held3 (fun w' => w'.cell? ⟨g, 0, none⟩ = some (.map (some mn)) ∧ w'.cell? ⟨p3, 0, none⟩ = some (.int .i64 kd) ∧ w'.cell? ⟨p3, 1, none⟩ = some (.string sa) ∧ w'.cell? ⟨p3, 2, none⟩ = some (.string sb) ∧ w'.cell? ⟨p3, 3, none⟩ = some (.int .i64 id)) (first | with_reducible exact ⟨s0, t0, t1, t2, t3⟩ | exact ⟨s0, t0, t1, t2, t3⟩) (first
    | (go_at_call 76; refine (ddo_any mn N now kd sa sb id _ (MV.drew HS.out.hn) hN HSA.out HSB.out).mono ?_; rintro e w5 ⟨rfl, hm5, ht5⟩; have hs5 := (HS.out.below (below_drew1 (Below.refl _ _))).turn ht5 hm5; have hn5 := (ht5.k.2 p3 (blk_lt (blk_drew HNB.out)) hmp (by simp)).trans (blk_drew HNB.out); replace s0 := (blk_cell hs5.hb 0).trans (rfl : _ = some (Value.map (some mn))); replace t0 := (blk_cell hn5 0).trans (rfl : _ = some (Value.int .i64 kd)); replace t1 := (blk_cell hn5 1).trans (rfl : _ = some (Value.string sa)); replace t2 := (blk_cell hn5 2).trans (rfl : _ = some (Value.string sb)); replace t3 := (blk_cell hn5 3).trans (rfl : _ = some (Value.int .i64 id)); have HS5 := Aside0.mk hs5; have HN5 := Aside0.mk hn5; have HT5 := Aside0.mk ht5; clear hm5 ht5 hs5 hn5))
  all_goals
    first | go_end0 | skip
    go_wp2_with fail
    obtain ⟨N2, hN2⟩ : ∃ N2, N2 = didL now ⟨kd, sa, sb, id⟩ := ⟨_, rfl⟩
    rw [← hN2] at HS5
    have hs6 := HS5.out
    have hk6 : Keep3 w w5 g (some mn) vo.ownBlock := ((Keep3.refl w g (some mn) vo.ownBlock).step (q1 := none) (q2 := none) (W' := W1.drew) HB1.out.size (fun i hi _ _ _ => HB1.out.block i hi) (.inr (.inl rfl)) (.inr (.inl rfl))).step (q1 := some mn) (q2 := none) (W' := w5) HT5.out.k.1 (fun i hi _ h1 _ => HT5.out.k.2 i hi (fun e => h1 (by rw [e])) (by simp)) (.inl rfl) (.inr (.inl rfl))
    have hb6 : Below b w w5 := ((HB1.out.mono hbw).trans (below_drew1 (Below.refl _ _))).trans (HT5.out.l b hs6.hmn (Nat.le_trans hbw HB1.out.size))
    obtain ⟨A11, c11, hvo⟩ := Kd.R_slice hs6.ho
    have s2 := (blk_cell hs6.hb 2).trans (rfl : _ = some vo)
    rw [hvo] at s2
    have z2 := blk_frozen hs6.hb 2
    have s2a := cell_al (.cells #[.int .i64 kd, .string sa, .string sb, .int .i64 id] 122) s2
    have hoA : Kd.R kDop 122 w5 b (fun _ => True) (.slice A11 ops.length c11) ops := hvo ▸ hs6.ho
    have HG0 := Aside0.mk (Kd.R_ne hoA hs6.hb (by decide))
    have hbs : b ≤ w5.heap.size := Nat.le_trans hs6.hg (Nat.le_of_lt (blk_lt hs6.hb))
    have HOA := Aside0.mk hoA
    have HVO := Aside0.mk hvo
    have HS6 := Aside0.mk hs6
    have HK6 := Aside0.mk hk6
    have HB6 := Aside0.mk hb6
    clear hs6 hvo hoA hk6 hb6 HS5 HT5 HS HB1 HNB HN5
    go_region_law ((refine Kd.R_append_step kDop (W := w5.drew) (w0 := w5.drew) b (by rfl) (.tmp 15) (.tmp 17) 97 122 (.agg #[(.int .i64 0), (.string ⟨#[]⟩), (.string ⟨#[]⟩), (.int .i64 0)]) 48 rfl Tryz.underlying97 infoDop rfl (by decide) (by omega) (.slice A11 ops.length c11) ops ⟨kd, sa, sb, id⟩ [.int .i64 kd, .string sa, .string sb, .int .i64 id] (fun _ => True) (fun _ => False) (by rfl) (by rfl) (kDop_mkM _ _ _ ⟨kd, sa, sb, id⟩) (fun _ h => h.elim) (fun _ _ => trivial) (Kd.R_drew HOA.out) (Below.refl _ _) hbs (by omega) ?_); intro v7 w7 ho7 hl7 hg7 hat7; obtain ⟨g7, c7', e7, _, _, _⟩ := Kd.R_form ho7 (by simp); rw [List.length_append, List.length_singleton] at e7; subst e7; have hb7 := blk_grown (blk_drew HS6.out.hb) hg7 HG0.out; have s7 := (blk_cell hb7 2).trans (rfl : _ = some vo); rw [HVO.out] at s7; have z7 := blk_frozen hb7 2; have HO7 := Aside0.mk ho7; have HL7 := Aside0.mk hl7; have HG7 := Aside0.mk hg7; have HAT7 := Aside0.mk hat7; clear ho7 hl7 hg7 hat7 hb7)
    all_goals
      go_wp2_with fail
      go_ret
      have hg7 := HG7.out
      have hat7 := HAT7.out
      rw [← HVO.out] at hg7 hat7
      have hfin := (HS6.out.below (below_drew1 (Below.refl _ _))).addOp HO7.out hg7
      rw [hN2] at hfin
      exact ⟨rfl, _, hfin, hat7.imp (fun h => h) (fun ⟨k, e, hk⟩ => ⟨k, e, Nat.le_trans HK6.out.1 hk⟩), (HK6.out.step (q1 := none) (q2 := vo.ownBlock) (W' := w7) hg7.size (fun i hi _ _ h2 => hg7.block i hi h2) (.inr (.inl rfl)) (.inl rfl)).step (q1 := none) (q2 := none) (by rw [setsz]; exact Nat.le_refl _) (fun i hi hne _ _ => Below.heap_setCell _ ⟨g, 2, none⟩ _ i hne) (.inr (.inl rfl)) (.inr (.inl rfl)), ((HB6.out.trans (below_drew1 (Below.refl _ _))).trans HL7.out).setCell (p := ⟨g, 2, none⟩) HS6.out.hg _⟩
/-- What the code keeps of a call. -/
def nrm (o : DOp) : DOp := if o.kd = 0 then ⟨0, o.a, ⟨#[]⟩, o.id⟩ else if o.kd = 1 then ⟨1, o.a, o.b, 0⟩ else ⟨2, o.a, ⟨#[]⟩, 0⟩
theorem did_nrm (l : List DN) (o : DOp) : didL l (nrm o) = didL l o := by
  unfold nrm
  by_cases h0 : o.kd = 0
  · rw [if_pos h0]; unfold didL; simp [h0]
  · rw [if_neg h0]
    by_cases h1 : o.kd = 1
    · rw [if_pos h1]; unfold didL; simp [h1]
    · rw [if_neg h1]; unfold didL; simp [h0, h1]
theorem empty_ok : (⟨#[]⟩ : ByteArray).size ≤ maxLen := by decide
end Go.Proofs.YtpnbjpkdbiiogaaGreat
/- The code's directory: Create, Rename, Unlink. -/
namespace Go.Proofs.YtpnbjpkdbiiogaaGreat
set_option linter.unusedVariables false
open Go.RowKit Go.Maps Go.Proofs.YtpnbjpkdbiiogaaGreatW.PrintWords
attribute [local go_sem] mx2 mn2 mxTwo mnTwo


def doOpsI (now : List DN) (ops : List DOp) (o : DOp) : List DOp := if doCode now o = 0 then ops ++ [nrm o] else ops
theorem DI.mono {W : World} {b g mn ms N : Nat} {vo : Value} {now safe : List DN} {ops : List DOp} (h : DI W b g mn ms vo N now safe ops) : DI W b g mn ms vo (N + 1) now safe ops := ⟨h.hb, h.hn.mono (Nat.le_succ _), h.hs.mono (Nat.le_succ _), h.ho, h.hg, h.hmn, h.hms, h.ne⟩
set_option maxHeartbeats 400000 in
set_option maxRecDepth 100000 in
theorem dcreate_any (b g mn ms N : Nat) (vo : Value) (now safe : List DN) (ops : List DOp) (w : World) (h : DI w b g mn ms vo N now safe ops) (hN : N < 1000000) (hlo : ops.length ≤ 100000) (sa sb : ByteArray) (id : Int) (hsa : sa.size ≤ maxLen) : Calls Tryz.prog 58 #[.pointer (some ⟨g, 0, none⟩), .string sa, .int .i64 id] w (fun e w' => e = .returned (.int .i64 (doCode now ⟨0, sa, sb, id⟩)) ∧ ∃ vo', DI w' b g mn ms vo' (N + 1) (doNow now ⟨0, sa, sb, id⟩) safe (doOpsI now ops ⟨0, sa, sb, id⟩) ∧ (vo'.ownBlock = vo.ownBlock ∨ ∃ k, vo'.ownBlock = some k ∧ w.heap.size ≤ k) ∧ Keep3 w w' g (some mn) vo.ownBlock ∧ Below b w w') := by
  have HSA := Aside0.mk hsa
  unfold doNow doOpsI doCode
  dsimp only
  cases hg : getN now sa with
  | some y =>
    rw [if_pos ⟨rfl, rfl⟩]
    have HV := Aside0.mk (show (mapF now (kS sa)).getD (Value.int .i64 0) = .int .i64 y ∧ (mapF now (kS sa)).isSome = true by rw [mapF_at, hg]; exact ⟨rfl, rfl⟩)
    have hbw : b ≤ w.heap.size := Nat.le_trans h.hg (Nat.le_of_lt (blk_lt h.hb))
    have s0 := (blk_cell h.hb 0).trans (rfl : _ = some (Value.map (some mn)))
    have H := Aside0.mk h
    have HM := Aside0.mk h.hn
    have HKA := Aside0.mk (Go.WideMaps.keyOf_string_mk (P := Tryz.prog) Tryz.underlying9 hsa)
    have qn : ∀ (w : World) (r : Option Nat), (binOp .eql 96 (.map r) (.map none)).run Tryz.prog w = .ok (.bool r.isNone) w := fun w r => run_eql_map_nil w 96 9 3 r Tryz.underlying96
    clear h
    clear hg hsa
    go_enter Tryz.func58, Tryz.ntmps58
    go_wp2_with (at_lookup; refine mv_lookup_ok rfl _ _ 96 rfl 9 3 lawS Tryz.underlying96 (zeroI _) mn N (mapF now) rfl HM.out _ (kS sa) rfl HKA.out (.int .i64 y) (true) HV.out.1 HV.out.2 ?_)
    go_ret
    first
    | exact ⟨rfl, _, H.out.mono, .inl rfl, Keep3.refl _ _ _ _, Below.refl _ _⟩
    | exact ⟨rfl, _, HD5.out.mono, .inl rfl, (Keep3.refl _ _ _ _).step (q1 := none) (q2 := none) HB5.out.size (fun i hi _ _ _ => HB5.out.block i hi) (.inr (.inl rfl)) (.inr (.inl rfl)), HB5.out.mono hbw⟩
  | none =>
    have HV := Aside0.mk (show (mapF now (kS sa)).getD (Value.int .i64 0) = .int .i64 0 ∧ (mapF now (kS sa)).isSome = false by rw [mapF_at, hg]; exact ⟨rfl, rfl⟩)
    cases hr : rightB sa with
    | false =>
      have HRA := Aside0.mk hr
      have hbw : b ≤ w.heap.size := Nat.le_trans h.hg (Nat.le_of_lt (blk_lt h.hb))
      have s0 := (blk_cell h.hb 0).trans (rfl : _ = some (Value.map (some mn)))
      have H := Aside0.mk h
      have HM := Aside0.mk h.hn
      have HKA := Aside0.mk (Go.WideMaps.keyOf_string_mk (P := Tryz.prog) Tryz.underlying9 hsa)
      have qn : ∀ (w : World) (r : Option Nat), (binOp .eql 96 (.map r) (.map none)).run Tryz.prog w = .ok (.bool r.isNone) w := fun w r => run_eql_map_nil w 96 9 3 r Tryz.underlying96
      clear h
      clear hg hsa hr
      simp only [Option.isSome_none, Bool.false_eq_true, and_false, if_false, ne_eq, not_true_eq_false, false_and, true_and, true_or, if_true]
      go_enter Tryz.func58, Tryz.ntmps58
      go_wp2_with (first
        | (at_lookup; refine mv_lookup_ok rfl _ _ 96 rfl 9 3 lawS Tryz.underlying96 (zeroI _) mn N (mapF now) rfl HM.out _ (kS sa) rfl HKA.out (.int .i64 0) (false) HV.out.1 HV.out.2 ?_)
        | (go_at_call 87; refine (right_any sa _ HSA.out).mono ?_; rw [HRA.out]; rintro e w5 ⟨rfl, hb⟩; have hd := H.out.below hb; have HD5 := Aside0.mk hd; have HB5 := Aside0.mk hb; clear hd hb))
      go_ret
      first
      | exact ⟨rfl, _, H.out.mono, .inl rfl, Keep3.refl _ _ _ _, Below.refl _ _⟩
      | exact ⟨rfl, _, HD5.out.mono, .inl rfl, (Keep3.refl _ _ _ _).step (q1 := none) (q2 := none) HB5.out.size (fun i hi _ _ _ => HB5.out.block i hi) (.inr (.inl rfl)) (.inr (.inl rfl)), HB5.out.mono hbw⟩
    | true =>
      have HRA := Aside0.mk hr
      have hbw : b ≤ w.heap.size := Nat.le_trans h.hg (Nat.le_of_lt (blk_lt h.hb))
      have s0 := (blk_cell h.hb 0).trans (rfl : _ = some (Value.map (some mn)))
      have H := Aside0.mk h
      have HM := Aside0.mk h.hn
      have HKA := Aside0.mk (Go.WideMaps.keyOf_string_mk (P := Tryz.prog) Tryz.underlying9 hsa)
      have qn : ∀ (w : World) (r : Option Nat), (binOp .eql 96 (.map r) (.map none)).run Tryz.prog w = .ok (.bool r.isNone) w := fun w r => run_eql_map_nil w 96 9 3 r Tryz.underlying96
      clear h
      clear hg hsa hr
      simp
      go_enter Tryz.func58, Tryz.ntmps58
      go_wp2_with (first
        | (at_lookup; refine mv_lookup_ok rfl _ _ 96 rfl 9 3 lawS Tryz.underlying96 (zeroI _) mn N (mapF now) rfl HM.out _ (kS sa) rfl HKA.out (.int .i64 0) (false) HV.out.1 HV.out.2 ?_)
        | (go_at_call 87; refine (right_any sa _ HSA.out).mono ?_; rw [HRA.out]; rintro e w5 ⟨rfl, hb⟩; have hd := H.out.below hb; have HD5 := Aside0.mk hd; have HB5 := Aside0.mk hb; clear hd hb)
        | (go_at_call 88; refine (ddone_any b g mn ms N vo now safe ops 0 sa ⟨#[]⟩ id _ HD5.out hN hlo HSA.out empty_ok).mono ?_; rintro e w6 ⟨rfl, hx⟩; have HX := Aside0.mk hx; clear hx))
      go_ret
      obtain ⟨vo', hd, hv, hk, hl⟩ := HX.out
      exact ⟨rfl, vo', hd, hv.imp (fun h => h) (fun ⟨k, e, hk⟩ => ⟨k, e, Nat.le_trans HB5.out.size hk⟩), ((Keep3.refl w g (some mn) vo.ownBlock).step (q1 := none) (q2 := none) HB5.out.size (fun i hi _ _ _ => HB5.out.block i hi) (.inr (.inl rfl)) (.inr (.inl rfl))).step (q1 := some mn) (q2 := vo.ownBlock) hk.1 hk.2 (.inl rfl) (.inl rfl), (HB5.out.mono hbw).trans hl⟩
set_option maxHeartbeats 400000 in
set_option maxRecDepth 100000 in
theorem drename_any (b g mn ms N : Nat) (vo : Value) (now safe : List DN) (ops : List DOp) (w : World) (h : DI w b g mn ms vo N now safe ops) (hN : N < 1000000) (hlo : ops.length ≤ 100000) (sa sb : ByteArray) (id : Int) (hsa : sa.size ≤ maxLen) (hsb : sb.size ≤ maxLen) : Calls Tryz.prog 70 #[.pointer (some ⟨g, 0, none⟩), .string sa, .string sb] w (fun e w' => e = .returned (.int .i64 (doCode now ⟨1, sa, sb, id⟩)) ∧ ∃ vo', DI w' b g mn ms vo' (N + 1) (doNow now ⟨1, sa, sb, id⟩) safe (doOpsI now ops ⟨1, sa, sb, id⟩) ∧ (vo'.ownBlock = vo.ownBlock ∨ ∃ k, vo'.ownBlock = some k ∧ w.heap.size ≤ k) ∧ Keep3 w w' g (some mn) vo.ownBlock ∧ Below b w w') := by
  have HSA := Aside0.mk hsa
  have HSB := Aside0.mk hsb
  have e9 : ∀ l : List DN, didL l ⟨1, sa, sb, id⟩ = didL l ⟨1, sa, sb, 0⟩ := fun l => rfl
  unfold doNow doOpsI doCode
  dsimp only
  cases hg : getN now sa with
  | none =>
    have HV := Aside0.mk (show (mapF now (kS sa)).getD (Value.int .i64 0) = .int .i64 0 ∧ (mapF now (kS sa)).isSome = false by rw [mapF_at, hg]; exact ⟨rfl, rfl⟩)
    have hbw : b ≤ w.heap.size := Nat.le_trans h.hg (Nat.le_of_lt (blk_lt h.hb))
    have s0 := (blk_cell h.hb 0).trans (rfl : _ = some (Value.map (some mn)))
    have H := Aside0.mk h
    have HM := Aside0.mk h.hn
    have HKA := Aside0.mk (Go.WideMaps.keyOf_string_mk (P := Tryz.prog) Tryz.underlying9 hsa)
    have qn : ∀ (w : World) (r : Option Nat), (binOp .eql 96 (.map r) (.map none)).run Tryz.prog w = .ok (.bool r.isNone) w := fun w r => run_eql_map_nil w 96 9 3 r Tryz.underlying96
    clear h
    clear hg hsa hsb e9
    simp
    go_enter Tryz.func70, Tryz.ntmps70
    go_wp2_with (at_lookup; refine mv_lookup_ok rfl _ _ 96 rfl 9 3 lawS Tryz.underlying96 (zeroI _) mn N (mapF now) rfl HM.out _ (kS sa) rfl HKA.out (.int .i64 0) (false) HV.out.1 HV.out.2 ?_)
    go_ret
    first
    | exact ⟨rfl, _, H.out.mono, .inl rfl, Keep3.refl _ _ _ _, Below.refl _ _⟩
    | exact ⟨rfl, _, HD5.out.mono, .inl rfl, (Keep3.refl _ _ _ _).step (q1 := none) (q2 := none) HB5.out.size (fun i hi _ _ _ => HB5.out.block i hi) (.inr (.inl rfl)) (.inr (.inl rfl)), HB5.out.mono hbw⟩
  | some y =>
    have HV := Aside0.mk (show (mapF now (kS sa)).getD (Value.int .i64 0) = .int .i64 y ∧ (mapF now (kS sa)).isSome = true by rw [mapF_at, hg]; exact ⟨rfl, rfl⟩)
    cases hr : rightB sb with
    | false =>
      have HRA := Aside0.mk hr
      have hbw : b ≤ w.heap.size := Nat.le_trans h.hg (Nat.le_of_lt (blk_lt h.hb))
      have s0 := (blk_cell h.hb 0).trans (rfl : _ = some (Value.map (some mn)))
      have H := Aside0.mk h
      have HM := Aside0.mk h.hn
      have HKA := Aside0.mk (Go.WideMaps.keyOf_string_mk (P := Tryz.prog) Tryz.underlying9 hsa)
      have qn : ∀ (w : World) (r : Option Nat), (binOp .eql 96 (.map r) (.map none)).run Tryz.prog w = .ok (.bool r.isNone) w := fun w r => run_eql_map_nil w 96 9 3 r Tryz.underlying96
      clear h
      clear hg hsa hr hsb e9
      simp
      go_enter Tryz.func70, Tryz.ntmps70
      go_wp2_with (first
        | (at_lookup; refine mv_lookup_ok rfl _ _ 96 rfl 9 3 lawS Tryz.underlying96 (zeroI _) mn N (mapF now) rfl HM.out _ (kS sa) rfl HKA.out (.int .i64 y) (true) HV.out.1 HV.out.2 ?_)
        | (go_at_call 87; refine (right_any sb _ HSB.out).mono ?_; rw [HRA.out]; rintro e w5 ⟨rfl, hb⟩; have hd := H.out.below hb; have HD5 := Aside0.mk hd; have HB5 := Aside0.mk hb; clear hd hb))
      go_ret
      first
      | exact ⟨rfl, _, H.out.mono, .inl rfl, Keep3.refl _ _ _ _, Below.refl _ _⟩
      | exact ⟨rfl, _, HD5.out.mono, .inl rfl, (Keep3.refl _ _ _ _).step (q1 := none) (q2 := none) HB5.out.size (fun i hi _ _ _ => HB5.out.block i hi) (.inr (.inl rfl)) (.inr (.inl rfl)), HB5.out.mono hbw⟩
    | true =>
      have HRA := Aside0.mk hr
      have hbw : b ≤ w.heap.size := Nat.le_trans h.hg (Nat.le_of_lt (blk_lt h.hb))
      have s0 := (blk_cell h.hb 0).trans (rfl : _ = some (Value.map (some mn)))
      have H := Aside0.mk h
      have HM := Aside0.mk h.hn
      have HKA := Aside0.mk (Go.WideMaps.keyOf_string_mk (P := Tryz.prog) Tryz.underlying9 hsa)
      have qn : ∀ (w : World) (r : Option Nat), (binOp .eql 96 (.map r) (.map none)).run Tryz.prog w = .ok (.bool r.isNone) w := fun w r => run_eql_map_nil w 96 9 3 r Tryz.underlying96
      clear h
      clear hg hsa hr hsb
      simp
      rw [e9]
      clear e9
      go_enter Tryz.func70, Tryz.ntmps70
      go_wp2_with (first
        | (at_lookup; refine mv_lookup_ok rfl _ _ 96 rfl 9 3 lawS Tryz.underlying96 (zeroI _) mn N (mapF now) rfl HM.out _ (kS sa) rfl HKA.out (.int .i64 y) (true) HV.out.1 HV.out.2 ?_)
        | (go_at_call 87; refine (right_any sb _ HSB.out).mono ?_; rw [HRA.out]; rintro e w5 ⟨rfl, hb⟩; have hd := H.out.below hb; have HD5 := Aside0.mk hd; have HB5 := Aside0.mk hb; clear hd hb)
        | (go_at_call 88; refine (ddone_any b g mn ms N vo now safe ops 1 sa sb 0 _ HD5.out hN hlo HSA.out HSB.out).mono ?_; rintro e w6 ⟨rfl, hx⟩; have HX := Aside0.mk hx; clear hx))
      go_ret
      obtain ⟨vo', hd, hv, hk, hl⟩ := HX.out
      exact ⟨rfl, vo', hd, hv.imp (fun h => h) (fun ⟨k, e, hk⟩ => ⟨k, e, Nat.le_trans HB5.out.size hk⟩), ((Keep3.refl w g (some mn) vo.ownBlock).step (q1 := none) (q2 := none) HB5.out.size (fun i hi _ _ _ => HB5.out.block i hi) (.inr (.inl rfl)) (.inr (.inl rfl))).step (q1 := some mn) (q2 := vo.ownBlock) hk.1 hk.2 (.inl rfl) (.inl rfl), (HB5.out.mono hbw).trans hl⟩
set_option maxHeartbeats 400000 in
set_option maxRecDepth 100000 in
theorem dunlink_any (b g mn ms N : Nat) (vo : Value) (now safe : List DN) (ops : List DOp) (w : World) (h : DI w b g mn ms vo N now safe ops) (hN : N < 1000000) (hlo : ops.length ≤ 100000) (kd : Int) (hk0 : kd ≠ 0) (hk1 : kd ≠ 1) (sa sb : ByteArray) (id : Int) (hsa : sa.size ≤ maxLen) : Calls Tryz.prog 71 #[.pointer (some ⟨g, 0, none⟩), .string sa] w (fun e w' => e = .returned (.int .i64 (doCode now ⟨kd, sa, sb, id⟩)) ∧ ∃ vo', DI w' b g mn ms vo' (N + 1) (doNow now ⟨kd, sa, sb, id⟩) safe (doOpsI now ops ⟨kd, sa, sb, id⟩) ∧ (vo'.ownBlock = vo.ownBlock ∨ ∃ k, vo'.ownBlock = some k ∧ w.heap.size ≤ k) ∧ Keep3 w w' g (some mn) vo.ownBlock ∧ Below b w w') := by
  have HSA := Aside0.mk hsa
  have e9 : ∀ l : List DN, didL l ⟨kd, sa, sb, id⟩ = didL l ⟨2, sa, ⟨#[]⟩, 0⟩ := fun l => by unfold didL; simp [hk0, hk1]
  have e8 : nrm ⟨kd, sa, sb, id⟩ = ⟨2, sa, ⟨#[]⟩, 0⟩ := by unfold nrm; simp [hk0, hk1]
  unfold doNow doOpsI doCode
  dsimp only
  cases hg : getN now sa with
  | none =>
    have HV := Aside0.mk (show (mapF now (kS sa)).getD (Value.int .i64 0) = .int .i64 0 ∧ (mapF now (kS sa)).isSome = false by rw [mapF_at, hg]; exact ⟨rfl, rfl⟩)
    have hbw : b ≤ w.heap.size := Nat.le_trans h.hg (Nat.le_of_lt (blk_lt h.hb))
    have s0 := (blk_cell h.hb 0).trans (rfl : _ = some (Value.map (some mn)))
    have H := Aside0.mk h
    have HM := Aside0.mk h.hn
    have HKA := Aside0.mk (Go.WideMaps.keyOf_string_mk (P := Tryz.prog) Tryz.underlying9 hsa)
    have qn : ∀ (w : World) (r : Option Nat), (binOp .eql 96 (.map r) (.map none)).run Tryz.prog w = .ok (.bool r.isNone) w := fun w r => run_eql_map_nil w 96 9 3 r Tryz.underlying96
    clear h
    clear hg hsa e9 e8
    simp [hk0]
    clear hk0 hk1
    go_enter Tryz.func71, Tryz.ntmps71
    go_wp2_with (at_lookup; refine mv_lookup_ok rfl _ _ 96 rfl 9 3 lawS Tryz.underlying96 (zeroI _) mn N (mapF now) rfl HM.out _ (kS sa) rfl HKA.out (.int .i64 0) (false) HV.out.1 HV.out.2 ?_)
    go_ret
    first
    | exact ⟨rfl, _, H.out.mono, .inl rfl, Keep3.refl _ _ _ _, Below.refl _ _⟩
    | exact ⟨rfl, _, HD5.out.mono, .inl rfl, (Keep3.refl _ _ _ _).step (q1 := none) (q2 := none) HB5.out.size (fun i hi _ _ _ => HB5.out.block i hi) (.inr (.inl rfl)) (.inr (.inl rfl)), HB5.out.mono hbw⟩
  | some y =>
    have HV := Aside0.mk (show (mapF now (kS sa)).getD (Value.int .i64 0) = .int .i64 y ∧ (mapF now (kS sa)).isSome = true by rw [mapF_at, hg]; exact ⟨rfl, rfl⟩)
    have hbw : b ≤ w.heap.size := Nat.le_trans h.hg (Nat.le_of_lt (blk_lt h.hb))
    have s0 := (blk_cell h.hb 0).trans (rfl : _ = some (Value.map (some mn)))
    have H := Aside0.mk h
    have HM := Aside0.mk h.hn
    have HKA := Aside0.mk (Go.WideMaps.keyOf_string_mk (P := Tryz.prog) Tryz.underlying9 hsa)
    have qn : ∀ (w : World) (r : Option Nat), (binOp .eql 96 (.map r) (.map none)).run Tryz.prog w = .ok (.bool r.isNone) w := fun w r => run_eql_map_nil w 96 9 3 r Tryz.underlying96
    clear h
    have HD5 := H
    have HB5 := Aside0.mk (Below.refl w.heap.size w)
    clear hg hsa
    rw [e9, e8]
    simp [hk0, hk1]
    clear e9 e8 hk0 hk1
    go_enter Tryz.func71, Tryz.ntmps71
    go_wp2_with (first
      | (at_lookup; refine mv_lookup_ok rfl _ _ 96 rfl 9 3 lawS Tryz.underlying96 (zeroI _) mn N (mapF now) rfl HM.out _ (kS sa) rfl HKA.out (.int .i64 y) (true) HV.out.1 HV.out.2 ?_)
      | (go_at_call 88; refine (ddone_any b g mn ms N vo now safe ops 2 sa ⟨#[]⟩ 0 _ HD5.out hN hlo HSA.out empty_ok).mono ?_; rintro e w6 ⟨rfl, hx⟩; have HX := Aside0.mk hx; clear hx))
    go_ret
    obtain ⟨vo', hd, hv, hk, hl⟩ := HX.out
    exact ⟨rfl, vo', hd, hv.imp (fun h => h) (fun ⟨k, e, hk⟩ => ⟨k, e, Nat.le_trans HB5.out.size hk⟩), ((Keep3.refl w g (some mn) vo.ownBlock).step (q1 := none) (q2 := none) HB5.out.size (fun i hi _ _ _ => HB5.out.block i hi) (.inr (.inl rfl)) (.inr (.inl rfl))).step (q1 := some mn) (q2 := vo.ownBlock) hk.1 hk.2 (.inl rfl) (.inl rfl), (HB5.out.mono hbw).trans hl⟩
end Go.Proofs.YtpnbjpkdbiiogaaGreat
/-
  DERIVED: THE SHELF's CONTRACTS AT THIS DUMP, IN PLAIN WORDS (tools/lay-plain.mjs out of 'YtpnbjpkdbiiogaaGreatShelfTry.lean', which tools/lay-shelf.mjs wrote): THE SAME DECLARATIONS UNDER THE SAME NAMES: 'import', 'namespace', 'open', 'def', 'theorem' AND NOTHING ELSE: no command of the shelf's: FOR A HAND-IN. Each laying: the table of numbers ('.._ren') and one theorem, a field a fact of the dump's own or the kernel's comparison; each contract: ONE APPLICATION.
-/
namespace Go.Proofs
open Go.Shelf
def Tryz.keys51_ren : Go.Shelf.Ren := ⟨fun | 7 => 51 | 10 => 83 | n => n, fun | 23 => 96 | 26 => 9 | 3 => 3 | 28 => 94 | 0 => 0 | 27 => 93 | 33 => 133 | 4 => 4 | n => n, fun | n => n⟩
theorem Tryz.keys51 : Go.Proofs.SlLaysZ.n7 Tryz.prog Tryz.keys51_ren := {
  mixed := by kernel_rfl
  f7 := ⟨Tryz.f51.name, by decide, Tryz.func51.trans (congrArg some (by kernel_rfl))⟩
  f10 := ⟨Tryz.f83.name, by decide, Tryz.func83.trans (congrArg some (by kernel_rfl))⟩
  t0 := Tryz.underlying0
  a0 := Tryz.isAgg0
  z0 := Tryz.sizeOf0
  v0 := Tryz.zeroValue0
  t4 := Tryz.underlying4
  a4 := Tryz.isAgg4
  z4 := Tryz.sizeOf4
  v4 := Tryz.zeroValue4
  t23 := Tryz.underlying96
  a23 := Tryz.isAgg96
  z23 := Tryz.sizeOf96
  v23 := Tryz.zeroValue96
  t26 := Tryz.underlying9
  a26 := Tryz.isAgg9
  z26 := Tryz.sizeOf9
  v26 := Tryz.zeroValue9
  t27 := Tryz.underlying93
  a27 := Tryz.isAgg93
  z27 := Tryz.sizeOf93
  v27 := Tryz.zeroValue93
  t28 := Tryz.underlying94
  a28 := Tryz.isAgg94
  z28 := Tryz.sizeOf94
  v28 := Tryz.zeroValue94
  t33 := Tryz.underlying133
  a33 := Tryz.isAgg133
  z33 := Tryz.sizeOf133
  v33 := Tryz.zeroValue133 }
def Tryz.clone75_ren : Go.Shelf.Ren := ⟨fun | 5 => 75 | 7 => 98 | n => n, fun | 23 => 96 | 25 => 9 | 3 => 3 | 4 => 4 | 20 => 20 | n => n, fun | n => n⟩
theorem Tryz.clone75 : Go.Proofs.SlLaysW.n5 Tryz.prog Tryz.clone75_ren := {
  mixed := by kernel_rfl
  f5 := ⟨Tryz.f75.name, by decide, Tryz.func75.trans (congrArg some (by kernel_rfl))⟩
  f7 := Tryz.func98.trans (congrArg some (by kernel_rfl))
  t4 := Tryz.underlying4
  a4 := Tryz.isAgg4
  z4 := Tryz.sizeOf4
  v4 := Tryz.zeroValue4
  t20 := Tryz.underlying20
  a20 := Tryz.isAgg20
  z20 := Tryz.sizeOf20
  v20 := Tryz.zeroValue20
  t23 := Tryz.underlying96
  a23 := Tryz.isAgg96
  z23 := Tryz.sizeOf96
  v23 := Tryz.zeroValue96 }
def Tryz.keys78_ren : Go.Shelf.Ren := ⟨fun | 7 => 78 | 10 => 101 | n => n, fun | 23 => 52 | 26 => 3 | 3 => 81 | 28 => 126 | 0 => 0 | 27 => 125 | 33 => 145 | 4 => 4 | n => n, fun | n => n⟩
theorem Tryz.keys78 : Go.Proofs.SlLaysZI.n7 Tryz.prog Tryz.keys78_ren := {
  mixed := by kernel_rfl
  f7 := ⟨Tryz.f78.name, by decide, Tryz.func78.trans (congrArg some (by kernel_rfl))⟩
  f10 := ⟨Tryz.f101.name, by decide, Tryz.func101.trans (congrArg some (by kernel_rfl))⟩
  t0 := Tryz.underlying0
  a0 := Tryz.isAgg0
  z0 := Tryz.sizeOf0
  v0 := Tryz.zeroValue0
  t4 := Tryz.underlying4
  a4 := Tryz.isAgg4
  z4 := Tryz.sizeOf4
  v4 := Tryz.zeroValue4
  t23 := Tryz.underlying52
  a23 := Tryz.isAgg52
  z23 := Tryz.sizeOf52
  v23 := Tryz.zeroValue52
  t26 := Tryz.underlying3
  a26 := Tryz.isAgg3
  z26 := Tryz.sizeOf3
  v26 := Tryz.zeroValue3
  t27 := Tryz.underlying125
  a27 := Tryz.isAgg125
  z27 := Tryz.sizeOf125
  v27 := Tryz.zeroValue125
  t28 := Tryz.underlying126
  a28 := Tryz.isAgg126
  z28 := Tryz.sizeOf126
  v28 := Tryz.zeroValue126
  t33 := Tryz.underlying145
  a33 := Tryz.isAgg145
  z33 := Tryz.sizeOf145
  v33 := Tryz.zeroValue145 }
def Tryz.sorted77_ren : Go.Shelf.Ren := ⟨fun | 6 => 77 | 8 => 99 | 9 => 100 | 11 => 107 | 13 => 104 | 12 => 108 | 23 => 118 | 24 => 119 | 14 => 120 | 15 => 121 | 16 => 122 | 17 => 123 | 18 => 124 | 19 => 125 | 20 => 126 | 21 => 127 | 22 => 128 | 25 => 135 | 26 => 130 | 27 => 131 | 28 => 136 | 29 => 137 | 30 => 138 | 31 => 140 | n => n, fun | 26 => 3 | 28 => 126 | 24 => 89 | 0 => 0 | 3 => 3 | 37 => 149 | 48 => 163 | 50 => 165 | 4 => 4 | 40 => 156 | 39 => 155 | 45 => 87 | 5 => 5 | 9 => 9 | 51 => 172 | 55 => 176 | 57 => 180 | 58 => 181 | 33 => 145 | n => n, fun | n => n⟩
theorem Tryz.sorted77 : Go.Proofs.SlLaysZI.n6 Tryz.prog Tryz.sorted77_ren := {
  mixed := by kernel_rfl
  f6 := ⟨Tryz.f77.name, by decide, Tryz.func77.trans (congrArg some (by kernel_rfl))⟩
  f8 := ⟨Tryz.f99.name, by decide, Tryz.func99.trans (congrArg some (by kernel_rfl))⟩
  f11 := ⟨Tryz.f107.name, by decide, Tryz.func107.trans (congrArg some (by kernel_rfl))⟩
  t0 := Tryz.underlying0
  a0 := Tryz.isAgg0
  z0 := Tryz.sizeOf0
  v0 := Tryz.zeroValue0
  t24 := Tryz.underlying89
  a24 := Tryz.isAgg89
  z24 := Tryz.sizeOf89
  v24 := Tryz.zeroValue89
  t26 := Tryz.underlying3
  a26 := Tryz.isAgg3
  z26 := Tryz.sizeOf3
  v26 := Tryz.zeroValue3
  t28 := Tryz.underlying126
  a28 := Tryz.isAgg126
  z28 := Tryz.sizeOf126
  v28 := Tryz.zeroValue126
  i26 := by kernel_rfl }
def Tryz.sort100_ren : Go.Shelf.Ren := ⟨fun | 5 => 100 | 8 => 104 | 7 => 108 | 19 => 118 | 20 => 119 | 10 => 120 | 11 => 121 | 12 => 122 | 13 => 123 | 14 => 124 | 15 => 125 | 16 => 126 | 17 => 127 | 18 => 128 | 30 => 135 | 31 => 130 | 32 => 131 | 33 => 136 | 34 => 137 | 35 => 138 | 40 => 140 | n => n, fun | 23 => 89 | 25 => 3 | 3 => 3 | 32 => 149 | 22 => 89 | 0 => 0 | 44 => 163 | 46 => 165 | 4 => 4 | 36 => 156 | 35 => 155 | 41 => 87 | 5 => 5 | 9 => 9 | 53 => 172 | 57 => 176 | 63 => 180 | 64 => 181 | n => n, fun | n => n⟩
theorem Tryz.sort100 : Go.Proofs.SlLaysM.n5 Tryz.prog Tryz.sort100_ren := {
  mixed := by kernel_rfl
  f5 := ⟨Tryz.f100.name, by decide, Tryz.func100.trans (congrArg some (by kernel_rfl))⟩
  f7 := ⟨Tryz.f108.name, by decide, Tryz.func108.trans (congrArg some (by kernel_rfl))⟩
  f8 := Tryz.func104.trans (congrArg some (by kernel_rfl))
  f10 := ⟨Tryz.f120.name, by decide, Tryz.func120.trans (congrArg some (by kernel_rfl))⟩
  f11 := ⟨Tryz.f121.name, by decide, Tryz.func121.trans (congrArg some (by kernel_rfl))⟩
  f12 := ⟨Tryz.f122.name, by decide, Tryz.func122.trans (congrArg some (by kernel_rfl))⟩
  f13 := ⟨Tryz.f123.name, by decide, Tryz.func123.trans (congrArg some (by kernel_rfl))⟩
  f14 := ⟨Tryz.f124.name, by decide, Tryz.func124.trans (congrArg some (by kernel_rfl))⟩
  f15 := ⟨Tryz.f125.name, by decide, Tryz.func125.trans (congrArg some (by kernel_rfl))⟩
  f16 := ⟨Tryz.f126.name, by decide, Tryz.func126.trans (congrArg some (by kernel_rfl))⟩
  f17 := ⟨Tryz.f127.name, by decide, Tryz.func127.trans (congrArg some (by kernel_rfl))⟩
  f18 := ⟨Tryz.f128.name, by decide, Tryz.func128.trans (congrArg some (by kernel_rfl))⟩
  f19 := Tryz.func118.trans (congrArg some (by kernel_rfl))
  f20 := Tryz.func119.trans (congrArg some (by kernel_rfl))
  f30 := ⟨Tryz.f135.name, by decide, Tryz.func135.trans (congrArg some (by kernel_rfl))⟩
  f31 := Tryz.func130.trans (congrArg some (by kernel_rfl))
  f32 := Tryz.func131.trans (congrArg some (by kernel_rfl))
  f33 := ⟨Tryz.f136.name, by decide, Tryz.func136.trans (congrArg some (by kernel_rfl))⟩
  f34 := ⟨Tryz.f137.name, by decide, Tryz.func137.trans (congrArg some (by kernel_rfl))⟩
  f35 := ⟨Tryz.f138.name, by decide, Tryz.func138.trans (congrArg some (by kernel_rfl))⟩
  f40 := ⟨Tryz.f140.name, by decide, Tryz.func140.trans (congrArg some (by kernel_rfl))⟩
  t0 := Tryz.underlying0
  a0 := Tryz.isAgg0
  z0 := Tryz.sizeOf0
  v0 := Tryz.zeroValue0
  t3 := Tryz.underlying3
  a3 := Tryz.isAgg3
  z3 := Tryz.sizeOf3
  v3 := Tryz.zeroValue3
  t4 := Tryz.underlying4
  a4 := Tryz.isAgg4
  z4 := Tryz.sizeOf4
  v4 := Tryz.zeroValue4
  t5 := Tryz.underlying5
  a5 := Tryz.isAgg5
  z5 := Tryz.sizeOf5
  v5 := Tryz.zeroValue5
  t9 := Tryz.underlying9
  a9 := Tryz.isAgg9
  z9 := Tryz.sizeOf9
  v9 := Tryz.zeroValue9
  t22 := Tryz.underlying89
  a22 := Tryz.isAgg89
  z22 := Tryz.sizeOf89
  v22 := Tryz.zeroValue89
  t23 := Tryz.underlying89
  a23 := Tryz.isAgg89
  z23 := Tryz.sizeOf89
  v23 := Tryz.zeroValue89
  t25 := Tryz.underlying3
  a25 := Tryz.isAgg3
  z25 := Tryz.sizeOf3
  v25 := Tryz.zeroValue3
  t32 := Tryz.underlying149
  a32 := Tryz.isAgg149
  z32 := Tryz.sizeOf149
  v32 := Tryz.zeroValue149
  t35 := Tryz.underlying155
  a35 := Tryz.isAgg155
  z35 := Tryz.sizeOf155
  v35 := Tryz.zeroValue155
  t36 := Tryz.underlying156
  a36 := Tryz.isAgg156
  z36 := Tryz.sizeOf156
  v36 := Tryz.zeroValue156
  t41 := Tryz.underlying87
  a41 := Tryz.isAgg87
  z41 := Tryz.sizeOf87
  v41 := Tryz.zeroValue87
  t44 := Tryz.underlying163
  a44 := Tryz.isAgg163
  z44 := Tryz.sizeOf163
  v44 := Tryz.zeroValue163
  t46 := Tryz.underlying165
  a46 := Tryz.isAgg165
  z46 := Tryz.sizeOf165
  v46 := Tryz.zeroValue165
  t53 := Tryz.underlying172
  a53 := Tryz.isAgg172
  z53 := Tryz.sizeOf172
  v53 := Tryz.zeroValue172
  t57 := Tryz.underlying176
  a57 := Tryz.isAgg176
  z57 := Tryz.sizeOf176
  v57 := Tryz.zeroValue176
  t63 := Tryz.underlying180
  a63 := Tryz.isAgg180
  z63 := Tryz.sizeOf180
  v63 := Tryz.zeroValue180
  t64 := Tryz.underlying181
  a64 := Tryz.isAgg181
  z64 := Tryz.sizeOf181
  v64 := Tryz.zeroValue181 }
def Tryz.sorted50_ren : Go.Shelf.Ren := ⟨fun | 6 => 50 | 8 => 81 | 9 => 82 | 11 => 102 | 13 => 104 | 12 => 103 | 23 => 118 | 24 => 119 | 14 => 109 | 15 => 110 | 16 => 111 | 17 => 112 | 18 => 113 | 19 => 114 | 20 => 115 | 21 => 116 | 22 => 117 | 25 => 129 | 26 => 130 | 27 => 131 | 28 => 132 | 29 => 133 | 30 => 134 | 31 => 139 | n => n, fun | 26 => 9 | 28 => 94 | 24 => 35 | 0 => 0 | 3 => 3 | 37 => 149 | 48 => 163 | 50 => 165 | 4 => 4 | 40 => 156 | 39 => 155 | 45 => 87 | 5 => 5 | 9 => 9 | 51 => 172 | 55 => 176 | 57 => 180 | 58 => 181 | 33 => 133 | n => n, fun | n => n⟩
theorem Tryz.sorted50 : Go.Proofs.SlLaysZ.n6 Tryz.prog Tryz.sorted50_ren := {
  mixed := by kernel_rfl
  f6 := ⟨Tryz.f50.name, by decide, Tryz.func50.trans (congrArg some (by kernel_rfl))⟩
  f8 := ⟨Tryz.f81.name, by decide, Tryz.func81.trans (congrArg some (by kernel_rfl))⟩
  f11 := ⟨Tryz.f102.name, by decide, Tryz.func102.trans (congrArg some (by kernel_rfl))⟩
  t0 := Tryz.underlying0
  a0 := Tryz.isAgg0
  z0 := Tryz.sizeOf0
  v0 := Tryz.zeroValue0
  t24 := Tryz.underlying35
  a24 := Tryz.isAgg35
  z24 := Tryz.sizeOf35
  v24 := Tryz.zeroValue35
  t26 := Tryz.underlying9
  a26 := Tryz.isAgg9
  z26 := Tryz.sizeOf9
  v26 := Tryz.zeroValue9
  t28 := Tryz.underlying94
  a28 := Tryz.isAgg94
  z28 := Tryz.sizeOf94
  v28 := Tryz.zeroValue94
  i26 := by kernel_rfl }
def Tryz.sort82_ren : Go.Shelf.Ren := ⟨fun | 6 => 82 | 8 => 104 | 9 => 103 | 19 => 118 | 20 => 119 | 21 => 109 | 22 => 110 | 23 => 111 | 24 => 112 | 25 => 113 | 26 => 114 | 27 => 115 | 28 => 116 | 29 => 117 | 36 => 129 | 31 => 130 | 32 => 131 | 37 => 132 | 38 => 133 | 39 => 134 | 41 => 139 | n => n, fun | 27 => 35 | 29 => 9 | 3 => 3 | 32 => 149 | 26 => 35 | 0 => 0 | 44 => 163 | 46 => 165 | 4 => 4 | 36 => 156 | 35 => 155 | 41 => 87 | 5 => 5 | 9 => 9 | 53 => 172 | 57 => 176 | 63 => 180 | 64 => 181 | n => n, fun | n => n⟩
theorem Tryz.sort82 : Go.Proofs.SlLaysM.n6 Tryz.prog Tryz.sort82_ren := {
  mixed := by kernel_rfl
  f6 := ⟨Tryz.f82.name, by decide, Tryz.func82.trans (congrArg some (by kernel_rfl))⟩
  f8 := Tryz.func104.trans (congrArg some (by kernel_rfl))
  f9 := ⟨Tryz.f103.name, by decide, Tryz.func103.trans (congrArg some (by kernel_rfl))⟩
  f19 := Tryz.func118.trans (congrArg some (by kernel_rfl))
  f20 := Tryz.func119.trans (congrArg some (by kernel_rfl))
  f21 := ⟨Tryz.f109.name, by decide, Tryz.func109.trans (congrArg some (by kernel_rfl))⟩
  f22 := ⟨Tryz.f110.name, by decide, Tryz.func110.trans (congrArg some (by kernel_rfl))⟩
  f23 := ⟨Tryz.f111.name, by decide, Tryz.func111.trans (congrArg some (by kernel_rfl))⟩
  f24 := ⟨Tryz.f112.name, by decide, Tryz.func112.trans (congrArg some (by kernel_rfl))⟩
  f25 := ⟨Tryz.f113.name, by decide, Tryz.func113.trans (congrArg some (by kernel_rfl))⟩
  f26 := ⟨Tryz.f114.name, by decide, Tryz.func114.trans (congrArg some (by kernel_rfl))⟩
  f27 := ⟨Tryz.f115.name, by decide, Tryz.func115.trans (congrArg some (by kernel_rfl))⟩
  f28 := ⟨Tryz.f116.name, by decide, Tryz.func116.trans (congrArg some (by kernel_rfl))⟩
  f29 := ⟨Tryz.f117.name, by decide, Tryz.func117.trans (congrArg some (by kernel_rfl))⟩
  f31 := Tryz.func130.trans (congrArg some (by kernel_rfl))
  f32 := Tryz.func131.trans (congrArg some (by kernel_rfl))
  f36 := ⟨Tryz.f129.name, by decide, Tryz.func129.trans (congrArg some (by kernel_rfl))⟩
  f37 := ⟨Tryz.f132.name, by decide, Tryz.func132.trans (congrArg some (by kernel_rfl))⟩
  f38 := ⟨Tryz.f133.name, by decide, Tryz.func133.trans (congrArg some (by kernel_rfl))⟩
  f39 := ⟨Tryz.f134.name, by decide, Tryz.func134.trans (congrArg some (by kernel_rfl))⟩
  f41 := ⟨Tryz.f139.name, by decide, Tryz.func139.trans (congrArg some (by kernel_rfl))⟩
  t0 := Tryz.underlying0
  a0 := Tryz.isAgg0
  z0 := Tryz.sizeOf0
  v0 := Tryz.zeroValue0
  t3 := Tryz.underlying3
  a3 := Tryz.isAgg3
  z3 := Tryz.sizeOf3
  v3 := Tryz.zeroValue3
  t4 := Tryz.underlying4
  a4 := Tryz.isAgg4
  z4 := Tryz.sizeOf4
  v4 := Tryz.zeroValue4
  t5 := Tryz.underlying5
  a5 := Tryz.isAgg5
  z5 := Tryz.sizeOf5
  v5 := Tryz.zeroValue5
  t9 := Tryz.underlying9
  a9 := Tryz.isAgg9
  z9 := Tryz.sizeOf9
  v9 := Tryz.zeroValue9
  t26 := Tryz.underlying35
  a26 := Tryz.isAgg35
  z26 := Tryz.sizeOf35
  v26 := Tryz.zeroValue35
  t27 := Tryz.underlying35
  a27 := Tryz.isAgg35
  z27 := Tryz.sizeOf35
  v27 := Tryz.zeroValue35
  t29 := Tryz.underlying9
  a29 := Tryz.isAgg9
  z29 := Tryz.sizeOf9
  v29 := Tryz.zeroValue9
  t32 := Tryz.underlying149
  a32 := Tryz.isAgg149
  z32 := Tryz.sizeOf149
  v32 := Tryz.zeroValue149
  t35 := Tryz.underlying155
  a35 := Tryz.isAgg155
  z35 := Tryz.sizeOf155
  v35 := Tryz.zeroValue155
  t36 := Tryz.underlying156
  a36 := Tryz.isAgg156
  z36 := Tryz.sizeOf156
  v36 := Tryz.zeroValue156
  t41 := Tryz.underlying87
  a41 := Tryz.isAgg87
  z41 := Tryz.sizeOf87
  v41 := Tryz.zeroValue87
  t44 := Tryz.underlying163
  a44 := Tryz.isAgg163
  z44 := Tryz.sizeOf163
  v44 := Tryz.zeroValue163
  t46 := Tryz.underlying165
  a46 := Tryz.isAgg165
  z46 := Tryz.sizeOf165
  v46 := Tryz.zeroValue165
  t53 := Tryz.underlying172
  a53 := Tryz.isAgg172
  z53 := Tryz.sizeOf172
  v53 := Tryz.zeroValue172
  t57 := Tryz.underlying176
  a57 := Tryz.isAgg176
  z57 := Tryz.sizeOf176
  v57 := Tryz.zeroValue176
  t63 := Tryz.underlying180
  a63 := Tryz.isAgg180
  z63 := Tryz.sizeOf180
  v63 := Tryz.zeroValue180
  t64 := Tryz.underlying181
  a64 := Tryz.isAgg181
  z64 := Tryz.sizeOf181
  v64 := Tryz.zeroValue181 }
end Go.Proofs
/- Directories: names that rise; the code's Names and Sync. -/
namespace Go.Proofs.YtpnbjpkdbiiogaaGreat
set_option linter.unusedVariables false
open Go.RowKit Go.Maps Go.Sort Go.Shelf Go.Proofs.YtpnbjpkdbiiogaaGreatW.PrintWords
attribute [local go_sem] mx2 mn2 mxTwo mnTwo

def nmL (l : List DN) : List (List UInt8) := l.map (fun p => p.1.data.toList)
/-- Names rise. -/
def Rising (l : List DN) : Prop := (nmL l).Pairwise (· < ·)
theorem gtS_lt {a b : ByteArray} (h : gtS a b = true) : b.data.toList < a.data.toList := by
  obtain ⟨h1, h2⟩ := gtS_true h
  rw [bytesLess_eq, ByteArray.toList_eq, ByteArray.toList_eq] at h1
  rw [beq_eq_false_iff_ne, ByteArray.toList_eq, ByteArray.toList_eq] at h2
  rcases List.le_iff_lt_or_eq.1 (List.not_lt.1 (of_decide_eq_false h1)) with h | h
  · exact h
  · exact absurd h.symm h2
theorem gtS_ge {a b : ByteArray} (h : gtS a b = false) (hne : a ≠ b) : a.data.toList < b.data.toList := by
  rcases gtS_false h with h1 | ⟨_, h2⟩
  · rw [bytesLess_eq, ByteArray.toList_eq, ByteArray.toList_eq] at h1
    exact of_decide_eq_true h1
  · rw [beq_iff_eq, ByteArray.toList_eq, ByteArray.toList_eq] at h2
    exact absurd (Go.WideShapes.bytes_inj h2) hne
theorem mem_insL (s : ByteArray) (a : Int) : ∀ (l : List DN) (p : DN), p ∈ insL s a l → p = (s, a) ∨ p ∈ l
  | [], p, h => by simp [insL] at h; exact .inl h
  | q :: t, p, h => by
    unfold insL at h
    split at h
    · rcases List.mem_cons.1 h with h | h
      · exact .inl h
      · exact .inr h
    · rcases List.mem_cons.1 h with h | h
      · exact .inr (by rw [h]; exact List.mem_cons_self ..)
      · rcases mem_insL s a t p h with h | h
        · exact .inl h
        · exact .inr (List.mem_cons_of_mem _ h)
theorem rising_cons {p : DN} {t : List DN} : Rising (p :: t) ↔ (∀ q ∈ t, p.1.data.toList < q.1.data.toList) ∧ Rising t := by
  unfold Rising nmL
  rw [List.map_cons, List.pairwise_cons]
  constructor
  · rintro ⟨h1, h2⟩
    exact ⟨fun q hq => h1 _ (List.mem_map.2 ⟨q, hq, rfl⟩), h2⟩
  · rintro ⟨h1, h2⟩
    refine ⟨fun x hx => ?_, h2⟩
    obtain ⟨q, hq, rfl⟩ := List.mem_map.1 hx
    exact h1 q hq
theorem rising_insL (s : ByteArray) (a : Int) : ∀ (l : List DN), Rising l → (∀ p ∈ l, p.1 ≠ s) → Rising (insL s a l)
  | [], _, _ => by simp [insL, Rising, nmL]
  | p :: t, h, hn => by
    obtain ⟨h1, h2⟩ := rising_cons.1 h
    unfold insL
    split
    · rename_i hg
      have hl := gtS_lt hg
      refine rising_cons.2 ⟨fun q hq => ?_, h⟩
      rcases List.mem_cons.1 hq with rfl | hq
      · exact hl
      · exact List.lt_trans hl (h1 q hq)
    · rename_i hg
      have hl := gtS_ge (by simpa using hg) (hn p (List.mem_cons_self ..))
      refine rising_cons.2 ⟨fun q hq => ?_, rising_insL s a t h2 (fun x hx => hn x (List.mem_cons_of_mem _ hx))⟩
      rcases mem_insL s a t q hq with rfl | hq
      · exact hl
      · exact h1 q hq
theorem rising_without (l : List DN) (s : ByteArray) (h : Rising l) : Rising (withoutL l s) := List.Pairwise.sublist (List.Sublist.map _ (List.filter_sublist ..)) h
theorem rising_with (l : List DN) (s : ByteArray) (a : Int) (h : Rising l) : Rising (withL l s a) := rising_insL s a _ (rising_without l s h) (without_no l s)
theorem rising_did (l : List DN) (o : DOp) (h : Rising l) : Rising (didL l o) := by
  unfold didL
  split
  · exact rising_with _ _ _ h
  · split
    · exact h
    · split
      · exact rising_with _ _ _ (rising_without _ _ h)
      · exact rising_without _ _ h
theorem rising_crash (safe : List DN) (ops : List DOp) (kl : List Bool) (h : Rising safe) : ∀ i, Rising (crashD safe ops kl i)
  | 0 => h
  | i + 1 => by
    unfold crashD
    split
    · exact rising_did _ _ (rising_crash safe ops kl h i)
    · exact rising_crash safe ops kl h i
theorem nm_sort (l : List DN) (h : Rising l) : (nmL l).mergeSort leB = nmL l := by
  refine List.mergeSort_of_pairwise (h.imp ?_)
  intro a b hab
  exact decide_eq_true (List.le_of_lt hab)
theorem mapF_str (l : List DN) (x : List UInt8) : (mapF l (.string x)).isSome = true ↔ x ∈ nmL l := by
  induction l with
  | nil => simp [mapF, nmL]
  | cons p t ih =>
    rw [mapF_cons]
    unfold nmL
    rw [List.map_cons, List.mem_cons]
    by_cases h : kS p.1 = .string x
    · rw [if_pos h]
      unfold kS at h
      injection h with h
      simp [h]
    · rw [if_neg h, ih]
      have : x ≠ p.1.data.toList := fun e => h (by unfold kS; rw [e])
      simp [this, nmL]
theorem rising_nodup (l : List DN) (h : Rising l) : (nmL l).Nodup := h.imp (fun hab e => by subst e; exact List.lt_irrefl _ hab)
theorem perm_nm {w : World} {m n : Nat} {D : DataW Value} {l : List DN} (hown : w.ownsMap Tryz.prog 9 R0 m n D) (ht : Tells D (mapF l)) (hr : Rising l) : (nmL l).Perm (strKeys D) := by
  obtain ⟨es, hD, hp, hk⟩ := hown.entries lawS
  subst hD
  refine perm_strKeys hp (fun p hpm => ?_) (rising_nodup l hr) (fun x => ?_)
  · have h1 : has (.map es) p.1 = true := by
      rw [has_eq, List.any_eq_true]
      exact ⟨p, hpm, WideAt.sameKey_self (hk p hpm)⟩
    rw [ht.has] at h1
    unfold mapF at h1
    split at h1
    · rename_i q hq
      have h9 := List.find?_some hq
      simp only [decide_eq_true_eq] at h9
      exact ⟨_, h9.symm⟩
    · cases h1
  · rw [ht.has, ← mapF_str]
theorem size_of {w : World} {m n : Nat} {D : DataW Value} (hown : w.ownsMap Tryz.prog 9 R0 m n D) : Maps.size D ≤ n := hown.size_le
/-- maps.Keys. -/
theorem keys_any (mb : Option Nat) (w : World) : Calls Tryz.prog 51 #[.map mb] w fun e w' => e = .returned (.func (.func 83) #[] #[.pointer (some ⟨w.heap.size, 0, none⟩)]) ∧ w' = w.alloc (.cells #[.map mb] 96) :=
  (callsIn_wide (n := 5)).1 (AnyZ.keys_in Tryz.keys51 Fence.wide 5 trivial rfl mb w)
theorem sorts_in (m : Nat) : AnyZ.SortsIn Tryz.prog Tryz.sorted50_ren Fence.wide m :=
  ⟨fun blk off cap ss W hH hblk hsz => callsIn_wide.2 (AnyM.slices_Sort_string Tryz.sort82 blk off cap ss W hH hblk hsz),
   fun p cap W => callsIn_wide.2 (AnyM.slices_Sort_string_none Tryz.sort82 p cap W)⟩
set_option maxHeartbeats 1000000 in
theorem sorted_any (b nn : Nat) (D0 : DataW Value) (w : World) (hown : w.ownsMap Tryz.prog 9 R0 b nn D0) (hmax : Maps.size D0 ≤ maxLen) (hbytes : Maps.size D0 * 16 ≤ 140737488355328) :
    Calls Tryz.prog 50 #[.func (.func 83) #[] #[.pointer (some ⟨w.heap.size, 0, none⟩)]] (w.alloc (.cells #[.map (some b)] 96)) fun e w' => ∃ (v : Value) (ss : List (List UInt8)), e = .returned v ∧ ss.Perm (strKeys D0) ∧
      w'.ownsRow (w.alloc (.cells #[.map (some b)] 96)).heap.size 9 1 v ss.length ((ss.mergeSort leB).map encStr) ∧ Below (w.alloc (.cells #[.map (some b)] 96)).heap.size (w.alloc (.cells #[.map (some b)] 96)) w' := by
  have hbl := hown.lt
  have hseq : SeqGives Fence.wide 2 Tryz.prog 83 #[.pointer (some ⟨w.heap.size, 0, none⟩)] encStr (fun ss => ss.Perm (strKeys D0)) (Maps.size D0) (w.alloc (.cells #[.map (some b)] 96)) :=
    AnyZ.keys_gives (ρ := Tryz.keys51_ren) { Tryz.keys51 with } Fence.wide _ trivial rfl (by omega) w.heap.size b nn D0 _ (by simp) (by simp) (by
      obtain ⟨es, clock, hb, Ft, hs, hD⟩ := hown
      exact ⟨es, clock, (Below.heap_alloc _ _ b hbl).trans hb, Ft, hs, hD⟩)
  have h := AnyZ.sorted_in Tryz.sorted50 Fence.wide 5 trivial trivial trivial trivial rfl (by omega) (sorts_in _) (enters_of Tryz.func82 (by kernel_rfl) rfl) 83 #[.pointer (some ⟨w.heap.size, 0, none⟩)] trivial (enters_of Tryz.func83 (by kernel_rfl) rfl) _ _ hmax hbytes _ hseq
  refine ((callsIn_wide (n := 5)).1 h).mono ?_
  rintro e w' ⟨v, ss, h1, h2, h3, _, h5⟩
  exact ⟨v, ss, h1, h2, h3, h5⟩
/-- The code's Names. -/
theorem dnames_any (b g mn ms N : Nat) (vo : Value) (now safe : List DN) (ops : List DOp) (w : World) (h : DI w b g mn ms vo N now safe ops) (hr : Rising now) (hN : N ≤ 1000000) : Calls Tryz.prog 16 #[.pointer (some ⟨g, 0, none⟩)] w fun e w' => ∃ v, e = .returned v ∧ Kd.R Kd.string 9 w' w.heap.size (fun _ => True) v (now.map (·.1)) ∧ Below w.heap.size w w' := by
  have hc0 := (blk_cell h.hb 0).trans (rfl : _ = some (Value.map (some mn)))
  obtain ⟨D, hown, ht⟩ := h.hn
  have hp := perm_nm hown ht hr
  have hsz : Maps.size D ≤ N := hown.size_le
  have HC := Aside0.mk (sorted_any mn N D w hown (by unfold maxLen; omega) (by omega))
  have HP := Aside0.mk hp
  have HR := Aside0.mk hr
  clear h hown ht hp hr
  go_enter Tryz.func16, Tryz.ntmps16
  go_wp2_with (first
    | (go_at_call 51; refine (keys_any _ _).mono ?_; rintro e w1 ⟨rfl, rfl⟩)
    | (go_at_call 50; refine HC.out.mono ?_; rintro e w2 ⟨v, ss, rfl, hss, hrow, hb⟩; have HX := Aside0.mk (And.intro hss hrow); have HB := Aside0.mk hb; clear hss hrow hb))
  go_ret
  obtain ⟨hss, hrow⟩ := HX.out
  have e : ss.mergeSort leB = nmL now := by rw [mergeSort_of_perm (hss.trans HP.out.symm), nm_sort now HR.out]
  have hl : ss.length = (now.map (·.1)).length := by rw [(hss.trans HP.out.symm).length_eq]; simp [nmL]
  rw [e, hl] at hrow
  have e2 : (nmL now).map encStr = (now.map (·.1)).map Value.string := by
    unfold nmL
    rw [List.map_map, List.map_map]
    refine List.map_congr_left (fun p _ => ?_)
    show Value.string ⟨p.1.data.toList.toArray⟩ = Value.string p.1
    rw [Array.toArray_toList]
  rw [e2] at hrow
  have hsz2 : (w.alloc (.cells #[.map (some mn)] 96)).heap.size = w.heap.size + 1 := World.size_alloc ..
  have hR : Kd.R Kd.string 9 w2 (w.alloc (.cells #[.map (some mn)] 96)).heap.size (fun _ => True) v (now.map (·.1)) := Kd.R_of_own hrow (fun _ _ => trivial)
  exact ⟨v, rfl, Kd.R_lower hR (by rw [hsz2]; omega), below_step (below_alloc (Below.refl _ _) _) HB.out⟩
theorem dnames_nil (w : World) : Calls Tryz.prog 16 #[.pointer none] w fun e w' => e = .returned (.slice none 0 0) ∧ w = w' := by
  go_enter Tryz.func16, Tryz.ntmps16
  go_wp2
  go_ret
  exact ⟨rfl, rfl⟩
/-- maps.Clone. -/
theorem mclone_any (m n : Nat) (f : Lit → Option Value) (w : World) (h : MV w Tryz.prog 9 m n f) : Calls Tryz.prog 75 #[.map (some m)] w fun e w' => e = .returned (.map (some w.heap.size)) ∧ MV w' Tryz.prog 9 w.heap.size n f ∧ Below w.heap.size w w' := by
  obtain ⟨D, hown, ht⟩ := h
  have hcon := AnyW.maps_Clone_owns Tryz.clone75 9 R0 m n D w hown
  change Calls Tryz.prog 75 _ _ _ at hcon
  refine hcon.mono ?_
  rintro e w' ⟨he, h1, _, hB⟩
  exact ⟨he, ⟨D, h1, ht⟩, hB⟩
theorem dsync_any (b g mn ms N : Nat) (vo : Value) (now safe : List DN) (ops : List DOp) (w : World) (h : DI w b g mn ms vo N now safe ops) : Calls Tryz.prog 42 #[.pointer (some ⟨g, 0, none⟩)] w fun e w' => e = .returned (.tuple #[]) ∧ DI w' b g mn w.heap.size (.slice none 0 0) N now now [] ∧ KeepBut w w' g none ∧ Below b w w' := by
  have hc0 := (blk_cell h.hb 0).trans (rfl : _ = some (Value.map (some mn)))
  have hbw : b ≤ w.heap.size := Nat.le_trans h.hg (Nat.le_of_lt (blk_lt h.hb))
  have H := Aside0.mk h
  have HM := Aside0.mk h.hn
  clear h
  go_enter Tryz.func42, Tryz.ntmps42
  go_wp2_with (go_at_call 75; refine (mclone_any mn N (mapF now) _ HM.out).mono ?_; rintro e w1 ⟨rfl, hv, hb1⟩; have hbk := blk_below H.out.hb hb1; have k1 := (blk_cell hbk 1).trans (rfl : _ = some (Value.map (some ms))); have k2 := (blk_cell hbk 2).trans (rfl : _ = some vo); have f1 := blk_frozen hbk 1; have f2 := blk_frozen hbk 2; have HV := Aside0.mk hv; have HB := Aside0.mk hb1; have HK := Aside0.mk hbk; clear hv hb1 hbk)
  first | go_end0 | ((try simp only [Exit.inBlock, Exit.then]); refine bodyPost_ret (results_none rfl _ _ _) rfl ?_)
  have hb1 := blk_put HK.out 1 (.map (some w.heap.size)) rfl
  have hmv : ∀ (m : Nat) (f : Lit → Option Value), MV w1 Tryz.prog 9 m N f → MV ((w1.setCell ⟨g, 1, none⟩ (.map (some w.heap.size))).setCell ⟨g, 2, none⟩ (.slice none 0 0)) Tryz.prog 9 m N f := by
    intro m f hm
    have h1 := hm.setCell (a := ⟨g, 1, none⟩) (hm.ne HK.out) (.map (some w.heap.size))
    exact h1.setCell (h1.ne hb1) _
  have hmlt := H.out.hn.lt
  exact ⟨rfl, ⟨blk_put hb1 2 _ rfl, hmv _ _ (H.out.hn.below HB.out), hmv _ _ HV.out, Kd.R_nil _ _ _ _ _, H.out.hg, H.out.hmn, hbw, by omega⟩, ((KeepBut.of_below HB.out g none).set_ 1 _).set_ 2 _, ((HB.out.mono hbw).setCell (p := ⟨g, 1, none⟩) H.out.hg _).setCell (p := ⟨g, 2, none⟩) H.out.hg _⟩
theorem dsync_nil (w : World) : Calls Tryz.prog 42 #[.pointer none] w fun e w' => e = .returned (.tuple #[]) ∧ w = w' := by
  go_enter Tryz.func42, Tryz.ntmps42
  go_wp2
  first | go_end0 | ((try simp only [Exit.inBlock, Exit.then]); refine bodyPost_ret (results_none rfl _ _ _) rfl ?_)
  exact ⟨rfl, rfl⟩
end Go.Proofs.YtpnbjpkdbiiogaaGreat
/- The disk in memory: what it holds; what keeps it. -/
namespace Go.Proofs.YtpnbjpkdbiiogaaGreat
set_option linter.unusedVariables false
open Go.RowKit Go.Maps Go.Proofs.YtpnbjpkdbiiogaaGreatW.PrintWords
attribute [local go_sem] mx2 mn2 mxTwo mnTwo

/-- A file of the disk: its number, where it lies, what it holds. -/
structure FR where
  id : Int
  g : Nat
  vn : Value
  vs : Value
  vo : Value
  now : List Int
  safe : List Int
  ops : List FOp
def FR.v (p : FR) : Value := .pointer (some ⟨p.g, 0, none⟩)
def fileAt (fl : List FR) (id : Int) : Option FR := fl.find? (fun p => decide (p.id = id))
open Classical in
noncomputable def filesF (fl : List FR) : Lit → Option Value := fun q => (fl.find? (fun p => decide (Lit.int .i64 p.id = q))).map FR.v
open Classical in
theorem filesF_at (fl : List FR) (id : Int) : filesF fl (.int .i64 id) = (fileAt fl id).map FR.v := by
  unfold filesF fileAt
  congr 2
  funext p
  simp
theorem filesF_nil : filesF [] = fun _ => none := rfl
open Classical in
theorem filesF_snoc (fl : List FR) (p : FR) (h : fileAt fl p.id = none) : filesF (fl ++ [p]) = upd (filesF fl) (.int .i64 p.id) (some p.v) := by
  funext q
  by_cases e : q = .int .i64 p.id
  · subst e
    rw [upd_same, filesF_at]
    unfold fileAt at h ⊢
    rw [List.find?_append, h]
    simp
  · rw [upd_other _ _ e]
    unfold filesF
    rw [List.find?_append]
    have : List.find? (fun p => decide (Lit.int .i64 p.id = q)) [p] = none := by simp [Ne.symm e]
    rw [this]
    simp
/-- Another file in the place of one. -/
def setFile (fl : List FR) (p' : FR) : List FR := fl.map (fun p => if p.id = p'.id then p' else p)
open Classical in
theorem filesF_set (fl : List FR) (p' : FR) (h : ∀ p ∈ fl, p.id = p'.id → p.g = p'.g) : filesF (setFile fl p') = filesF fl := by
  funext q
  unfold filesF setFile
  induction fl with
  | nil => rfl
  | cons a t ih =>
    have iht := ih (fun p hp => h p (List.mem_cons_of_mem _ hp))
    simp only [List.map_cons, List.find?_cons]
    by_cases ha : a.id = p'.id
    · rw [if_pos ha]
      by_cases hq : Lit.int .i64 p'.id = q
      · have hg := h a (List.mem_cons_self ..) ha
        simp [ha, hq, FR.v, hg]
      · simp only [ha, hq, decide_false]
        exact iht
    · rw [if_neg ha]
      by_cases hq : Lit.int .i64 a.id = q
      · simp [hq]
      · simp only [hq, decide_false]
        exact iht
theorem fileAt_mem {fl : List FR} {id : Int} {p : FR} (h : fileAt fl id = some p) : p ∈ fl ∧ p.id = id := by
  unfold fileAt at h
  exact ⟨List.mem_of_find?_eq_some h, by simpa using List.find?_some h⟩
/-- What a file's rows are not: the other files' rows of operations. -/
def apx (y : Nat → Prop) (fl : List FR) (p : FR) : Nat → Prop := fun k => y k ∧ ∀ q ∈ fl, q.g ≠ p.g → some k ≠ q.vo.ownBlock
theorem apx.mk {y : Nat → Prop} {fl : List FR} {p : FR} {k : Nat} (h1 : y k) (h2 : ∀ q ∈ fl, q.g ≠ p.g → some k ≠ q.vo.ownBlock) : apx y fl p k := ⟨h1, h2⟩
structure FsI (W : World) (b : Nat) (y : Nat → Prop) (fl : List FR) : Prop where
  hf : ∀ p ∈ fl, FI W b p.g (apx y fl p) p.vn p.vs p.vo p.now p.safe p.ops
  ap : fl.Pairwise (fun p q => p.id ≠ q.id ∧ p.g ≠ q.g)
  hy : ∀ k, W.heap.size ≤ k → y k
/-- The disk. -/
structure DK (W : World) (b : Nat) (y : Nat → Prop) (g gd mn ms : Nat) (vo : Value) (N : Nat) (now safe : List DN) (ops : List DOp) (mf M : Nat) (fl : List FR) (next room fuse : Int) (armed dead : Bool) : Prop where
  hb : W.heap[g]? = some (.cells #[.pointer (some ⟨gd, 0, none⟩), .map (some mf), .int .i64 next, .int .i64 room, .int .i64 fuse, .bool armed, .bool dead] 54 (0, 0))
  hd : DI W b gd mn ms vo N now safe ops
  hm : MV W Tryz.prog 3 mf M (filesF fl)
  hf : FsI W b y fl
  hg : b ≤ g
  hmf : b ≤ mf
  n1 : mf ≠ mn
  n2 : mf ≠ ms
theorem FI.move {W W' : World} {b g : Nat} {x x' : Nat → Prop} {vn vs vo : Value} {now safe : List Int} {ops : List FOp} (h : FI W b g x vn vs vo now safe ops) (hg : W'.heap[g]? = W.heap[g]?)
    (hr : ∀ k, x k → k < W.heap.size → (∃ cs T, (T = 5 ∨ T = 129) ∧ W.heap[k]? = some (.cells cs T (0, 0))) → W'.heap[k]? = W.heap[k]? ∧ x' k) : FI W' b g x' vn vs vo now safe ops := by
  have key : ∀ k, (x k ∧ b ≤ k ∧ k < W.heap.size ∧ ∃ q, (q = 5 ∨ q = 129) ∧ ∃ cells, W.heap[k]? = some (.cells cells q (0, 0))) → W'.heap[k]? = W.heap[k]? ∧ x' k := fun k hk => by
    obtain ⟨h1, _, h3, q, h4, cs, h5⟩ := hk
    exact hr k h1 h3 ⟨cs, q, h4, h5⟩
  have hu : ∀ {v : Value} {xs : List Int}, Kd.R (Kd.int .u8) 5 W b x v xs → Kd.R (Kd.int .u8) 5 W' b x' v xs := fun h0 => by
    refine Kd.R_mono (Kd.R_move (Kd.R_bound h0) (fun k hk => ?_)) (fun k hk => ?_)
    all_goals
      obtain ⟨h1, h2, h3, q, h4, h5⟩ := hk
      have hq : q = 5 := by
        have : (Kd.int .u8).E = [] := rfl
        rw [this] at h4
        simpa using h4
      have := key k ⟨h1, h2, h3, q, .inl hq, h5⟩
    · exact this.1
    · exact this.2
  refine ⟨hg.trans h.hb, hu h.hn, hu h.hs, ?_, h.hg⟩
  refine Kd.R_mono (Kd.R_move (Kd.R_bound h.ho) (fun k hk => ?_)) (fun k hk => ?_)
  all_goals
    obtain ⟨h1, h2, h3, q, h4, h5⟩ := hk
    have hq : q = 5 ∨ q = 129 := by
      have : kOp.E = [5] := rfl
      rw [this] at h4
      simp at h4
      exact h4.symm
    have := key k ⟨h1, h2, h3, q, hq, h5⟩
  · exact this.1
  · exact this.2
theorem DI.move {W W' : World} {b g mn ms N : Nat} {vo : Value} {now safe : List DN} {ops : List DOp} (h : DI W b g mn ms vo N now safe ops) (hg : W'.heap[g]? = W.heap[g]?) (hn : W'.heap[mn]? = W.heap[mn]?) (hs : W'.heap[ms]? = W.heap[ms]?)
    (hr : ∀ k, k < W.heap.size → (∃ cs, W.heap[k]? = some (.cells cs 122 (0, 0))) → W'.heap[k]? = W.heap[k]?) : DI W' b g mn ms vo N now safe ops := by
  refine ⟨hg.trans h.hb, h.hn.move hn, h.hs.move hs, ?_, h.hg, h.hmn, h.hms, h.ne⟩
  refine Kd.R_mono (Kd.R_move (Kd.R_bound h.ho) (fun k hk => ?_)) (fun k hk => trivial)
  obtain ⟨h1, h2, h3, q, h4, cs, h5⟩ := hk
  have hq : q = 122 := by
    have : kDop.E = [] := rfl
    rw [this] at h4
    simpa using h4
  subst hq
  exact hr k h3 ⟨cs, h5⟩
section
variable {W W1 : World} {b g gd mn ms N mf M : Nat} {y : Nat → Prop} {vo : Value} {now safe : List DN} {ops : List DOp} {fl : List FR} {next room fuse : Int} {armed dead : Bool}
theorem FsI.below (h : FsI W b y fl) (hb : Below W.heap.size W W1) : FsI W1 b y fl := ⟨fun p hp => (h.hf p hp).below hb, h.ap, fun k hk => h.hy k (Nat.le_trans hb.size hk)⟩
theorem DK.below (h : DK W b y g gd mn ms vo N now safe ops mf M fl next room fuse armed dead) (hb : Below W.heap.size W W1) : DK W1 b y g gd mn ms vo N now safe ops mf M fl next room fuse armed dead :=
  ⟨blk_below h.hb hb, h.hd.below hb, h.hm.below hb, h.hf.below hb, h.hg, h.hmf, h.n1, h.n2⟩
theorem sz_own {W W1 : World} {g : Nat} {o : Obj} (hb : W1.heap[g]? = some o) (hk : ∀ k, k ≠ g → W1.heap[k]? = W.heap[k]?) : W.heap.size ≤ W1.heap.size := by
  refine Nat.le_of_not_lt fun hlt => ?_
  have h1 : W1.heap[W1.heap.size]? = none := Array.getElem?_eq_none (Nat.le_refl _)
  by_cases e : W1.heap.size = g
  · rw [e, hb] at h1
    cases h1
  · rw [hk _ e, Array.getElem?_eq_getElem hlt] at h1
    cases h1
/-- The disk's own block is turned, no other one. -/
theorem DK.own (h : DK W b y g gd mn ms vo N now safe ops mf M fl next room fuse armed dead) {next1 room1 fuse1 : Int} {armed1 dead1 : Bool}
    (hb : W1.heap[g]? = some (.cells #[.pointer (some ⟨gd, 0, none⟩), .map (some mf), .int .i64 next1, .int .i64 room1, .int .i64 fuse1, .bool armed1, .bool dead1] 54 (0, 0)))
    (hk : ∀ k, k ≠ g → W1.heap[k]? = W.heap[k]?) : DK W1 b y g gd mn ms vo N now safe ops mf M fl next1 room1 fuse1 armed1 dead1 := by
  have hty : ∀ (k : Nat) (cs : Array Value) (T : TypeId), T ≠ 54 → W.heap[k]? = some (.cells cs T (0, 0)) → W1.heap[k]? = W.heap[k]? := fun k cs T hT hkk => hk k (blk_ne hkk h.hb hT)
  refine ⟨hb, ?_, h.hm.move (hk mf (h.hm.ne h.hb)), ⟨fun p hp => ?_, h.hf.ap, fun k hkk => h.hf.hy k (Nat.le_trans (sz_own hb hk) hkk)⟩, h.hg, h.hmf, h.n1, h.n2⟩
  · exact h.hd.move (hty gd _ _ (by decide) h.hd.hb) (hk mn (h.hd.hn.ne h.hb)) (hk ms (h.hd.hs.ne h.hb)) (fun k _ ⟨cs, hc⟩ => hty k cs _ (by decide) hc)
  · have hp1 := h.hf.hf p hp
    exact hp1.move (hty p.g _ _ (by decide) hp1.hb) (fun k hx _ ⟨cs, T, hT, hc⟩ => ⟨hty k cs T (by rcases hT with rfl | rfl <;> decide) hc, hx⟩)
end
end Go.Proofs.YtpnbjpkdbiiogaaGreat
/- The disk: New; a change is counted; a name's file; its sectors. -/
namespace Go.Proofs.YtpnbjpkdbiiogaaGreat
set_option linter.unusedVariables false
open Go.RowKit Go.Maps Go.Proofs.YtpnbjpkdbiiogaaGreatW.PrintWords
attribute [local go_sem] mx2 mn2 mxTwo mnTwo

theorem lawI : Keyed Tryz.prog 3 := int_keyed Tryz.underlying3
theorem zeroPF (w : World) : (zeroValue 81).run Tryz.prog w = .ok (.pointer none) w := by kernel_rfl
theorem knew_any (b : Nat) (y : Nat → Prop) (room : Int) (w : World) (hb : b ≤ w.heap.size) (hy : ∀ k, w.heap.size ≤ k → y k) : Calls Tryz.prog 7 #[.int .i64 room] w fun e w' => ∃ g gd mn ms mf, e = .returned (.pointer (some ⟨g, 0, none⟩)) ∧ DK w' b y g gd mn ms (.slice none 0 0) 0 [] [] [] mf 0 [] 0 (if room < 0 then 0 else room) 0 false false ∧ Below w.heap.size w w' := by
  have hmm := @run_makeMap Tryz.prog
  obtain ⟨rm, hrm⟩ : ∃ rm, rm = (if room < 0 then 0 else room) := ⟨_, rfl⟩
  rw [← hrm]
  have HRM := Aside0.mk hrm
  clear hrm
  have key : ∀ (gd mn ms : Nat) (w1 : World) (r : Int), rm = r → DI w1 b gd mn ms (.slice none 0 0) 0 [] [] [] → Below w.heap.size w w1 → mn < w1.heap.size → ms < w1.heap.size →
      DK ((w1.alloc (.map #[] 0)).alloc (.cells #[.pointer (some ⟨gd, 0, none⟩), .map (some w1.heap.size), .int .i64 0, .int .i64 r, .int .i64 0, .bool false, .bool false] 54)) b y (w1.heap.size + 1) gd mn ms (.slice none 0 0) 0 [] [] [] w1.heap.size 0 [] 0 rm 0 false false ∧
      Below w.heap.size w ((w1.alloc (.map #[] 0)).alloc (.cells #[.pointer (some ⟨gd, 0, none⟩), .map (some w1.heap.size), .int .i64 0, .int .i64 r, .int .i64 0, .bool false, .bool false] 54)) := by
    rintro gd mn ms w1 r rfl hd hbl hl1 hl2
    have hs := hbl.size
    have hz : (w1.alloc (.map #[] 0)).heap.size = w1.heap.size + 1 := World.size_alloc ..
    have hbb : Below w1.heap.size w1 ((w1.alloc (.map #[] 0)).alloc (.cells #[.pointer (some ⟨gd, 0, none⟩), .map (some w1.heap.size), .int .i64 0, .int .i64 rm, .int .i64 0, .bool false, .bool false] 54)) := below_alloc (below_alloc (Below.refl _ _) _) _
    refine ⟨⟨?_, hd.below hbb, ((MV.made w1 Tryz.prog 3).below (below_alloc (Below.refl _ _) _)).congr (fun q => rfl), ⟨fun p hp => by simp at hp, List.Pairwise.nil, fun k hk => hy k (Nat.le_trans (Nat.le_trans hs hbb.size) hk)⟩, by omega, by omega, by omega, by omega⟩, below_step hbl hbb⟩
    have := blk_new (w1.alloc (.map #[] 0)) (.cells #[.pointer (some ⟨gd, 0, none⟩), .map (some w1.heap.size), .int .i64 0, .int .i64 rm, .int .i64 0, .bool false, .bool false] 54)
    rw [hz] at this
    exact this
  have HK := Aside0.mk key
  clear key
  by_cases hr : room < 0
  all_goals
    go_enter Tryz.func7, Tryz.ntmps7
    go_wp2_with (go_at_call 26; refine (dnew_any b _ hb).mono ?_; rintro e w1 ⟨gd, mn, ms, rfl, h1, h2, h3, hd, hbl⟩; have HD := Aside0.mk hd; have HBL := Aside0.mk hbl; have HL1 := Aside0.mk hd.hn.lt; have HL2 := Aside0.mk hd.hs.lt; clear hd hbl h1 h2 h3)
    go_ret
    first
    | (have hfin := HK.out gd mn ms w1 0 (by have := HRM.out; split at this <;> omega) HD.out HBL.out HL1.out HL2.out; first | exact ⟨_, rfl, ⟨_, _, _, _, hfin.1⟩, hfin.2⟩ | exact ⟨_, _, _, _, _, rfl, hfin.1, hfin.2⟩)
    | (have hfin := HK.out gd mn ms w1 room (by have := HRM.out; split at this <;> omega) HD.out HBL.out HL1.out HL2.out; first | exact ⟨_, rfl, ⟨_, _, _, _, hfin.1⟩, hfin.2⟩ | exact ⟨_, _, _, _, _, rfl, hfin.1, hfin.2⟩)
/-- What a change tells; what is left of the fuse; whether the disk has stopped. -/
def chg (fuse : Int) (armed dead : Bool) : Int × Int × Bool := if dead then (26, fuse, true) else if armed then (if fuse = 0 then (26, fuse, true) else (0, fuse - 1, false)) else (0, fuse, false)
theorem change_any (b : Nat) (y : Nat → Prop) (g gd mn ms : Nat) (vo : Value) (N : Nat) (now safe : List DN) (ops : List DOp) (mf M : Nat) (fl : List FR) (next room fuse : Int) (armed dead : Bool) (w : World) (h : DK w b y g gd mn ms vo N now safe ops mf M fl next room fuse armed dead) (h0 : 0 ≤ fuse) (h1 : fuse ≤ 9223372036854775807) : Calls Tryz.prog 39 #[.pointer (some ⟨g, 0, none⟩)] w fun e w' => e = .returned (.int .i64 (chg fuse armed dead).1) ∧ DK w' b y g gd mn ms vo N now safe ops mf M fl next room (chg fuse armed dead).2.1 armed (chg fuse armed dead).2.2 ∧ (∀ k, k ≠ g → w'.heap[k]? = w.heap[k]?) ∧ Below b w w' := by
  have c4 := (blk_cell h.hb 4).trans (rfl : _ = some (Value.int .i64 fuse))
  have c5 := (blk_cell h.hb 5).trans (rfl : _ = some (Value.bool armed))
  have c6 := (blk_cell h.hb 6).trans (rfl : _ = some (Value.bool dead))
  have f4 := blk_frozen h.hb 4
  have f6 := blk_frozen h.hb 6
  have H := Aside0.mk h
  clear h
  cases dead
  · cases armed
    · go_enter Tryz.func39, Tryz.ntmps39
      go_wp2
      go_ret
      exact ⟨rfl, H.out, fun _ _ => rfl, Below.refl _ _⟩
    · by_cases hz : fuse = 0
      · subst hz
        go_enter Tryz.func39, Tryz.ntmps39
        go_wp2
        go_ret
        exact ⟨rfl, H.out.own (blk_put H.out.hb 6 _ rfl) (fun k hk => Below.heap_setCell w _ _ k hk), fun k hk => Below.heap_setCell w _ _ k hk, (Below.refl _ _).setCell (p := ⟨g, 6, none⟩) H.out.hg _⟩
      · have hc : chg fuse true false = (0, fuse - 1, false) := by unfold chg; simp [hz]
        have HC := Aside0.mk hc
        clear hc
        go_enter Tryz.func39, Tryz.ntmps39
        go_wp2
        go_ret
        rw [HC.out]
        exact ⟨rfl, H.out.own (blk_put H.out.hb 4 _ rfl) (fun k hk => Below.heap_setCell w _ _ k hk), fun k hk => Below.heap_setCell w _ _ k hk, (Below.refl _ _).setCell (p := ⟨g, 4, none⟩) H.out.hg _⟩
  · go_enter Tryz.func39, Tryz.ntmps39
    go_wp2
    go_ret
    exact ⟨rfl, H.out, fun _ _ => rfl, Below.refl _ _⟩
/-- Names that have files; files that are no longer than may be. -/
structure KG (now : List DN) (fl : List FR) : Prop where
  id : ∀ p ∈ now, 0 ≤ p.2 ∧ p.2 ≤ 1000000 ∧ ∃ f, fileAt fl p.2 = some f
  len : ∀ f ∈ fl, f.now.length ≤ 1048576 ∧ f.ops.length ≤ 500000
theorem getN_mem : ∀ {l : List DN} {s : ByteArray} {id : Int}, getN l s = some id → (s, id) ∈ l
  | [], s, id, h => by cases h
  | p :: t, s, id, h => by
    rw [getN_cons] at h
    split at h
    · rename_i e
      cases h
      subst e
      exact List.mem_cons_self ..
    · exact List.mem_cons_of_mem _ (getN_mem h)
theorem of_none (b : Nat) (y : Nat → Prop) (g gd mn ms : Nat) (vo : Value) (N : Nat) (now safe : List DN) (ops : List DOp) (mf M : Nat) (fl : List FR) (next room fuse : Int) (armed dead : Bool) (w : World) (h : DK w b y g gd mn ms vo N now safe ops mf M fl next room fuse armed dead) (s : ByteArray) (hs : s.size ≤ maxLen) (hn : getN now s = none) : Calls Tryz.prog 40 #[.pointer (some ⟨g, 0, none⟩), .string s] w fun e w' => e = .returned (.tuple #[.pointer none, .int .i64 6]) ∧ w = w' := by
  have c0 := (blk_cell h.hb 0).trans (rfl : _ = some (Value.pointer (some ⟨gd, 0, none⟩)))
  have H := Aside0.mk h
  have HN := Aside0.mk hn
  clear h hn
  go_enter Tryz.func40, Tryz.ntmps40
  go_wp2_with (go_at_call 46; refine (dget_any b gd mn ms N vo now safe ops s _ H.out.hd hs).mono ?_; rw [HN.out]; rintro e w1 ⟨rfl, rfl⟩)
  go_ret2
  exact ⟨rfl, rfl⟩
theorem of_some (b : Nat) (y : Nat → Prop) (g gd mn ms : Nat) (vo : Value) (N : Nat) (now safe : List DN) (ops : List DOp) (mf M : Nat) (fl : List FR) (next room fuse : Int) (armed dead : Bool) (w : World) (h : DK w b y g gd mn ms vo N now safe ops mf M fl next room fuse armed dead) (s : ByteArray) (hs : s.size ≤ maxLen) (id : Int) (hi0 : 0 ≤ id) (hi1 : id ≤ 1000000) (p : FR) (hn : getN now s = some id) (hp : fileAt fl id = some p) : Calls Tryz.prog 40 #[.pointer (some ⟨g, 0, none⟩), .string s] w fun e w' => e = .returned (.tuple #[.pointer (some ⟨p.g, 0, none⟩), .int .i64 0]) ∧ w = w' := by
  have c0 := (blk_cell h.hb 0).trans (rfl : _ = some (Value.pointer (some ⟨gd, 0, none⟩)))
  have c1 := (blk_cell h.hb 1).trans (rfl : _ = some (Value.map (some mf)))
  have HK := Aside0.mk (keyOf_int_mk (P := Tryz.prog) Tryz.underlying3 (WalkArith.wf_i64 (by omega) : (Lit.int .i64 id).wf = true))
  have HV := Aside0.mk (show (filesF fl (.int .i64 id)).getD (Value.pointer none) = .pointer (some ⟨p.g, 0, none⟩) by rw [filesF_at, hp]; rfl)
  have H := Aside0.mk h
  have HN := Aside0.mk hn
  clear h hn hp
  go_enter Tryz.func40, Tryz.ntmps40
  go_wp2_with (first
    | (go_at_call 46; refine (dget_any b gd mn ms N vo now safe ops s _ H.out.hd hs).mono ?_; rw [HN.out]; rintro e w1 ⟨rfl, rfl⟩)
    | (at_lookup; refine mv_lookup rfl _ _ 52 rfl 3 81 lawI Tryz.underlying52 (zeroPF _) mf M (filesF fl) rfl H.out.hm _ (.int .i64 id) rfl HK.out _ HV.out ?_))
  go_ret2
  exact ⟨rfl, rfl⟩
theorem sectors_some (b : Nat) (y : Nat → Prop) (g gd mn ms : Nat) (vo : Value) (N : Nat) (now safe : List DN) (ops : List DOp) (mf M : Nat) (fl : List FR) (next room fuse : Int) (armed dead : Bool) (w : World) (h : DK w b y g gd mn ms vo N now safe ops mf M fl next room fuse armed dead) (s : ByteArray) (hs : s.size ≤ maxLen) (id : Int) (hi0 : 0 ≤ id) (hi1 : id ≤ 1000000) (p : FR) (hn : getN now s = some id) (hp : fileAt fl id = some p) (hl : p.now.length ≤ 1048576) : Calls Tryz.prog 57 #[.pointer (some ⟨g, 0, none⟩), .string s] w fun e w' => e = .returned (.int .i64 (cnt (p.now.length : Int))) ∧ w = w' := by
  have c0 := (blk_cell h.hb 0).trans (rfl : _ = some (Value.pointer (some ⟨gd, 0, none⟩)))
  have c1 := (blk_cell h.hb 1).trans (rfl : _ = some (Value.map (some mf)))
  have HK := Aside0.mk (keyOf_int_mk (P := Tryz.prog) Tryz.underlying3 (WalkArith.wf_i64 (by omega) : (Lit.int .i64 id).wf = true))
  have HV := Aside0.mk (show (filesF fl (.int .i64 id)).getD (Value.pointer none) = .pointer (some ⟨p.g, 0, none⟩) by rw [filesF_at, hp]; rfl)
  have HF := Aside0.mk (h.hf.hf p (fileAt_mem hp).1)
  have H := Aside0.mk h
  have HN := Aside0.mk hn
  clear h hn hp
  go_enter Tryz.func57, Tryz.ntmps57
  go_wp2_with (first
    | (go_at_call 46; refine (dget_any b gd mn ms N vo now safe ops s _ H.out.hd hs).mono ?_; rw [HN.out]; rintro e w1 ⟨rfl, rfl⟩)
    | (at_lookup; refine mv_lookup rfl _ _ 52 rfl 3 81 lawI Tryz.underlying52 (zeroPF _) mf M (filesF fl) rfl H.out.hm _ (.int .i64 id) rfl HK.out _ HV.out ?_)
    | (go_at_call 85; refine (flen_any b p.g _ _ _ _ _ _ _ _ HF.out).mono ?_; rintro e w2 ⟨rfl, rfl⟩)
    | (go_at_call 86; refine (count_any _ _ (by omega)).mono ?_; rintro e w3 ⟨rfl, rfl⟩))
  go_ret
  exact ⟨rfl, rfl⟩
end Go.Proofs.YtpnbjpkdbiiogaaGreat
/- The disk: how much room is used; whether there is more. -/
namespace Go.Proofs.YtpnbjpkdbiiogaaGreat
set_option linter.unusedVariables false
open Go.RowKit Go.Maps Go.Proofs.YtpnbjpkdbiiogaaGreatW.PrintWords
attribute [local go_sem] mx2 mn2 mxTwo mnTwo

theorem wrapI {x : Int} (h0 : 0 ≤ x) (h1 : x < 9223372036854775808) : IntKind.i64.wrap x = x := by
  have e : x % 18446744073709551616 = x := by omega
  simp only [IntKind.wrap, IntKind.signed, IntKind.bits]
  have e64 : (2 : Int) ^ 64 = 18446744073709551616 := rfl
  have e63 : (2 : Int) ^ (64 - 1) = 9223372036854775808 := rfl
  simp only [e64, e63, e]
  rw [if_neg (by simp; omega)]
/-- How long a file is. -/
def lenA (fl : List FR) (id : Int) : Int := ((fileAt fl id).map (fun f => (f.now.length : Int))).getD 0
def usedF (fl : List FR) (l : List DN) : Int := l.foldl (fun n p => n + cnt (lenA fl p.2)) 0
theorem usedF_snoc (fl : List FR) (l : List DN) (p : DN) : usedF fl (l ++ [p]) = usedF fl l + cnt (lenA fl p.2) := by unfold usedF; rw [List.foldl_append]; rfl
theorem lenA_some {fl : List FR} {id : Int} {p : FR} (h : fileAt fl id = some p) : lenA fl id = p.now.length := by unfold lenA; rw [h]; rfl
theorem cnt_bd {n : Int} (h : n ≤ 1048576) : 0 ≤ cnt n ∧ cnt n ≤ 16384 := by
  unfold cnt
  split
  · omega
  · omega
theorem lenA_le {now : List DN} {fl : List FR} (h : KG now fl) (id : Int) : lenA fl id ≤ 1048576 := by
  unfold lenA
  cases e : fileAt fl id with
  | none => simp
  | some f =>
    have := (h.len f (fileAt_mem e).1).1
    simp only [Option.map_some, Option.getD_some]
    omega
theorem usedF_bd {now : List DN} {fl : List FR} (h : KG now fl) : ∀ (l : List DN) (n : Int), 0 ≤ n → 0 ≤ l.foldl (fun n p => n + cnt (lenA fl p.2)) n ∧ l.foldl (fun n p => n + cnt (lenA fl p.2)) n ≤ n + 16384 * (l.length : Int)
  | [], n, hn => by simp [hn]
  | p :: t, n, hn => by
    have hc := cnt_bd (lenA_le h p.2)
    have := usedF_bd h t (n + cnt (lenA fl p.2)) (by omega)
    rw [List.foldl_cons]
    simp only [List.length_cons]
    push_cast
    omega
theorem getN_of_mem : ∀ {l : List DN}, Rising l → ∀ {p : DN}, p ∈ l → getN l p.1 = some p.2
  | [], _, p, h => by simp at h
  | q :: t, hr, p, h => by
    obtain ⟨h1, h2⟩ := rising_cons.1 hr
    rw [getN_cons]
    rcases List.mem_cons.1 h with rfl | h
    · rw [if_pos rfl]
    · have hne : q.1 ≠ p.1 := fun e => by
        have := h1 p h
        rw [e] at this
        exact List.lt_irrefl _ this
      rw [if_neg hne]
      exact getN_of_mem h2 h
set_option maxHeartbeats 1000000 in
set_option maxRecDepth 100000 in
theorem used_any (b : Nat) (y : Nat → Prop) (g gd mn ms : Nat) (vo : Value) (N : Nat) (now safe : List DN) (ops : List DOp) (mf M : Nat) (fl : List FR) (next room fuse : Int) (armed dead : Bool) (w : World) (h : DK w b y g gd mn ms vo N now safe ops mf M fl next room fuse armed dead) (hk : KG now fl) (hr : Rising now) (hN : N ≤ 1000000) (hln : now.length ≤ 100000) (hsz : ∀ p ∈ now, p.1.size ≤ maxLen) : Calls Tryz.prog 22 #[.pointer (some ⟨g, 0, none⟩)] w fun e w' => e = .returned (.int .i64 (usedF fl now)) ∧ Below w.heap.size w w' := by
  have c0 := (blk_cell h.hb 0).trans (rfl : _ = some (Value.pointer (some ⟨gd, 0, none⟩)))
  have H := Aside0.mk h
  have HK := Aside0.mk hk
  have HR := Aside0.mk hr
  have HS := Aside0.mk hsz
  clear h hk hr hsz
  go_enter Tryz.func22, Tryz.ntmps22
  go_wp2_with (go_at_call 16; refine (dnames_any b gd mn ms N vo now safe ops _ H.out.hd HR.out hN).mono ?_; rintro e w1 ⟨v, rfl, hv, hb⟩; obtain ⟨A, c, rfl⟩ := Kd.R_slice hv; rw [List.length_map] at hv ⊢; have HV := Aside0.mk hv; have HB := Aside0.mk hb; clear hv hb)
  go_loopg [3, 14] now.length (fun gk v3 v14 wr => ∃ i : Nat, v3 = .int .i64 (usedF fl (now.take i)) ∧ v14 = .int .i64 (i : Nat) ∧ i ≤ now.length ∧ Aside0 (gk = now.length - i) ∧ Aside0 (Below w1.heap.size w1 wr))
  case atStart => exact ⟨0, rfl, rfl, Nat.zero_le _, ⟨rfl⟩, ⟨Below.refl _ _⟩⟩
  case round =>
    obtain ⟨i, rfl, rfl, hi, hg, HW⟩ := hrel
    by_cases hlt : i < now.length
    · obtain ⟨p, hp⟩ : ∃ p, p = now.getD i zDN := ⟨_, rfl⟩
      have hpm : p ∈ now := by
        rw [hp, List.getD_eq_getElem?_getD, List.getElem?_eq_getElem hlt]
        exact List.getElem_mem _
      have hT : now.take (i + 1) = now.take i ++ [p] := by
        rw [hp, List.take_add_one, List.getElem?_eq_getElem hlt, List.getD_eq_getElem?_getD, List.getElem?_eq_getElem hlt]
        rfl
      obtain ⟨hid0, hid1, f, hf⟩ := HK.out.id p hpm
      have HN := Aside0.mk (getN_of_mem HR.out hpm)
      have HL := Aside0.mk (HK.out.len f (fileAt_mem hf).1).1
      have HU := Aside0.mk (show usedF fl (now.take (i + 1)) = usedF fl (now.take i) + cnt (f.now.length : Int) by rw [hT, usedF_snoc, lenA_some hf])
      have hu : 0 ≤ usedF fl (now.take i) ∧ usedF fl (now.take i) ≤ 0 + 16384 * ((now.take i).length : Int) := usedF_bd HK.out (now.take i) 0 (Int.le_refl _)
      rw [List.length_take, Nat.min_eq_left (by omega)] at hu
      have hcb := cnt_bd (n := (f.now.length : Int)) (by have := HL.out; omega)
      have hs := HS.out p hpm
      obtain ⟨ad, rfl, sy⟩ := Kd.at_string (Kd.C_below (Kd.R_reads' HV.out).2.2 HW.out) (i : Int) (by omega) (by rw [List.length_map]; omega)
      simp only [Int.toNat_natCast] at sy
      rw [show rdOf ByteArray.empty (now.map (·.1)) (i : Int) = p.1 by unfold rdOf; rw [Int.toNat_natCast, hp]; simp [List.getD_eq_getElem?_getD, List.getElem?_eq_getElem hlt]] at sy
      have HF := Aside0.mk hf
      have HS2 := Aside0.mk hs
      obtain ⟨u, hu0⟩ : ∃ u, u = usedF fl (now.take i) := ⟨_, rfl⟩
      obtain ⟨cf, hcf⟩ : ∃ cf, cf = cnt (f.now.length : Int) := ⟨_, rfl⟩
      have hub : 0 ≤ u ∧ u ≤ 16384 * (i : Int) := by rw [hu0]; exact ⟨hu.1, by have := hu.2; omega⟩
      obtain ⟨hu1, hu2⟩ := hub
      rw [← hcf] at HU hcb
      rw [← hu0] at HU ⊢
      obtain ⟨hc1, hc2⟩ := hcb
      have HCF := Aside0.mk hcf
      clear hp hpm hT hf hu hs hu0 hcf
      go_wp2_with (go_at_call 57; refine (sectors_some b y g gd mn ms vo N now safe ops mf M fl next room fuse armed dead _ ((H.out.below HB.out).below HW.out) p.1 HS2.out p.2 hid0 hid1 f HN.out HF.out HL.out).mono ?_; rw [← HCF.out]; rintro e w2 ⟨rfl, rfl⟩)
      go_roundg (now.length - (i + 1))
      case measure => have := hg.out; omega
      case rel => exact ⟨i + 1, by rw [HU.out], by go_num, hlt, ⟨rfl⟩, HW⟩
    · obtain rfl : i = now.length := by omega
      rw [List.take_length]
      go_wp2_with fail
      go_ret
      exact ⟨rfl, below_step HB.out HW.out⟩
/-- Whether there is room for a file of a size, in the place of one. -/
def hasF (fl : List FR) (now : List DN) (room : Int) (len size : Int) : Bool := decide (cnt size - cnt len ≤ 0) || decide (usedF fl now + (cnt size - cnt len) ≤ room)
set_option maxHeartbeats 1000000 in
set_option maxRecDepth 100000 in
theorem has_any (b : Nat) (y : Nat → Prop) (g gd mn ms : Nat) (vo : Value) (N : Nat) (now safe : List DN) (ops : List DOp) (mf M : Nat) (fl : List FR) (next room fuse : Int) (armed dead : Bool) (w : World) (h : DK w b y g gd mn ms vo N now safe ops mf M fl next room fuse armed dead) (hk : KG now fl) (hr : Rising now) (hN : N ≤ 1000000) (hln : now.length ≤ 100000) (hsz : ∀ p ∈ now, p.1.size ≤ maxLen) (p : FR) (hp : p ∈ fl) (size : Int) (hs0 : size ≤ 2097152) (hr0 : 0 ≤ room) : Calls Tryz.prog 60 #[.pointer (some ⟨g, 0, none⟩), .pointer (some ⟨p.g, 0, none⟩), .int .i64 size] w fun e w' => e = .returned (.bool (hasF fl now room p.now.length size)) ∧ Below w.heap.size w w' := by
  have s3 := (blk_cell h.hb 3).trans (rfl : _ = some (Value.int .i64 room))
  have hl := (hk.len p hp).1
  have hcs : 0 ≤ cnt size ∧ cnt size ≤ 32768 := by unfold cnt; split <;> omega
  have hcl := cnt_bd (n := (p.now.length : Int)) (by omega)
  have hub : 0 ≤ usedF fl now ∧ usedF fl now ≤ 0 + 16384 * (now.length : Int) := usedF_bd hk now 0 (Int.le_refl _)
  obtain ⟨u, hu0⟩ : ∃ u, u = usedF fl now := ⟨_, rfl⟩
  have hub2 : 0 ≤ u ∧ u ≤ 16384 * (now.length : Int) := by rw [hu0]; exact ⟨hub.1, by have := hub.2; omega⟩
  obtain ⟨hu1, hu2⟩ := hub2
  have HU := Aside0.mk (fun W hW => used_any b y g gd mn ms vo N now safe ops mf M fl next room fuse armed dead W hW hk hr hN hln hsz)
  rw [← hu0] at HU
  unfold hasF
  rw [← hu0]
  have HF := Aside0.mk (h.hf.hf p hp)
  have H := Aside0.mk h
  obtain ⟨cs, hcs0⟩ : ∃ c, c = cnt size := ⟨_, rfl⟩
  obtain ⟨cl, hcl0⟩ : ∃ c, c = cnt (p.now.length : Int) := ⟨_, rfl⟩
  rw [← hcs0] at hcs ⊢
  rw [← hcl0] at hcl ⊢
  have HCS := Aside0.mk hcs0
  have HCL := Aside0.mk hcl0
  obtain ⟨q1, q2⟩ := hcs
  obtain ⟨q3, q4⟩ := hcl
  clear h hk hr hsz hub hu0 hcs0 hcl0
  by_cases hm : cs - cl ≤ 0
  · have hd := decide_eq_true hm
    go_enter Tryz.func60, Tryz.ntmps60
    go_wp2_with (first
      | (go_at_call 85; refine (flen_any b p.g _ _ _ _ _ _ _ _ HF.out).mono ?_; rintro e w2 ⟨rfl, rfl⟩)
      | (go_at_call 86; refine (count_any _ _ (by omega)).mono ?_; (first | rw [← HCS.out] | rw [← HCL.out]); rintro e w3 ⟨rfl, rfl⟩))
    go_quiet (fail)
    go_wp2_with fail
    go_ret
    exact ⟨by simp [hm], pw_below_drewN (Below.refl _ _) _⟩
  · have hd := decide_eq_false hm
    go_enter Tryz.func60, Tryz.ntmps60
    go_wp2_with (first
      | (go_at_call 85; refine (flen_any b p.g _ _ _ _ _ _ _ _ HF.out).mono ?_; rintro e w2 ⟨rfl, rfl⟩)
      | (go_at_call 86; refine (count_any _ _ (by omega)).mono ?_; (first | rw [← HCS.out] | rw [← HCL.out]); rintro e w3 ⟨rfl, rfl⟩))
    go_region_held3 (fun w' => w'.cell? ⟨g, 3, none⟩ = some (.int .i64 room)) (first | with_reducible exact s3 | exact s3) (first | (go_at_call 22; refine (HU.out _ (H.out.below (below_drew1 (Below.refl _ _)))).mono ?_; rintro e w5 ⟨rfl, hb⟩; replace s3 := pw_cell_below hb s3; have HB := Aside0.mk hb; clear hb))
    all_goals
      go_wp2_with fail
      go_ret
      exact ⟨by rw [wrapI (by omega) (by omega), hd, Bool.false_or]; rfl, below_step (below_drew1 (Below.refl _ _)) HB.out⟩
end Go.Proofs.YtpnbjpkdbiiogaaGreat
