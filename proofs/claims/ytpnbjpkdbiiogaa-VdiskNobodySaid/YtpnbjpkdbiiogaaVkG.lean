/- The walk of the law VdiskNobody: it answers true. -/
import Derived.Test.YtpnbjpkdbiiogaaVkF
namespace Go.Proofs.Ytpnbjpkdbiiogaa
set_option linter.unusedVariables false
open Go.RowKit Go.Maps Go.ChangeShapes Go.WideShapes Go.Deep Go.Proofs.YtpnbjpkdbiiogaaW.PrintWords
attribute [local go_sem] mx2 mn2 mxTwo mnTwo

/-- A call, as it lies. -/
structure VAct where
  kd : Int
  a : ByteArray
  b : ByteArray
  at_ : Int
  dA : Option Addr
  dn : Nat
  dc : Nat
  kn : Nat
theorem opened_t127 {H : Type} {enc : TypeId × Value → H} {w : World} {base : Nat} {spare : Nat → Bool} {held : Bool} {cs : Array Value} {dd : DataW H} {ps : List MemPlace} (h : DataW.Trod enc Try.prog w base spare held 127 (.agg cs) dd ps) :
    ∃ (a : VAct) (A3 : Option Addr) (c3 : Nat), cs = #[.int .i64 a.kd, .string a.a, .string a.b, .int .i64 a.at_, .slice a.dA a.dn a.dc, .slice A3 a.kn c3] ∧ True := by
  obtain ⟨fuel, hf⟩ := h
  obtain ⟨hl, hfd⟩ := fields_open Try.underlying127 (by kernel_rfl) (by kernel_rfl) hf
  simp only [Value.cells] at hl hfd
  obtain ⟨_, y0, n0, e0, t0⟩ := hfd 0 _ rfl
  obtain ⟨_, y1, n1, e1, t1⟩ := hfd 1 _ rfl
  obtain ⟨_, y2, n2, e2, t2⟩ := hfd 2 _ rfl
  obtain ⟨_, y3, n3, e3, t3⟩ := hfd 3 _ rfl
  obtain ⟨_, y4, n4, e4, t4⟩ := hfd 4 _ rfl
  obtain ⟨_, y5, n5, e5, t5⟩ := hfd 5 _ rfl
  obtain ⟨kd, hk, _⟩ := opens_int Try.underlying3 _ _ _ _ _ _ _ _ _ t0
  obtain ⟨sa, hsa, _⟩ := opens_string Try.underlying9 _ _ _ _ _ _ _ _ _ t1
  obtain ⟨sb, hsb, _⟩ := opens_string Try.underlying9 _ _ _ _ _ _ _ _ _ t2
  obtain ⟨at_, hat, _⟩ := opens_int Try.underlying3 _ _ _ _ _ _ _ _ _ t3
  obtain ⟨d, ⟨dA, dc, hd, _⟩, _⟩ := opens_slice Try.underlying22 (by kernel_rfl) (opens_int Try.underlying5) _ _ _ _ _ _ _ _ _ t4
  obtain ⟨k, ⟨kA, kc, hkk, _⟩, _⟩ := opens_slice Try.underlying48 (by kernel_rfl) (opens_bool Try.underlying4) _ _ _ _ _ _ _ _ _ t5
  refine ⟨⟨kd, sa, sb, at_, dA, d.length, dc, k.length⟩, kA, kc, ?_, trivial⟩
  have f0 : _ = Value.int .i64 kd := List.head_eq_of_cons_eq hk
  have f1 : _ = Value.string sa := List.head_eq_of_cons_eq hsa
  have f2 : _ = Value.string sb := List.head_eq_of_cons_eq hsb
  have f3 : _ = Value.int .i64 at_ := List.head_eq_of_cons_eq hat
  have f4 := List.head_eq_of_cons_eq hd
  have f5 := List.head_eq_of_cons_eq hkk
  subst f0 f1 f2 f3 f4 f5
  have hL : ∃ a0 a1 a2 a3 a4 a5, cs.toList = [a0, a1, a2, a3, a4, a5] := by
    have hl6 : cs.toList.length = 6 := hl
    match cs.toList, hl6 with
    | [a0, a1, a2, a3, a4, a5], _ => exact ⟨_, _, _, _, _, _, rfl⟩
  obtain ⟨a0, a1, a2, a3, a4, a5, hL⟩ := hL
  rw [hL] at e0 e1 e2 e3 e4 e5
  injection e0 with e0
  injection e1 with e1
  injection e2 with e2
  injection e3 with e3
  injection e4 with e4
  injection e5 with e5
  rw [← Array.toArray_toList (xs := cs), hL]
  subst e0 e1 e2 e3 e4 e5
  rfl
set_option maxHeartbeats 2000000 in
set_option maxRecDepth 100000 in
theorem vnobody_walk (a : VAct) (A3 : Option Addr) (c3 : Nat) (w : World) (_hg : True) :
    Calls Try.prog 14 #[.agg #[.int .i64 a.kd, .string a.a, .string a.b, .int .i64 a.at_, .slice a.dA a.dn a.dc, .slice A3 a.kn c3]] w fun e w' => e = .returned (.bool true) ∧ Below w.heap.size w w' := by
  obtain ⟨W1, hW1⟩ : ∃ W1, W1 = w.alloc (.cells #[.int .i64 a.kd, .string a.a, .string a.b, .int .i64 a.at_, .slice a.dA a.dn a.dc, .slice A3 a.kn c3] 127) := ⟨_, rfl⟩
  have b0 : W1.heap[w.heap.size]? = some (.cells #[.int .i64 a.kd, .string a.a, .string a.b, .int .i64 a.at_, .slice a.dA a.dn a.dc, .slice A3 a.kn c3] 127 (0, 0)) := by rw [hW1]; exact blk_new _ _
  have HB := Aside0.mk (show Below w.heap.size w W1 by rw [hW1]; exact below_alloc (Below.refl _ _) _)
  have HW1 := Aside0.mk hW1
  clear hW1
  go_enter Try.func14, Try.ntmps14
  go_wp2_with fail
  rw [← HW1.out]
  obtain ⟨p0, hp0⟩ : ∃ p0, p0 = w.heap.size := ⟨_, rfl⟩
  rw [← hp0] at b0 ⊢
  have q1 := (blk_cell b0 1).trans (rfl : _ = some (Value.string a.a))
  have q2 := (blk_cell b0 2).trans (rfl : _ = some (Value.string a.b))
  have q3 := (blk_cell b0 3).trans (rfl : _ = some (Value.int .i64 a.at_))
  have q4 := (blk_cell b0 4).trans (rfl : _ = some (Value.slice a.dA a.dn a.dc))
  have q5 := (blk_cell b0 5).trans (rfl : _ = some (Value.slice A3 a.kn c3))
  clear b0 hp0 HW1
  go_wp2_with (first
    | (go_at_call 74; refine (awake08_any _).mono ?_; rintro e W9 ⟨rfl, hb⟩; replace q1 := pw_cell_below hb q1; replace q2 := pw_cell_below hb q2; replace q3 := pw_cell_below hb q3; replace q4 := pw_cell_below hb q4; replace q5 := pw_cell_below hb q5; have hbn := below_step HB.out hb; clear HB; have HB := Aside0.mk hbn; clear hb hbn)
    | (go_at_call 75; refine (knil_arm _ _).mono ?_; rintro e w1 ⟨rfl, hw⟩; subst hw)
    | (go_at_call 76; refine (knil_size _ _).mono ?_; rintro e w1 ⟨rfl, hw⟩; subst hw)
    | (go_at_call 70; refine (knil_read _ _ _ _).mono ?_; rintro e w1 ⟨rfl, hw⟩; subst hw)
    | (go_at_call 62; refine (knil_create _ _).mono ?_; rintro e w1 ⟨rfl, hw⟩; subst hw)
    | (go_at_call 68; refine (knil_write _ _ _ _ _ _).mono ?_; rintro e w1 ⟨rfl, hw⟩; subst hw)
    | (go_at_call 77; refine (knil_trunc _ _ _).mono ?_; rintro e w1 ⟨rfl, hw⟩; subst hw)
    | (go_at_call 78; refine (knil_sync _ _).mono ?_; rintro e w1 ⟨rfl, hw⟩; subst hw)
    | (go_at_call 79; refine (knil_syncdir _).mono ?_; rintro e w1 ⟨rfl, hw⟩; subst hw)
    | (go_at_call 80; refine (knil_rename _ _ _).mono ?_; rintro e w1 ⟨rfl, hw⟩; subst hw)
    | (go_at_call 81; refine (knil_unlink _ _).mono ?_; rintro e w1 ⟨rfl, hw⟩; subst hw)
    | (go_at_call 82; refine (knil_dead _).mono ?_; rintro e w1 ⟨rfl, hw⟩; subst hw)
    | (go_at_call 83; refine (knil_used _).mono ?_; rintro e w1 ⟨rfl, hw⟩; subst hw)
    | (go_at_call 84; refine (knil_loose _).mono ?_; rintro e w1 ⟨rfl, hw⟩; subst hw)
    | (go_at_call 85; refine (knil_crash _ _ _ _).mono ?_; rintro e W8 ⟨rfl, hb⟩; replace q1 := pw_cell_below hb q1; replace q2 := pw_cell_below hb q2; replace q3 := pw_cell_below hb q3; replace q4 := pw_cell_below hb q4; replace q5 := pw_cell_below hb q5; have hbn := below_step HB.out hb; clear HB; have HB := Aside0.mk hbn; clear hb hbn))
  go_ret
  exact ⟨rfl, HB.out⟩
end Go.Proofs.Ytpnbjpkdbiiogaa
