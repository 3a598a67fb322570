/- Directories: a call, done to both. -/
import Derived.Test.YtpnbjpkdbiiogaaDiM
namespace Go.Proofs.Ytpnbjpkdbiiogaa
set_option linter.unusedVariables false
open Go.RowKit Go.Maps Go.Sort Go.Proofs.YtpnbjpkdbiiogaaW.PrintWords
attribute [local go_sem] mx2 mn2 mxTwo mnTwo

set_option maxHeartbeats 1000000 in
set_option maxRecDepth 100000 in
theorem ddoes_create (b g mn ms N r : Nat) (vo rn rs ro : Value) (s : DSt) (k : Nat) (A3 : Option Addr) (n3 c3 : Nat) (w : World) (h : DS w b g mn ms vo N r rn rs ro s) (hb : BdD s N k) (hk : k ≤ 49) (sa sb : ByteArray) (id : Int) (kl : List Bool) (hsa : sa.size ≤ maxLen) (hsb : sb.size ≤ maxLen) : Calls Try.prog 46 #[.pointer (some ⟨g, 0, none⟩), .pointer (some ⟨r, 0, none⟩), (.agg #[.int .i64 0, .string sa, .string sb, .int .i64 id, .slice A3 n3 c3])] w (fun e w' => ∃ g' mn' ms' vo' N' r' rn' rs' ro', e = .returned (.tuple #[.pointer (some ⟨g', 0, none⟩), .pointer (some ⟨r', 0, none⟩), .bool true]) ∧ DS w' b g' mn' ms' vo' N' r' rn' rs' ro' (stepD s ⟨0, sa, sb, id, kl⟩) ∧ N' ≤ N + s.ops.length + 1 ∧ Below b w w') := by
  rw [show stepD s ⟨0, sa, sb, id, kl⟩ = ⟨doNow s.now ⟨0, sa, sb, id⟩, s.safe, doOps s.now s.ops ⟨0, sa, sb, id⟩⟩ from by unfold stepD; simp]
  have H := Aside0.mk h
  have HBD := Aside0.mk hb
  have HSA := Aside0.mk hsa
  have HSB := Aside0.mk hsb
  have hol := hb.ops
  have hnl := hb.now
  have hNl := hb.n
  have hbw : b ≤ w.heap.size := Nat.le_trans h.d.hg (Nat.le_of_lt (blk_lt h.d.hb))
  clear h hb hsa hsb
  go_enter Try.func46, Try.ntmps46
  go_wp2_with fail
  obtain ⟨W1, hW1⟩ : ∃ W1, W1 = (w.alloc (.cells #[.int .i64 0, .string sa, .string sb, .int .i64 id, .slice A3 n3 c3] 73)).alloc (.cells #[.int .i64 0, .string sa, .string sb, .int .i64 id] 144) := ⟨_, rfl⟩
  have hz : (w.alloc (.cells #[.int .i64 0, .string sa, .string sb, .int .i64 id, .slice A3 n3 c3] 73)).heap.size = w.heap.size + 1 := World.size_alloc ..
  have hna : W1.heap[w.heap.size]? = some (.cells #[.int .i64 0, .string sa, .string sb, .int .i64 id, .slice A3 n3 c3] 73 (0, 0)) := by rw [hW1]; exact blk_alloc (blk_new _ _) _
  have hno : W1.heap[w.heap.size + 1]? = some (.cells #[.int .i64 0, .string sa, .string sb, .int .i64 id] 144 (0, 0)) := by rw [hW1, ← hz]; exact blk_new _ _
  have hb1 : Below w.heap.size w W1 := by rw [hW1]; exact below_alloc (below_alloc (Below.refl _ _) _) _
  rw [← hW1]
  obtain ⟨p5, hp5⟩ : ∃ p5, p5 = w.heap.size := ⟨_, rfl⟩
  obtain ⟨p9, hp9⟩ : ∃ p9, p9 = w.heap.size + 1 := ⟨_, rfl⟩
  have hp5w : w.heap.size ≤ p5 := by omega
  have hp9w : w.heap.size ≤ p9 := by omega
  rw [← hp5] at hna
  rw [← hp9] at hno
  rw [← hp9, ← hp5]
  have t0 := (blk_cell hna 0).trans (rfl : _ = some (Value.int .i64 0))
  have t1 := (blk_cell hna 1).trans (rfl : _ = some (Value.string sa))
  have t2 := (blk_cell hna 2).trans (rfl : _ = some (Value.string sb))
  have t3 := (blk_cell hna 3).trans (rfl : _ = some (Value.int .i64 id))
  have t4 := (blk_cell hna 4).trans (rfl : _ = some (Value.slice A3 n3 c3))
  have u0 := (blk_cell hno 0).trans (rfl : _ = some (Value.int .i64 0))
  have u1 := (blk_cell hno 1).trans (rfl : _ = some (Value.string sa))
  have u2 := (blk_cell hno 2).trans (rfl : _ = some (Value.string sb))
  have u3 := (blk_cell hno 3).trans (rfl : _ = some (Value.int .i64 id))
  have HS := Aside0.mk (DS.below (W1 := W1) H.out hb1)
  have HB1 := Aside0.mk hb1
  have HNA := Aside0.mk hna
  have HNO := Aside0.mk hno
  have hg5 : ∀ p, w.heap.size ≤ p → p ≠ g ∧ some p ≠ some mn ∧ some p ≠ vo.ownBlock ∧ p ≠ r ∧ some p ≠ ro.ownBlock := fun p hp => ⟨fun e => by have := blk_lt H.out.d.hb; omega, fun e => by injection e with e; have := H.out.d.hn.lt; omega, fun e => by have := R_lt H.out.d.ho p e.symm; omega, fun e => by have := blk_lt H.out.r.hb; omega, fun e => by have := R_lt H.out.r.ho p e.symm; omega⟩
  have HG5 := Aside0.mk hg5
  clear hna hno hb1 hp5 hp9 hW1 hg5 hz
  go_region_held3 (fun w' => w'.cell? ⟨p5, 1, none⟩ = some (.string sa) ∧ w'.cell? ⟨p5, 2, none⟩ = some (.string sb) ∧ w'.cell? ⟨p5, 3, none⟩ = some (.int .i64 id) ∧ w'.cell? ⟨p5, 4, none⟩ = some (.slice A3 n3 c3) ∧ w'.cell? ⟨p9, 0, none⟩ = some (.int .i64 0) ∧ w'.cell? ⟨p9, 1, none⟩ = some (.string sa) ∧ w'.cell? ⟨p9, 2, none⟩ = some (.string sb) ∧ w'.cell? ⟨p9, 3, none⟩ = some (.int .i64 id)) (first | with_reducible exact ⟨t1, t2, t3, t4, u0, u1, u2, u3⟩ | exact ⟨t1, t2, t3, t4, u0, u1, u2, u3⟩) (first
    | (go_at_call 56; refine (dcreate_any b g mn ms N vo s.now s.safe (s.ops.map nrm) _ (HS.out.below (below_drew1 (Below.refl _ _))).d (by omega) (by rw [List.length_map]; omega) sa sb id HSA.out).mono ?_; rintro e w3 ⟨rfl, vo3, hd3, _, hk3, hl3⟩; have hna := (hk3.2 p5 (blk_lt (blk_drew HNA.out)) (HG5.out p5 hp5w).1 (HG5.out p5 hp5w).2.1 (HG5.out p5 hp5w).2.2.1).trans (blk_drew HNA.out); have hno := (hk3.2 p9 (blk_lt (blk_drew HNO.out)) (HG5.out p9 hp9w).1 (HG5.out p9 hp9w).2.1 (HG5.out p9 hp9w).2.2.1).trans (blk_drew HNO.out); replace t0 := (blk_cell hna 0).trans (rfl : _ = some (Value.int .i64 0)); replace t1 := (blk_cell hna 1).trans (rfl : _ = some (Value.string sa)); replace t2 := (blk_cell hna 2).trans (rfl : _ = some (Value.string sb)); replace t3 := (blk_cell hna 3).trans (rfl : _ = some (Value.int .i64 id)); replace t4 := (blk_cell hna 4).trans (rfl : _ = some (Value.slice A3 n3 c3)); replace u0 := (blk_cell hno 0).trans (rfl : _ = some (Value.int .i64 0)); replace u1 := (blk_cell hno 1).trans (rfl : _ = some (Value.string sa)); replace u2 := (blk_cell hno 2).trans (rfl : _ = some (Value.string sb)); replace u3 := (blk_cell hno 3).trans (rfl : _ = some (Value.int .i64 id)); have hr3 := (HS.out.below (below_drew1 (Below.refl _ _))).r.other (HS.out.below (below_drew1 (Below.refl _ _))).d hk3; have HD3 := Aside0.mk hd3; have HR3 := Aside0.mk hr3; have HL3 := Aside0.mk hl3; have HNA3 := Aside0.mk hna; have HNO3 := Aside0.mk hno; clear hd3 hk3 hl3 hr3 hna hno)
    | (go_at_call 94; refine (rddo_any b r rn rs ro s.now s.safe s.ops sa sb id _ HR3.out HSA.out HSB.out (by omega) (by omega) 0).mono ?_; rintro e w4 ⟨rfl, rn4, ro4, hr4, _, hk4, hl4⟩; have hna := (hk4.2 p5 (blk_lt HNA3.out) (HG5.out p5 hp5w).2.2.2.1 (HG5.out p5 hp5w).2.2.2.2).trans HNA3.out; have hno := (hk4.2 p9 (blk_lt HNO3.out) (HG5.out p9 hp9w).2.2.2.1 (HG5.out p9 hp9w).2.2.2.2).trans HNO3.out; replace t0 := (blk_cell hna 0).trans (rfl : _ = some (Value.int .i64 0)); replace t1 := (blk_cell hna 1).trans (rfl : _ = some (Value.string sa)); replace t2 := (blk_cell hna 2).trans (rfl : _ = some (Value.string sb)); replace t3 := (blk_cell hna 3).trans (rfl : _ = some (Value.int .i64 id)); replace t4 := (blk_cell hna 4).trans (rfl : _ = some (Value.slice A3 n3 c3)); replace u0 := (blk_cell hno 0).trans (rfl : _ = some (Value.int .i64 0)); replace u1 := (blk_cell hno 1).trans (rfl : _ = some (Value.string sa)); replace u2 := (blk_cell hno 2).trans (rfl : _ = some (Value.string sb)); replace u3 := (blk_cell hno 3).trans (rfl : _ = some (Value.int .i64 id)); have hd4 := HD3.out.other HR3.out hk4; have HD4 := Aside0.mk hd4; have HR4 := Aside0.mk hr4; have HL4 := Aside0.mk hl4; clear hr4 hk4 hl4 hd4 hna hno))
  all_goals
    go_wp2_with fail
    go_ret3
    have hd := HD4.out
    rw [ops_nrm] at hd
    exact ⟨_, _, _, _, N + 1, _, _, _, _, rfl, ⟨hd, HR4.out⟩, by omega, (HB1.out.mono hbw).trans ((below_drew1 (Below.refl _ _)).trans (HL3.out.trans HL4.out))⟩
set_option maxHeartbeats 1000000 in
set_option maxRecDepth 100000 in
theorem ddoes_rename (b g mn ms N r : Nat) (vo rn rs ro : Value) (s : DSt) (k : Nat) (A3 : Option Addr) (n3 c3 : Nat) (w : World) (h : DS w b g mn ms vo N r rn rs ro s) (hb : BdD s N k) (hk : k ≤ 49) (sa sb : ByteArray) (id : Int) (kl : List Bool) (hsa : sa.size ≤ maxLen) (hsb : sb.size ≤ maxLen) : Calls Try.prog 46 #[.pointer (some ⟨g, 0, none⟩), .pointer (some ⟨r, 0, none⟩), (.agg #[.int .i64 1, .string sa, .string sb, .int .i64 id, .slice A3 n3 c3])] w (fun e w' => ∃ g' mn' ms' vo' N' r' rn' rs' ro', e = .returned (.tuple #[.pointer (some ⟨g', 0, none⟩), .pointer (some ⟨r', 0, none⟩), .bool true]) ∧ DS w' b g' mn' ms' vo' N' r' rn' rs' ro' (stepD s ⟨1, sa, sb, id, kl⟩) ∧ N' ≤ N + s.ops.length + 1 ∧ Below b w w') := by
  rw [show stepD s ⟨1, sa, sb, id, kl⟩ = ⟨doNow s.now ⟨1, sa, sb, id⟩, s.safe, doOps s.now s.ops ⟨1, sa, sb, id⟩⟩ from by unfold stepD; simp]
  have H := Aside0.mk h
  have HBD := Aside0.mk hb
  have HSA := Aside0.mk hsa
  have HSB := Aside0.mk hsb
  have hol := hb.ops
  have hnl := hb.now
  have hNl := hb.n
  have hbw : b ≤ w.heap.size := Nat.le_trans h.d.hg (Nat.le_of_lt (blk_lt h.d.hb))
  clear h hb hsa hsb
  go_enter Try.func46, Try.ntmps46
  go_wp2_with fail
  obtain ⟨W1, hW1⟩ : ∃ W1, W1 = (w.alloc (.cells #[.int .i64 1, .string sa, .string sb, .int .i64 id, .slice A3 n3 c3] 73)).alloc (.cells #[.int .i64 1, .string sa, .string sb, .int .i64 id] 144) := ⟨_, rfl⟩
  have hz : (w.alloc (.cells #[.int .i64 1, .string sa, .string sb, .int .i64 id, .slice A3 n3 c3] 73)).heap.size = w.heap.size + 1 := World.size_alloc ..
  have hna : W1.heap[w.heap.size]? = some (.cells #[.int .i64 1, .string sa, .string sb, .int .i64 id, .slice A3 n3 c3] 73 (0, 0)) := by rw [hW1]; exact blk_alloc (blk_new _ _) _
  have hno : W1.heap[w.heap.size + 1]? = some (.cells #[.int .i64 1, .string sa, .string sb, .int .i64 id] 144 (0, 0)) := by rw [hW1, ← hz]; exact blk_new _ _
  have hb1 : Below w.heap.size w W1 := by rw [hW1]; exact below_alloc (below_alloc (Below.refl _ _) _) _
  rw [← hW1]
  obtain ⟨p5, hp5⟩ : ∃ p5, p5 = w.heap.size := ⟨_, rfl⟩
  obtain ⟨p9, hp9⟩ : ∃ p9, p9 = w.heap.size + 1 := ⟨_, rfl⟩
  have hp5w : w.heap.size ≤ p5 := by omega
  have hp9w : w.heap.size ≤ p9 := by omega
  rw [← hp5] at hna
  rw [← hp9] at hno
  rw [← hp9, ← hp5]
  have t0 := (blk_cell hna 0).trans (rfl : _ = some (Value.int .i64 1))
  have t1 := (blk_cell hna 1).trans (rfl : _ = some (Value.string sa))
  have t2 := (blk_cell hna 2).trans (rfl : _ = some (Value.string sb))
  have t3 := (blk_cell hna 3).trans (rfl : _ = some (Value.int .i64 id))
  have t4 := (blk_cell hna 4).trans (rfl : _ = some (Value.slice A3 n3 c3))
  have u0 := (blk_cell hno 0).trans (rfl : _ = some (Value.int .i64 1))
  have u1 := (blk_cell hno 1).trans (rfl : _ = some (Value.string sa))
  have u2 := (blk_cell hno 2).trans (rfl : _ = some (Value.string sb))
  have u3 := (blk_cell hno 3).trans (rfl : _ = some (Value.int .i64 id))
  have HS := Aside0.mk (DS.below (W1 := W1) H.out hb1)
  have HB1 := Aside0.mk hb1
  have HNA := Aside0.mk hna
  have HNO := Aside0.mk hno
  have hg5 : ∀ p, w.heap.size ≤ p → p ≠ g ∧ some p ≠ some mn ∧ some p ≠ vo.ownBlock ∧ p ≠ r ∧ some p ≠ ro.ownBlock := fun p hp => ⟨fun e => by have := blk_lt H.out.d.hb; omega, fun e => by injection e with e; have := H.out.d.hn.lt; omega, fun e => by have := R_lt H.out.d.ho p e.symm; omega, fun e => by have := blk_lt H.out.r.hb; omega, fun e => by have := R_lt H.out.r.ho p e.symm; omega⟩
  have HG5 := Aside0.mk hg5
  clear hna hno hb1 hp5 hp9 hW1 hg5 hz
  go_region_held3 (fun w' => w'.cell? ⟨p5, 1, none⟩ = some (.string sa) ∧ w'.cell? ⟨p5, 2, none⟩ = some (.string sb) ∧ w'.cell? ⟨p5, 3, none⟩ = some (.int .i64 id) ∧ w'.cell? ⟨p5, 4, none⟩ = some (.slice A3 n3 c3) ∧ w'.cell? ⟨p9, 0, none⟩ = some (.int .i64 1) ∧ w'.cell? ⟨p9, 1, none⟩ = some (.string sa) ∧ w'.cell? ⟨p9, 2, none⟩ = some (.string sb) ∧ w'.cell? ⟨p9, 3, none⟩ = some (.int .i64 id)) (first | with_reducible exact ⟨t1, t2, t3, t4, u0, u1, u2, u3⟩ | exact ⟨t1, t2, t3, t4, u0, u1, u2, u3⟩) (first
    | (go_at_call 57; refine (drename_any b g mn ms N vo s.now s.safe (s.ops.map nrm) _ (HS.out.below (below_drew1 (Below.refl _ _))).d (by omega) (by rw [List.length_map]; omega) sa sb id HSA.out HSB.out).mono ?_; rintro e w3 ⟨rfl, vo3, hd3, _, hk3, hl3⟩; have hna := (hk3.2 p5 (blk_lt (blk_drew HNA.out)) (HG5.out p5 hp5w).1 (HG5.out p5 hp5w).2.1 (HG5.out p5 hp5w).2.2.1).trans (blk_drew HNA.out); have hno := (hk3.2 p9 (blk_lt (blk_drew HNO.out)) (HG5.out p9 hp9w).1 (HG5.out p9 hp9w).2.1 (HG5.out p9 hp9w).2.2.1).trans (blk_drew HNO.out); replace t0 := (blk_cell hna 0).trans (rfl : _ = some (Value.int .i64 1)); replace t1 := (blk_cell hna 1).trans (rfl : _ = some (Value.string sa)); replace t2 := (blk_cell hna 2).trans (rfl : _ = some (Value.string sb)); replace t3 := (blk_cell hna 3).trans (rfl : _ = some (Value.int .i64 id)); replace t4 := (blk_cell hna 4).trans (rfl : _ = some (Value.slice A3 n3 c3)); replace u0 := (blk_cell hno 0).trans (rfl : _ = some (Value.int .i64 1)); replace u1 := (blk_cell hno 1).trans (rfl : _ = some (Value.string sa)); replace u2 := (blk_cell hno 2).trans (rfl : _ = some (Value.string sb)); replace u3 := (blk_cell hno 3).trans (rfl : _ = some (Value.int .i64 id)); have hr3 := (HS.out.below (below_drew1 (Below.refl _ _))).r.other (HS.out.below (below_drew1 (Below.refl _ _))).d hk3; have HD3 := Aside0.mk hd3; have HR3 := Aside0.mk hr3; have HL3 := Aside0.mk hl3; have HNA3 := Aside0.mk hna; have HNO3 := Aside0.mk hno; clear hd3 hk3 hl3 hr3 hna hno)
    | (go_at_call 94; refine (rddo_any b r rn rs ro s.now s.safe s.ops sa sb id _ HR3.out HSA.out HSB.out (by omega) (by omega) 1).mono ?_; rintro e w4 ⟨rfl, rn4, ro4, hr4, _, hk4, hl4⟩; have hna := (hk4.2 p5 (blk_lt HNA3.out) (HG5.out p5 hp5w).2.2.2.1 (HG5.out p5 hp5w).2.2.2.2).trans HNA3.out; have hno := (hk4.2 p9 (blk_lt HNO3.out) (HG5.out p9 hp9w).2.2.2.1 (HG5.out p9 hp9w).2.2.2.2).trans HNO3.out; replace t0 := (blk_cell hna 0).trans (rfl : _ = some (Value.int .i64 1)); replace t1 := (blk_cell hna 1).trans (rfl : _ = some (Value.string sa)); replace t2 := (blk_cell hna 2).trans (rfl : _ = some (Value.string sb)); replace t3 := (blk_cell hna 3).trans (rfl : _ = some (Value.int .i64 id)); replace t4 := (blk_cell hna 4).trans (rfl : _ = some (Value.slice A3 n3 c3)); replace u0 := (blk_cell hno 0).trans (rfl : _ = some (Value.int .i64 1)); replace u1 := (blk_cell hno 1).trans (rfl : _ = some (Value.string sa)); replace u2 := (blk_cell hno 2).trans (rfl : _ = some (Value.string sb)); replace u3 := (blk_cell hno 3).trans (rfl : _ = some (Value.int .i64 id)); have hd4 := HD3.out.other HR3.out hk4; have HD4 := Aside0.mk hd4; have HR4 := Aside0.mk hr4; have HL4 := Aside0.mk hl4; clear hr4 hk4 hl4 hd4 hna hno))
  all_goals
    go_wp2_with fail
    go_ret3
    have hd := HD4.out
    rw [ops_nrm] at hd
    exact ⟨_, _, _, _, N + 1, _, _, _, _, rfl, ⟨hd, HR4.out⟩, by omega, (HB1.out.mono hbw).trans ((below_drew1 (Below.refl _ _)).trans (HL3.out.trans HL4.out))⟩
set_option maxHeartbeats 1000000 in
set_option maxRecDepth 100000 in
theorem ddoes_unlink (b g mn ms N r : Nat) (vo rn rs ro : Value) (s : DSt) (k : Nat) (A3 : Option Addr) (n3 c3 : Nat) (w : World) (h : DS w b g mn ms vo N r rn rs ro s) (hb : BdD s N k) (hk : k ≤ 49) (sa sb : ByteArray) (id : Int) (kl : List Bool) (hsa : sa.size ≤ maxLen) (hsb : sb.size ≤ maxLen) : Calls Try.prog 46 #[.pointer (some ⟨g, 0, none⟩), .pointer (some ⟨r, 0, none⟩), (.agg #[.int .i64 2, .string sa, .string sb, .int .i64 id, .slice A3 n3 c3])] w (fun e w' => ∃ g' mn' ms' vo' N' r' rn' rs' ro', e = .returned (.tuple #[.pointer (some ⟨g', 0, none⟩), .pointer (some ⟨r', 0, none⟩), .bool true]) ∧ DS w' b g' mn' ms' vo' N' r' rn' rs' ro' (stepD s ⟨2, sa, sb, id, kl⟩) ∧ N' ≤ N + s.ops.length + 1 ∧ Below b w w') := by
  rw [show stepD s ⟨2, sa, sb, id, kl⟩ = ⟨doNow s.now ⟨2, sa, sb, id⟩, s.safe, doOps s.now s.ops ⟨2, sa, sb, id⟩⟩ from by unfold stepD; simp]
  have H := Aside0.mk h
  have HBD := Aside0.mk hb
  have HSA := Aside0.mk hsa
  have HSB := Aside0.mk hsb
  have hol := hb.ops
  have hnl := hb.now
  have hNl := hb.n
  have hbw : b ≤ w.heap.size := Nat.le_trans h.d.hg (Nat.le_of_lt (blk_lt h.d.hb))
  clear h hb hsa hsb
  go_enter Try.func46, Try.ntmps46
  go_wp2_with fail
  obtain ⟨W1, hW1⟩ : ∃ W1, W1 = (w.alloc (.cells #[.int .i64 2, .string sa, .string sb, .int .i64 id, .slice A3 n3 c3] 73)).alloc (.cells #[.int .i64 2, .string sa, .string sb, .int .i64 id] 144) := ⟨_, rfl⟩
  have hz : (w.alloc (.cells #[.int .i64 2, .string sa, .string sb, .int .i64 id, .slice A3 n3 c3] 73)).heap.size = w.heap.size + 1 := World.size_alloc ..
  have hna : W1.heap[w.heap.size]? = some (.cells #[.int .i64 2, .string sa, .string sb, .int .i64 id, .slice A3 n3 c3] 73 (0, 0)) := by rw [hW1]; exact blk_alloc (blk_new _ _) _
  have hno : W1.heap[w.heap.size + 1]? = some (.cells #[.int .i64 2, .string sa, .string sb, .int .i64 id] 144 (0, 0)) := by rw [hW1, ← hz]; exact blk_new _ _
  have hb1 : Below w.heap.size w W1 := by rw [hW1]; exact below_alloc (below_alloc (Below.refl _ _) _) _
  rw [← hW1]
  obtain ⟨p5, hp5⟩ : ∃ p5, p5 = w.heap.size := ⟨_, rfl⟩
  obtain ⟨p9, hp9⟩ : ∃ p9, p9 = w.heap.size + 1 := ⟨_, rfl⟩
  have hp5w : w.heap.size ≤ p5 := by omega
  have hp9w : w.heap.size ≤ p9 := by omega
  rw [← hp5] at hna
  rw [← hp9] at hno
  rw [← hp9, ← hp5]
  have t0 := (blk_cell hna 0).trans (rfl : _ = some (Value.int .i64 2))
  have t1 := (blk_cell hna 1).trans (rfl : _ = some (Value.string sa))
  have t2 := (blk_cell hna 2).trans (rfl : _ = some (Value.string sb))
  have t3 := (blk_cell hna 3).trans (rfl : _ = some (Value.int .i64 id))
  have t4 := (blk_cell hna 4).trans (rfl : _ = some (Value.slice A3 n3 c3))
  have u0 := (blk_cell hno 0).trans (rfl : _ = some (Value.int .i64 2))
  have u1 := (blk_cell hno 1).trans (rfl : _ = some (Value.string sa))
  have u2 := (blk_cell hno 2).trans (rfl : _ = some (Value.string sb))
  have u3 := (blk_cell hno 3).trans (rfl : _ = some (Value.int .i64 id))
  have HS := Aside0.mk (DS.below (W1 := W1) H.out hb1)
  have HB1 := Aside0.mk hb1
  have HNA := Aside0.mk hna
  have HNO := Aside0.mk hno
  have hg5 : ∀ p, w.heap.size ≤ p → p ≠ g ∧ some p ≠ some mn ∧ some p ≠ vo.ownBlock ∧ p ≠ r ∧ some p ≠ ro.ownBlock := fun p hp => ⟨fun e => by have := blk_lt H.out.d.hb; omega, fun e => by injection e with e; have := H.out.d.hn.lt; omega, fun e => by have := R_lt H.out.d.ho p e.symm; omega, fun e => by have := blk_lt H.out.r.hb; omega, fun e => by have := R_lt H.out.r.ho p e.symm; omega⟩
  have HG5 := Aside0.mk hg5
  clear hna hno hb1 hp5 hp9 hW1 hg5 hz
  go_region_held3 (fun w' => w'.cell? ⟨p5, 1, none⟩ = some (.string sa) ∧ w'.cell? ⟨p5, 2, none⟩ = some (.string sb) ∧ w'.cell? ⟨p5, 3, none⟩ = some (.int .i64 id) ∧ w'.cell? ⟨p5, 4, none⟩ = some (.slice A3 n3 c3) ∧ w'.cell? ⟨p9, 0, none⟩ = some (.int .i64 2) ∧ w'.cell? ⟨p9, 1, none⟩ = some (.string sa) ∧ w'.cell? ⟨p9, 2, none⟩ = some (.string sb) ∧ w'.cell? ⟨p9, 3, none⟩ = some (.int .i64 id)) (first | with_reducible exact ⟨t1, t2, t3, t4, u0, u1, u2, u3⟩ | exact ⟨t1, t2, t3, t4, u0, u1, u2, u3⟩) (first
    | (go_at_call 58; refine (dunlink_any b g mn ms N vo s.now s.safe (s.ops.map nrm) _ (HS.out.below (below_drew1 (Below.refl _ _))).d (by omega) (by rw [List.length_map]; omega) 2 (by decide) (by decide) sa sb id HSA.out).mono ?_; rintro e w3 ⟨rfl, vo3, hd3, _, hk3, hl3⟩; have hna := (hk3.2 p5 (blk_lt (blk_drew HNA.out)) (HG5.out p5 hp5w).1 (HG5.out p5 hp5w).2.1 (HG5.out p5 hp5w).2.2.1).trans (blk_drew HNA.out); have hno := (hk3.2 p9 (blk_lt (blk_drew HNO.out)) (HG5.out p9 hp9w).1 (HG5.out p9 hp9w).2.1 (HG5.out p9 hp9w).2.2.1).trans (blk_drew HNO.out); replace t0 := (blk_cell hna 0).trans (rfl : _ = some (Value.int .i64 2)); replace t1 := (blk_cell hna 1).trans (rfl : _ = some (Value.string sa)); replace t2 := (blk_cell hna 2).trans (rfl : _ = some (Value.string sb)); replace t3 := (blk_cell hna 3).trans (rfl : _ = some (Value.int .i64 id)); replace t4 := (blk_cell hna 4).trans (rfl : _ = some (Value.slice A3 n3 c3)); replace u0 := (blk_cell hno 0).trans (rfl : _ = some (Value.int .i64 2)); replace u1 := (blk_cell hno 1).trans (rfl : _ = some (Value.string sa)); replace u2 := (blk_cell hno 2).trans (rfl : _ = some (Value.string sb)); replace u3 := (blk_cell hno 3).trans (rfl : _ = some (Value.int .i64 id)); have hr3 := (HS.out.below (below_drew1 (Below.refl _ _))).r.other (HS.out.below (below_drew1 (Below.refl _ _))).d hk3; have HD3 := Aside0.mk hd3; have HR3 := Aside0.mk hr3; have HL3 := Aside0.mk hl3; have HNA3 := Aside0.mk hna; have HNO3 := Aside0.mk hno; clear hd3 hk3 hl3 hr3 hna hno)
    | (go_at_call 94; refine (rddo_any b r rn rs ro s.now s.safe s.ops sa sb id _ HR3.out HSA.out HSB.out (by omega) (by omega) 2).mono ?_; rintro e w4 ⟨rfl, rn4, ro4, hr4, _, hk4, hl4⟩; have hna := (hk4.2 p5 (blk_lt HNA3.out) (HG5.out p5 hp5w).2.2.2.1 (HG5.out p5 hp5w).2.2.2.2).trans HNA3.out; have hno := (hk4.2 p9 (blk_lt HNO3.out) (HG5.out p9 hp9w).2.2.2.1 (HG5.out p9 hp9w).2.2.2.2).trans HNO3.out; replace t0 := (blk_cell hna 0).trans (rfl : _ = some (Value.int .i64 2)); replace t1 := (blk_cell hna 1).trans (rfl : _ = some (Value.string sa)); replace t2 := (blk_cell hna 2).trans (rfl : _ = some (Value.string sb)); replace t3 := (blk_cell hna 3).trans (rfl : _ = some (Value.int .i64 id)); replace t4 := (blk_cell hna 4).trans (rfl : _ = some (Value.slice A3 n3 c3)); replace u0 := (blk_cell hno 0).trans (rfl : _ = some (Value.int .i64 2)); replace u1 := (blk_cell hno 1).trans (rfl : _ = some (Value.string sa)); replace u2 := (blk_cell hno 2).trans (rfl : _ = some (Value.string sb)); replace u3 := (blk_cell hno 3).trans (rfl : _ = some (Value.int .i64 id)); have hd4 := HD3.out.other HR3.out hk4; have HD4 := Aside0.mk hd4; have HR4 := Aside0.mk hr4; have HL4 := Aside0.mk hl4; clear hr4 hk4 hl4 hd4 hna hno))
  all_goals
    go_wp2_with fail
    go_ret3
    have hd := HD4.out
    rw [ops_nrm] at hd
    exact ⟨_, _, _, _, N + 1, _, _, _, _, rfl, ⟨hd, HR4.out⟩, by omega, (HB1.out.mono hbw).trans ((below_drew1 (Below.refl _ _)).trans (HL3.out.trans HL4.out))⟩
theorem keepb3 {w w' : World} {a : Nat} {c d : Option Nat} (h : KeepBut w w' a none) : Keep3 w w' a c d := ⟨h.1, fun i hi hg _ _ => h.2 i hi hg (by simp)⟩
theorem keepbo {w w' : World} {a : Nat} {d : Option Nat} (h : KeepBut w w' a none) : KeepBut w w' a d := ⟨h.1, fun i hi hg _ => h.2 i hi hg (by simp)⟩
set_option maxHeartbeats 1000000 in
set_option maxRecDepth 100000 in
theorem ddoes_sync (b g mn ms N r : Nat) (vo rn rs ro : Value) (s : DSt) (k : Nat) (A3 : Option Addr) (n3 c3 : Nat) (w : World) (h : DS w b g mn ms vo N r rn rs ro s) (hb : BdD s N k) (hk : k ≤ 49) (sa sb : ByteArray) (id : Int) (kl : List Bool) (hsa : sa.size ≤ maxLen) (hsb : sb.size ≤ maxLen) : Calls Try.prog 46 #[.pointer (some ⟨g, 0, none⟩), .pointer (some ⟨r, 0, none⟩), (.agg #[.int .i64 3, .string sa, .string sb, .int .i64 id, .slice A3 n3 c3])] w (fun e w' => ∃ g' mn' ms' vo' N' r' rn' rs' ro', e = .returned (.tuple #[.pointer (some ⟨g', 0, none⟩), .pointer (some ⟨r', 0, none⟩), .bool true]) ∧ DS w' b g' mn' ms' vo' N' r' rn' rs' ro' (stepD s ⟨3, sa, sb, id, kl⟩) ∧ N' ≤ N + s.ops.length + 1 ∧ Below b w w') := by
  rw [show stepD s ⟨3, sa, sb, id, kl⟩ = ⟨s.now, s.now, []⟩ from by unfold stepD; simp]
  have H := Aside0.mk h
  have HBD := Aside0.mk hb
  have HSA := Aside0.mk hsa
  have HSB := Aside0.mk hsb
  have hol := hb.ops
  have hnl := hb.now
  have hNl := hb.n
  have hbw : b ≤ w.heap.size := Nat.le_trans h.d.hg (Nat.le_of_lt (blk_lt h.d.hb))
  clear h hb hsa hsb
  go_enter Try.func46, Try.ntmps46
  go_wp2_with fail
  obtain ⟨W1, hW1⟩ : ∃ W1, W1 = (w.alloc (.cells #[.int .i64 3, .string sa, .string sb, .int .i64 id, .slice A3 n3 c3] 73)).alloc (.cells #[.int .i64 3, .string sa, .string sb, .int .i64 id] 144) := ⟨_, rfl⟩
  have hz : (w.alloc (.cells #[.int .i64 3, .string sa, .string sb, .int .i64 id, .slice A3 n3 c3] 73)).heap.size = w.heap.size + 1 := World.size_alloc ..
  have hna : W1.heap[w.heap.size]? = some (.cells #[.int .i64 3, .string sa, .string sb, .int .i64 id, .slice A3 n3 c3] 73 (0, 0)) := by rw [hW1]; exact blk_alloc (blk_new _ _) _
  have hno : W1.heap[w.heap.size + 1]? = some (.cells #[.int .i64 3, .string sa, .string sb, .int .i64 id] 144 (0, 0)) := by rw [hW1, ← hz]; exact blk_new _ _
  have hb1 : Below w.heap.size w W1 := by rw [hW1]; exact below_alloc (below_alloc (Below.refl _ _) _) _
  rw [← hW1]
  obtain ⟨p5, hp5⟩ : ∃ p5, p5 = w.heap.size := ⟨_, rfl⟩
  obtain ⟨p9, hp9⟩ : ∃ p9, p9 = w.heap.size + 1 := ⟨_, rfl⟩
  have hp5w : w.heap.size ≤ p5 := by omega
  have hp9w : w.heap.size ≤ p9 := by omega
  rw [← hp5] at hna
  rw [← hp9] at hno
  rw [← hp9, ← hp5]
  have t0 := (blk_cell hna 0).trans (rfl : _ = some (Value.int .i64 3))
  have t1 := (blk_cell hna 1).trans (rfl : _ = some (Value.string sa))
  have t2 := (blk_cell hna 2).trans (rfl : _ = some (Value.string sb))
  have t3 := (blk_cell hna 3).trans (rfl : _ = some (Value.int .i64 id))
  have t4 := (blk_cell hna 4).trans (rfl : _ = some (Value.slice A3 n3 c3))
  have u0 := (blk_cell hno 0).trans (rfl : _ = some (Value.int .i64 3))
  have u1 := (blk_cell hno 1).trans (rfl : _ = some (Value.string sa))
  have u2 := (blk_cell hno 2).trans (rfl : _ = some (Value.string sb))
  have u3 := (blk_cell hno 3).trans (rfl : _ = some (Value.int .i64 id))
  have HS := Aside0.mk (DS.below (W1 := W1) H.out hb1)
  have HB1 := Aside0.mk hb1
  have HNA := Aside0.mk hna
  have HNO := Aside0.mk hno
  have hg5 : ∀ p, w.heap.size ≤ p → p ≠ g ∧ some p ≠ some mn ∧ some p ≠ vo.ownBlock ∧ p ≠ r ∧ some p ≠ ro.ownBlock := fun p hp => ⟨fun e => by have := blk_lt H.out.d.hb; omega, fun e => by injection e with e; have := H.out.d.hn.lt; omega, fun e => by have := R_lt H.out.d.ho p e.symm; omega, fun e => by have := blk_lt H.out.r.hb; omega, fun e => by have := R_lt H.out.r.ho p e.symm; omega⟩
  have HG5 := Aside0.mk hg5
  clear hna hno hb1 hp5 hp9 hW1 hg5 hz
  go_wp2_with (first
    | (go_at_call 47; refine (dsync_any b g mn ms N vo s.now s.safe (s.ops.map nrm) _ HS.out.d).mono ?_; rintro e w3 ⟨rfl, hd3, hk3, hl3⟩; have hr3 := HS.out.r.other HS.out.d (keepb3 hk3); have HD3 := Aside0.mk hd3; have HR3 := Aside0.mk hr3; have HL3 := Aside0.mk hl3; clear hd3 hk3 hl3 hr3)
    | (go_at_call 95; refine (rdsync_any b r rn rs ro s.now s.safe s.ops _ HR3.out).mono ?_; rintro e w4 ⟨rfl, hr4, hk4, hl4⟩; have hd4 := HD3.out.other HR3.out (keepbo hk4); have HD4 := Aside0.mk hd4; have HR4 := Aside0.mk hr4; have HL4 := Aside0.mk hl4; clear hr4 hk4 hl4 hd4))
  go_ret3
  exact ⟨_, _, _, _, N, _, _, _, _, rfl, ⟨HD4.out, HR4.out⟩, by omega, (HB1.out.mono hbw).trans (HL3.out.trans HL4.out)⟩
set_option maxHeartbeats 1000000 in
set_option maxRecDepth 100000 in
theorem ddoes_crash (kd : Int) (q0 : (kd == 0) = false) (q1 : (kd == 1) = false) (q2 : (kd == 2) = false) (q3 : (kd == 3) = false) (b g mn ms N r : Nat) (vo rn rs ro : Value) (s : DSt) (k : Nat) (A3 : Option Addr) (n3 c3 : Nat) (w : World) (h : DS w b g mn ms vo N r rn rs ro s) (hb : BdD s N k) (hk : k ≤ 49) (sa sb : ByteArray) (id : Int) (kl : List Bool) (hsa : sa.size ≤ maxLen) (hsb : sb.size ≤ maxLen) (hc : Kd.bool.C w A3 n3 kl) : Calls Try.prog 46 #[.pointer (some ⟨g, 0, none⟩), .pointer (some ⟨r, 0, none⟩), (.agg #[.int .i64 kd, .string sa, .string sb, .int .i64 id, .slice A3 n3 c3])] w (fun e w' => ∃ g' mn' ms' vo' N' r' rn' rs' ro', e = .returned (.tuple #[.pointer (some ⟨g', 0, none⟩), .pointer (some ⟨r', 0, none⟩), .bool true]) ∧ DS w' b g' mn' ms' vo' N' r' rn' rs' ro' ⟨crashD s.safe s.ops kl s.ops.length, crashD s.safe s.ops kl s.ops.length, []⟩ ∧ N' ≤ N + s.ops.length + 1 ∧ Below b w w') := by
  have HC := Aside0.mk hc
  have hsl := hb.safe
  clear hc
  have H := Aside0.mk h
  have HBD := Aside0.mk hb
  have HSA := Aside0.mk hsa
  have HSB := Aside0.mk hsb
  have hol := hb.ops
  have hnl := hb.now
  have hNl := hb.n
  have hbw : b ≤ w.heap.size := Nat.le_trans h.d.hg (Nat.le_of_lt (blk_lt h.d.hb))
  clear h hb hsa hsb
  go_enter Try.func46, Try.ntmps46
  go_wp2_with fail
  obtain ⟨W1, hW1⟩ : ∃ W1, W1 = (w.alloc (.cells #[.int .i64 kd, .string sa, .string sb, .int .i64 id, .slice A3 n3 c3] 73)).alloc (.cells #[.int .i64 kd, .string sa, .string sb, .int .i64 id] 144) := ⟨_, rfl⟩
  have hz : (w.alloc (.cells #[.int .i64 kd, .string sa, .string sb, .int .i64 id, .slice A3 n3 c3] 73)).heap.size = w.heap.size + 1 := World.size_alloc ..
  have hna : W1.heap[w.heap.size]? = some (.cells #[.int .i64 kd, .string sa, .string sb, .int .i64 id, .slice A3 n3 c3] 73 (0, 0)) := by rw [hW1]; exact blk_alloc (blk_new _ _) _
  have hno : W1.heap[w.heap.size + 1]? = some (.cells #[.int .i64 kd, .string sa, .string sb, .int .i64 id] 144 (0, 0)) := by rw [hW1, ← hz]; exact blk_new _ _
  have hb1 : Below w.heap.size w W1 := by rw [hW1]; exact below_alloc (below_alloc (Below.refl _ _) _) _
  rw [← hW1]
  obtain ⟨p5, hp5⟩ : ∃ p5, p5 = w.heap.size := ⟨_, rfl⟩
  obtain ⟨p9, hp9⟩ : ∃ p9, p9 = w.heap.size + 1 := ⟨_, rfl⟩
  have hp5w : w.heap.size ≤ p5 := by omega
  have hp9w : w.heap.size ≤ p9 := by omega
  rw [← hp5] at hna
  rw [← hp9] at hno
  rw [← hp9, ← hp5]
  have t0 := (blk_cell hna 0).trans (rfl : _ = some (Value.int .i64 kd))
  have t1 := (blk_cell hna 1).trans (rfl : _ = some (Value.string sa))
  have t2 := (blk_cell hna 2).trans (rfl : _ = some (Value.string sb))
  have t3 := (blk_cell hna 3).trans (rfl : _ = some (Value.int .i64 id))
  have t4 := (blk_cell hna 4).trans (rfl : _ = some (Value.slice A3 n3 c3))
  have u0 := (blk_cell hno 0).trans (rfl : _ = some (Value.int .i64 kd))
  have u1 := (blk_cell hno 1).trans (rfl : _ = some (Value.string sa))
  have u2 := (blk_cell hno 2).trans (rfl : _ = some (Value.string sb))
  have u3 := (blk_cell hno 3).trans (rfl : _ = some (Value.int .i64 id))
  have HS := Aside0.mk (DS.below (W1 := W1) H.out hb1)
  have HB1 := Aside0.mk hb1
  have HNA := Aside0.mk hna
  have HNO := Aside0.mk hno
  have hg5 : ∀ p, w.heap.size ≤ p → p ≠ g ∧ some p ≠ some mn ∧ some p ≠ vo.ownBlock ∧ p ≠ r ∧ some p ≠ ro.ownBlock := fun p hp => ⟨fun e => by have := blk_lt H.out.d.hb; omega, fun e => by injection e with e; have := H.out.d.hn.lt; omega, fun e => by have := R_lt H.out.d.ho p e.symm; omega, fun e => by have := blk_lt H.out.r.hb; omega, fun e => by have := R_lt H.out.r.ho p e.symm; omega⟩
  have HG5 := Aside0.mk hg5
  clear hna hno hb1 hp5 hp9 hW1 hg5 hz
  go_region_held3 (fun w' => w'.cell? ⟨p5, 1, none⟩ = some (.string sa) ∧ w'.cell? ⟨p5, 2, none⟩ = some (.string sb) ∧ w'.cell? ⟨p5, 3, none⟩ = some (.int .i64 id) ∧ w'.cell? ⟨p5, 4, none⟩ = some (.slice A3 n3 c3) ∧ w'.cell? ⟨p9, 0, none⟩ = some (.int .i64 kd) ∧ w'.cell? ⟨p9, 1, none⟩ = some (.string sa) ∧ w'.cell? ⟨p9, 2, none⟩ = some (.string sb) ∧ w'.cell? ⟨p9, 3, none⟩ = some (.int .i64 id)) (first | with_reducible exact ⟨t1, t2, t3, t4, u0, u1, u2, u3⟩ | exact ⟨t1, t2, t3, t4, u0, u1, u2, u3⟩) (first
    | (go_at_call 48; refine (dcrash_any b g mn ms N vo s.now s.safe (s.ops.map nrm) A3 n3 c3 kl _ (HS.out.below (below_drew1 (Below.refl _ _))).d (Kd.C_drew (Kd.C_below HC.out HB1.out)) (by omega) (by rw [List.length_map]; omega) (fun o ho => by obtain ⟨o', ho', rfl⟩ := List.mem_map.1 ho; exact nrm_size _ (HBD.out.op o' ho'))).mono ?_; rintro e w3 ⟨g2, m2, m3, rfl, hg2, hm2, hm3, hd3, hl3⟩; have hna := blk_below (blk_drew HNA.out) hl3; have hno := blk_below (blk_drew HNO.out) hl3; replace t0 := (blk_cell hna 0).trans (rfl : _ = some (Value.int .i64 kd)); replace t1 := (blk_cell hna 1).trans (rfl : _ = some (Value.string sa)); replace t2 := (blk_cell hna 2).trans (rfl : _ = some (Value.string sb)); replace t3 := (blk_cell hna 3).trans (rfl : _ = some (Value.int .i64 id)); replace t4 := (blk_cell hna 4).trans (rfl : _ = some (Value.slice A3 n3 c3)); replace u0 := (blk_cell hno 0).trans (rfl : _ = some (Value.int .i64 kd)); replace u1 := (blk_cell hno 1).trans (rfl : _ = some (Value.string sa)); replace u2 := (blk_cell hno 2).trans (rfl : _ = some (Value.string sb)); replace u3 := (blk_cell hno 3).trans (rfl : _ = some (Value.int .i64 id)); have HD3 := Aside0.mk hd3; have HL3 := Aside0.mk hl3; have HNA3 := Aside0.mk hna; have HNO3 := Aside0.mk hno; clear hd3 hl3 hna hno)
    | (go_at_call 96; refine (rdcrash_any b r rn rs ro s.now s.safe s.ops A3 n3 c3 kl _ ((HS.out.below (below_drew1 (Below.refl _ _))).r.below HL3.out) (Kd.C_below (Kd.C_drew (Kd.C_below HC.out HB1.out)) HL3.out) (by omega)).mono ?_; rintro e w4 ⟨g3, v4, rfl, hg3, hr4, hl4⟩; have hna := blk_below HNA3.out hl4; have hno := blk_below HNO3.out hl4; replace t0 := (blk_cell hna 0).trans (rfl : _ = some (Value.int .i64 kd)); replace t1 := (blk_cell hna 1).trans (rfl : _ = some (Value.string sa)); replace t2 := (blk_cell hna 2).trans (rfl : _ = some (Value.string sb)); replace t3 := (blk_cell hna 3).trans (rfl : _ = some (Value.int .i64 id)); replace t4 := (blk_cell hna 4).trans (rfl : _ = some (Value.slice A3 n3 c3)); replace u0 := (blk_cell hno 0).trans (rfl : _ = some (Value.int .i64 kd)); replace u1 := (blk_cell hno 1).trans (rfl : _ = some (Value.string sa)); replace u2 := (blk_cell hno 2).trans (rfl : _ = some (Value.string sb)); replace u3 := (blk_cell hno 3).trans (rfl : _ = some (Value.int .i64 id)); have HR4 := Aside0.mk hr4; have HL4 := Aside0.mk hl4; clear hr4 hl4 hna hno))
  all_goals
    go_wp2_with fail
    go_ret3
    have hd := HD3.out.below HL4.out
    rw [List.length_map, crash_nrm _ _ _ _ (Nat.le_refl _)] at hd
    have e1 : b ≤ W1.drew.heap.size := Nat.le_trans hbw HB1.out.size
    have e2 : b ≤ w3.heap.size := Nat.le_trans e1 HL3.out.size
    exact ⟨_, _, _, _, N + s.ops.length, _, _, _, _, rfl, ⟨hd, HR4.out⟩, by omega, (HB1.out.mono hbw).trans ((below_drew1 (Below.refl _ _)).trans ((HL3.out.mono e1).trans (HL4.out.mono e2)))⟩
theorem ddoes_any (a : DAct) (b g mn ms N r : Nat) (vo rn rs ro : Value) (s : DSt) (k : Nat) (A3 : Option Addr) (c3 : Nat) (w : World) (h : DS w b g mn ms vo N r rn rs ro s) (hb : BdD s N k) (hk : k ≤ 49) (hsa : a.a.size ≤ maxLen) (hsb : a.b.size ≤ maxLen) (hc : Kd.bool.C w A3 a.keep.length a.keep) :
    Calls Try.prog 46 #[.pointer (some ⟨g, 0, none⟩), .pointer (some ⟨r, 0, none⟩), (.agg #[.int .i64 a.kd, .string a.a, .string a.b, .int .i64 a.id, .slice A3 a.keep.length c3])] w fun e w' => ∃ g' mn' ms' vo' N' r' rn' rs' ro', e = .returned (.tuple #[.pointer (some ⟨g', 0, none⟩), .pointer (some ⟨r', 0, none⟩), .bool true]) ∧ DS w' b g' mn' ms' vo' N' r' rn' rs' ro' (stepD s a) ∧ BdD (stepD s a) N' (k + 1) ∧ Below b w w' := by
  have hol := hb.ops
  have fin : Calls Try.prog 46 #[.pointer (some ⟨g, 0, none⟩), .pointer (some ⟨r, 0, none⟩), (.agg #[.int .i64 a.kd, .string a.a, .string a.b, .int .i64 a.id, .slice A3 a.keep.length c3])] w (fun e w' => ∃ g' mn' ms' vo' N' r' rn' rs' ro', e = .returned (.tuple #[.pointer (some ⟨g', 0, none⟩), .pointer (some ⟨r', 0, none⟩), .bool true]) ∧ DS w' b g' mn' ms' vo' N' r' rn' rs' ro' (stepD s a) ∧ N' ≤ N + s.ops.length + 1 ∧ Below b w w') := by
    obtain ⟨kd, sa, sb, id, kl⟩ := a
    by_cases q0 : kd = 0
    · subst q0; exact ddoes_create b g mn ms N r vo rn rs ro s k A3 kl.length c3 w h hb hk sa sb id kl hsa hsb
    by_cases q1 : kd = 1
    · subst q1; exact ddoes_rename b g mn ms N r vo rn rs ro s k A3 kl.length c3 w h hb hk sa sb id kl hsa hsb
    by_cases q2 : kd = 2
    · subst q2; exact ddoes_unlink b g mn ms N r vo rn rs ro s k A3 kl.length c3 w h hb hk sa sb id kl hsa hsb
    by_cases q3 : kd = 3
    · subst q3; exact ddoes_sync b g mn ms N r vo rn rs ro s k A3 kl.length c3 w h hb hk sa sb id kl hsa hsb
    rw [show stepD s ⟨kd, sa, sb, id, kl⟩ = ⟨crashD s.safe s.ops kl s.ops.length, crashD s.safe s.ops kl s.ops.length, []⟩ from by unfold stepD; simp [q0, q1, q2, q3]]
    exact ddoes_crash kd (beq_eq_false_iff_ne.mpr q0) (beq_eq_false_iff_ne.mpr q1) (beq_eq_false_iff_ne.mpr q2) (beq_eq_false_iff_ne.mpr q3) b g mn ms N r vo rn rs ro s k A3 kl.length c3 w h hb hk sa sb id kl hsa hsb hc
  refine fin.mono ?_
  rintro e w' ⟨g', mn', ms', vo', N', r', rn', rs', ro', rfl, hs, hn, hbl⟩
  exact ⟨_, _, _, _, _, _, _, _, _, rfl, hs, stepD_bd s a N N' k hb ⟨hsa, hsb⟩ hk (by omega), hbl⟩
end Go.Proofs.Ytpnbjpkdbiiogaa
