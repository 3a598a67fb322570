/- Files: a call, done to both. -/
import Derived.Test.YtpnbjpkdbiiogaaFiN
namespace Go.Proofs.Ytpnbjpkdbiiogaa
set_option linter.unusedVariables false
open Go.RowKit Go.Proofs.YtpnbjpkdbiiogaaW.PrintWords
attribute [local go_sem] mx2 mn2 mxTwo mnTwo

set_option maxHeartbeats 1000000 in
set_option maxRecDepth 100000 in
theorem does_write_bad (b g r : Nat) (vn vs vo rn rs ro : Value) (now safe : List Int) (ops : List FOp) (A2 A3 : Option Addr) (n2 c2 n3 c3 : Nat) (w : World) (h : FS w b g r vn vs vo rn rs ro now safe ops) (k : Int) (hn : n2 ≤ 400) (hk : k < 0 ∨ 0 ≤ k ∧ 1048576 < k ∨ 0 ≤ k ∧ k ≤ 1048576 ∧ 1048576 - k < n2) :
    Calls Try.prog 33 #[.pointer (some ⟨g, 0, none⟩), .pointer (some ⟨r, 0, none⟩), (.agg #[.int .i64 0, .int .i64 k, .slice A2 n2 c2, .slice A3 n3 c3])] w (fun e w' => ∃ g' r' vn1 vs1 vo1 rn1 rs1 ro1, e = .returned (.tuple #[.pointer (some ⟨g', 0, none⟩), .pointer (some ⟨r', 0, none⟩), .bool true]) ∧ FS w' b g' r' vn1 vs1 vo1 rn1 rs1 ro1 (now) (safe) (ops) ∧ Fr w w' (Own3 g vo rn) (Own3 g' vo1 rn1) ∧ Below b w w') := by
  have H := Aside0.mk h
  have HK := Aside0.mk hk
  clear h hk
  go_enter Try.func33, Try.ntmps33
  go_wp2_with fail
  obtain ⟨W1, hW1⟩ : ∃ W1, W1 = w.alloc (.cells #[.int .i64 0, .int .i64 k, .slice A2 n2 c2, .slice A3 n3 c3] 50) := ⟨_, rfl⟩
  have hnb : W1.heap[w.heap.size]? = some (.cells #[.int .i64 0, .int .i64 k, .slice A2 n2 c2, .slice A3 n3 c3] 50 (0, 0)) := by rw [hW1]; exact blk_new _ _
  have hb1 : Below w.heap.size w W1 := by rw [hW1]; exact below_alloc (Below.refl _ _) _
  rw [← hW1]
  obtain ⟨p5, hp5⟩ : ∃ p5, p5 = w.heap.size := ⟨_, rfl⟩
  have hp5w : w.heap.size ≤ p5 := by omega
  rw [← hp5] at hnb ⊢
  have t1 := (blk_cell hnb 1).trans (rfl : _ = some (Value.int .i64 k))
  have t2 := (blk_cell hnb 2).trans (rfl : _ = some (Value.slice A2 n2 c2))
  have t3 := (blk_cell hnb 3).trans (rfl : _ = some (Value.slice A3 n3 c3))
  have HNB := Aside0.mk hnb
  have HS := Aside0.mk (FS.below (W1 := W1) H.out hb1)
  have HB1 := Aside0.mk hb1
  have hbw : b ≤ w.heap.size := Nat.le_trans H.out.f.hg (Nat.le_of_lt (blk_lt H.out.f.hb))
  have hgp : p5 ≠ g := by have := blk_lt H.out.f.hb; omega
  have hrp : p5 ≠ r := by have := blk_lt H.out.r.hb; omega
  have HVP := Aside0.mk (show some p5 ≠ vo.ownBlock from fun e => by have := R_lt H.out.f.ho p5 e.symm; omega)
  have HNP := Aside0.mk (show some p5 ≠ rn.ownBlock from fun e => by have := R_lt H.out.r.hn p5 e.symm; omega)
  have HOP := Aside0.mk (show some p5 ≠ ro.ownBlock from fun e => by have := R_lt H.out.r.ho p5 e.symm; omega)
  have HXX := Aside0.mk (show ∀ k, w.heap.size ≤ k → some k ≠ rn.ownBlock from fun k hk e => by have := R_lt H.out.r.hn k e.symm; omega)
  clear hnb hb1 hp5
  clear hW1
  go_region_held3 (fun w' => w'.cell? ⟨p5, 1, none⟩ = some (.int .i64 k) ∧ w'.cell? ⟨p5, 2, none⟩ = some (.slice A2 n2 c2)) (first | with_reducible exact ⟨t1, t2⟩ | exact ⟨t1, t2⟩) (first
    | (go_at_call 41; refine (fwrite_bad g k A2 n2 c2 _ (by omega) HK.out).mono ?_; rintro e w3 ⟨rfl, rfl⟩)
    | (go_at_call 87; refine (rwrite_bad r k A2 n2 c2 _ (by omega) HK.out).mono ?_; rintro e w3 ⟨rfl, rfl⟩))
  all_goals
    go_wp2_with fail
    go_ret3
    exact ⟨_, _, _, _, _, _, _, _, rfl, HS.out.below (below_drew1 (Below.refl _ _)), (Fr.below HB1.out (fun _ h _ => h)).then_below (below_drew1 (Below.refl _ _)), (HB1.out.mono hbw).trans (below_drew1 (Below.refl _ _))⟩
set_option maxHeartbeats 1000000 in
set_option maxRecDepth 100000 in
theorem does_write (b g r : Nat) (vn vs vo rn rs ro : Value) (now safe : List Int) (ops : List FOp) (A2 A3 : Option Addr) (n2 c2 n3 c3 : Nat) (w : World) (h : FS w b g r vn vs vo rn rs ro now safe ops) (k : Nat) (l : List Int) (hl : l.length = n2) (hc : n2 ≤ c2) (hst : ∀ W', Below b w W' → Kd.C (Kd.int .u8) W' A2 n2 l) (hn : n2 ≤ 400) (hk : k ≤ 1048576) (hn2 : n2 + k ≤ 1048576) (hnow : now.length ≤ 1048576) (hops : ops.length ≤ 500000) :
    Calls Try.prog 33 #[.pointer (some ⟨g, 0, none⟩), .pointer (some ⟨r, 0, none⟩), (.agg #[.int .i64 0, .int .i64 (k : Int), .slice A2 n2 c2, .slice A3 n3 c3])] w (fun e w' => ∃ g' r' vn1 vs1 vo1 rn1 rs1 ro1, e = .returned (.tuple #[.pointer (some ⟨g', 0, none⟩), .pointer (some ⟨r', 0, none⟩), .bool true]) ∧ FS w' b g' r' vn1 vs1 vo1 rn1 rs1 ro1 ((writeF (now, ops) k l).1) (safe) ((writeF (now, ops) k l).2) ∧ Fr w w' (Own3 g vo rn) (Own3 g' vo1 rn1) ∧ Below b w w') := by
  have H := Aside0.mk h
  have HST := Aside0.mk hst
  have HLL := Aside0.mk hl
  clear h hst hl
  go_enter Try.func33, Try.ntmps33
  go_wp2_with fail
  obtain ⟨W1, hW1⟩ : ∃ W1, W1 = w.alloc (.cells #[.int .i64 0, .int .i64 (k : Int), .slice A2 n2 c2, .slice A3 n3 c3] 50) := ⟨_, rfl⟩
  have hnb : W1.heap[w.heap.size]? = some (.cells #[.int .i64 0, .int .i64 (k : Int), .slice A2 n2 c2, .slice A3 n3 c3] 50 (0, 0)) := by rw [hW1]; exact blk_new _ _
  have hb1 : Below w.heap.size w W1 := by rw [hW1]; exact below_alloc (Below.refl _ _) _
  rw [← hW1]
  obtain ⟨p5, hp5⟩ : ∃ p5, p5 = w.heap.size := ⟨_, rfl⟩
  have hp5w : w.heap.size ≤ p5 := by omega
  rw [← hp5] at hnb ⊢
  have t1 := (blk_cell hnb 1).trans (rfl : _ = some (Value.int .i64 (k : Int)))
  have t2 := (blk_cell hnb 2).trans (rfl : _ = some (Value.slice A2 n2 c2))
  have t3 := (blk_cell hnb 3).trans (rfl : _ = some (Value.slice A3 n3 c3))
  have HNB := Aside0.mk hnb
  have HS := Aside0.mk (FS.below (W1 := W1) H.out hb1)
  have HB1 := Aside0.mk hb1
  have hbw : b ≤ w.heap.size := Nat.le_trans H.out.f.hg (Nat.le_of_lt (blk_lt H.out.f.hb))
  have hgp : p5 ≠ g := by have := blk_lt H.out.f.hb; omega
  have hrp : p5 ≠ r := by have := blk_lt H.out.r.hb; omega
  have HVP := Aside0.mk (show some p5 ≠ vo.ownBlock from fun e => by have := R_lt H.out.f.ho p5 e.symm; omega)
  have HNP := Aside0.mk (show some p5 ≠ rn.ownBlock from fun e => by have := R_lt H.out.r.hn p5 e.symm; omega)
  have HOP := Aside0.mk (show some p5 ≠ ro.ownBlock from fun e => by have := R_lt H.out.r.ho p5 e.symm; omega)
  have HXX := Aside0.mk (show ∀ k, w.heap.size ≤ k → some k ≠ rn.ownBlock from fun k hk e => by have := R_lt H.out.r.hn k e.symm; omega)
  clear hnb hb1 hp5
  clear hW1
  go_region_held3 (fun w' => w'.cell? ⟨p5, 1, none⟩ = some (.int .i64 (k : Int)) ∧ w'.cell? ⟨p5, 2, none⟩ = some (.slice A2 n2 c2)) (first | with_reducible exact ⟨t1, t2⟩ | exact ⟨t1, t2⟩) (first
    | (go_at_call 41; refine (fwrite_any b g (fun q => some q ≠ rn.ownBlock) vn vs vo now safe ops k A2 n2 c2 l _ HS.out.f.drew (fun q hq => HXX.out q (Nat.le_trans HB1.out.size hq)) HLL.out hc (fun W' _ hb' => HST.out W' ((HB1.out.mono hbw).trans ((below_drew1 (Below.refl _ _)).trans hb'))) hk hn2 hnow hops).mono ?_; rintro e w3 ⟨rfl, vn1, vo1, hf1, hv1, hk1, hl1⟩; have hnb := (hk1.2 p5 (blk_lt (blk_drew HNB.out)) hgp HVP.out).trans (blk_drew HNB.out); replace t1 := (blk_cell hnb 1).trans (rfl : _ = some (Value.int .i64 (k : Int))); replace t2 := (blk_cell hnb 2).trans (rfl : _ = some (Value.slice A2 n2 c2)); have HF1 := Aside0.mk hf1; have HV1 := Aside0.mk hv1; have HK1 := Aside0.mk hk1; have HL1 := Aside0.mk hl1; have HR1 := Aside0.mk ((HS.out.below (below_drew1 (Below.refl _ _))).r.other (HS.out.below (below_drew1 (Below.refl _ _))).f hk1); have HNB1 := Aside0.mk hnb; clear hf1 hv1 hk1 hl1 hnb)
    | (go_at_call 87; refine (rwrite_any b r rn rs ro now safe ops k A2 n2 c2 l _ HR1.out HLL.out (fun W' _ hb' => HST.out W' ((HB1.out.mono hbw).trans ((below_drew1 (Below.refl _ _)).trans (HL1.out.trans hb')))) hk hn2 hnow hops).mono ?_; rintro e w4 ⟨rfl, rn1, ro1, hr2, hn2', hk2, hl2⟩; have hnb := (hk2.2 p5 (blk_lt HNB1.out) hrp HNP.out HOP.out).trans HNB1.out; replace t1 := (blk_cell hnb 1).trans (rfl : _ = some (Value.int .i64 (k : Int))); replace t2 := (blk_cell hnb 2).trans (rfl : _ = some (Value.slice A2 n2 c2)); have HR2 := Aside0.mk hr2; have HN2 := Aside0.mk hn2'; have HK2 := Aside0.mk hk2; have HL2 := Aside0.mk hl2; clear hr2 hn2' hk2 hl2 hnb))
  all_goals
    go_wp2_with fail
    go_ret3
    obtain ⟨hfs, hfr⟩ := (HS.out.below (below_drew1 (Below.refl _ _))).turned HF1.out HK1.out (HV1.out.imp id .inr) HR2.out HK2.out HN2.out
    exact ⟨_, _, _, _, _, _, _, _, rfl, hfs, (Fr.below (HB1.out.trans (below_drew1 (Below.refl _ _))) (fun _ h _ => h)).trans hfr, (HB1.out.mono hbw).trans ((below_drew1 (Below.refl _ _)).trans (HL1.out.trans HL2.out))⟩
set_option maxHeartbeats 1000000 in
set_option maxRecDepth 100000 in
theorem does_trunc_bad (b g r : Nat) (vn vs vo rn rs ro : Value) (now safe : List Int) (ops : List FOp) (A2 A3 : Option Addr) (n2 c2 n3 c3 : Nat) (w : World) (h : FS w b g r vn vs vo rn rs ro now safe ops) (k : Int) (hk : k < 0 ∨ 0 ≤ k ∧ 1048576 < k) :
    Calls Try.prog 33 #[.pointer (some ⟨g, 0, none⟩), .pointer (some ⟨r, 0, none⟩), (.agg #[.int .i64 1, .int .i64 k, .slice A2 n2 c2, .slice A3 n3 c3])] w (fun e w' => ∃ g' r' vn1 vs1 vo1 rn1 rs1 ro1, e = .returned (.tuple #[.pointer (some ⟨g', 0, none⟩), .pointer (some ⟨r', 0, none⟩), .bool true]) ∧ FS w' b g' r' vn1 vs1 vo1 rn1 rs1 ro1 (now) (safe) (ops) ∧ Fr w w' (Own3 g vo rn) (Own3 g' vo1 rn1) ∧ Below b w w') := by
  have H := Aside0.mk h
  have HK := Aside0.mk hk
  clear h hk
  go_enter Try.func33, Try.ntmps33
  go_wp2_with fail
  obtain ⟨W1, hW1⟩ : ∃ W1, W1 = w.alloc (.cells #[.int .i64 1, .int .i64 k, .slice A2 n2 c2, .slice A3 n3 c3] 50) := ⟨_, rfl⟩
  have hnb : W1.heap[w.heap.size]? = some (.cells #[.int .i64 1, .int .i64 k, .slice A2 n2 c2, .slice A3 n3 c3] 50 (0, 0)) := by rw [hW1]; exact blk_new _ _
  have hb1 : Below w.heap.size w W1 := by rw [hW1]; exact below_alloc (Below.refl _ _) _
  rw [← hW1]
  obtain ⟨p5, hp5⟩ : ∃ p5, p5 = w.heap.size := ⟨_, rfl⟩
  have hp5w : w.heap.size ≤ p5 := by omega
  rw [← hp5] at hnb ⊢
  have t1 := (blk_cell hnb 1).trans (rfl : _ = some (Value.int .i64 k))
  have t2 := (blk_cell hnb 2).trans (rfl : _ = some (Value.slice A2 n2 c2))
  have t3 := (blk_cell hnb 3).trans (rfl : _ = some (Value.slice A3 n3 c3))
  have HNB := Aside0.mk hnb
  have HS := Aside0.mk (FS.below (W1 := W1) H.out hb1)
  have HB1 := Aside0.mk hb1
  have hbw : b ≤ w.heap.size := Nat.le_trans H.out.f.hg (Nat.le_of_lt (blk_lt H.out.f.hb))
  have hgp : p5 ≠ g := by have := blk_lt H.out.f.hb; omega
  have hrp : p5 ≠ r := by have := blk_lt H.out.r.hb; omega
  have HVP := Aside0.mk (show some p5 ≠ vo.ownBlock from fun e => by have := R_lt H.out.f.ho p5 e.symm; omega)
  have HNP := Aside0.mk (show some p5 ≠ rn.ownBlock from fun e => by have := R_lt H.out.r.hn p5 e.symm; omega)
  have HOP := Aside0.mk (show some p5 ≠ ro.ownBlock from fun e => by have := R_lt H.out.r.ho p5 e.symm; omega)
  have HXX := Aside0.mk (show ∀ k, w.heap.size ≤ k → some k ≠ rn.ownBlock from fun k hk e => by have := R_lt H.out.r.hn k e.symm; omega)
  clear hnb hb1 hp5
  clear hW1
  go_region_held3 (fun w' => w'.cell? ⟨p5, 1, none⟩ = some (.int .i64 k)) (first | with_reducible exact t1 | exact t1) (first
    | (go_at_call 42; refine (ftrunc_bad g k _ HK.out).mono ?_; rintro e w3 ⟨rfl, rfl⟩)
    | (go_at_call 88; refine (rtrunc_bad r k _ HK.out).mono ?_; rintro e w3 ⟨rfl, rfl⟩))
  all_goals
    go_wp2_with fail
    go_ret3
    exact ⟨_, _, _, _, _, _, _, _, rfl, HS.out.below (below_drew1 (Below.refl _ _)), (Fr.below HB1.out (fun _ h _ => h)).then_below (below_drew1 (Below.refl _ _)), (HB1.out.mono hbw).trans (below_drew1 (Below.refl _ _))⟩
set_option maxHeartbeats 1000000 in
set_option maxRecDepth 100000 in
theorem does_trunc (b g r : Nat) (vn vs vo rn rs ro : Value) (now safe : List Int) (ops : List FOp) (A2 A3 : Option Addr) (n2 c2 n3 c3 : Nat) (w : World) (h : FS w b g r vn vs vo rn rs ro now safe ops) (k : Nat) (hk : k ≤ 1048576) (hnow : now.length ≤ 1048576) (hops : ops.length ≤ 500000) :
    Calls Try.prog 33 #[.pointer (some ⟨g, 0, none⟩), .pointer (some ⟨r, 0, none⟩), (.agg #[.int .i64 1, .int .i64 (k : Int), .slice A2 n2 c2, .slice A3 n3 c3])] w (fun e w' => ∃ g' r' vn1 vs1 vo1 rn1 rs1 ro1, e = .returned (.tuple #[.pointer (some ⟨g', 0, none⟩), .pointer (some ⟨r', 0, none⟩), .bool true]) ∧ FS w' b g' r' vn1 vs1 vo1 rn1 rs1 ro1 ((sizeF (now, ops) k).1) (safe) ((sizeF (now, ops) k).2) ∧ Fr w w' (Own3 g vo rn) (Own3 g' vo1 rn1) ∧ Below b w w') := by
  have H := Aside0.mk h
  clear h
  go_enter Try.func33, Try.ntmps33
  go_wp2_with fail
  obtain ⟨W1, hW1⟩ : ∃ W1, W1 = w.alloc (.cells #[.int .i64 1, .int .i64 (k : Int), .slice A2 n2 c2, .slice A3 n3 c3] 50) := ⟨_, rfl⟩
  have hnb : W1.heap[w.heap.size]? = some (.cells #[.int .i64 1, .int .i64 (k : Int), .slice A2 n2 c2, .slice A3 n3 c3] 50 (0, 0)) := by rw [hW1]; exact blk_new _ _
  have hb1 : Below w.heap.size w W1 := by rw [hW1]; exact below_alloc (Below.refl _ _) _
  rw [← hW1]
  obtain ⟨p5, hp5⟩ : ∃ p5, p5 = w.heap.size := ⟨_, rfl⟩
  have hp5w : w.heap.size ≤ p5 := by omega
  rw [← hp5] at hnb ⊢
  have t1 := (blk_cell hnb 1).trans (rfl : _ = some (Value.int .i64 (k : Int)))
  have t2 := (blk_cell hnb 2).trans (rfl : _ = some (Value.slice A2 n2 c2))
  have t3 := (blk_cell hnb 3).trans (rfl : _ = some (Value.slice A3 n3 c3))
  have HNB := Aside0.mk hnb
  have HS := Aside0.mk (FS.below (W1 := W1) H.out hb1)
  have HB1 := Aside0.mk hb1
  have hbw : b ≤ w.heap.size := Nat.le_trans H.out.f.hg (Nat.le_of_lt (blk_lt H.out.f.hb))
  have hgp : p5 ≠ g := by have := blk_lt H.out.f.hb; omega
  have hrp : p5 ≠ r := by have := blk_lt H.out.r.hb; omega
  have HVP := Aside0.mk (show some p5 ≠ vo.ownBlock from fun e => by have := R_lt H.out.f.ho p5 e.symm; omega)
  have HNP := Aside0.mk (show some p5 ≠ rn.ownBlock from fun e => by have := R_lt H.out.r.hn p5 e.symm; omega)
  have HOP := Aside0.mk (show some p5 ≠ ro.ownBlock from fun e => by have := R_lt H.out.r.ho p5 e.symm; omega)
  have HXX := Aside0.mk (show ∀ k, w.heap.size ≤ k → some k ≠ rn.ownBlock from fun k hk e => by have := R_lt H.out.r.hn k e.symm; omega)
  clear hnb hb1 hp5
  clear hW1
  go_region_held3 (fun w' => w'.cell? ⟨p5, 1, none⟩ = some (.int .i64 (k : Int))) (first | with_reducible exact t1 | exact t1) (first
    | (go_at_call 42; refine (ftrunc_any b g (fun q => some q ≠ rn.ownBlock) vn vs vo now safe ops k _ HS.out.f.drew (fun q hq => HXX.out q (Nat.le_trans HB1.out.size hq)) (by omega) hk (by omega)).mono ?_; rintro e w3 ⟨rfl, ⟨vn1, vo1, hf1, hv1⟩, hk1, hl1⟩; have hnb := (hk1.2 p5 (blk_lt (blk_drew HNB.out)) hgp HVP.out).trans (blk_drew HNB.out); replace t1 := (blk_cell hnb 1).trans (rfl : _ = some (Value.int .i64 (k : Int))); have HF1 := Aside0.mk hf1; have HV1 := Aside0.mk hv1; have HK1 := Aside0.mk hk1; have HL1 := Aside0.mk hl1; have HR1 := Aside0.mk ((HS.out.below (below_drew1 (Below.refl _ _))).r.other (HS.out.below (below_drew1 (Below.refl _ _))).f hk1); have HNB1 := Aside0.mk hnb; clear hf1 hv1 hk1 hl1 hnb)
    | (go_at_call 88; refine (rtrunc_any b r rn rs ro now safe ops k _ HR1.out (by omega) hk (by omega)).mono ?_; rintro e w4 ⟨rfl, ⟨rn1, ro1, hr2, hn2'⟩, hk2, hl2⟩; have hnb := (hk2.2 p5 (blk_lt HNB1.out) hrp HOP.out).trans HNB1.out; replace t1 := (blk_cell hnb 1).trans (rfl : _ = some (Value.int .i64 (k : Int))); have HR2 := Aside0.mk hr2; have HN2 := Aside0.mk hn2'; have HK2 := Aside0.mk hk2; have HL2 := Aside0.mk hl2; clear hr2 hn2' hk2 hl2 hnb))
  all_goals
    go_wp2_with fail
    go_ret3
    obtain ⟨hfs, hfr⟩ := (HS.out.below (below_drew1 (Below.refl _ _))).turned HF1.out HK1.out (HV1.out.imp id .inr) HR2.out ⟨HK2.out.1, fun i hi hg _ h2 => HK2.out.2 i hi hg h2⟩ HN2.out
    exact ⟨_, _, _, _, _, _, _, _, rfl, hfs, (Fr.below (HB1.out.trans (below_drew1 (Below.refl _ _))) (fun _ h _ => h)).trans hfr, (HB1.out.mono hbw).trans ((below_drew1 (Below.refl _ _)).trans (HL1.out.trans HL2.out))⟩
set_option maxHeartbeats 1000000 in
set_option maxRecDepth 100000 in
theorem does_sync (b g r : Nat) (vn vs vo rn rs ro : Value) (now safe : List Int) (ops : List FOp) (A2 A3 : Option Addr) (n2 c2 n3 c3 : Nat) (w : World) (h : FS w b g r vn vs vo rn rs ro now safe ops) (k : Int) (hnow : now.length ≤ 1048576) :
    Calls Try.prog 33 #[.pointer (some ⟨g, 0, none⟩), .pointer (some ⟨r, 0, none⟩), (.agg #[.int .i64 2, .int .i64 k, .slice A2 n2 c2, .slice A3 n3 c3])] w (fun e w' => ∃ g' r' vn1 vs1 vo1 rn1 rs1 ro1, e = .returned (.tuple #[.pointer (some ⟨g', 0, none⟩), .pointer (some ⟨r', 0, none⟩), .bool true]) ∧ FS w' b g' r' vn1 vs1 vo1 rn1 rs1 ro1 (now) (now) (([] : List FOp)) ∧ Fr w w' (Own3 g vo rn) (Own3 g' vo1 rn1) ∧ Below b w w') := by
  have hlt := blk_lt h.f.hb
  have HB1 := Aside0.mk (below_alloc (Below.refl w.heap.size w) (.cells #[.int .i64 2, .int .i64 k, .slice A2 n2 c2, .slice A3 n3 c3] 50))
  have HS := Aside0.mk (FS.below h HB1.out)
  have hbw : b ≤ w.heap.size := Nat.le_trans h.f.hg (Nat.le_of_lt (blk_lt h.f.hb))
  have HXX := Aside0.mk (show ∀ q, w.heap.size ≤ q → some q ≠ rn.ownBlock from fun q hq e => by have := R_lt h.r.hn q e.symm; omega)
  have H := Aside0.mk h
  clear h
  go_enter Try.func33, Try.ntmps33
  go_wp2_with (first
    | (go_at_call 38; refine (fsync_any b g (fun q => some q ≠ rn.ownBlock) vn vs vo now safe ops _ HS.out.f (fun q hq => HXX.out q (Nat.le_trans HB1.out.size hq)) (by omega)).mono ?_; rintro e w3 ⟨rfl, ⟨vs1, hf1⟩, hk1, hl1⟩; have HF1 := Aside0.mk hf1; have HK1 := Aside0.mk hk1; have HL1 := Aside0.mk hl1; have HR1 := Aside0.mk (HS.out.r.other HS.out.f (show KeepBut _ _ g vo.ownBlock from ⟨hk1.1, fun i hi hg _ => hk1.2 i hi hg (by simp)⟩)); clear hf1 hk1 hl1)
    | (go_at_call 89; refine (rsync_any b r rn rs ro now safe ops _ HR1.out (by omega)).mono ?_; rintro e w4 ⟨rfl, ⟨rs1, hr2⟩, hk2, hl2⟩; have HR2 := Aside0.mk hr2; have HK2 := Aside0.mk hk2; have HL2 := Aside0.mk hl2; clear hr2 hk2 hl2))
  go_ret3
  obtain ⟨hfs, hfr⟩ := HS.out.turned HF1.out (show KeepBut _ _ g vo.ownBlock from ⟨HK1.out.1, fun i hi hg _ => HK1.out.2 i hi hg (by simp)⟩) (.inr (.inl rfl)) HR2.out ⟨HK2.out.1, fun i hi hg _ _ => HK2.out.2 i hi hg (by simp)⟩ (.inl rfl)
  exact ⟨_, _, _, _, _, _, _, _, rfl, hfs, (Fr.below HB1.out (fun _ h _ => h)).trans hfr, (HB1.out.mono hbw).trans (HL1.out.trans HL2.out)⟩
theorem FI.to {W : World} {b b' g : Nat} {x x' : Nat → Prop} {vn vs vo : Value} {now safe : List Int} {ops : List FOp} (h : FI W b g x vn vs vo now safe ops) (hb : b' ≤ b) (hx : ∀ k, b ≤ k → k < W.heap.size → x k → x' k) : FI W b' g x' vn vs vo now safe ops :=
  ⟨h.hb, Kd.R_lower (Kd.R_mono (Kd.R_bound h.hn) (fun k hk => hx k hk.2.1 hk.2.2.1 hk.1)) hb, Kd.R_lower (Kd.R_mono (Kd.R_bound h.hs) (fun k hk => hx k hk.2.1 hk.2.2.1 hk.1)) hb, Kd.R_lower (Kd.R_mono (Kd.R_bound h.ho) (fun k hk => hx k hk.2.1 hk.2.2.1 hk.1)) hb, Nat.le_trans hb h.hg⟩
theorem RF.to {W : World} {b b' g : Nat} {vn vs vo : Value} {now safe : List Int} {ops : List FOp} (h : RF W b g vn vs vo now safe ops) (hb : b' ≤ b) : RF W b' g vn vs vo now safe ops :=
  ⟨h.hb, Kd.R_lower h.hn hb, Kd.R_lower h.hs hb, Kd.R_lower h.ho hb, Nat.le_trans hb h.hg⟩
set_option maxHeartbeats 1000000 in
set_option maxRecDepth 100000 in
theorem does_crash (b g r : Nat) (vn vs vo rn rs ro : Value) (now safe : List Int) (ops : List FOp) (A2 A3 : Option Addr) (n2 c2 n3 c3 : Nat) (w : World) (h : FS w b g r vn vs vo rn rs ro now safe ops) (kd k : Int) (kl : List Bool) (hkd : kd ≠ 0 ∧ kd ≠ 1 ∧ kd ≠ 2) (hc : Kd.bool.C w A3 n3 kl) (hsafe : safe.length ≤ 1048576) (hop : ∀ o ∈ ops, o.n ≤ 1048576 ∧ o.d.length ≤ 1048576) (hol : ops.length ≤ 2000000) :
    Calls Try.prog 33 #[.pointer (some ⟨g, 0, none⟩), .pointer (some ⟨r, 0, none⟩), (.agg #[.int .i64 kd, .int .i64 k, .slice A2 n2 c2, .slice A3 n3 c3])] w (fun e w' => ∃ g' r' vn1 vs1 vo1 rn1 rs1 ro1, e = .returned (.tuple #[.pointer (some ⟨g', 0, none⟩), .pointer (some ⟨r', 0, none⟩), .bool true]) ∧ FS w' b g' r' vn1 vs1 vo1 rn1 rs1 ro1 (crashF safe ops kl ops.length) (crashF safe ops kl ops.length) (([] : List FOp)) ∧ Fr w w' (Own3 g vo rn) (Own3 g' vo1 rn1) ∧ Below b w w') := by
  have H := Aside0.mk h
  have HC := Aside0.mk hc
  have HOPS := Aside0.mk hop
  have q0 : (kd == 0) = false := beq_eq_false_iff_ne.mpr hkd.1
  have q1 : (kd == 1) = false := beq_eq_false_iff_ne.mpr hkd.2.1
  have q2 : (kd == 2) = false := beq_eq_false_iff_ne.mpr hkd.2.2
  clear h hc hop hkd
  go_enter Try.func33, Try.ntmps33
  go_wp2_with fail
  obtain ⟨W1, hW1⟩ : ∃ W1, W1 = w.alloc (.cells #[.int .i64 kd, .int .i64 k, .slice A2 n2 c2, .slice A3 n3 c3] 50) := ⟨_, rfl⟩
  have hnb : W1.heap[w.heap.size]? = some (.cells #[.int .i64 kd, .int .i64 k, .slice A2 n2 c2, .slice A3 n3 c3] 50 (0, 0)) := by rw [hW1]; exact blk_new _ _
  have hb1 : Below w.heap.size w W1 := by rw [hW1]; exact below_alloc (Below.refl _ _) _
  rw [← hW1]
  obtain ⟨p5, hp5⟩ : ∃ p5, p5 = w.heap.size := ⟨_, rfl⟩
  have hp5w : w.heap.size ≤ p5 := by omega
  rw [← hp5] at hnb ⊢
  have t1 := (blk_cell hnb 1).trans (rfl : _ = some (Value.int .i64 k))
  have t2 := (blk_cell hnb 2).trans (rfl : _ = some (Value.slice A2 n2 c2))
  have t3 := (blk_cell hnb 3).trans (rfl : _ = some (Value.slice A3 n3 c3))
  have HNB := Aside0.mk hnb
  have HS := Aside0.mk (FS.below (W1 := W1) H.out hb1)
  have HB1 := Aside0.mk hb1
  have hbw : b ≤ w.heap.size := Nat.le_trans H.out.f.hg (Nat.le_of_lt (blk_lt H.out.f.hb))
  have hgp : p5 ≠ g := by have := blk_lt H.out.f.hb; omega
  have hrp : p5 ≠ r := by have := blk_lt H.out.r.hb; omega
  have HVP := Aside0.mk (show some p5 ≠ vo.ownBlock from fun e => by have := R_lt H.out.f.ho p5 e.symm; omega)
  have HNP := Aside0.mk (show some p5 ≠ rn.ownBlock from fun e => by have := R_lt H.out.r.hn p5 e.symm; omega)
  have HOP := Aside0.mk (show some p5 ≠ ro.ownBlock from fun e => by have := R_lt H.out.r.ho p5 e.symm; omega)
  have HXX := Aside0.mk (show ∀ k, w.heap.size ≤ k → some k ≠ rn.ownBlock from fun k hk e => by have := R_lt H.out.r.hn k e.symm; omega)
  clear hnb hb1 hp5
  clear hW1
  go_region_held3 (fun w' => w'.cell? ⟨p5, 3, none⟩ = some (.slice A3 n3 c3)) (first | with_reducible exact t3 | exact t3) (first
    | (go_at_call 36; refine (fcrash_any b g (fun q => some q ≠ rn.ownBlock) vn vs vo now safe ops A3 n3 c3 kl _ HS.out.f.drew (Kd.C_drew (Kd.C_below HC.out HB1.out)) hsafe HOPS.out hol).mono ?_; rintro e w3 ⟨g2, va, vb, rfl, hf1, hl1⟩; replace t3 := pw_cell_below hl1 t3; have HF1 := Aside0.mk hf1; have HL1 := Aside0.mk hl1; have HR1 := Aside0.mk ((HS.out.below (below_drew1 (Below.refl _ _))).r.below hl1); clear hf1 hl1)
    | (go_at_call 90; refine (rcrash_any b r rn rs ro now safe ops A3 n3 c3 kl 0 _ HR1.out (Kd.C_below (Kd.C_drew (Kd.C_below HC.out HB1.out)) HL1.out) (by omega) hsafe HOPS.out hol).mono ?_; rintro e w4 ⟨g3, vc, vd, rfl, hr2, hl2⟩; replace t3 := pw_cell_below hl2 t3; rw [List.drop_zero] at hr2; have HR2 := Aside0.mk hr2; have HL2 := Aside0.mk hl2; clear hr2 hl2))
  all_goals
    go_wp2_with fail
    go_ret3
    have hs1 : w.heap.size ≤ W1.heap.size := HB1.out.size
    have hs2 : W1.heap.size ≤ w3.heap.size := HL1.out.size
    have hbb : Below w.heap.size w w4 := HB1.out.trans ((below_drew1 (Below.refl _ _)).trans ((HL1.out.mono hs1).trans (HL2.out.mono (Nat.le_trans hs1 hs2))))
    have hvc : ∀ q, vc.ownBlock = some q → w3.heap.size ≤ q := fun q hq => Kd.R_base HR2.out.hn q hq
    have hf : FI w4 b g2 (fun q => some q ≠ vc.ownBlock) va vb (.slice none 0 0) (crashF safe ops kl ops.length) (crashF safe ops kl ops.length) [] := (FI.to HF1.out (Nat.le_trans hbw hs1) (x' := fun q => some q ≠ vc.ownBlock) (fun q _ hq _ e => by have := hvc q e.symm; omega)).below HL2.out
    refine ⟨_, _, _, _, _, _, _, _, rfl, ⟨hf, HR2.out.to (Nat.le_trans hbw (Nat.le_trans hs1 hs2))⟩, Fr.below hbb (fun i hi hlt => ?_), hbb.mono hbw⟩
    rcases hi with e | e | e
    · have := HF1.out.hg; exfalso; simp at this; omega
    · cases e
    · have := hvc i e.symm; omega
theorem putF_n (s : List Int × List FOp) (p : Pc) (hp : p.s ≤ 1048576) (h : ∀ o ∈ s.2, o.n ≤ 1048576 ∧ o.d.length ≤ 1048576) : ∀ o ∈ (putF s p).2, o.n ≤ 1048576 ∧ o.d.length ≤ 1048576 := by
  intro o ho
  rcases List.mem_append.1 ho with ho | ho
  · exact h o ho
  · rw [List.mem_singleton.1 ho]
    refine ⟨hp, ?_⟩
    show (layL (atL s.1 p.s) p.f p.d).length ≤ 1048576
    unfold layL
    split
    · rw [overlay_length (by rw [sizeL_length]; omega), sizeL_length]; decide
    · rw [sizeL_length]; decide
theorem pieces_s : ∀ (g : Nat) (b : List Int) (a : Nat), b.length ≤ g → a + b.length ≤ 1048576 → ∀ p ∈ pieces a b, p.s ≤ 1048576
  | 0, b, a, hg, _ => by
    obtain rfl := List.eq_nil_of_length_eq_zero (Nat.le_zero.1 hg)
    intro p hp
    rw [pieces_nil] at hp
    simp at hp
  | g + 1, b, a, hg, ha => by
    by_cases h0 : 0 < b.length
    · obtain ⟨n, hne⟩ : ∃ n, n = min (64 - a % 64) b.length := ⟨_, rfl⟩
      rw [pieces_step a b n hne h0]
      intro p hp
      rcases List.mem_cons.1 hp with rfl | hp
      · show (a : Int) / 64 ≤ 1048576
        omega
      · exact pieces_s g (b.drop n) (a + n) (by rw [List.length_drop]; omega) (by rw [List.length_drop]; omega) p hp
    · obtain rfl := List.eq_nil_of_length_eq_zero (Nat.eq_zero_of_not_pos h0)
      intro p hp
      rw [pieces_nil] at hp
      simp at hp
theorem puts_bd (P : List Pc) (hP : ∀ p ∈ P, p.s ≤ 1048576) : ∀ (s : List Int × List FOp), (∀ o ∈ s.2, o.n ≤ 1048576 ∧ o.d.length ≤ 1048576) → (P.foldl putF s).1.length = s.1.length ∧ (P.foldl putF s).2.length = s.2.length + P.length ∧ ∀ o ∈ (P.foldl putF s).2, o.n ≤ 1048576 ∧ o.d.length ≤ 1048576 := by
  induction P with
  | nil => intro s h; exact ⟨rfl, rfl, h⟩
  | cons p P ih =>
    intro s h
    obtain ⟨h1, h2, h3⟩ := ih (fun q hq => hP q (List.mem_cons_of_mem _ hq)) (putF s p) (putF_n s p (hP p (List.mem_cons_self ..)) h)
    have h4 := putF_len s p
    rw [List.foldl_cons, List.length_cons]
    exact ⟨h1.trans h4.1, by omega, h3⟩
theorem stepF_bd (s : FSt) (a : FAct) (k : Nat) (h : Bd s k) (hb : a.b.length ≤ 400) : Bd (stepF s a) (k + 1) := by
  obtain ⟨h1, h2, h3, h4⟩ := h
  unfold stepF
  by_cases q0 : a.kd = 0
  · rw [if_pos q0]
    by_cases qa : 0 ≤ a.at_ ∧ a.at_ ≤ 1048576 ∧ (a.b.length : Int) ≤ 1048576 - a.at_
    · rw [if_pos qa]
      have hg : (growF (s.now, s.ops) a.at_.toNat a.b.length).1.length ≤ 1048576 ∧ (growF (s.now, s.ops) a.at_.toNat a.b.length).2.length ≤ s.ops.length + 1 ∧ ∀ o ∈ (growF (s.now, s.ops) a.at_.toNat a.b.length).2, o.n ≤ 1048576 ∧ o.d.length ≤ 1048576 := by
        unfold growF
        by_cases qg : 0 < a.b.length ∧ s.now.length < a.at_.toNat + a.b.length
        · rw [if_pos qg]
          refine ⟨by rw [sizeL_length]; omega, by simp, fun o ho => ?_⟩
          rcases List.mem_append.1 ho with ho | ho
          · exact h3 o ho
          · rw [List.mem_singleton.1 ho]
            exact ⟨by show ((a.at_.toNat + a.b.length : Nat) : Int) ≤ 1048576; omega, Nat.zero_le _⟩
        · rw [if_neg qg]
          exact ⟨h1, Nat.le_succ _, h3⟩
      obtain ⟨p1, p2, p3⟩ := puts_bd (pieces a.at_.toNat a.b) (pieces_s _ a.b a.at_.toNat (Nat.le_refl _) (by omega)) _ hg.2.2
      have hp := pieces_len a.b.length a.b a.at_.toNat (Nat.le_refl _)
      exact ⟨Nat.le_trans (Nat.le_of_eq p1) hg.1, h2, p3, by show (writeF (s.now, s.ops) a.at_.toNat a.b).2.length ≤ _; unfold writeF; rw [p2]; have := hg.2.1; omega⟩
    · rw [if_neg qa]
      exact ⟨h1, h2, h3, by omega⟩
  · rw [if_neg q0]
    by_cases q1 : a.kd = 1
    · rw [if_pos q1]
      by_cases qa : 0 ≤ a.at_ ∧ a.at_ ≤ 1048576
      · rw [if_pos qa]
        by_cases qs : a.at_ = (s.now.length : Int)
        · have e : sizeF (s.now, s.ops) a.at_ = (s.now, s.ops) := by unfold sizeF; rw [if_pos qs]
          rw [e]
          exact ⟨h1, h2, h3, by show s.ops.length ≤ _; omega⟩
        · have e : sizeF (s.now, s.ops) a.at_ = (sizeL s.now a.at_, s.ops ++ [⟨true, a.at_, []⟩]) := by unfold sizeF; rw [if_neg qs]
          rw [e]
          refine ⟨by show (sizeL s.now a.at_).length ≤ _; rw [sizeL_length]; omega, h2, fun o ho => ?_, by show (s.ops ++ [(⟨true, a.at_, []⟩ : FOp)]).length ≤ _; rw [List.length_append, List.length_singleton]; omega⟩
          rcases List.mem_append.1 ho with ho | ho
          · exact h3 o ho
          · rw [List.mem_singleton.1 ho]
            exact ⟨qa.2, Nat.zero_le _⟩
      · rw [if_neg qa]
        exact ⟨h1, h2, h3, by omega⟩
    · rw [if_neg q1]
      by_cases q2 : a.kd = 2
      · rw [if_pos q2]
        exact ⟨h1, h1, fun o ho => by simp at ho, Nat.zero_le _⟩
      · rw [if_neg q2]
        have hc := crashF_len s.safe s.ops a.keep h2 (fun o ho => (h3 o ho).1) s.ops.length
        exact ⟨hc, hc, fun o ho => by simp at ho, Nat.zero_le _⟩
theorem does_any (b g r : Nat) (vn vs vo rn rs ro : Value) (s : FSt) (a : FAct) (k : Nat) (A2 A3 : Option Addr) (c2 c3 : Nat) (w : World) (h : FS w b g r vn vs vo rn rs ro s.now s.safe s.ops) (hb : Bd s k) (hk : k ≤ 1000) (hl : a.b.length ≤ 400) (hc2 : a.b.length ≤ c2) (hst : ∀ W', Below b w W' → Kd.C (Kd.int .u8) W' A2 a.b.length a.b) (hkp : Kd.bool.C w A3 a.keep.length a.keep) :
    Calls Try.prog 33 #[.pointer (some ⟨g, 0, none⟩), .pointer (some ⟨r, 0, none⟩), (.agg #[.int .i64 a.kd, .int .i64 a.at_, .slice A2 a.b.length c2, .slice A3 a.keep.length c3])] w (fun e w' => ∃ g' r' vn1 vs1 vo1 rn1 rs1 ro1, e = .returned (.tuple #[.pointer (some ⟨g', 0, none⟩), .pointer (some ⟨r', 0, none⟩), .bool true]) ∧ FS w' b g' r' vn1 vs1 vo1 rn1 rs1 ro1 ((stepF s a).now) ((stepF s a).safe) ((stepF s a).ops) ∧ Fr w w' (Own3 g vo rn) (Own3 g' vo1 rn1) ∧ Below b w w') := by
  obtain ⟨h1, h2, h3, h4⟩ := hb
  have h5 : s.ops.length ≤ 500000 := by omega
  obtain ⟨kd, at_, bl, kp⟩ := a
  dsimp only at hl hc2 hst hkp ⊢
  unfold stepF
  dsimp only
  by_cases q0 : kd = 0
  · subst q0
    rw [if_pos rfl]
    by_cases qa : 0 ≤ at_ ∧ at_ ≤ 1048576 ∧ (bl.length : Int) ≤ 1048576 - at_
    · rw [if_pos qa]
      obtain ⟨q, rfl⟩ := Int.eq_ofNat_of_zero_le qa.1
      exact does_write b g r vn vs vo rn rs ro s.now s.safe s.ops A2 A3 bl.length c2 kp.length c3 w h q bl rfl hc2 hst hl (by omega) (by omega) h1 h5
    · rw [if_neg qa]
      exact does_write_bad b g r vn vs vo rn rs ro s.now s.safe s.ops A2 A3 bl.length c2 kp.length c3 w h at_ hl (by omega)
  · rw [if_neg q0]
    by_cases q1 : kd = 1
    · subst q1
      rw [if_pos rfl]
      by_cases qa : 0 ≤ at_ ∧ at_ ≤ 1048576
      · rw [if_pos qa]
        obtain ⟨q, rfl⟩ := Int.eq_ofNat_of_zero_le qa.1
        exact does_trunc b g r vn vs vo rn rs ro s.now s.safe s.ops A2 A3 bl.length c2 kp.length c3 w h q (by omega) h1 h5
      · rw [if_neg qa]
        exact does_trunc_bad b g r vn vs vo rn rs ro s.now s.safe s.ops A2 A3 bl.length c2 kp.length c3 w h at_ (by omega)
    · rw [if_neg q1]
      by_cases q2 : kd = 2
      · subst q2
        rw [if_pos rfl]
        exact does_sync b g r vn vs vo rn rs ro s.now s.safe s.ops A2 A3 bl.length c2 kp.length c3 w h at_ h1
      · rw [if_neg q2]
        exact does_crash b g r vn vs vo rn rs ro s.now s.safe s.ops A2 A3 bl.length c2 kp.length c3 w h kd at_ kp ⟨q0, q1, q2⟩ hkp h2 h3 (by omega)
end Go.Proofs.Ytpnbjpkdbiiogaa
