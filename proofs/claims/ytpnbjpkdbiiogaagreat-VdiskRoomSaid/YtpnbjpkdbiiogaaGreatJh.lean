/- The reference's file once more: its rows lie apart from whatever is named (px). -/
import Derived.Test.YtpnbjpkdbiiogaaGreatJg
import Derived.Test.YtpnbjpkdbiiogaaGreatJc
import Derived.IntWalk
namespace Go.Proofs.YtpnbjpkdbiiogaaGreat
set_option linter.unusedVariables false
open Go.RowKit Go.Proofs.YtpnbjpkdbiiogaaGreatW.PrintWords
attribute [local go_sem] mx2 mn2 mxTwo mnTwo

/-- The reference's file: its Now alone is written in place. -/
structure RX (W : World) (b g : Nat) (px : Nat → Prop) (vn vs vo : Value) (now safe : List Int) (ops : List FOp) : Prop where
  hb : W.heap[g]? = some (.cells #[vn, vs, vo] 60 (0, 0))
  hn : Kd.R (Kd.int .u8) 5 W b px vn now
  hs : Kd.R (Kd.int .u8) 5 W b (fun k => px k ∧ some k ≠ vn.ownBlock) vs safe
  ho : Kd.R kOp 142 W b (fun k => px k ∧ some k ≠ vn.ownBlock) vo ops
  hg : b ≤ g
  hx : ∀ k, W.heap.size ≤ k → px k
theorem RX.below {W W1 : World} {b g : Nat} {px : Nat → Prop} {vn vs vo : Value} {now safe : List Int} {ops : List FOp} (h : RX W b g px vn vs vo now safe ops) (hb : Below W.heap.size W W1) : RX W1 b g px vn vs vo now safe ops :=
  ⟨blk_below h.hb hb, Kd.R_below h.hn hb, Kd.R_below h.hs hb, Kd.R_below h.ho hb, h.hg, fun k hk => h.hx k (Nat.le_trans hb.size hk)⟩
theorem RX.rf {W : World} {b g : Nat} {px : Nat → Prop} {vn vs vo : Value} {now safe : List Int} {ops : List FOp} (h : RX W b g px vn vs vo now safe ops) : RF W b g vn vs vo now safe ops :=
  ⟨h.hb, Kd.R_mono h.hn (fun _ _ => trivial), Kd.R_mono h.hs (fun _ hk => hk.2), Kd.R_mono h.ho (fun _ hk => hk.2), h.hg⟩
theorem xsync_any (b g : Nat) (px : Nat → Prop) (vn vs vo : Value) (now safe : List Int) (ops : List FOp) (w : World) (h : RX w b g px vn vs vo now safe ops) (hl : now.length ≤ 1099511627776) : Calls Tryz.prog 69 #[.pointer (some ⟨g, 0, none⟩)] w fun e w' => e = .returned (.tuple #[]) ∧ (∃ vs', RX w' b g px vn vs' (.slice none 0 0) now now []) ∧ KeepBut w w' g none ∧ Below b w w' := by
  obtain ⟨A, c, rfl, hc, hC⟩ := Kd.R_reads h.hn
  have H := Aside0.mk h
  have HC := Aside0.mk hC
  have hbA := blk_alloc h.hb (.cells #[] 5)
  have hc0 := (blk_cell h.hb 0).trans (rfl : _ = some (Value.slice A now.length c))
  have hc0a := (blk_cell hbA 0).trans (rfl : _ = some (Value.slice A now.length c))
  clear h hC hbA
  go_enter Tryz.func69, Tryz.ntmps69
  go_wp2_with (at_builtin; refine Kd.R_append_rows (Kd.int .u8) (Rr := (Kd.int .u8).K w) (w0 := w) w.heap.size rfl (.tmp 3) (.tmp 7) 30 5 (.int .u8 0) 1 rfl Tryz.underlying30 infoU8 rfl (by decide) (by omega) _ [] now A now.length c (fun _ => True) (fun _ => False) rfl rfl (R_empty _ _ _ _ _ trivial) (Kd.C_alloc HC.out _) (fun _ _ h => h) (fun _ h => h.elim) (fun _ _ => trivial) (below_alloc (Below.refl _ _) _) (by simp) (by simp; omega) ?_; intro v1 w1 h1 hb1 _ _; rw [List.nil_append] at h1; obtain ⟨A1, c1, rfl, hc1, _⟩ := Kd.R_reads h1; have hbk := blk_below H.out.hb hb1; have k1 := (blk_cell hbk 1).trans (rfl : _ = some vs); have k2 := (blk_cell hbk 2).trans (rfl : _ = some vo); have f1 := blk_frozen hbk 1; have f2 := blk_frozen hbk 2; have HV := Aside0.mk h1; have HB := Aside0.mk hb1; have HK := Aside0.mk hbk; clear h1 hb1 hbk)
  first | go_end0 | ((try simp only [Exit.inBlock, Exit.then]); refine bodyPost_ret (results_none rfl _ _ _) rfl ?_)
  have hb1 := blk_put HK.out 1 (.slice A1 now.length c1) rfl
  have hbw : b ≤ w.heap.size := Nat.le_trans H.out.hg (Nat.le_of_lt (blk_lt H.out.hb))
  have hx : ∀ k, w.heap.size ≤ k → px k ∧ some k ≠ (Value.slice A now.length c).ownBlock := fun k hk => ⟨H.out.hx k hk, fun e => by have := R_lt H.out.hn k e.symm; omega⟩
  exact ⟨rfl, ⟨_, blk_put hb1 2 _ rfl, rfarU (rfarU (Kd.R_below H.out.hn HB.out) HK.out _) hb1 _, rfarU (rfarU (freshU HV.out hbw hx) HK.out _) hb1 _, Kd.R_nil _ _ _ _ _, H.out.hg, fun k hk => H.out.hx k (by rw [setsz, setsz] at hk; exact Nat.le_trans HB.out.size hk)⟩, ((KeepBut.of_below HB.out g none).set_ 1 _).set_ 2 _, ((HB.out.mono hbw).setCell (p := ⟨g, 1, none⟩) H.out.hg _).setCell (p := ⟨g, 2, none⟩) H.out.hg _⟩
section
variable {W W1 : World} {b g : Nat} {px : Nat → Prop} {vn vs vo v1 : Value} {now safe now1 : List Int} {ops : List FOp} {o : FOp}
/-- A fresh Now. -/
theorem RX.setNow (h : RX W b g px vn vs vo now safe ops) (hb : Below W.heap.size W W1) (hv : Kd.R (Kd.int .u8) 5 W1 W.heap.size (fun _ => True) v1 now1) : RX (W1.setCell ⟨g, 0, none⟩ v1) b g px v1 vs vo now1 safe ops := by
  have hbw : b ≤ W.heap.size := Nat.le_trans h.hg (Nat.le_of_lt (blk_lt h.hb))
  have h0 := blk_below h.hb hb
  have hne : ∀ k, k < W.heap.size → some k ≠ v1.ownBlock := fun k hk e => by have := Kd.R_base hv k e.symm; omega
  exact ⟨blk_put h0 0 _ rfl, rfarU (freshU hv hbw (fun k hk => h.hx k hk)) h0 _, rfarU (Kd.R_below (Kd.R_mono (Kd.R_bound h.hs) (fun k hk => ⟨hk.1.1, hne k hk.2.2.1⟩)) hb) h0 _, rfarO (Kd.R_below (Kd.R_mono (Kd.R_bound h.ho) (fun k hk => ⟨hk.1.1, hne k hk.2.2.1⟩)) hb) h0 _, h.hg, fun k hk => h.hx k (by rw [setsz] at hk; exact Nat.le_trans hb.size hk)⟩
theorem RX.addOp (h : RX W b g px vn vs vo now safe ops) (ho : Kd.R kOp 142 W1 b (fun k => px k ∧ some k ≠ vn.ownBlock) v1 (ops ++ [o])) (hg : W.grownBy W1 vo.ownBlock) : RX (W1.setCell ⟨g, 2, none⟩ v1) b g px vn vs v1 now safe (ops ++ [o]) := by
  have hb := blk_grown h.hb hg (Kd.R_ne h.ho h.hb (by omega))
  exact ⟨blk_put hb 2 _ rfl, rfarU (rgrowU h.hn h.ho hg) hb _, rfarU (rgrowU h.hs h.ho hg) hb _, rfarO ho hb _, h.hg, fun k hk => h.hx k (by rw [setsz] at hk; exact Nat.le_trans hg.size hk)⟩
end
theorem xtrunc_any (b g : Nat) (px : Nat → Prop) (vn vs vo : Value) (now safe : List Int) (ops : List FOp) (n : Nat) (w : World) (h : RX w b g px vn vs vo now safe ops) (hl : now.length ≤ 1099511627776) (hn : n ≤ 1048576) (ho : ops.length ≤ 1000000) : Calls Tryz.prog 67 #[.pointer (some ⟨g, 0, none⟩), .int .i64 (n : Int)] w fun e w' => e = .returned (.int .i64 0) ∧ (∃ vn' vo', RX w' b g px vn' vs vo' (sizeF (now, ops) n).1 safe (sizeF (now, ops) n).2 ∧ (vn'.ownBlock = vn.ownBlock ∨ vn'.ownBlock = none ∨ ∃ k, vn'.ownBlock = some k ∧ w.heap.size ≤ k) ∧ (vo'.ownBlock = vo.ownBlock ∨ ∃ k, vo'.ownBlock = some k ∧ w.heap.size ≤ k)) ∧ KeepBut w w' g vo.ownBlock ∧ Below b w w' := by
  obtain ⟨A, c, rfl, hc, hC⟩ := Kd.R_reads h.hn
  obtain ⟨A2, c2, rfl⟩ := Kd.R_slice h.ho
  have hbw : b ≤ w.heap.size := Nat.le_trans h.hg (Nat.le_of_lt (blk_lt h.hb))
  have hc0 := (blk_cell h.hb 0).trans (rfl : _ = some (Value.slice A now.length c))
  have H := Aside0.mk h
  have HC := Aside0.mk hC
  clear h hC
  by_cases he : (n : Int) = (now.length : Int)
  · have e : sizeF (now, ops) (n : Int) = (now, ops) := by unfold sizeF; rw [if_pos he]
    have hn2 : n = now.length := by omega
    subst hn2
    rw [e]
    clear he e
    go_enter Tryz.func67, Tryz.ntmps67
    go_wp2
    go_ret
    exact ⟨rfl, ⟨_, _, H.out, .inl rfl, .inl rfl⟩, KeepBut.refl _ _ _, Below.refl _ _⟩
  · have e : sizeF (now, ops) (n : Int) = (sizeL now (n : Int), ops ++ [⟨true, (n : Int), []⟩]) := by unfold sizeF; rw [if_neg he]
    have q : (n == now.length) = false := beq_eq_false_iff_ne.mpr (by omega)
    have q2 : ((n : Int) == (now.length : Int)) = false := beq_eq_false_iff_ne.mpr he
    rw [e]
    clear e
    go_enter Tryz.func67, Tryz.ntmps67
    go_wp2_with (first
      | (go_at_call 95; refine (rsize_any A now.length c now (n : Int) _ HC.out (by omega) (by omega)).mono ?_; rintro e w1 ⟨A1, c1, rfl, hc1, hv, hb1⟩; rw [Int.toNat_natCast] at hc1 hv; have hbk := blk_below H.out.hb hb1; have k0 := (blk_cell hbk 0).trans (rfl : _ = some (Value.slice A now.length c)); have k2 := (blk_cell hbk 2).trans (rfl : _ = some (Value.slice A2 ops.length c2)); have f0 := blk_frozen hbk 0; have f2 := blk_frozen hbk 2; have HN := Aside0.mk (H.out.setNow hb1 hv); have HVB := Aside0.mk (Kd.R_base hv); have HVL := Aside0.mk (R_lt hv); have HB := Aside0.mk hb1; clear hv hb1 hbk)
      | (at_builtin; refine Kd.R_append kOp (w0 := _) b rfl (.tmp 31) (.tmp 34) 58 142 (.agg #[(.bool false), (.int .i64 0), (.slice none 0 0)]) 40 rfl Tryz.underlying58 infoRop rfl (by decide) (by omega) (.slice A2 ops.length c2) ops ⟨true, (n : Int), []⟩ [.bool true, .int .i64 (n : Int), .slice none 0 0] (fun k => px k ∧ some k ≠ (Value.slice A1 n c1).ownBlock) (fun _ => False) rfl (congrArg (fun s => Value.slice (some ⟨s, 0, none⟩) 1 1) (setsz w1 ⟨g, 0, none⟩ (.slice A1 n c1)).symm) (kOp_mkM _ _ _ ⟨true, (n : Int), []⟩ (Kd.R_nil _ _ _ _ _)) (fun _ h => h.elim) (fun k hk => ⟨H.out.hx k (by rw [setsz] at hk; exact Nat.le_trans HB.out.size hk), fun e => absurd (HVL.out k e.symm) (by rw [setsz] at hk; omega)⟩) HN.out.ho (Below.refl _ _) (Nat.le_trans hbw (by simpa using HB.out.size)) (by omega) ?_; intro v2 w2 ho2 hbl2 hgr2 hat2; obtain ⟨g2, c3, e3, _, _, _⟩ := Kd.R_form ho2 (by simp); rw [List.length_append, List.length_singleton] at e3; subst e3; have hb2 := blk_grown HN.out.hb hgr2 (Kd.R_ne HN.out.ho HN.out.hb (by omega)); have k2' := (blk_cell hb2 2).trans (rfl : _ = some (Value.slice A2 ops.length c2)); have f2' := blk_frozen hb2 2; have HF := Aside0.mk (HN.out.addOp ho2 hgr2); have HBL := Aside0.mk hbl2; have HGR := Aside0.mk hgr2; have HAT := Aside0.mk hat2; clear hb2 ho2 hbl2 hgr2 hat2))
    go_ret
    refine ⟨rfl, ⟨_, _, HF.out, ?_, ?_⟩, (((KeepBut.of_below HB.out g _).set_ 0 _).trans (KeepBut.of_grown HGR.out g) (.inl rfl)).set_ 2 _, ((((HB.out.mono hbw).setCell (p := ⟨g, 0, none⟩) H.out.hg _).trans HBL.out).setCell (p := ⟨g, 2, none⟩) H.out.hg _)⟩
    · cases A1 with
      | none => exact .inr (.inl rfl)
      | some ad => exact .inr (.inr ⟨ad.block, rfl, HVB.out ad.block rfl⟩)
    · rcases HAT.out with e | ⟨q, e, hq⟩
      · exact .inl e
      · exact .inr ⟨q, e, Nat.le_trans HB.out.size (by rw [setsz] at hq; exact hq)⟩
end Go.Proofs.YtpnbjpkdbiiogaaGreat
/- The reference's disk in memory: what it holds; what keeps it. -/
namespace Go.Proofs.YtpnbjpkdbiiogaaGreat
set_option linter.unusedVariables false
open Go.RowKit Go.Maps Go.Proofs.YtpnbjpkdbiiogaaGreatW.PrintWords
attribute [local go_sem] mx2 mn2 mxTwo mnTwo

def kPtr : Kd Nat := Kd.scalar (fun g => Value.pointer (some ⟨g, 0, none⟩)) (fun _ => rfl)
theorem kPtr_mkM (w : World) (base : Nat) (ok : Nat → Prop) (x : Nat) : kPtr.M w base ok x [.pointer (some ⟨x, 0, none⟩)] := rfl
theorem infoP : (Tryz.prog.info? 61).map (fun i => (i.zero, i.size, i.bytes)) = some (some (.pointer none), 1, 8) := by kernel_rfl
theorem at_ptr {w : World} {A : Option Addr} {n : Nat} {xs : List Nat} (h : Kd.C kPtr w A n xs) (i : Nat) (hi : i < n) : ∃ ad, A = some ad ∧ w.cell? (ad.add i) = some (.pointer (some ⟨xs.getD i 0, 0, none⟩)) := by
  obtain ⟨ad, c', e, _, hK, hc0⟩ := Kd.C_get h 0 (i : Int) (by omega) (by omega)
  simp only [Int.toNat_natCast] at hK hc0
  subst hK
  have hc : ∀ j u, ([Value.pointer (some ⟨xs.getD i 0, 0, none⟩)])[j]? = some u → w.cell? (ad.add (i * 1 + j)) = some u := hc0
  have := hc 0 _ rfl
  exact ⟨ad, e, by simpa using this⟩
/-- A file of the reference's disk. -/
structure RR where
  g : Nat
  vn : Value
  vs : Value
  vo : Value
  now : List Int
  safe : List Int
  ops : List FOp
def rpx (rl : List RR) (r : RR) : Nat → Prop := fun k => ∀ q ∈ rl, q.g ≠ r.g → some k ≠ q.vn.ownBlock ∧ some k ≠ q.vo.ownBlock
/-- The rows that are written in place. -/
def rS (rl : List RR) : Nat → Prop := fun k => ∃ q ∈ rl, some k = q.vn.ownBlock
/-- The reference's disk. -/
structure RK (W : World) (b g gd : Nat) (dn ds dv : Value) (now safe : List DN) (ops : List DOp) (vF : Value) (rl : List RR) (room fuse : Int) (armed dead : Bool) : Prop where
  hb : W.heap[g]? = some (.cells #[.pointer (some ⟨gd, 0, none⟩), vF, .int .i64 room, .int .i64 fuse, .bool armed, .bool dead] 44 (0, 0))
  hd : RD W b gd dn ds dv now safe ops
  hF : Kd.R kPtr 61 W b (fun _ => True) vF (rl.map RR.g)
  hf : ∀ r ∈ rl, RX W b r.g (rpx rl r) r.vn r.vs r.vo r.now r.safe r.ops
  ap : rl.Pairwise (fun p q => p.g ≠ q.g)
  hg : b ≤ g
/-- The types of the reference's own cells. -/
def rTypes : List TypeId := [44, 61, 40, 80, 109, 60, 142]
/-- From W to W' no other block is turned but the reference's own and those in S; T: what is in S now. -/
structure RT (W W' : World) (S T : Nat → Prop) : Prop where
  size : W.heap.size ≤ W'.heap.size
  keep : ∀ k, k < W.heap.size → ¬ S k → (∀ cs t, W.heap[k]? = some (Obj.cells cs t (0, 0)) → t ∉ rTypes) → W'.heap[k]? = W.heap[k]?
  own : ∀ k, k < W.heap.size → T k → S k
theorem RT.refl (W : World) (S : Nat → Prop) : RT W W S S := ⟨Nat.le_refl _, fun _ _ _ _ => rfl, fun _ _ h => h⟩
theorem RT.trans {W W1 W2 : World} {S T U : Nat → Prop} (h : RT W W1 S T) (k : RT W1 W2 T U) : RT W W2 S U :=
  ⟨Nat.le_trans h.size k.size, fun i hi hs ht => by
    have e := h.keep i hi hs ht
    exact (k.keep i (Nat.lt_of_lt_of_le hi h.size) (fun hT => hs (h.own i hi hT)) (fun cs t hc => ht cs t (e ▸ hc))).trans e, fun i hi hu => h.own i hi (k.own i (Nat.lt_of_lt_of_le hi h.size) hu)⟩
theorem RT.of_below {W W1 : World} {S T : Nat → Prop} (h : Below W.heap.size W W1) (ho : ∀ k, k < W.heap.size → T k → S k) : RT W W1 S T := ⟨h.size, fun k hk _ _ => h.block k hk, ho⟩
/-- Blocks of one's own types are turned alone. -/
theorem RT.one {W W1 : World} {S : Nat → Prop} {g t : Nat} {cs : Array Value} (hb : W.heap[g]? = some (.cells cs t (0, 0))) (ht : t ∈ rTypes) (hs : W.heap.size ≤ W1.heap.size) (hk : ∀ k, k < W.heap.size → k ≠ g → W1.heap[k]? = W.heap[k]?) : RT W W1 S S :=
  ⟨hs, fun k hk' _ hn => hk k hk' (fun e => by subst e; exact hn _ _ hb ht), fun _ _ h => h⟩
theorem R_keptT {α : Type} {d : Kd α} {e : Nat} {W W1 : World} {b : Nat} {x : Nat → Prop} {v : Value} {xs : List α} (h : d.R e W b x v xs) (hk : ∀ (k : Nat) (cs : Array Value) (t : TypeId), t ∈ e :: d.E → W.heap[k]? = some (Obj.cells cs t (0, 0)) → W1.heap[k]? = W.heap[k]?) : d.R e W1 b x v xs := by
  refine Kd.R_mono (Kd.R_move (Kd.R_bound h) (fun k hk' => ?_)) (fun k hk => hk.1)
  obtain ⟨h1, h2, h3, q, h4, cs, h5⟩ := hk'
  exact hk k cs q h4 h5
theorem RX.move {W W' : World} {b g : Nat} {x x' : Nat → Prop} {vn vs vo : Value} {now safe : List Int} {ops : List FOp} (h : RX W b g x vn vs vo now safe ops) (hg : W'.heap[g]? = W.heap[g]?)
    (hr : ∀ k, x k → k < W.heap.size → (∃ cs T, (T = 5 ∨ T = 142) ∧ W.heap[k]? = some (.cells cs T (0, 0))) → W'.heap[k]? = W.heap[k]? ∧ x' k) (hx : ∀ k, W'.heap.size ≤ k → x' k) : RX W' b g x' vn vs vo now safe ops := by
  have key : ∀ k, (x k ∧ b ≤ k ∧ k < W.heap.size ∧ ∃ q, (q = 5 ∨ q = 142) ∧ ∃ cells, W.heap[k]? = some (.cells cells q (0, 0))) → W'.heap[k]? = W.heap[k]? ∧ x' k := fun k hk => by
    obtain ⟨h1, _, h3, q, h4, cs, h5⟩ := hk
    exact hr k h1 h3 ⟨cs, q, h4, h5⟩
  have hu : ∀ (k : Nat) {P : Prop}, (P ∧ b ≤ k ∧ k < W.heap.size ∧ ∃ q, q ∈ 5 :: (Kd.int .u8).E ∧ ∃ cells, W.heap[k]? = some (Obj.cells cells q (0, 0))) → x k → W'.heap[k]? = W.heap[k]? ∧ x' k := fun k P hk hxk => by
    obtain ⟨_, h2, h3, q, h4, h5⟩ := hk
    have hq : q = 5 := by
      have : (Kd.int .u8).E = [] := rfl
      rw [this] at h4
      simpa using h4
    exact key k ⟨hxk, h2, h3, q, .inl hq, h5⟩
  have ho : ∀ (k : Nat) {P : Prop}, (P ∧ b ≤ k ∧ k < W.heap.size ∧ ∃ q, q ∈ 142 :: kOp.E ∧ ∃ cells, W.heap[k]? = some (Obj.cells cells q (0, 0))) → x k → W'.heap[k]? = W.heap[k]? ∧ x' k := fun k P hk hxk => by
    obtain ⟨_, h2, h3, q, h4, h5⟩ := hk
    have hq : q = 5 ∨ q = 142 := by
      have : kOp.E = [5] := rfl
      rw [this] at h4
      simp at h4
      exact h4.symm
    exact key k ⟨hxk, h2, h3, q, hq, h5⟩
  refine ⟨hg.trans h.hb, ?_, ?_, ?_, h.hg, hx⟩
  · exact Kd.R_mono (Kd.R_move (Kd.R_bound h.hn) (fun k hk => (hu k hk hk.1).1)) (fun k hk => (hu k hk hk.1).2)
  · exact Kd.R_mono (Kd.R_move (Kd.R_bound h.hs) (fun k hk => (hu k hk hk.1.1).1)) (fun k hk => ⟨(hu k hk hk.1.1).2, hk.1.2⟩)
  · exact Kd.R_mono (Kd.R_move (Kd.R_bound h.ho) (fun k hk => (ho k hk hk.1.1).1)) (fun k hk => ⟨(ho k hk hk.1.1).2, hk.1.2⟩)
theorem RD.move {W W' : World} {b g : Nat} {vn vs vo : Value} {now safe : List DN} {ops : List DOp} (h : RD W b g vn vs vo now safe ops) (hg : W'.heap[g]? = W.heap[g]?) (hr : ∀ (k : Nat) (cs : Array Value) (T : TypeId), (T = 80 ∨ T = 109) → W.heap[k]? = some (Obj.cells cs T (0, 0)) → W'.heap[k]? = W.heap[k]?) : RD W' b g vn vs vo now safe ops := by
  have hn : ∀ (k : Nat) (cs : Array Value) (t : TypeId), t ∈ 80 :: kDN.E → W.heap[k]? = some (Obj.cells cs t (0, 0)) → W'.heap[k]? = W.heap[k]? := fun k cs t ht hc => hr k cs t (.inl (by
    have : kDN.E = [] := rfl
    rw [this] at ht
    simpa using ht)) hc
  refine ⟨hg.trans h.hb, R_keptT h.hn hn, R_keptT h.hs hn, R_keptT h.ho (fun k cs t ht hc => hr k cs t (.inr (by
    have : kDop.E = [] := rfl
    rw [this] at ht
    simpa using ht)) hc), h.hg⟩
section
variable {W W1 : World} {b g gd : Nat} {dn ds dv vF : Value} {now safe : List DN} {ops : List DOp} {rl : List RR} {room fuse : Int} {armed dead : Bool}
theorem RK.lt (h : RK W b g gd dn ds dv now safe ops vF rl room fuse armed dead) {r : RR} (hr : r ∈ rl) : ∀ k, (r.vn.ownBlock = some k ∨ r.vo.ownBlock = some k) → k < W.heap.size := fun k hk => by
  rcases hk with hk | hk
  · exact R_lt (h.hf r hr).hn k hk
  · exact ((Kd.R_bound (h.hf r hr).ho).1 k hk).2.2.1
theorem RK.fresh (h : RK W b g gd dn ds dv now safe ops vF rl room fuse armed dead) : ∀ (r : RR) (k : Nat), W.heap.size ≤ k → rpx rl r k := fun r k hk q hq _ =>
  ⟨fun e => by have := h.lt hq k (.inl e.symm); omega, fun e => by have := h.lt hq k (.inr e.symm); omega⟩
theorem RK.sS (h : RK W b g gd dn ds dv now safe ops vF rl room fuse armed dead) : ∀ k, rS rl k → k < W.heap.size := fun k hk => by
  obtain ⟨q, hq, e⟩ := hk
  exact h.lt hq k (.inl e.symm)
theorem RK.below (h : RK W b g gd dn ds dv now safe ops vF rl room fuse armed dead) (hb : Below W.heap.size W W1) : RK W1 b g gd dn ds dv now safe ops vF rl room fuse armed dead :=
  ⟨blk_below h.hb hb, h.hd.below hb, Kd.R_below h.hF hb, fun r hr => (h.hf r hr).below hb, h.ap, h.hg⟩
/-- Whatever keeps all types of the reference's, and bytes, keeps the disk. -/
theorem RK.kept (h : RK W b g gd dn ds dv now safe ops vF rl room fuse armed dead) (hs : W.heap.size ≤ W1.heap.size) (hk : ∀ (k : Nat) (cs : Array Value) (t : TypeId), (t ∈ rTypes ∨ t = 5) → W.heap[k]? = some (Obj.cells cs t (0, 0)) → W1.heap[k]? = W.heap[k]?) : RK W1 b g gd dn ds dv now safe ops vF rl room fuse armed dead := by
  refine ⟨(hk g _ _ (.inl (by decide)) h.hb).trans h.hb, h.hd.move (hk gd _ _ (.inl (by decide)) h.hd.hb) (fun k cs T hT hc => hk k cs T (.inl (by rcases hT with rfl | rfl <;> decide)) hc), R_keptT h.hF (fun k cs t ht hc => hk k cs t (.inl (by
    have : kPtr.E = [] := rfl
    rw [this] at ht
    rw [List.mem_singleton.1 ht]
    decide)) hc), fun r hr => ?_, h.ap, h.hg⟩
  have h1 := h.hf r hr
  exact h1.move (hk r.g _ _ (.inl (by decide)) h1.hb) (fun k hx _ ⟨cs, T, hT, hc⟩ => ⟨hk k cs T (by rcases hT with rfl | rfl <;> decide) hc, hx⟩) (fun k hk => h1.hx k (Nat.le_trans hs hk))
theorem rt_kt (t : TypeId) (h : t ∈ rTypes ∨ t = 5) : t ∉ kTypes := by
  rcases h with h | rfl
  · exact (show ∀ t ∈ rTypes, t ∉ kTypes by decide) t h
  · decide
theorem RK.code (h : RK W b g gd dn ds dv now safe ops vF rl room fuse armed dead) (hk : KT W W1) : RK W1 b g gd dn ds dv now safe ops vF rl room fuse armed dead :=
  h.kept hk.size (fun k cs t ht hc => hk.keep k cs t hc (rt_kt t ht))
/-- The disk's own block is turned. -/
theorem RK.own (h : RK W b g gd dn ds dv now safe ops vF rl room fuse armed dead) {room1 fuse1 : Int} {armed1 dead1 : Bool}
    (hb : W1.heap[g]? = some (.cells #[.pointer (some ⟨gd, 0, none⟩), vF, .int .i64 room1, .int .i64 fuse1, .bool armed1, .bool dead1] 44 (0, 0)))
    (hk : ∀ k, k ≠ g → W1.heap[k]? = W.heap[k]?) : RK W1 b g gd dn ds dv now safe ops vF rl room1 fuse1 armed1 dead1 := by
  have hty : ∀ (k : Nat) (cs : Array Value) (T : TypeId), T ≠ 44 → W.heap[k]? = some (.cells cs T (0, 0)) → W1.heap[k]? = W.heap[k]? := fun k cs T hT hkk => hk k (blk_ne hkk h.hb hT)
  have hs := sz_own hb hk
  refine ⟨hb, h.hd.move (hty gd _ _ (by decide) h.hd.hb) (fun k cs T hT hc => hty k cs T (by rcases hT with rfl | rfl <;> decide) hc), R_keptT h.hF (fun k cs t ht hc => hty k cs t (by
    have : kPtr.E = [] := rfl
    rw [this] at ht
    rw [List.mem_singleton.1 ht]
    decide) hc), fun r hr => ?_, h.ap, h.hg⟩
  have h1 := h.hf r hr
  exact h1.move (hty r.g _ _ (by decide) h1.hb) (fun k hx _ ⟨cs, T, hT, hc⟩ => ⟨hty k cs T (by rcases hT with rfl | rfl <;> decide) hc, hx⟩) (fun k hk => h1.hx k (Nat.le_trans hs hk))
end
end Go.Proofs.YtpnbjpkdbiiogaaGreat
/- The reference's disk: its directory, a file, a new file are turned; the code's disk beside it. -/
namespace Go.Proofs.YtpnbjpkdbiiogaaGreat
set_option linter.unusedVariables false
open Go.RowKit Go.Maps Go.Proofs.YtpnbjpkdbiiogaaGreatW.PrintWords
attribute [local go_sem] mx2 mn2 mxTwo mnTwo

def setR (rl : List RR) (r' : RR) : List RR := rl.map (fun q => if q.g = r'.g then r' else q)
theorem setR_g (rl : List RR) (r' : RR) : (setR rl r').map RR.g = rl.map RR.g := by
  unfold setR
  rw [List.map_map]
  refine List.map_congr_left (fun q _ => ?_)
  show (if q.g = r'.g then r' else q).g = q.g
  split
  · rename_i e
    exact e.symm
  · rfl
theorem mem_setR {rl : List RR} {r' q' : RR} (h : q' ∈ setR rl r') : q' = r' ∨ (q' ∈ rl ∧ q'.g ≠ r'.g) := by
  unfold setR at h
  obtain ⟨q, hq, rfl⟩ := List.mem_map.1 h
  by_cases e : q.g = r'.g
  · rw [if_pos e]
    exact .inl rfl
  · rw [if_neg e]
    exact .inr ⟨hq, e⟩
section
variable {W W1 : World} {b g gd : Nat} {dn ds dv vF : Value} {now safe : List DN} {ops : List DOp} {rl : List RR} {room fuse : Int} {armed dead : Bool}
theorem RK.vn_typed (h : RK W b g gd dn ds dv now safe ops vF rl room fuse armed dead) {r : RR} (hr : r ∈ rl) : ∀ k, r.vn.ownBlock = some k → ∃ cells, W.heap[k]? = some (.cells cells 5 (0, 0)) := fun k hk => own_typed (h.hf r hr).hn.2.choose_spec.1 k hk
theorem RK.vo_typed (h : RK W b g gd dn ds dv now safe ops vF rl room fuse armed dead) {r : RR} (hr : r ∈ rl) : ∀ k, r.vo.ownBlock = some k → ∃ cells, W.heap[k]? = some (.cells cells 142 (0, 0)) := fun k hk => own_typed (h.hf r hr).ho.2.choose_spec.1 k hk
theorem RK.rS_typed (h : RK W b g gd dn ds dv now safe ops vF rl room fuse armed dead) : ∀ k, rS rl k → ∃ cells, W.heap[k]? = some (.cells cells 5 (0, 0)) := fun k ⟨q, hq, e⟩ => h.vn_typed hq k e.symm
theorem cells_eq {W : World} {k : Nat} {cs cs' : Array Value} {t t' : TypeId} (h : W.heap[k]? = some (Obj.cells cs t (0, 0))) (h' : W.heap[k]? = some (Obj.cells cs' t' (0, 0))) : t = t' := by
  rw [h] at h'
  injection h' with h'
  injection h' with _ h' _
/-- The directory is turned. -/
theorem RK.dir (h : RK W b g gd dn ds dv now safe ops vF rl room fuse armed dead) {dn' ds' dv' : Value} {now' safe' : List DN} {ops' : List DOp} (hd : RD W1 b gd dn' ds' dv' now' safe' ops') (hk : KeepBut W W1 gd dv.ownBlock) : RK W1 b g gd dn' ds' dv' now' safe' ops' vF rl room fuse armed dead := by
  have hty : ∀ (k : Nat) (cs : Array Value) (T : TypeId), T ≠ 40 → T ≠ 109 → W.heap[k]? = some (.cells cs T (0, 0)) → W1.heap[k]? = W.heap[k]? := fun k cs T h1 h2 hkk =>
    hk.2 k (blk_lt hkk) (blk_ne hkk h.hd.hb h1) (fun e => by
      obtain ⟨c2, hc2⟩ := own_typed h.hd.ho.2.choose_spec.1 k e.symm
      exact h2 (cells_eq hkk hc2))
  refine ⟨(hty g _ _ (by decide) (by decide) h.hb).trans h.hb, hd, R_keptT h.hF (fun k cs t ht hc => ?_), fun r hr => ?_, h.ap, h.hg⟩
  · have : kPtr.E = [] := rfl
    rw [this] at ht
    rw [List.mem_singleton.1 ht] at hc
    exact hty k cs _ (by decide) (by decide) hc
  · have h1 := h.hf r hr
    exact h1.move (hty r.g _ _ (by decide) (by decide) h1.hb) (fun k hx _ ⟨cs, T, hT, hc⟩ => ⟨hty k cs T (by rcases hT with rfl | rfl <;> decide) (by rcases hT with rfl | rfl <;> decide) hc, hx⟩) (fun k hkk => h1.hx k (Nat.le_trans hk.1 hkk))
theorem RT.dir (h : RK W b g gd dn ds dv now safe ops vF rl room fuse armed dead) (hk : KeepBut W W1 gd dv.ownBlock) : RT W W1 (rS rl) (rS rl) :=
  ⟨hk.1, fun k hkl _ hn => hk.2 k hkl (fun e => by subst e; exact hn _ _ h.hd.hb (by decide)) (fun e => by
    obtain ⟨c2, hc2⟩ := own_typed h.hd.ho.2.choose_spec.1 k e.symm
    exact hn _ _ hc2 (by decide)), fun _ _ h => h⟩
/-- A file is turned. -/
theorem RK.file (h : RK W b g gd dn ds dv now safe ops vF rl room fuse armed dead) {r : RR} (hr : r ∈ rl) (hk : Keep3 W W1 r.g r.vn.ownBlock r.vo.ownBlock) {vn' vs' vo' : Value} {now' safe' : List Int} {ops' : List FOp} (hf : RX W1 b r.g (rpx rl r) vn' vs' vo' now' safe' ops') (hv : vn'.ownBlock = r.vn.ownBlock ∨ vn'.ownBlock = none ∨ ∃ k, vn'.ownBlock = some k ∧ W.heap.size ≤ k) (ho : vo'.ownBlock = r.vo.ownBlock ∨ vo'.ownBlock = none ∨ ∃ k, vo'.ownBlock = some k ∧ W.heap.size ≤ k) :
    RK W1 b g gd dn ds dv now safe ops vF (setR rl ⟨r.g, vn', vs', vo', now', safe', ops'⟩) room fuse armed dead ∧ RT W W1 (rS rl) (rS (setR rl ⟨r.g, vn', vs', vo', now', safe', ops'⟩)) := by
  have hrf := h.hf r hr
  have hgen : ∀ k, k < W.heap.size → k ≠ r.g → some k ≠ r.vn.ownBlock → some k ≠ r.vo.ownBlock → W1.heap[k]? = W.heap[k]? := fun k h1 h2 h3 h4 => hk.2 k h1 h2 h3 h4
  have hty : ∀ (k : Nat) (cs : Array Value) (T : TypeId), T ≠ 60 → T ≠ 142 → T ≠ 5 → W.heap[k]? = some (.cells cs T (0, 0)) → W1.heap[k]? = W.heap[k]? := fun k cs T h1 h2 h3 hkk =>
    hgen k (blk_lt hkk) (blk_ne hkk hrf.hb h1) (fun e => by
      obtain ⟨c2, hc2⟩ := h.vn_typed hr k e.symm
      exact h3 (cells_eq hkk hc2)) (fun e => by
      obtain ⟨c2, hc2⟩ := h.vo_typed hr k e.symm
      exact h2 (cells_eq hkk hc2))
  refine ⟨⟨(hty g _ _ (by decide) (by decide) (by decide) h.hb).trans h.hb, h.hd.move (hty gd _ _ (by decide) (by decide) (by decide) h.hd.hb) (fun k cs T hT hc => hty k cs T (by rcases hT with rfl | rfl <;> decide) (by rcases hT with rfl | rfl <;> decide) (by rcases hT with rfl | rfl <;> decide) hc), ?_, fun q' hq' => ?_, ?_, h.hg⟩, ⟨hk.1, fun k hkl hs hn => ?_, fun k hkl hs => ?_⟩⟩
  · rw [setR_g]
    refine R_keptT h.hF (fun k cs t ht hc => ?_)
    have : kPtr.E = [] := rfl
    rw [this] at ht
    rw [List.mem_singleton.1 ht] at hc
    exact hty k cs _ (by decide) (by decide) (by decide) hc
  · have hnew : ∀ k, k < W.heap.size → some k ≠ r.vn.ownBlock → some k ≠ vn'.ownBlock := fun k hkl hne e => by
      rcases hv with e1 | e1 | ⟨j, e1, hj⟩
      · exact hne (e.trans e1)
      · rw [e1] at e; cases e
      · rw [e1] at e; cases e; omega
    have hnewo : ∀ k, k < W.heap.size → some k ≠ r.vo.ownBlock → some k ≠ vo'.ownBlock := fun k hkl hne e => by
      rcases ho with e1 | e1 | ⟨j, e1, hj⟩
      · exact hne (e.trans e1)
      · rw [e1] at e; cases e
      · rw [e1] at e; cases e; omega
    have hfr : ∀ (k : Nat), W1.heap.size ≤ k → ∀ q'' ∈ setR rl ⟨r.g, vn', vs', vo', now', safe', ops'⟩, some k ≠ q''.vn.ownBlock ∧ some k ≠ q''.vo.ownBlock := fun k hkl q'' hq'' => by
      rcases mem_setR hq'' with rfl | ⟨hq2, _⟩
      · exact ⟨fun e => by have := R_lt hf.hn k e.symm; omega, fun e => by have := ((Kd.R_bound hf.ho).1 k e.symm).2.2.1; omega⟩
      · have hs := hk.1
        exact ⟨fun e => by have := h.lt hq2 k (.inl e.symm); omega, fun e => by have := h.lt hq2 k (.inr e.symm); omega⟩
    rcases mem_setR hq' with rfl | ⟨hq, hne⟩
    · refine hf.move rfl (fun k hx _ _ => ⟨rfl, fun q'' hq'' hg'' => ?_⟩) (fun k hkl q'' hq'' _ => hfr k hkl q'' hq'')
      rcases mem_setR hq'' with rfl | ⟨hq2, _⟩
      · exact absurd rfl hg''
      · exact hx q'' hq2 hg''
    · have hne' : q'.g ≠ r.g := hne
      have hqf := h.hf q' hq
      refine hqf.move (hgen q'.g (blk_lt hqf.hb) hne' (fun e => ?_) (fun e => ?_)) (fun k hx hlt ⟨cs, T, hT, hc⟩ => ⟨hgen k hlt (blk_ne hc hrf.hb (by rcases hT with rfl | rfl <;> decide)) (hx r hr (Ne.symm hne')).1 (hx r hr (Ne.symm hne')).2, fun q'' hq'' hg'' => ?_⟩) (fun k hkl q'' hq'' _ => hfr k hkl q'' hq'')
      · obtain ⟨c2, hc2⟩ := h.vn_typed hr q'.g e.symm
        have h3 := cells_eq hqf.hb hc2
        revert h3
        decide
      · obtain ⟨c2, hc2⟩ := h.vo_typed hr q'.g e.symm
        have h3 := cells_eq hqf.hb hc2
        revert h3
        decide
      · rcases mem_setR hq'' with rfl | ⟨hq2, _⟩
        · exact ⟨hnew k hlt (hx r hr (Ne.symm hne')).1, hnewo k hlt (hx r hr (Ne.symm hne')).2⟩
        · exact hx q'' hq2 hg''
  · unfold setR
    rw [List.pairwise_map]
    refine h.ap.imp (fun {a c} hac => ?_)
    have e1 : ∀ q : RR, (if q.g = r.g then (⟨r.g, vn', vs', vo', now', safe', ops'⟩ : RR) else q).g = q.g := fun q => by
      by_cases e : q.g = r.g
      · rw [if_pos e]
        exact e.symm
      · rw [if_neg e]
    show (if a.g = r.g then (⟨r.g, vn', vs', vo', now', safe', ops'⟩ : RR) else a).g ≠ (if c.g = r.g then (⟨r.g, vn', vs', vo', now', safe', ops'⟩ : RR) else c).g
    rw [e1, e1]
    exact hac
  · exact hgen k hkl (fun e => by subst e; exact hn _ _ hrf.hb (by decide)) (fun e => hs ⟨r, hr, e⟩) (fun e => by
      obtain ⟨c2, hc2⟩ := h.vo_typed hr k e.symm
      exact hn _ _ hc2 (by decide))
  · obtain ⟨q', hq', e⟩ := hs
    rcases mem_setR hq' with rfl | ⟨hq2, _⟩
    · rcases hv with e1 | e1 | ⟨j, e1, hj⟩
      · exact ⟨r, hr, e.trans e1⟩
      · have e' : some k = none := e.trans e1
        cases e'
      · have e' : some k = some j := e.trans e1
        cases e'
        omega
    · exact ⟨q', hq2, e⟩
/-- A new file. -/
theorem RK.addFile {Wa : World} (h : RK W b g gd dn ds dv now safe ops vF rl room fuse armed dead) (hb : Below W.heap.size W Wa) {p : Nat} (hp : W.heap.size ≤ p) {va vb vc : Value} {now1 safe1 : List Int} {ops1 : List FOp} (hx : RX Wa b p (fun k => W.heap.size ≤ k) va vb vc now1 safe1 ops1) {v1 : Value} (hF : Kd.R kPtr 61 W1 b (fun _ => True) v1 (rl.map RR.g ++ [p])) (hg1 : Wa.grownBy W1 vF.ownBlock) :
    RK (W1.setCell ⟨g, 1, none⟩ v1) b g gd dn ds dv now safe ops v1 (rl ++ [⟨p, va, vb, vc, now1, safe1, ops1⟩]) room fuse armed dead := by
  have ha := h.below hb
  have hFt : ∀ k, vF.ownBlock = some k → ∃ cells, Wa.heap[k]? = some (.cells cells 61 (0, 0)) := fun k hk => own_typed ha.hF.2.choose_spec.1 k hk
  have hne : ∀ (k : Nat) (cs : Array Value) (T : TypeId), T ≠ 61 → Wa.heap[k]? = some (.cells cs T (0, 0)) → W1.heap[k]? = Wa.heap[k]? := fun k cs T hT hk => hg1.block k (blk_lt hk) (fun e => by
    obtain ⟨c2, hc2⟩ := hFt k e.symm
    exact hT (cells_eq hk hc2))
  have hgb : W1.heap[g]? = some (.cells #[.pointer (some ⟨gd, 0, none⟩), vF, .int .i64 room, .int .i64 fuse, .bool armed, .bool dead] 44 (0, 0)) := (hne g _ _ (by decide) ha.hb).trans ha.hb
  have hne2 : ∀ (k : Nat) (cs : Array Value) (T : TypeId), T ≠ 61 → T ≠ 44 → Wa.heap[k]? = some (.cells cs T (0, 0)) → (W1.setCell ⟨g, 1, none⟩ v1).heap[k]? = Wa.heap[k]? := fun k cs T hT hT2 hk => by
    have h1 := hne k cs T hT hk
    exact (Below.heap_setCell _ ⟨g, 1, none⟩ _ k (blk_ne (h1.trans hk) hgb hT2)).trans h1
  have hsz : Wa.heap.size ≤ (W1.setCell ⟨g, 1, none⟩ v1).heap.size := by rw [setsz]; exact hg1.size
  have hwa := hb.size
  have hvb : ∀ k, va.ownBlock = some k → W.heap.size ≤ k := fun k hk => ((Kd.R_bound hx.hn).1 k hk).1
  have hcb : ∀ k, vc.ownBlock = some k → W.heap.size ≤ k := fun k hk => ((Kd.R_bound hx.ho).1 k hk).1.1
  refine ⟨blk_put hgb 1 _ rfl, ha.hd.move (hne2 gd _ _ (by decide) (by decide) ha.hd.hb) (fun k cs T hT hc => hne2 k cs T (by rcases hT with rfl | rfl <;> decide) (by rcases hT with rfl | rfl <;> decide) hc), ?_, fun r hr => ?_, ?_, h.hg⟩
  · rw [List.map_append]
    exact Kd.R_mono (Kd.R_far (Kd.R_types hF hgb (fun q hq => by
      have : kPtr.E = [] := rfl
      rw [this] at hq
      rw [List.mem_singleton.1 hq]
      decide)) (p := ⟨g, 1, none⟩) (fun k hk => hk.2) v1) (fun k hk => hk.1)
  · rcases List.mem_append.1 hr with hr | hr
    · have h1 := h.hf r hr
      have hfin : ∀ (k : Nat) (cs : Array Value) (T : TypeId), T ≠ 61 → T ≠ 44 → W.heap[k]? = some (.cells cs T (0, 0)) → (W1.setCell ⟨g, 1, none⟩ v1).heap[k]? = W.heap[k]? := fun k cs T q1 q2 hk => by
        have e := hb.block k (blk_lt hk)
        exact (hne2 k cs T q1 q2 (e.trans hk)).trans e
      refine h1.move (hfin r.g _ _ (by decide) (by decide) h1.hb) (fun k hxk hlt ⟨cs, T, hT, hc⟩ => ⟨hfin k cs T (by rcases hT with rfl | rfl <;> decide) (by rcases hT with rfl | rfl <;> decide) hc, fun q hq hqg => ?_⟩) (fun k hkl q hq hqg => ?_)
      · rcases List.mem_append.1 hq with hq | hq
        · exact hxk q hq hqg
        · rw [List.mem_singleton] at hq
          subst hq
          exact ⟨fun e => by have := hvb k e.symm; omega, fun e => by have := hcb k e.symm; omega⟩
      · rcases List.mem_append.1 hq with hq | hq
        · exact h1.hx k (Nat.le_trans (Nat.le_trans hwa hsz) hkl) q hq hqg
        · rw [List.mem_singleton] at hq
          subst hq
          exact ⟨fun e => by have := R_lt hx.hn k e.symm; omega, fun e => by have := ((Kd.R_bound hx.ho).1 k e.symm).2.2.1; omega⟩
    · rw [List.mem_singleton] at hr
      subst hr
      refine hx.move (hne2 p _ _ (by decide) (by decide) hx.hb) (fun k hxk hlt ⟨cs, T, hT, hc⟩ => ⟨hne2 k cs T (by rcases hT with rfl | rfl <;> decide) (by rcases hT with rfl | rfl <;> decide) hc, fun q hq hqg => ?_⟩) (fun k hkl q hq hqg => ?_)
      · rcases List.mem_append.1 hq with hq | hq
        · exact ⟨fun e => by have := h.lt hq k (.inl e.symm); omega, fun e => by have := h.lt hq k (.inr e.symm); omega⟩
        · rw [List.mem_singleton] at hq
          subst hq
          exact absurd rfl hqg
      · rcases List.mem_append.1 hq with hq | hq
        · exact ⟨fun e => by have := h.lt hq k (.inl e.symm); omega, fun e => by have := h.lt hq k (.inr e.symm); omega⟩
        · rw [List.mem_singleton] at hq
          subst hq
          exact absurd rfl hqg
  · rw [List.pairwise_append]
    refine ⟨h.ap, by simp, fun q hq r hr => ?_⟩
    rw [List.mem_singleton] at hr
    subst hr
    have h2 := blk_lt (h.hf q hq).hb
    show q.g ≠ p
    omega
theorem RT.addFile {Wa : World} (h : RK W b g gd dn ds dv now safe ops vF rl room fuse armed dead) (hb : Below W.heap.size W Wa) {p : Nat} {va vb vc : Value} {now1 safe1 : List Int} {ops1 : List FOp} (hva : ∀ k, va.ownBlock = some k → W.heap.size ≤ k) {v1 : Value} (hg1 : Wa.grownBy W1 vF.ownBlock) :
    RT W (W1.setCell ⟨g, 1, none⟩ v1) (rS rl) (rS (rl ++ [⟨p, va, vb, vc, now1, safe1, ops1⟩])) := by
  refine ⟨by rw [setsz]; exact Nat.le_trans hb.size hg1.size, fun k hk hs hn => ?_, fun k hk hs => ?_⟩
  · have h1 : W1.heap[k]? = Wa.heap[k]? := hg1.block k (Nat.lt_of_lt_of_le hk hb.size) (fun e => by
      obtain ⟨c2, hc2⟩ := own_typed h.hF.2.choose_spec.1 k e.symm
      exact hn _ _ hc2 (by decide))
    refine ((Below.heap_setCell _ ⟨g, 1, none⟩ _ k (fun e => ?_)).trans h1).trans (hb.block k hk)
    have e' : k = g := e
    subst e'
    exact hn _ _ h.hb (by decide)
  · obtain ⟨q, hq, e⟩ := hs
    rcases List.mem_append.1 hq with hq | hq
    · exact ⟨q, hq, e⟩
    · rw [List.mem_singleton] at hq
      subst hq
      have := hva k e.symm
      omega
end
/-- The code's disk beside the reference's. -/
theorem DK.ref {W W1 : World} {b g gd mn ms N mf M : Nat} {vo : Value} {now safe : List DN} {ops : List DOp} {fl : List FR} {next room fuse : Int} {armed dead : Bool} {S T : Nat → Prop} (h : DK W b (fun k => ¬ S k) g gd mn ms vo N now safe ops mf M fl next room fuse armed dead) (hr : RT W W1 S T) (hS : ∀ k, S k → ∃ cells, W.heap[k]? = some (.cells cells 5 (0, 0))) (hT : ∀ k, W1.heap.size ≤ k → ¬ T k) :
    DK W1 b (fun k => ¬ T k) g gd mn ms vo N now safe ops mf M fl next room fuse armed dead := by
  have hty : ∀ (k : Nat) (cs : Array Value) (t : TypeId), t ∉ rTypes → t ≠ 5 → W.heap[k]? = some (.cells cs t (0, 0)) → W1.heap[k]? = W.heap[k]? := fun k cs t h1 h2 hkk => hr.keep k (blk_lt hkk) (fun hs => by
    obtain ⟨c2, hc2⟩ := hS k hs
    exact h2 (cells_eq hkk hc2)) (fun cs' t' hc => by
    have := cells_eq hkk hc
    subst this
    exact h1)
  have hmp : ∀ {P : Program} {kt : TypeId} {m n : Nat} {f : Lit → Option Value}, MV W P kt m n f → W1.heap[m]? = W.heap[m]? := fun {P kt m n f} hm => hr.keep m hm.lt (fun hs => by
    obtain ⟨c2, hc2⟩ := hS m hs
    exact hm.ne hc2 rfl) (fun cs t hc => absurd rfl (hm.ne hc))
  refine ⟨(hty g _ _ (by decide) (by decide) h.hb).trans h.hb, h.hd.move (hty gd _ _ (by decide) (by decide) h.hd.hb) (hmp h.hd.hn) (hmp h.hd.hs) (fun k _ ⟨cs, hc⟩ => hty k cs _ (by decide) (by decide) hc), h.hm.move (hmp h.hm), ⟨fun p hp => ?_, h.hf.ap, hT⟩, h.hg, h.hmf, h.n1, h.n2⟩
  have hp1 := h.hf.hf p hp
  exact hp1.move (hty p.g _ _ (by decide) (by decide) hp1.hb) (fun k hx hlt ⟨cs, t, hT', hc⟩ => ⟨hr.keep k hlt hx.1 (fun cs' t' hc' => by
    have := cells_eq hc hc'
    subst this
    rcases hT' with rfl | rfl <;> decide), apx.mk (fun ht => hx.1 (hr.own k hlt ht)) hx.2⟩)
end Go.Proofs.YtpnbjpkdbiiogaaGreat
/- The reference's disk: New, Arm, change, Get, Used, room. -/
namespace Go.Proofs.YtpnbjpkdbiiogaaGreat
set_option linter.unusedVariables false
open Go.RowKit Go.Maps Go.Proofs.YtpnbjpkdbiiogaaGreatW.PrintWords
attribute [local go_sem] mx2 mn2 mxTwo mnTwo

theorem rknew_any (b : Nat) (room : Int) (w : World) (hb : b ≤ w.heap.size) : Calls Tryz.prog 8 #[.int .i64 room] w fun e w' => ∃ g gd, e = .returned (.pointer (some ⟨g, 0, none⟩)) ∧ RK w' b g gd (.slice none 0 0) (.slice none 0 0) (.slice none 0 0) [] [] [] (.slice none 0 0) [] (if room < 0 then 0 else room) 0 false false ∧ Below w.heap.size w w' := by
  have key : ∀ r : Int, RK ((w.alloc (.cells #[.slice none 0 0, .slice none 0 0, .slice none 0 0] 40)).alloc (.cells #[.pointer (some ⟨w.heap.size, 0, none⟩), .slice none 0 0, .int .i64 r, .int .i64 0, .bool false, .bool false] 44)) b (w.heap.size + 1) w.heap.size (.slice none 0 0) (.slice none 0 0) (.slice none 0 0) [] [] [] (.slice none 0 0) [] r 0 false false ∧ Below w.heap.size w ((w.alloc (.cells #[.slice none 0 0, .slice none 0 0, .slice none 0 0] 40)).alloc (.cells #[.pointer (some ⟨w.heap.size, 0, none⟩), .slice none 0 0, .int .i64 r, .int .i64 0, .bool false, .bool false] 44)) := fun r => by
    have hz : (w.alloc (.cells #[.slice none 0 0, .slice none 0 0, .slice none 0 0] 40)).heap.size = w.heap.size + 1 := World.size_alloc ..
    refine ⟨⟨?_, ⟨blk_alloc (blk_new _ _) _, Kd.R_nil _ _ _ _ _, Kd.R_nil _ _ _ _ _, Kd.R_nil _ _ _ _ _, hb⟩, Kd.R_nil _ _ _ _ _, fun r hr => by simp at hr, List.Pairwise.nil, by omega⟩, below_alloc (below_alloc (Below.refl _ _) _) _⟩
    have := blk_new (w.alloc (.cells #[.slice none 0 0, .slice none 0 0, .slice none 0 0] 40)) (.cells #[.pointer (some ⟨w.heap.size, 0, none⟩), .slice none 0 0, .int .i64 r, .int .i64 0, .bool false, .bool false] 44)
    rw [hz] at this
    exact this
  have HK := Aside0.mk key
  clear key
  by_cases hr : room < 0
  · rw [if_pos hr]
    go_enter Tryz.func8, Tryz.ntmps8
    go_wp2
    go_ret
    first | exact ⟨_, _, rfl, (HK.out 0).1, (HK.out 0).2⟩ | exact ⟨_, rfl, ⟨_, (HK.out 0).1⟩, (HK.out 0).2⟩
  · rw [if_neg hr]
    go_enter Tryz.func8, Tryz.ntmps8
    go_wp2
    go_ret
    first | exact ⟨_, _, rfl, (HK.out room).1, (HK.out room).2⟩ | exact ⟨_, rfl, ⟨_, (HK.out room).1⟩, (HK.out room).2⟩
theorem RK.set1 {W : World} {b g gd : Nat} {dn ds dv vF : Value} {now safe : List DN} {ops : List DOp} {rl : List RR} {room fuse : Int} {armed dead : Bool} (h : RK W b g gd dn ds dv now safe ops vF rl room fuse armed dead) (i : Nat) (u : Value) {room1 fuse1 : Int} {armed1 dead1 : Bool} (hb : (W.setCell ⟨g, i, none⟩ u).heap[g]? = some (.cells #[.pointer (some ⟨gd, 0, none⟩), vF, .int .i64 room1, .int .i64 fuse1, .bool armed1, .bool dead1] 44 (0, 0))) :
    RK (W.setCell ⟨g, i, none⟩ u) b g gd dn ds dv now safe ops vF rl room1 fuse1 armed1 dead1 ∧ RT W (W.setCell ⟨g, i, none⟩ u) (rS rl) (rS rl) ∧ Below b W (W.setCell ⟨g, i, none⟩ u) :=
  ⟨h.own hb (fun k hk => Below.heap_setCell _ _ _ k hk), RT.one h.hb (by decide) (by rw [setsz]; exact Nat.le_refl _) (fun k _ hk => Below.heap_setCell _ _ _ k hk), (Below.refl _ _).setCell (p := ⟨g, i, none⟩) h.hg _⟩
theorem rkarm_any (b g gd : Nat) (dn ds dv : Value) (now safe : List DN) (ops : List DOp) (vF : Value) (rl : List RR) (room fuse : Int) (armed dead : Bool) (w : World) (h : RK w b g gd dn ds dv now safe ops vF rl room fuse armed dead) (n : Int) : Calls Tryz.prog 37 #[.pointer (some ⟨g, 0, none⟩), .int .i64 n] w fun e w' => e = .returned (.tuple #[]) ∧ RK w' b g gd dn ds dv now safe ops vF rl room (if n < 0 then 0 else n) true dead ∧ RT w w' (rS rl) (rS rl) ∧ Below b w w' := by
  have c3 := (blk_cell h.hb 3).trans (rfl : _ = some (Value.int .i64 fuse))
  have c4 := (blk_cell h.hb 4).trans (rfl : _ = some (Value.bool armed))
  have f3 := blk_frozen h.hb 3
  have f4 := blk_frozen h.hb 4
  have fin : ∀ m : Int, RK ((w.setCell ⟨g, 3, none⟩ (.int .i64 m)).setCell ⟨g, 4, none⟩ (.bool true)) b g gd dn ds dv now safe ops vF rl room m true dead ∧ RT w ((w.setCell ⟨g, 3, none⟩ (.int .i64 m)).setCell ⟨g, 4, none⟩ (.bool true)) (rS rl) (rS rl) ∧ Below b w ((w.setCell ⟨g, 3, none⟩ (.int .i64 m)).setCell ⟨g, 4, none⟩ (.bool true)) := fun m => by
    obtain ⟨h1, h2, h3⟩ := h.set1 3 (.int .i64 m) (blk_put h.hb 3 _ rfl)
    obtain ⟨k1, k2, k3⟩ := h1.set1 4 (.bool true) (blk_put h1.hb 4 _ rfl)
    exact ⟨k1, h2.trans k2, h3.trans k3⟩
  have FIN := Aside0.mk fin
  clear fin h
  by_cases hn : n < 0
  · rw [if_pos hn]
    go_enter Tryz.func37, Tryz.ntmps37
    go_wp2
    first | go_end0 | ((try simp only [Exit.inBlock, Exit.then]); refine bodyPost_ret (results_none rfl _ _ _) rfl ?_)
    exact ⟨rfl, FIN.out 0⟩
  · rw [if_neg hn]
    go_enter Tryz.func37, Tryz.ntmps37
    go_wp2
    first | go_end0 | ((try simp only [Exit.inBlock, Exit.then]); refine bodyPost_ret (results_none rfl _ _ _) rfl ?_)
    exact ⟨rfl, FIN.out n⟩
def okB (fuse : Int) (armed dead : Bool) : Bool := decide ((chg fuse armed dead).1 = 0)
theorem rkchange_any (b g gd : Nat) (dn ds dv : Value) (now safe : List DN) (ops : List DOp) (vF : Value) (rl : List RR) (room fuse : Int) (armed dead : Bool) (w : World) (h : RK w b g gd dn ds dv now safe ops vF rl room fuse armed dead) (h0 : 0 ≤ fuse) (h1 : fuse ≤ 9223372036854775807) : Calls Tryz.prog 62 #[.pointer (some ⟨g, 0, none⟩)] w fun e w' => e = .returned (.bool (okB fuse armed dead)) ∧ RK w' b g gd dn ds dv now safe ops vF rl room (chg fuse armed dead).2.1 armed (chg fuse armed dead).2.2 ∧ RT w w' (rS rl) (rS rl) ∧ Below b w w' := by
  have c3 := (blk_cell h.hb 3).trans (rfl : _ = some (Value.int .i64 fuse))
  have c4 := (blk_cell h.hb 4).trans (rfl : _ = some (Value.bool armed))
  have c5 := (blk_cell h.hb 5).trans (rfl : _ = some (Value.bool dead))
  have f3 := blk_frozen h.hb 3
  have f5 := blk_frozen h.hb 5
  have H := Aside0.mk h
  clear h
  cases dead
  · cases armed
    · go_enter Tryz.func62, Tryz.ntmps62
      go_wp2
      go_ret
      exact ⟨rfl, H.out, RT.refl _ _, Below.refl _ _⟩
    · by_cases hz : fuse = 0
      · subst hz
        go_enter Tryz.func62, Tryz.ntmps62
        go_wp2
        go_ret
        exact ⟨rfl, H.out.set1 5 _ (blk_put H.out.hb 5 _ rfl)⟩
      · have hc : chg fuse true false = (0, fuse - 1, false) := by unfold chg; simp [hz]
        have HC := Aside0.mk hc
        have HO := Aside0.mk (show okB fuse true false = true by unfold okB; rw [hc]; rfl)
        clear hc
        go_enter Tryz.func62, Tryz.ntmps62
        go_wp2
        go_ret
        rw [HC.out, HO.out]
        exact ⟨rfl, H.out.set1 3 _ (blk_put H.out.hb 3 _ rfl)⟩
  · go_enter Tryz.func62, Tryz.ntmps62
    go_wp2
    go_ret
    exact ⟨rfl, H.out.set1 5 _ (blk_put H.out.hb 5 _ rfl)⟩
theorem rkget_none (b g gd : Nat) (dn ds dv : Value) (now safe : List DN) (ops : List DOp) (vF : Value) (rl : List RR) (room fuse : Int) (armed dead : Bool) (w : World) (h : RK w b g gd dn ds dv now safe ops vF rl room fuse armed dead) (s : ByteArray) (hn : getN now s = none) : Calls Tryz.prog 19 #[.pointer (some ⟨g, 0, none⟩), .string s] w fun e w' => e = .returned (.pointer none) ∧ w = w' := by
  have c0 := (blk_cell h.hb 0).trans (rfl : _ = some (Value.pointer (some ⟨gd, 0, none⟩)))
  obtain ⟨A, c, hdn⟩ := Kd.R_slice h.hd.hn
  have d0 := (blk_cell h.hd.hb 0).trans (rfl : _ = some dn)
  rw [hdn] at d0
  have HC := Aside0.mk (C_own9 (hdn ▸ h.hd.hn : Kd.R kDN 80 w b (fun _ => True) (.slice A now.length c) now))
  have HG := Aside0.mk (show (getN now s).getD 0 = 0 ∧ (getN now s).isSome = false by rw [hn]; exact ⟨rfl, rfl⟩)
  clear h hdn hn
  go_enter Tryz.func19, Tryz.ntmps19
  go_wp2_with (go_at_call 53; refine (rget_is A now.length c now s _ 0 false HG.out HC.out).mono ?_; rintro e w1 ⟨rfl, rfl⟩)
  go_ret
  exact ⟨rfl, rfl⟩
theorem rkget_some (b g gd : Nat) (dn ds dv : Value) (now safe : List DN) (ops : List DOp) (vF : Value) (rl : List RR) (room fuse : Int) (armed dead : Bool) (w : World) (h : RK w b g gd dn ds dv now safe ops vF rl room fuse armed dead) (s : ByteArray) (i : Nat) (r : RR) (hn : getN now s = some (i : Int)) (hr : rl[i]? = some r) (hl : rl.length ≤ 1000000) : Calls Tryz.prog 19 #[.pointer (some ⟨g, 0, none⟩), .string s] w fun e w' => e = .returned (.pointer (some ⟨r.g, 0, none⟩)) ∧ w = w' := by
  have c0 := (blk_cell h.hb 0).trans (rfl : _ = some (Value.pointer (some ⟨gd, 0, none⟩)))
  obtain ⟨A, c, hdn⟩ := Kd.R_slice h.hd.hn
  obtain ⟨A2, c2, hvF⟩ := Kd.R_slice h.hF
  rw [List.length_map] at hvF
  have c1 := (blk_cell h.hb 1).trans (rfl : _ = some (vF))
  rw [hvF] at c1
  have hil : i < rl.length := (List.getElem?_eq_some_iff.1 hr).1
  have hCF : Kd.C kPtr w A2 rl.length (rl.map RR.g) := C_own9 (hvF ▸ h.hF : Kd.R kPtr 61 w b (fun _ => True) (.slice A2 rl.length c2) (rl.map RR.g))
  obtain ⟨ad, rfl, sx⟩ := at_ptr hCF i hil
  rw [show (rl.map RR.g).getD i 0 = r.g by rw [List.getD_eq_getElem?_getD, List.getElem?_map, hr]; rfl] at sx
  have d0 := (blk_cell h.hd.hb 0).trans (rfl : _ = some dn)
  rw [hdn] at d0
  have HC := Aside0.mk (C_own9 (hdn ▸ h.hd.hn : Kd.R kDN 80 w b (fun _ => True) (.slice A now.length c) now))
  have HG := Aside0.mk (show (getN now s).getD 0 = (i : Int) ∧ (getN now s).isSome = true by rw [hn]; exact ⟨rfl, rfl⟩)
  clear h hdn hvF hn hr hCF
  go_enter Tryz.func19, Tryz.ntmps19
  go_wp2_with (go_at_call 53; refine (rget_is A now.length c now s _ (i : Int) true HG.out HC.out).mono ?_; rintro e w1 ⟨rfl, rfl⟩)
  go_ret
  exact ⟨rfl, rfl⟩
/-- How long a file is. -/
def lenR (rl : List RR) (id : Int) : Int := ((rl[id.toNat]?).map (fun r => (r.now.length : Int))).getD 0
def usedR (rl : List RR) (l : List DN) : Int := l.foldl (fun n p => n + cnt (lenR rl p.2)) 0
theorem usedR_snoc (rl : List RR) (l : List DN) (p : DN) : usedR rl (l ++ [p]) = usedR rl l + cnt (lenR rl p.2) := by unfold usedR; rw [List.foldl_append]; rfl
/-- Names that have files. -/
structure RG (now : List DN) (rl : List RR) : Prop where
  id : ∀ p ∈ now, 0 ≤ p.2 ∧ p.2.toNat < rl.length
  len : ∀ r ∈ rl, r.now.length ≤ 1048576 ∧ r.ops.length ≤ 500000
theorem lenR_le {now : List DN} {rl : List RR} (h : RG now rl) (id : Int) : 0 ≤ lenR rl id ∧ lenR rl id ≤ 1048576 := by
  unfold lenR
  cases e : rl[id.toNat]? with
  | none => simp
  | some f =>
    have := (h.len f (List.mem_of_getElem? e)).1
    simp only [Option.map_some, Option.getD_some]
    omega
theorem usedR_bd {now : List DN} {rl : List RR} (h : RG now rl) : ∀ (l : List DN) (n : Int), 0 ≤ n → 0 ≤ l.foldl (fun n p => n + cnt (lenR rl p.2)) n ∧ l.foldl (fun n p => n + cnt (lenR rl p.2)) n ≤ n + 16384 * (l.length : Int)
  | [], n, hn => by simp [hn]
  | p :: t, n, hn => by
    have hc := cnt_bd (lenR_le h p.2).2
    have := usedR_bd h t (n + cnt (lenR rl p.2)) (by omega)
    rw [List.foldl_cons]
    simp only [List.length_cons]
    push_cast
    omega
set_option maxHeartbeats 1000000 in
set_option maxRecDepth 100000 in
theorem rkused_any (b g gd : Nat) (dn ds dv : Value) (now safe : List DN) (ops : List DOp) (vF : Value) (rl : List RR) (room fuse : Int) (armed dead : Bool) (w : World) (h : RK w b g gd dn ds dv now safe ops vF rl room fuse armed dead) (hk : RG now rl) (hln : now.length ≤ 100000) (hl : rl.length ≤ 1000000) : Calls Tryz.prog 55 #[.pointer (some ⟨g, 0, none⟩)] w fun e w' => e = .returned (.int .i64 (usedR rl now)) ∧ Below w.heap.size w w' := by
  obtain ⟨A, c, hdn⟩ := Kd.R_slice h.hd.hn
  obtain ⟨A2, c2, hvF⟩ := Kd.R_slice h.hF
  rw [List.length_map] at hvF
  have HC := Aside0.mk (C_own9 (hdn ▸ h.hd.hn : Kd.R kDN 80 w b (fun _ => True) (.slice A now.length c) now))
  have HCF := Aside0.mk (show Kd.C kPtr w A2 rl.length (rl.map RR.g) from C_own9 (hvF ▸ h.hF : Kd.R kPtr 61 w b (fun _ => True) (.slice A2 rl.length c2) (rl.map RR.g)))
  have HDN := Aside0.mk hdn
  have HVF := Aside0.mk hvF
  have H := Aside0.mk h
  have HK := Aside0.mk hk
  clear h hk hdn hvF
  go_enter Tryz.func55, Tryz.ntmps55
  go_wp2_with fail
  go_loopg [3, 4] now.length (fun gk v3 v4 wr => ∃ i : Nat, v3 = .int .i64 (usedR rl (now.take i)) ∧ v4 = .int .i64 (i : Nat) ∧ i ≤ now.length ∧ Aside0 (gk = now.length - i) ∧ Aside0 (Below w.heap.size w wr))
  case atStart => exact ⟨0, rfl, rfl, Nat.zero_le _, ⟨rfl⟩, ⟨Below.refl _ _⟩⟩
  case round =>
    obtain ⟨i, rfl, rfl, hi, hg, HW⟩ := hrel
    have hr := H.out.below HW.out
    have c0 := (blk_cell hr.hb 0).trans (rfl : _ = some (Value.pointer (some ⟨gd, 0, none⟩)))
    have c1 := (blk_cell hr.hb 1).trans (rfl : _ = some vF)
    rw [HVF.out] at c1
    have d0 := (blk_cell hr.hd.hb 0).trans (rfl : _ = some dn)
    rw [HDN.out] at d0
    have HR := Aside0.mk hr
    clear hr
    by_cases hlt : i < now.length
    · obtain ⟨ad, e1, r1, r2⟩ := at_DN (Kd.C_below HC.out HW.out) i hlt
      subst e1
      obtain ⟨p, hp⟩ : ∃ p, p = now.getD i zDN := ⟨_, rfl⟩
      rw [← hp] at r1 r2
      have hpm : p ∈ now := by
        rw [hp, List.getD_eq_getElem?_getD, List.getElem?_eq_getElem hlt]
        exact List.getElem_mem _
      have hT : now.take (i + 1) = now.take i ++ [p] := by
        rw [hp, List.take_add_one, List.getElem?_eq_getElem hlt, List.getD_eq_getElem?_getD, List.getElem?_eq_getElem hlt]
        rfl
      obtain ⟨hid0, hid1⟩ := HK.out.id p hpm
      obtain ⟨j, hj⟩ := Int.eq_ofNat_of_zero_le hid0
      have hj1 : j < rl.length := by omega
      obtain ⟨q, hq⟩ : ∃ q, rl[j]? = some q := ⟨rl[j], List.getElem?_eq_getElem hj1⟩
      have hqm := List.mem_of_getElem? hq
      have hql := (HK.out.len q hqm).1
      obtain ⟨ad2, e2, sx⟩ := at_ptr (Kd.C_below HCF.out HW.out) j hj1
      subst e2
      rw [show (rl.map RR.g).getD j 0 = q.g by rw [List.getD_eq_getElem?_getD, List.getElem?_map, hq]; rfl] at sx
      have hqf := HR.out.hf q hqm
      obtain ⟨A4, c4, hqn⟩ := Kd.R_slice hqf.hn
      have y0 := (blk_cell hqf.hb 0).trans (rfl : _ = some q.vn)
      rw [hqn] at y0
      rw [hj] at r2
      have HU := Aside0.mk (show usedR rl (now.take (i + 1)) = usedR rl (now.take i) + cnt (q.now.length : Int) by rw [hT, usedR_snoc]; unfold lenR; rw [hj, Int.toNat_natCast, hq]; rfl)
      have hu : 0 ≤ usedR rl (now.take i) ∧ usedR rl (now.take i) ≤ 0 + 16384 * ((now.take i).length : Int) := usedR_bd HK.out (now.take i) 0 (Int.le_refl _)
      rw [List.length_take, Nat.min_eq_left (by omega)] at hu
      have hcb := cnt_bd (n := (q.now.length : Int)) (by omega)
      obtain ⟨u, hu0⟩ : ∃ u, u = usedR rl (now.take i) := ⟨_, rfl⟩
      obtain ⟨cf, hcf⟩ : ∃ cf, cf = cnt (q.now.length : Int) := ⟨_, rfl⟩
      have hub : 0 ≤ u ∧ u ≤ 16384 * (i : Int) := by rw [hu0]; exact ⟨hu.1, by have := hu.2; omega⟩
      obtain ⟨hu1, hu2⟩ := hub
      rw [← hcf] at HU hcb
      rw [← hu0] at HU ⊢
      obtain ⟨hc1, hc2⟩ := hcb
      have HCC := Aside0.mk (show ∀ W : World, Calls Tryz.prog 84 #[.int .i64 (q.now.length : Int)] W fun e w' => e = .returned (.int .i64 (cnt (q.now.length : Int))) ∧ w' = W from fun W => by
        refine (refcount_any (q.now.length : Int) W (by omega)).mono ?_
        rintro e w' ⟨h1, h2⟩
        exact ⟨h1, h2.symm⟩)
      rw [← hcf] at HCC
      have hws : IntKind.i64.wrap (u + cf) = u + cf := wrapI (by omega) (by omega)
      clear hp hpm hT hu hu0 hcf hq hqm hqf hqn hj hid0 hid1
      go_wp2_with fail
      go_quiet ((go_at_call 84; exact Calls.quiet_of_same (HCC.out _)))
      go_wp2_with fail
      go_roundg (now.length - (i + 1))
      case measure => have := hg.out; omega
      case rel => exact ⟨i + 1, by rw [HU.out], by go_num, hlt, ⟨rfl⟩, ⟨HW.out.trans (pw_below_drewN (Below.refl _ _) _)⟩⟩
    · obtain rfl : i = now.length := by omega
      rw [List.take_length]
      go_wp2_with fail
      go_ret
      exact ⟨rfl, HW.out⟩
end Go.Proofs.YtpnbjpkdbiiogaaGreat
/- The reference's disk: room; Rename, Unlink, Sync; Create. -/
namespace Go.Proofs.YtpnbjpkdbiiogaaGreat
set_option linter.unusedVariables false
open Go.RowKit Go.Maps Go.Proofs.YtpnbjpkdbiiogaaGreatW.PrintWords
attribute [local go_sem] mx2 mn2 mxTwo mnTwo

theorem chg_cases (fuse : Int) (armed dead : Bool) : (chg fuse armed dead).1 = 0 ∨ (chg fuse armed dead).1 = 26 := by
  unfold chg
  split
  · exact .inr rfl
  · split
    · split
      · exact .inr rfl
      · exact .inl rfl
    · exact .inl rfl
/-- Whether there is room for a file of a size, in the place of one. -/
def hasR (rl : List RR) (now : List DN) (room : Int) (len size : Int) : Bool := decide (cnt size ≤ cnt len) || decide (usedR rl now - cnt len + cnt size ≤ room)
set_option maxHeartbeats 1000000 in
set_option maxRecDepth 100000 in
theorem rkroom_any (b g gd : Nat) (dn ds dv : Value) (now safe : List DN) (ops : List DOp) (vF : Value) (rl : List RR) (room fuse : Int) (armed dead : Bool) (w : World) (h : RK w b g gd dn ds dv now safe ops vF rl room fuse armed dead) (hk : RG now rl) (hln : now.length ≤ 100000) (hl : rl.length ≤ 1000000) (r : RR) (hr : r ∈ rl) (size : Int) (hs0 : size ≤ 2097152) : Calls Tryz.prog 64 #[.pointer (some ⟨g, 0, none⟩), .pointer (some ⟨r.g, 0, none⟩), .int .i64 size] w fun e w' => e = .returned (.bool (hasR rl now room r.now.length size)) ∧ Below w.heap.size w w' := by
  have s2 := (blk_cell h.hb 2).trans (rfl : _ = some (Value.int .i64 room))
  have hrf := h.hf r hr
  obtain ⟨A4, c4, hqn⟩ := Kd.R_slice hrf.hn
  have y0 := (blk_cell hrf.hb 0).trans (rfl : _ = some r.vn)
  rw [hqn] at y0
  have hll := (hk.len r hr).1
  have hcs : 0 ≤ cnt size ∧ cnt size ≤ 32768 := by unfold cnt; split <;> omega
  have hcl := cnt_bd (n := (r.now.length : Int)) (by omega)
  have hub : 0 ≤ usedR rl now ∧ usedR rl now ≤ 0 + 16384 * (now.length : Int) := usedR_bd hk now 0 (Int.le_refl _)
  obtain ⟨u, hu0⟩ : ∃ u, u = usedR rl now := ⟨_, rfl⟩
  have hub2 : 0 ≤ u ∧ u ≤ 16384 * (now.length : Int) := by rw [hu0]; exact ⟨hub.1, by have := hub.2; omega⟩
  obtain ⟨hu1, hu2⟩ := hub2
  have HU := Aside0.mk (fun W hW => rkused_any b g gd dn ds dv now safe ops vF rl room fuse armed dead W hW hk hln hl)
  rw [← hu0] at HU
  unfold hasR
  rw [← hu0]
  have H := Aside0.mk h
  obtain ⟨cs, hcs0⟩ : ∃ c, c = cnt size := ⟨_, rfl⟩
  obtain ⟨cl, hcl0⟩ : ∃ c, c = cnt (r.now.length : Int) := ⟨_, rfl⟩
  rw [← hcs0] at hcs ⊢
  rw [← hcl0] at hcl ⊢
  have HCS := Aside0.mk hcs0
  have HCL := Aside0.mk hcl0
  obtain ⟨q1, q2⟩ := hcs
  obtain ⟨q3, q4⟩ := hcl
  clear h hk hub hu0 hcs0 hcl0 hrf hqn hr
  by_cases hm : cs ≤ cl
  · have hd := decide_eq_true hm
    go_enter Tryz.func64, Tryz.ntmps64
    go_wp2_with (go_at_call 84; refine (refcount_any _ _ (by omega)).mono ?_; (first | rw [← HCS.out] | rw [← HCL.out]); rintro e w3 ⟨rfl, rfl⟩)
    go_quiet (fail)
    go_wp2_with fail
    go_ret
    exact ⟨by simp [hm], pw_below_drewN (Below.refl _ _) _⟩
  · have hd := decide_eq_false hm
    go_enter Tryz.func64, Tryz.ntmps64
    go_wp2_with (go_at_call 84; refine (refcount_any _ _ (by omega)).mono ?_; (first | rw [← HCS.out] | rw [← HCL.out]); rintro e w3 ⟨rfl, rfl⟩)
    go_region_held3 (fun w' => w'.cell? ⟨g, 2, none⟩ = some (.int .i64 room)) (first | with_reducible exact s2 | exact s2) (first | (go_at_call 55; refine (HU.out _ (H.out.below (below_drew1 (Below.refl _ _)))).mono ?_; rintro e w5 ⟨rfl, hb⟩; replace s2 := pw_cell_below hb s2; have HB := Aside0.mk hb; clear hb))
    all_goals
      go_wp2_with fail
      go_ret
      exact ⟨by rw [IntWalk.i64_in (u - cl) (by omega), IntWalk.i64_in (u - cl + cs) (by omega), hd, Bool.false_or]; rfl, below_step (below_drew1 (Below.refl _ _)) HB.out⟩
theorem rkcreate_dead (b g gd : Nat) (dn ds dv : Value) (now safe : List DN) (ops : List DOp) (vF : Value) (rl : List RR) (room fuse : Int) (armed dead : Bool) (w : World) (h : RK w b g gd dn ds dv now safe ops vF rl room fuse armed dead) (h0 : 0 ≤ fuse) (h1 : fuse ≤ 9223372036854775807) (hc : ¬ (chg fuse armed dead).1 = 0) (s : ByteArray) : Calls Tryz.prog 27 #[.pointer (some ⟨g, 0, none⟩), .string s] w fun e w' => e = .returned (.int .i64 26) ∧ RK w' b g gd dn ds dv now safe ops vF rl room (chg fuse armed dead).2.1 armed (chg fuse armed dead).2.2 ∧ RT w w' (rS rl) (rS rl) ∧ Below b w w' := by
  have hbo : okB fuse armed dead = false := by unfold okB; exact decide_eq_false hc
  obtain ⟨fu, hfu⟩ : ∃ x, x = (chg fuse armed dead).2.1 := ⟨_, rfl⟩
  obtain ⟨de, hde⟩ : ∃ x, x = (chg fuse armed dead).2.2 := ⟨_, rfl⟩
  obtain ⟨ok, hok⟩ : ∃ x, x = okB fuse armed dead := ⟨_, rfl⟩
  have HCH := Aside0.mk (rkchange_any b g gd dn ds dv now safe ops vF rl room fuse armed dead w h h0 h1)
  rw [← hfu, ← hde, ← hok] at HCH
  rw [← hfu, ← hde]
  rw [hbo] at hok
  subst hok
  clear h hfu hde hc hbo
  go_enter Tryz.func27, Tryz.ntmps27
  go_wp2_with (first | (go_at_call 62; refine HCH.out.mono ?_; rintro e w1 ⟨rfl, hk1, ht1, hl1⟩; have H := Aside0.mk hk1; have HT := Aside0.mk ht1; have HL := Aside0.mk hl1; have s0 := (blk_cell hk1.hb 0).trans (rfl : _ = some (Value.pointer (some ⟨gd, 0, none⟩))); clear hk1 ht1 hl1 HCH))
  go_ret
  exact ⟨rfl, H.out, HT.out, HL.out⟩
theorem rkrename_dead (b g gd : Nat) (dn ds dv : Value) (now safe : List DN) (ops : List DOp) (vF : Value) (rl : List RR) (room fuse : Int) (armed dead : Bool) (w : World) (h : RK w b g gd dn ds dv now safe ops vF rl room fuse armed dead) (h0 : 0 ≤ fuse) (h1 : fuse ≤ 9223372036854775807) (hc : ¬ (chg fuse armed dead).1 = 0) (sa sb : ByteArray) : Calls Tryz.prog 33 #[.pointer (some ⟨g, 0, none⟩), .string sa, .string sb] w fun e w' => e = .returned (.int .i64 26) ∧ RK w' b g gd dn ds dv now safe ops vF rl room (chg fuse armed dead).2.1 armed (chg fuse armed dead).2.2 ∧ RT w w' (rS rl) (rS rl) ∧ Below b w w' := by
  have hbo : okB fuse armed dead = false := by unfold okB; exact decide_eq_false hc
  obtain ⟨fu, hfu⟩ : ∃ x, x = (chg fuse armed dead).2.1 := ⟨_, rfl⟩
  obtain ⟨de, hde⟩ : ∃ x, x = (chg fuse armed dead).2.2 := ⟨_, rfl⟩
  obtain ⟨ok, hok⟩ : ∃ x, x = okB fuse armed dead := ⟨_, rfl⟩
  have HCH := Aside0.mk (rkchange_any b g gd dn ds dv now safe ops vF rl room fuse armed dead w h h0 h1)
  rw [← hfu, ← hde, ← hok] at HCH
  rw [← hfu, ← hde]
  rw [hbo] at hok
  subst hok
  clear h hfu hde hc hbo
  go_enter Tryz.func33, Tryz.ntmps33
  go_wp2_with (first | (go_at_call 62; refine HCH.out.mono ?_; rintro e w1 ⟨rfl, hk1, ht1, hl1⟩; have H := Aside0.mk hk1; have HT := Aside0.mk ht1; have HL := Aside0.mk hl1; have s0 := (blk_cell hk1.hb 0).trans (rfl : _ = some (Value.pointer (some ⟨gd, 0, none⟩))); clear hk1 ht1 hl1 HCH))
  go_ret
  exact ⟨rfl, H.out, HT.out, HL.out⟩
theorem rkunlink_dead (b g gd : Nat) (dn ds dv : Value) (now safe : List DN) (ops : List DOp) (vF : Value) (rl : List RR) (room fuse : Int) (armed dead : Bool) (w : World) (h : RK w b g gd dn ds dv now safe ops vF rl room fuse armed dead) (h0 : 0 ≤ fuse) (h1 : fuse ≤ 9223372036854775807) (hc : ¬ (chg fuse armed dead).1 = 0) (sa : ByteArray) : Calls Tryz.prog 35 #[.pointer (some ⟨g, 0, none⟩), .string sa] w fun e w' => e = .returned (.int .i64 26) ∧ RK w' b g gd dn ds dv now safe ops vF rl room (chg fuse armed dead).2.1 armed (chg fuse armed dead).2.2 ∧ RT w w' (rS rl) (rS rl) ∧ Below b w w' := by
  have hbo : okB fuse armed dead = false := by unfold okB; exact decide_eq_false hc
  obtain ⟨fu, hfu⟩ : ∃ x, x = (chg fuse armed dead).2.1 := ⟨_, rfl⟩
  obtain ⟨de, hde⟩ : ∃ x, x = (chg fuse armed dead).2.2 := ⟨_, rfl⟩
  obtain ⟨ok, hok⟩ : ∃ x, x = okB fuse armed dead := ⟨_, rfl⟩
  have HCH := Aside0.mk (rkchange_any b g gd dn ds dv now safe ops vF rl room fuse armed dead w h h0 h1)
  rw [← hfu, ← hde, ← hok] at HCH
  rw [← hfu, ← hde]
  rw [hbo] at hok
  subst hok
  clear h hfu hde hc hbo
  go_enter Tryz.func35, Tryz.ntmps35
  go_wp2_with (first | (go_at_call 62; refine HCH.out.mono ?_; rintro e w1 ⟨rfl, hk1, ht1, hl1⟩; have H := Aside0.mk hk1; have HT := Aside0.mk ht1; have HL := Aside0.mk hl1; have s0 := (blk_cell hk1.hb 0).trans (rfl : _ = some (Value.pointer (some ⟨gd, 0, none⟩))); clear hk1 ht1 hl1 HCH))
  go_ret
  exact ⟨rfl, H.out, HT.out, HL.out⟩
theorem rkwrite_dead (b g gd : Nat) (dn ds dv : Value) (now safe : List DN) (ops : List DOp) (vF : Value) (rl : List RR) (room fuse : Int) (armed dead : Bool) (w : World) (h : RK w b g gd dn ds dv now safe ops vF rl room fuse armed dead) (h0 : 0 ≤ fuse) (h1 : fuse ≤ 9223372036854775807) (hc : ¬ (chg fuse armed dead).1 = 0) (s : ByteArray) (k : Int) (A : Option Addr) (n c : Nat) : Calls Tryz.prog 28 #[.pointer (some ⟨g, 0, none⟩), .string s, .int .i64 k, .slice A n c] w fun e w' => e = .returned (.int .i64 26) ∧ RK w' b g gd dn ds dv now safe ops vF rl room (chg fuse armed dead).2.1 armed (chg fuse armed dead).2.2 ∧ RT w w' (rS rl) (rS rl) ∧ Below b w w' := by
  have hbo : okB fuse armed dead = false := by unfold okB; exact decide_eq_false hc
  obtain ⟨fu, hfu⟩ : ∃ x, x = (chg fuse armed dead).2.1 := ⟨_, rfl⟩
  obtain ⟨de, hde⟩ : ∃ x, x = (chg fuse armed dead).2.2 := ⟨_, rfl⟩
  obtain ⟨ok, hok⟩ : ∃ x, x = okB fuse armed dead := ⟨_, rfl⟩
  have HCH := Aside0.mk (rkchange_any b g gd dn ds dv now safe ops vF rl room fuse armed dead w h h0 h1)
  rw [← hfu, ← hde, ← hok] at HCH
  rw [← hfu, ← hde]
  rw [hbo] at hok
  subst hok
  clear h hfu hde hc hbo
  go_enter Tryz.func28, Tryz.ntmps28
  go_wp2_with (first | (go_at_call 62; refine HCH.out.mono ?_; rintro e w1 ⟨rfl, hk1, ht1, hl1⟩; have H := Aside0.mk hk1; have HT := Aside0.mk ht1; have HL := Aside0.mk hl1; have s0 := (blk_cell hk1.hb 0).trans (rfl : _ = some (Value.pointer (some ⟨gd, 0, none⟩))); clear hk1 ht1 hl1 HCH))
  go_ret
  exact ⟨rfl, H.out, HT.out, HL.out⟩
theorem rktrunc_dead (b g gd : Nat) (dn ds dv : Value) (now safe : List DN) (ops : List DOp) (vF : Value) (rl : List RR) (room fuse : Int) (armed dead : Bool) (w : World) (h : RK w b g gd dn ds dv now safe ops vF rl room fuse armed dead) (h0 : 0 ≤ fuse) (h1 : fuse ≤ 9223372036854775807) (hc : ¬ (chg fuse armed dead).1 = 0) (s : ByteArray) (k : Int) : Calls Tryz.prog 30 #[.pointer (some ⟨g, 0, none⟩), .string s, .int .i64 k] w fun e w' => e = .returned (.int .i64 26) ∧ RK w' b g gd dn ds dv now safe ops vF rl room (chg fuse armed dead).2.1 armed (chg fuse armed dead).2.2 ∧ RT w w' (rS rl) (rS rl) ∧ Below b w w' := by
  have hbo : okB fuse armed dead = false := by unfold okB; exact decide_eq_false hc
  obtain ⟨fu, hfu⟩ : ∃ x, x = (chg fuse armed dead).2.1 := ⟨_, rfl⟩
  obtain ⟨de, hde⟩ : ∃ x, x = (chg fuse armed dead).2.2 := ⟨_, rfl⟩
  obtain ⟨ok, hok⟩ : ∃ x, x = okB fuse armed dead := ⟨_, rfl⟩
  have HCH := Aside0.mk (rkchange_any b g gd dn ds dv now safe ops vF rl room fuse armed dead w h h0 h1)
  rw [← hfu, ← hde, ← hok] at HCH
  rw [← hfu, ← hde]
  rw [hbo] at hok
  subst hok
  clear h hfu hde hc hbo
  go_enter Tryz.func30, Tryz.ntmps30
  go_wp2_with (first | (go_at_call 62; refine HCH.out.mono ?_; rintro e w1 ⟨rfl, hk1, ht1, hl1⟩; have H := Aside0.mk hk1; have HT := Aside0.mk ht1; have HL := Aside0.mk hl1; have s0 := (blk_cell hk1.hb 0).trans (rfl : _ = some (Value.pointer (some ⟨gd, 0, none⟩))); clear hk1 ht1 hl1 HCH))
  go_ret
  exact ⟨rfl, H.out, HT.out, HL.out⟩
theorem rksync_dead (b g gd : Nat) (dn ds dv : Value) (now safe : List DN) (ops : List DOp) (vF : Value) (rl : List RR) (room fuse : Int) (armed dead : Bool) (w : World) (h : RK w b g gd dn ds dv now safe ops vF rl room fuse armed dead) (h0 : 0 ≤ fuse) (h1 : fuse ≤ 9223372036854775807) (hc : ¬ (chg fuse armed dead).1 = 0) (s : ByteArray) (bo : Bool) : Calls Tryz.prog 31 #[.pointer (some ⟨g, 0, none⟩), .string s, .bool bo] w fun e w' => e = .returned (.int .i64 26) ∧ RK w' b g gd dn ds dv now safe ops vF rl room (chg fuse armed dead).2.1 armed (chg fuse armed dead).2.2 ∧ RT w w' (rS rl) (rS rl) ∧ Below b w w' := by
  have hbo : okB fuse armed dead = false := by unfold okB; exact decide_eq_false hc
  obtain ⟨fu, hfu⟩ : ∃ x, x = (chg fuse armed dead).2.1 := ⟨_, rfl⟩
  obtain ⟨de, hde⟩ : ∃ x, x = (chg fuse armed dead).2.2 := ⟨_, rfl⟩
  obtain ⟨ok, hok⟩ : ∃ x, x = okB fuse armed dead := ⟨_, rfl⟩
  have HCH := Aside0.mk (rkchange_any b g gd dn ds dv now safe ops vF rl room fuse armed dead w h h0 h1)
  rw [← hfu, ← hde, ← hok] at HCH
  rw [← hfu, ← hde]
  rw [hbo] at hok
  subst hok
  clear h hfu hde hc hbo
  go_enter Tryz.func31, Tryz.ntmps31
  go_wp2_with (first | (go_at_call 62; refine HCH.out.mono ?_; rintro e w1 ⟨rfl, hk1, ht1, hl1⟩; have H := Aside0.mk hk1; have HT := Aside0.mk ht1; have HL := Aside0.mk hl1; have s0 := (blk_cell hk1.hb 0).trans (rfl : _ = some (Value.pointer (some ⟨gd, 0, none⟩))); clear hk1 ht1 hl1 HCH))
  go_ret
  exact ⟨rfl, H.out, HT.out, HL.out⟩
set_option maxHeartbeats 1000000 in
theorem rkrename_ok (b g gd : Nat) (dn ds dv : Value) (now safe : List DN) (ops : List DOp) (vF : Value) (rl : List RR) (room fuse : Int) (armed dead : Bool) (w : World) (h : RK w b g gd dn ds dv now safe ops vF rl room fuse armed dead) (h0 : 0 ≤ fuse) (h1 : fuse ≤ 9223372036854775807) (hc : (chg fuse armed dead).1 = 0) (sa sb : ByteArray) (hsa : sa.size ≤ maxLen) (hsb : sb.size ≤ maxLen) (hln : now.length ≤ 100000) (hlo : ops.length ≤ 100000) : Calls Tryz.prog 33 #[.pointer (some ⟨g, 0, none⟩), .string sa, .string sb] w fun e w' => e = .returned (.int .i64 (doCode now ⟨1, sa, sb, 0⟩)) ∧ (∃ dn' dv', RK w' b g gd dn' ds dv' (doNow now ⟨1, sa, sb, 0⟩) safe (doOps now ops ⟨1, sa, sb, 0⟩) vF rl room (chg fuse armed dead).2.1 armed (chg fuse armed dead).2.2) ∧ RT w w' (rS rl) (rS rl) ∧ Below b w w' := by
  have hbo : okB fuse armed dead = true := by unfold okB; exact decide_eq_true hc
  obtain ⟨fu, hfu⟩ : ∃ x, x = (chg fuse armed dead).2.1 := ⟨_, rfl⟩
  obtain ⟨de, hde⟩ : ∃ x, x = (chg fuse armed dead).2.2 := ⟨_, rfl⟩
  obtain ⟨ok, hok⟩ : ∃ x, x = okB fuse armed dead := ⟨_, rfl⟩
  have HCH := Aside0.mk (rkchange_any b g gd dn ds dv now safe ops vF rl room fuse armed dead w h h0 h1)
  rw [← hfu, ← hde, ← hok] at HCH
  rw [← hfu, ← hde]
  rw [hbo] at hok
  subst hok
  clear h hfu hde hc hbo
  go_enter Tryz.func33, Tryz.ntmps33
  go_wp2_with (first | (go_at_call 62; refine HCH.out.mono ?_; rintro e w1 ⟨rfl, hk1, ht1, hl1⟩; have H := Aside0.mk hk1; have HT := Aside0.mk ht1; have HL := Aside0.mk hl1; have s0 := (blk_cell hk1.hb 0).trans (rfl : _ = some (Value.pointer (some ⟨gd, 0, none⟩))); clear hk1 ht1 hl1 HCH) | (go_at_call 63; refine (rddo_any b gd dn ds dv now safe ops sa sb 0 _ H.out.hd hsa hsb hln hlo 1).mono ?_; rintro e w2 ⟨rfl, dn', dv', hd2, _, hk2, hl2⟩; have HF := Aside0.mk (H.out.dir hd2 hk2); have HTF := Aside0.mk (HT.out.trans (RT.dir H.out hk2)); have HLF := Aside0.mk (HL.out.trans hl2); clear hd2 hk2 hl2))
  go_ret
  exact ⟨rfl, ⟨_, _, HF.out⟩, HTF.out, HLF.out⟩
set_option maxHeartbeats 1000000 in
theorem rkunlink_ok (b g gd : Nat) (dn ds dv : Value) (now safe : List DN) (ops : List DOp) (vF : Value) (rl : List RR) (room fuse : Int) (armed dead : Bool) (w : World) (h : RK w b g gd dn ds dv now safe ops vF rl room fuse armed dead) (h0 : 0 ≤ fuse) (h1 : fuse ≤ 9223372036854775807) (hc : (chg fuse armed dead).1 = 0) (sa : ByteArray) (hsa : sa.size ≤ maxLen) (hln : now.length ≤ 100000) (hlo : ops.length ≤ 100000) : Calls Tryz.prog 35 #[.pointer (some ⟨g, 0, none⟩), .string sa] w fun e w' => e = .returned (.int .i64 (doCode now ⟨2, sa, ⟨#[]⟩, 0⟩)) ∧ (∃ dn' dv', RK w' b g gd dn' ds dv' (doNow now ⟨2, sa, ⟨#[]⟩, 0⟩) safe (doOps now ops ⟨2, sa, ⟨#[]⟩, 0⟩) vF rl room (chg fuse armed dead).2.1 armed (chg fuse armed dead).2.2) ∧ RT w w' (rS rl) (rS rl) ∧ Below b w w' := by
  have hbo : okB fuse armed dead = true := by unfold okB; exact decide_eq_true hc
  obtain ⟨fu, hfu⟩ : ∃ x, x = (chg fuse armed dead).2.1 := ⟨_, rfl⟩
  obtain ⟨de, hde⟩ : ∃ x, x = (chg fuse armed dead).2.2 := ⟨_, rfl⟩
  obtain ⟨ok, hok⟩ : ∃ x, x = okB fuse armed dead := ⟨_, rfl⟩
  have HCH := Aside0.mk (rkchange_any b g gd dn ds dv now safe ops vF rl room fuse armed dead w h h0 h1)
  rw [← hfu, ← hde, ← hok] at HCH
  rw [← hfu, ← hde]
  rw [hbo] at hok
  subst hok
  clear h hfu hde hc hbo
  go_enter Tryz.func35, Tryz.ntmps35
  go_wp2_with (first | (go_at_call 62; refine HCH.out.mono ?_; rintro e w1 ⟨rfl, hk1, ht1, hl1⟩; have H := Aside0.mk hk1; have HT := Aside0.mk ht1; have HL := Aside0.mk hl1; have s0 := (blk_cell hk1.hb 0).trans (rfl : _ = some (Value.pointer (some ⟨gd, 0, none⟩))); clear hk1 ht1 hl1 HCH) | (go_at_call 63; refine (rddo_any b gd dn ds dv now safe ops sa ⟨#[]⟩ 0 _ H.out.hd hsa (by decide) hln hlo 2).mono ?_; rintro e w2 ⟨rfl, dn', dv', hd2, _, hk2, hl2⟩; have HF := Aside0.mk (H.out.dir hd2 hk2); have HTF := Aside0.mk (HT.out.trans (RT.dir H.out hk2)); have HLF := Aside0.mk (HL.out.trans hl2); clear hd2 hk2 hl2))
  go_ret
  exact ⟨rfl, ⟨_, _, HF.out⟩, HTF.out, HLF.out⟩
theorem keepbo8 {w w' : World} {a : Nat} {d : Option Nat} (h : KeepBut w w' a none) : KeepBut w w' a d := ⟨h.1, fun i hi hg _ => h.2 i hi hg (by simp)⟩
set_option maxHeartbeats 1000000 in
theorem rksyncdir_ok (b g gd : Nat) (dn ds dv : Value) (now safe : List DN) (ops : List DOp) (vF : Value) (rl : List RR) (room fuse : Int) (armed dead : Bool) (w : World) (h : RK w b g gd dn ds dv now safe ops vF rl room fuse armed dead) (h0 : 0 ≤ fuse) (h1 : fuse ≤ 9223372036854775807) (hc : (chg fuse armed dead).1 = 0) (s : ByteArray) : Calls Tryz.prog 31 #[.pointer (some ⟨g, 0, none⟩), .string s, .bool true] w fun e w' => e = .returned (.int .i64 0) ∧ (∃ ds' dv', RK w' b g gd dn ds' dv' now now [] vF rl room (chg fuse armed dead).2.1 armed (chg fuse armed dead).2.2) ∧ RT w w' (rS rl) (rS rl) ∧ Below b w w' := by
  have hbo : okB fuse armed dead = true := by unfold okB; exact decide_eq_true hc
  obtain ⟨fu, hfu⟩ : ∃ x, x = (chg fuse armed dead).2.1 := ⟨_, rfl⟩
  obtain ⟨de, hde⟩ : ∃ x, x = (chg fuse armed dead).2.2 := ⟨_, rfl⟩
  obtain ⟨ok, hok⟩ : ∃ x, x = okB fuse armed dead := ⟨_, rfl⟩
  have HCH := Aside0.mk (rkchange_any b g gd dn ds dv now safe ops vF rl room fuse armed dead w h h0 h1)
  rw [← hfu, ← hde, ← hok] at HCH
  rw [← hfu, ← hde]
  rw [hbo] at hok
  subst hok
  clear h hfu hde hc hbo
  go_enter Tryz.func31, Tryz.ntmps31
  go_wp2_with (first | (go_at_call 62; refine HCH.out.mono ?_; rintro e w1 ⟨rfl, hk1, ht1, hl1⟩; have H := Aside0.mk hk1; have HT := Aside0.mk ht1; have HL := Aside0.mk hl1; have s0 := (blk_cell hk1.hb 0).trans (rfl : _ = some (Value.pointer (some ⟨gd, 0, none⟩))); clear hk1 ht1 hl1 HCH) | (go_at_call 68; refine (rdsync_any b gd dn ds dv now safe ops _ H.out.hd).mono ?_; rintro e w2 ⟨rfl, hd2, hk2, hl2⟩; have HF := Aside0.mk (H.out.dir hd2 (keepbo8 hk2)); have HTF := Aside0.mk (HT.out.trans (RT.dir H.out (keepbo8 hk2))); have HLF := Aside0.mk (HL.out.trans hl2); clear hd2 hk2 hl2))
  go_ret
  exact ⟨rfl, ⟨_, _, HF.out⟩, HTF.out, HLF.out⟩
end Go.Proofs.YtpnbjpkdbiiogaaGreat
/- The reference's disk: Create; Sync of a file, Truncate. -/
namespace Go.Proofs.YtpnbjpkdbiiogaaGreat
set_option linter.unusedVariables false
open Go.RowKit Go.Maps Go.Proofs.YtpnbjpkdbiiogaaGreatW.PrintWords
attribute [local go_sem] mx2 mn2 mxTwo mnTwo

theorem RX.zero (b : Nat) (w : World) (hb : b ≤ w.heap.size) (px : Nat → Prop) (hx : ∀ k, w.heap.size ≤ k → px k) : RX (w.alloc (.cells #[.slice none 0 0, .slice none 0 0, .slice none 0 0] 60)) b w.heap.size px (.slice none 0 0) (.slice none 0 0) (.slice none 0 0) [] [] [] :=
  ⟨blk_new _ _, Kd.R_nil _ _ _ _ _, Kd.R_nil _ _ _ _ _, Kd.R_nil _ _ _ _ _, hb, fun k hk => hx k (by rw [World.size_alloc] at hk; omega)⟩
set_option maxHeartbeats 1000000 in
set_option maxRecDepth 100000 in
theorem rkcreate_bad (b g gd : Nat) (dn ds dv : Value) (now safe : List DN) (ops : List DOp) (vF : Value) (rl : List RR) (room fuse : Int) (armed dead : Bool) (w : World) (h : RK w b g gd dn ds dv now safe ops vF rl room fuse armed dead) (h0 : 0 ≤ fuse) (h1 : fuse ≤ 9223372036854775807) (hc : (chg fuse armed dead).1 = 0) (s : ByteArray) (hs : s.size ≤ maxLen) (hln : now.length ≤ 100000) (hlo : ops.length ≤ 100000) (dc : Int) (hd : doCode now ⟨0, s, ⟨#[]⟩, (rl.length : Int)⟩ = dc) (hdc : dc ≠ 0) : Calls Tryz.prog 27 #[.pointer (some ⟨g, 0, none⟩), .string s] w fun e w' => e = .returned (.int .i64 dc) ∧ (∃ dn' dv', RK w' b g gd dn' ds dv' now safe ops vF rl room (chg fuse armed dead).2.1 armed (chg fuse armed dead).2.2) ∧ RT w w' (rS rl) (rS rl) ∧ Below b w w' := by
  have HNOW := Aside0.mk (show doNow now ⟨0, s, ⟨#[]⟩, (rl.length : Int)⟩ = now ∧ doOps now ops ⟨0, s, ⟨#[]⟩, (rl.length : Int)⟩ = ops by unfold doNow doOps; rw [hd, if_neg hdc, if_neg hdc]; exact ⟨rfl, rfl⟩)
  have HD := Aside0.mk hd
  have hne : (dc == 0) = false := beq_eq_false_iff_ne.mpr hdc
  clear hd
  have hbo : okB fuse armed dead = true := by unfold okB; exact decide_eq_true hc
  obtain ⟨fu, hfu⟩ : ∃ x, x = (chg fuse armed dead).2.1 := ⟨_, rfl⟩
  obtain ⟨de, hde⟩ : ∃ x, x = (chg fuse armed dead).2.2 := ⟨_, rfl⟩
  obtain ⟨ok, hok⟩ : ∃ x, x = okB fuse armed dead := ⟨_, rfl⟩
  have HCH := Aside0.mk (rkchange_any b g gd dn ds dv now safe ops vF rl room fuse armed dead w h h0 h1)
  rw [← hfu, ← hde, ← hok] at HCH
  rw [← hfu, ← hde]
  rw [hbo] at hok
  subst hok
  clear h hfu hde hc hbo
  go_enter Tryz.func27, Tryz.ntmps27
  go_wp2_with (first | (go_at_call 62; refine HCH.out.mono ?_; rintro e w1 ⟨rfl, hk1, ht1, hl1⟩; have H := Aside0.mk hk1; have HT := Aside0.mk ht1; have HL := Aside0.mk hl1; have s0 := (blk_cell hk1.hb 0).trans (rfl : _ = some (Value.pointer (some ⟨gd, 0, none⟩))); clear hk1 ht1 hl1 HCH))
  have s0 := (blk_cell H.out.hb 0).trans (rfl : _ = some (Value.pointer (some ⟨gd, 0, none⟩)))
  obtain ⟨A2, c2, hvF⟩ := Kd.R_slice H.out.hF
  rw [List.length_map] at hvF
  have s1 := (blk_cell H.out.hb 1).trans (rfl : _ = some vF)
  rw [hvF] at s1
  have HVF := Aside0.mk hvF
  clear hvF
  go_region_held3 (fun w' => w'.cell? ⟨g, 0, none⟩ = some (.pointer (some ⟨gd, 0, none⟩)) ∧ w'.cell? ⟨g, 1, none⟩ = some (.slice A2 rl.length c2)) (first | with_reducible exact ⟨s0, s1⟩ | exact ⟨s0, s1⟩) (first | (go_at_call 63; refine (rddo_any b gd dn ds dv now safe ops s ⟨#[]⟩ (rl.length : Int) _ (H.out.below (below_drew1 (Below.refl _ _))).hd hs (by decide) hln hlo 0).mono ?_; rw [HD.out, HNOW.out.1, HNOW.out.2]; rintro e w2 ⟨rfl, dn', dv', hd2, _, hk2, hl2⟩; have h2 := (H.out.below (below_drew1 (Below.refl _ _))).dir hd2 hk2; replace s0 := (blk_cell h2.hb 0).trans (rfl : _ = some (Value.pointer (some ⟨gd, 0, none⟩))); replace s1 := (blk_cell h2.hb 1).trans (rfl : _ = some vF); rw [HVF.out] at s1; have z1 := blk_frozen h2.hb 1; have hl3 := (HL.out.trans (below_drew1 (Below.refl _ _))).trans hl2; have ht3 := (HT.out.trans (RT.of_below (below_drew1 (Below.refl _ _)) (fun _ _ h => h))).trans (RT.dir (H.out.below (below_drew1 (Below.refl _ _))) hk2); clear H HL HT; have H := Aside0.mk h2; have HL := Aside0.mk hl3; have HT := Aside0.mk ht3; clear hd2 hk2 hl2 h2 hl3 ht3))
  all_goals
    go_wp2_with fail
    go_ret
    exact ⟨rfl, ⟨_, _, H.out⟩, HT.out, HL.out⟩
set_option maxHeartbeats 1000000 in
set_option maxRecDepth 100000 in
theorem rkcreate_ok (b g gd : Nat) (dn ds dv : Value) (now safe : List DN) (ops : List DOp) (vF : Value) (rl : List RR) (room fuse : Int) (armed dead : Bool) (w : World) (h : RK w b g gd dn ds dv now safe ops vF rl room fuse armed dead) (h0 : 0 ≤ fuse) (h1 : fuse ≤ 9223372036854775807) (hc : (chg fuse armed dead).1 = 0) (s : ByteArray) (hs : s.size ≤ maxLen) (hln : now.length ≤ 100000) (hlo : ops.length ≤ 100000) (hl : rl.length ≤ 1000000) (hd : doCode now ⟨0, s, ⟨#[]⟩, (rl.length : Int)⟩ = 0) : Calls Tryz.prog 27 #[.pointer (some ⟨g, 0, none⟩), .string s] w fun e w' => e = .returned (.int .i64 0) ∧ ∃ dn' dv' vF' p, RK w' b g gd dn' ds dv' (didL now ⟨0, s, ⟨#[]⟩, (rl.length : Int)⟩) safe (ops ++ [⟨0, s, ⟨#[]⟩, (rl.length : Int)⟩]) vF' (rl ++ [⟨p, .slice none 0 0, .slice none 0 0, .slice none 0 0, [], [], []⟩]) room (chg fuse armed dead).2.1 armed (chg fuse armed dead).2.2 ∧ RT w w' (rS rl) (rS (rl ++ [⟨p, .slice none 0 0, .slice none 0 0, .slice none 0 0, [], [], []⟩])) ∧ Below b w w' := by
  have HNOW := Aside0.mk (show doNow now ⟨0, s, ⟨#[]⟩, (rl.length : Int)⟩ = didL now ⟨0, s, ⟨#[]⟩, (rl.length : Int)⟩ ∧ doOps now ops ⟨0, s, ⟨#[]⟩, (rl.length : Int)⟩ = ops ++ [⟨0, s, ⟨#[]⟩, (rl.length : Int)⟩] by unfold doNow doOps; rw [if_pos hd, if_pos hd]; exact ⟨rfl, rfl⟩)
  have HD := Aside0.mk hd
  clear hd
  have hbw : b ≤ w.heap.size := Nat.le_trans h.hg (Nat.le_of_lt (blk_lt h.hb))
  have hbo : okB fuse armed dead = true := by unfold okB; exact decide_eq_true hc
  obtain ⟨fu, hfu⟩ : ∃ x, x = (chg fuse armed dead).2.1 := ⟨_, rfl⟩
  obtain ⟨de, hde⟩ : ∃ x, x = (chg fuse armed dead).2.2 := ⟨_, rfl⟩
  obtain ⟨ok, hok⟩ : ∃ x, x = okB fuse armed dead := ⟨_, rfl⟩
  have HCH := Aside0.mk (rkchange_any b g gd dn ds dv now safe ops vF rl room fuse armed dead w h h0 h1)
  rw [← hfu, ← hde, ← hok] at HCH
  rw [← hfu, ← hde]
  rw [hbo] at hok
  subst hok
  clear h hfu hde hc hbo
  go_enter Tryz.func27, Tryz.ntmps27
  go_wp2_with (first | (go_at_call 62; refine HCH.out.mono ?_; rintro e w1 ⟨rfl, hk1, ht1, hl1⟩; have H := Aside0.mk hk1; have HT := Aside0.mk ht1; have HL := Aside0.mk hl1; have s0 := (blk_cell hk1.hb 0).trans (rfl : _ = some (Value.pointer (some ⟨gd, 0, none⟩))); clear hk1 ht1 hl1 HCH))
  have s0 := (blk_cell H.out.hb 0).trans (rfl : _ = some (Value.pointer (some ⟨gd, 0, none⟩)))
  obtain ⟨A2, c2, hvF⟩ := Kd.R_slice H.out.hF
  rw [List.length_map] at hvF
  have s1 := (blk_cell H.out.hb 1).trans (rfl : _ = some vF)
  rw [hvF] at s1
  have HVF := Aside0.mk hvF
  clear hvF
  go_region_held3 (fun w' => w'.cell? ⟨g, 0, none⟩ = some (.pointer (some ⟨gd, 0, none⟩)) ∧ w'.cell? ⟨g, 1, none⟩ = some (.slice A2 rl.length c2)) (first | with_reducible exact ⟨s0, s1⟩ | exact ⟨s0, s1⟩) (first | (go_at_call 63; refine (rddo_any b gd dn ds dv now safe ops s ⟨#[]⟩ (rl.length : Int) _ (H.out.below (below_drew1 (Below.refl _ _))).hd hs (by decide) hln hlo 0).mono ?_; rw [HD.out, HNOW.out.1, HNOW.out.2]; rintro e w2 ⟨rfl, dn', dv', hd2, _, hk2, hl2⟩; have h2 := (H.out.below (below_drew1 (Below.refl _ _))).dir hd2 hk2; replace s0 := (blk_cell h2.hb 0).trans (rfl : _ = some (Value.pointer (some ⟨gd, 0, none⟩))); replace s1 := (blk_cell h2.hb 1).trans (rfl : _ = some vF); rw [HVF.out] at s1; have z1 := blk_frozen h2.hb 1; have hl3 := (HL.out.trans (below_drew1 (Below.refl _ _))).trans hl2; have ht3 := (HT.out.trans (RT.of_below (below_drew1 (Below.refl _ _)) (fun _ _ h => h))).trans (RT.dir (H.out.below (below_drew1 (Below.refl _ _))) hk2); clear H HL HT; have H := Aside0.mk h2; have HL := Aside0.mk hl3; have HT := Aside0.mk ht3; clear hd2 hk2 hl2 h2 hl3 ht3))
  all_goals
    have hs0 := HL.out.size
    have HFA := Aside0.mk (HVF.out ▸ Kd.R_alloc H.out.hF (.cells #[.slice none 0 0, .slice none 0 0, .slice none 0 0] 60) : Kd.R kPtr 61 (w2.alloc (.cells #[.slice none 0 0, .slice none 0 0, .slice none 0 0] 60)) b (fun _ => True) (.slice A2 rl.length c2) (rl.map RR.g))
    have s1a := cell_al (.cells #[.slice none 0 0, .slice none 0 0, .slice none 0 0] 60) s1
    go_wp2_with (at_builtin; refine Kd.R_append kPtr (w0 := w2.alloc (.cells #[.slice none 0 0, .slice none 0 0, .slice none 0 0] 60)) b rfl (.tmp 27) (.tmp 30) 42 61 (.pointer none) 8 rfl Tryz.underlying42 infoP rfl (by decide) (by omega) (.slice A2 rl.length c2) (rl.map RR.g) w2.heap.size [.pointer (some ⟨w2.heap.size, 0, none⟩)] (fun _ => True) (fun _ => False) rfl (by first | rfl | exact congrArg (fun s => Value.slice (some ⟨s, 0, none⟩) 1 1) (World.size_alloc _ _).symm) (kPtr_mkM _ _ _ _) (fun _ h => h.elim) (fun _ _ => trivial) HFA.out (Below.refl _ _) (by rw [World.size_alloc]; omega) (by rw [List.length_map]; omega) ?_; intro v3 w3 hF3 hb3 hg3 _; obtain ⟨A3, c3, rfl⟩ := Kd.R_slice hF3; rw [List.length_append, List.length_map, List.length_singleton] at hF3 ⊢; have ha := H.out.below (below_alloc (Below.refl _ _) (.cells #[.slice none 0 0, .slice none 0 0, .slice none 0 0] 60)); have hb4 := blk_grown ha.hb hg3 (by rw [← HVF.out]; exact Kd.R_ne ha.hF ha.hb (by decide)); have k1 := (blk_cell hb4 1).trans (rfl : _ = some vF); rw [HVF.out] at k1; have z3 := blk_frozen hb4 1; have HF3 := Aside0.mk hF3; have HG3 := Aside0.mk hg3; have HB3 := Aside0.mk hb3; clear hF3 hb3 hg3 ha hb4)
    go_ret
    have hg3 : (w2.alloc (.cells #[.slice none 0 0, .slice none 0 0, .slice none 0 0] 60)).grownBy w3 vF.ownBlock := by rw [HVF.out]; exact HG3.out
    have hbw2 : b ≤ w2.heap.size := by omega
    have hfin := H.out.addFile (below_alloc (Below.refl _ _) (.cells #[.slice none 0 0, .slice none 0 0, .slice none 0 0] 60)) (Nat.le_refl _) (RX.zero b w2 hbw2 (fun k => w2.heap.size ≤ k) (fun k hk => hk)) HF3.out hg3
    have hft := RT.addFile (p := w2.heap.size) (va := .slice none 0 0) (vb := .slice none 0 0) (vc := .slice none 0 0) (now1 := []) (safe1 := []) (ops1 := []) (v1 := .slice A3 (rl.length + 1) c3) H.out (below_alloc (Below.refl _ _) (.cells #[.slice none 0 0, .slice none 0 0, .slice none 0 0] 60)) (fun k e => by cases e) hg3
    exact ⟨rfl, _, _, _, _, hfin, HT.out.trans hft, ((HL.out.trans ((below_alloc (Below.refl _ _) _).mono hbw2)).trans HB3.out).setCell (p := ⟨g, 1, none⟩) H.out.hg _⟩
end Go.Proofs.YtpnbjpkdbiiogaaGreat
