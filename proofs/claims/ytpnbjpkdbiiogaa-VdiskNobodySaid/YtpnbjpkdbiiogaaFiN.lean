/- Files, the law's state: both files in memory; light. -/
import Derived.Test.YtpnbjpkdbiiogaaFiL
import Derived.Test.YtpnbjpkdbiiogaaFiM
namespace Go.Proofs.Ytpnbjpkdbiiogaa
set_option linter.unusedVariables false
open Go.RowKit Go.Proofs.YtpnbjpkdbiiogaaW.PrintWords
attribute [local go_sem] mx2 mn2 mxTwo mnTwo

/-- A call of a statement on files. -/
structure FAct where
  kd : Int
  at_ : Int
  b : List Int
  keep : List Bool
def zAct : FAct := ⟨0, 0, [], []⟩
def kAct : Kd FAct := Kd.iso (Kd.pair (Kd.int .i64) (Kd.pair (Kd.int .i64) (Kd.pair (Kd.slice 5 (Kd.int .u8)) (Kd.slice 4 Kd.bool)))) (fun x : FAct => (x.kd, x.at_, x.b, x.keep))
theorem at_Act {w : World} {A : Option Addr} {n : Nat} {xs : List FAct} (h : Kd.C kAct w A n xs) (i : Nat) (h1 : i < n) : ∃ ad A2 c2 A3 c3, A = some ad ∧ w.cell? (ad.add (i * 4)) = some (.int .i64 (xs.getD i zAct).kd) ∧ w.cell? ⟨(ad.add (i * 4)).block, (ad.add (i * 4)).off + 1, none⟩ = some (.int .i64 (xs.getD i zAct).at_) ∧ w.cell? ⟨(ad.add (i * 4)).block, (ad.add (i * 4)).off + 2, none⟩ = some (.slice A2 (xs.getD i zAct).b.length c2) ∧ w.cell? ⟨(ad.add (i * 4)).block, (ad.add (i * 4)).off + 3, none⟩ = some (.slice A3 (xs.getD i zAct).keep.length c3) ∧ (xs.getD i zAct).b.length ≤ c2 ∧ (Kd.int .u8).C w A2 (xs.getD i zAct).b.length (xs.getD i zAct).b ∧ (xs.getD i zAct).keep.length ≤ c3 ∧ Kd.bool.C w A3 (xs.getD i zAct).keep.length (xs.getD i zAct).keep := by
  obtain ⟨ad, c, e, _, hK, hc0⟩ := Kd.C_get h zAct (i : Int) (by omega) (by omega)
  simp only [Int.toNat_natCast] at hK hc0
  have hc : ∀ j u, c[j]? = some u → w.cell? (ad.add (i * 4 + j)) = some u := hc0
  obtain ⟨_, _, rfl, rfl, ⟨_, _, rfl, rfl, ⟨_, _, rfl, ⟨A2, c2, rfl, l2, g2⟩, ⟨A3, c3, rfl, l3, g3⟩⟩⟩⟩ := hK
  exact ⟨ad, A2, c2, A3, c3, e, hc 0 _ rfl, by rw [← add_field _ _ 1 (by omega)]; exact hc 1 _ rfl, by rw [← add_field _ _ 2 (by omega)]; exact hc 2 _ rfl, by rw [← add_field _ _ 3 (by omega)]; exact hc 3 _ rfl, l2, g2, l3, g3⟩
theorem light_yes (kd k : Int) (A2 A3 : Option Addr) (n2 c2 n3 c3 : Nat) (w : World) (h2 : n2 ≤ 400) (h3 : n3 ≤ 200) (hk : k ≤ 2000 ∨ ¬ k ≤ 2000 ∧ 1048576 < k) : Calls Try.prog 32 #[(.agg #[.int .i64 kd, .int .i64 k, .slice A2 n2 c2, .slice A3 n3 c3])] w fun e w' => e = .returned (.bool true) ∧ Below w.heap.size w w' := by
  have d2 : decide (n2 ≤ 400) = true := decide_eq_true h2
  have d3 : decide (n3 ≤ 200) = true := decide_eq_true h3
  rcases hk with hk | ⟨hk, hk2⟩
  · have d4 := decide_eq_true hk
    go_enter Try.func32, Try.ntmps32
    go_wp2
    go_ret
    exact ⟨rfl, below_alloc (Below.refl _ _) _⟩
  · have d4 := decide_eq_false hk
    have d5 := decide_eq_true hk2
    go_enter Try.func32, Try.ntmps32
    go_wp2
    go_ret
    exact ⟨rfl, below_alloc (Below.refl _ _) _⟩
theorem light_no (kd k : Int) (A2 A3 : Option Addr) (n2 c2 n3 c3 : Nat) (w : World) (h : ¬ (n2 ≤ 400 ∧ n3 ≤ 200 ∧ (k ≤ 2000 ∨ 1048576 < k))) : Calls Try.prog 32 #[(.agg #[.int .i64 kd, .int .i64 k, .slice A2 n2 c2, .slice A3 n3 c3])] w fun e w' => e = .returned (.bool false) ∧ Below w.heap.size w w' := by
  by_cases h2 : n2 ≤ 400
  · have d2 : decide (n2 ≤ 400) = true := decide_eq_true h2
    by_cases h3 : n3 ≤ 200
    · have d3 : decide (n3 ≤ 200) = true := decide_eq_true h3
      have hk : ¬ k ≤ 2000 := fun hk => h ⟨h2, h3, .inl hk⟩
      have hk2 : ¬ 1048576 < k := fun hk => h ⟨h2, h3, .inr hk⟩
      have d4 := decide_eq_false hk
      have d5 := decide_eq_false hk2
      clear h
      go_enter Try.func32, Try.ntmps32
      go_wp2
      go_ret
      exact ⟨rfl, below_alloc (Below.refl _ _) _⟩
    · have d3 : decide (n3 ≤ 200) = false := decide_eq_false h3
      clear h
      go_enter Try.func32, Try.ntmps32
      go_wp2
      go_ret
      exact ⟨rfl, below_alloc (Below.refl _ _) _⟩
  · have d2 : decide (n2 ≤ 400) = false := decide_eq_false h2
    clear h
    go_enter Try.func32, Try.ntmps32
    go_wp2
    go_ret
    exact ⟨rfl, below_alloc (Below.refl _ _) _⟩

/-- Both files. -/
structure FS (W : World) (b g r : Nat) (vn vs vo rn rs ro : Value) (now safe : List Int) (ops : List FOp) : Prop where
  f : FI W b g (fun k => some k ≠ rn.ownBlock) vn vs vo now safe ops
  r : RF W b r rn rs ro now safe ops
/-- The blocks that they write, but for those whose types are the reference's own. -/
def Own3 (g : Nat) (vo rn : Value) (i : Nat) : Prop := i = g ∨ some i = vo.ownBlock ∨ some i = rn.ownBlock
/-- A block whose type is not the reference's own. -/
def NotRef (w : World) (i : Nat) : Prop := ∀ c q, w.heap[i]? = some (.cells c q (0, 0)) → q ≠ 178 ∧ q ≠ 46
/-- From w to W no other block is turned; S: the blocks at the start, T: now. -/
structure Fr (w W : World) (S T : Nat → Prop) : Prop where
  sz : w.heap.size ≤ W.heap.size
  keep : ∀ i, i < w.heap.size → ¬ S i → NotRef w i → W.heap[i]? = w.heap[i]?
  own : ∀ i, T i → i < w.heap.size → S i
theorem Fr.refl (w : World) (S : Nat → Prop) : Fr w w S S := ⟨Nat.le_refl _, fun _ _ _ _ => rfl, fun _ h _ => h⟩
theorem Fr.trans {w W W1 : World} {S T U : Nat → Prop} (h : Fr w W S T) (k : Fr W W1 T U) : Fr w W1 S U :=
  ⟨Nat.le_trans h.sz k.sz, fun i hi hs hn => by
    have e := h.keep i hi hs hn
    exact (k.keep i (Nat.lt_of_lt_of_le hi h.sz) (fun ht => hs (h.own i ht hi)) (fun c q hc => hn c q (e ▸ hc))).trans e, fun i hu hi => h.own i (k.own i hu (Nat.lt_of_lt_of_le hi h.sz)) hi⟩
theorem Fr.below {w W : World} {S T : Nat → Prop} (h : Below w.heap.size w W) (ho : ∀ i, T i → i < w.heap.size → S i) : Fr w W S T := ⟨h.size, fun i hi _ _ => h.block i hi, ho⟩
theorem Fr.then_below {w W W1 : World} {S T : Nat → Prop} (h : Fr w W S T) (k : Below W.heap.size W W1) : Fr w W1 S T := h.trans (Fr.below k (fun _ ht _ => ht))
theorem FS.below {W W1 : World} {b g r : Nat} {vn vs vo rn rs ro : Value} {now safe : List Int} {ops : List FOp} (h : FS W b g r vn vs vo rn rs ro now safe ops) (hb : Below W.heap.size W W1) : FS W1 b g r vn vs vo rn rs ro now safe ops := ⟨h.f.below hb, h.r.below hb⟩
section
variable {W W1 : World} {b g r : Nat} {vn vs vo rn rs ro vn1 vs1 vo1 rn1 rs1 ro1 : Value} {now safe now1 safe1 : List Int} {ops ops1 : List FOp} {x : Nat → Prop}
/-- The code's file is turned: the reference's stays. -/
theorem RF.other (h : RF W b r rn rs ro now1 safe1 ops1) (hf : FI W b g x vn vs vo now safe ops) (hk : KeepBut W W1 g vo.ownBlock) : RF W1 b r rn rs ro now1 safe1 ops1 := by
  have hne := blk_ne h.hb hf.hb (by decide)
  have hvo : ∀ k, vo.ownBlock = some k → ∃ cells, W.heap[k]? = some (.cells cells 141 (0, 0)) := fun k hk => own_typed hf.ho.2.choose_spec.1 k hk
  have step : ∀ q (k : Nat), (∃ cells, W.heap[k]? = some (.cells cells q (0, 0))) → q ≠ 137 → q ≠ 141 → k < W.heap.size → W1.heap[k]? = W.heap[k]? := by
    intro q k ⟨cells, hc⟩ h1 h2 hlt
    refine hk.2 k hlt (blk_ne hc hf.hb h1) (fun e => ?_)
    obtain ⟨c2, hc2⟩ := hvo k e.symm
    exact (blk_ne hc hc2 h2) rfl
  refine ⟨(step 46 r ⟨_, h.hb⟩ (by decide) (by decide) (blk_lt h.hb)).trans h.hb, ?_, ?_, ?_, h.hg⟩
  · exact Kd.R_mono (Kd.R_step (Kd.R_bound h.hn) (fun k ho hlt => by
      obtain ⟨_, _, _, q, hq, hc⟩ := ho
      exact step q k hc (u8E _ (by omega) q hq) (u8E _ (by omega) q hq) hlt)) (fun k hk => hk.1)
  · exact Kd.R_mono (Kd.R_step (Kd.R_bound h.hs) (fun k ho hlt => by
      obtain ⟨_, _, _, q, hq, hc⟩ := ho
      exact step q k hc (u8E _ (by omega) q hq) (u8E _ (by omega) q hq) hlt)) (fun k hk => hk.1)
  · exact Kd.R_mono (Kd.R_step (Kd.R_bound h.ho) (fun k ho hlt => by
      obtain ⟨_, _, _, q, hq, hc⟩ := ho
      exact step q k hc (ropE _ (by omega) (by omega) q hq) (ropE _ (by omega) (by omega) q hq) hlt)) (fun k hk => hk.1)
/-- The reference's file is turned: the code's stays. -/
theorem FI.other (h : FI W b g (fun k => some k ≠ rn.ownBlock) vn vs vo now safe ops) (hr : RF W b r rn rs ro now1 safe1 ops1) (hk : Keep3 W W1 r rn.ownBlock ro.ownBlock) (hn : rn1.ownBlock = rn.ownBlock ∨ rn1.ownBlock = none ∨ ∃ k, rn1.ownBlock = some k ∧ W.heap.size ≤ k) : FI W1 b g (fun k => some k ≠ rn1.ownBlock) vn vs vo now safe ops := by
  have hro : ∀ k, ro.ownBlock = some k → ∃ cells, W.heap[k]? = some (.cells cells 178 (0, 0)) := fun k hk => own_typed hr.ho.2.choose_spec.1 k hk
  have hrn : ∀ k, rn.ownBlock = some k → ∃ cells, W.heap[k]? = some (.cells cells 5 (0, 0)) := fun k hk => own_typed hr.hn.2.choose_spec.1 k hk
  have step : ∀ q (k : Nat), (∃ cells, W.heap[k]? = some (.cells cells q (0, 0))) → q ≠ 46 → q ≠ 178 → some k ≠ rn.ownBlock → k < W.heap.size → W1.heap[k]? = W.heap[k]? := by
    intro q k ⟨cells, hc⟩ h1 h2 h3 hlt
    refine hk.2 k hlt (blk_ne hc hr.hb h1) h3 (fun e => ?_)
    obtain ⟨c2, hc2⟩ := hro k e.symm
    exact (blk_ne hc hc2 h2) rfl
  have hok : ∀ k, k < W.heap.size → some k ≠ rn.ownBlock → some k ≠ rn1.ownBlock := by
    intro k hlt hne e
    rcases hn with e1 | e1 | ⟨q, e1, hq⟩
    · exact hne (e.trans e1)
    · rw [e1] at e; cases e
    · rw [e1] at e; cases e; omega
  refine ⟨(step 137 g ⟨_, h.hb⟩ (by decide) (by decide) (fun e => ?_) (blk_lt h.hb)).trans h.hb, ?_, ?_, ?_, h.hg⟩
  · obtain ⟨c2, hc2⟩ := hrn g e.symm
    exact (blk_ne h.hb hc2 (by decide)) rfl
  · exact Kd.R_mono (Kd.R_step (Kd.R_bound h.hn) (fun k ho hlt => by
      obtain ⟨hx, _, _, q, hq, hc⟩ := ho
      exact step q k hc (u8E _ (by omega) q hq) (u8E _ (by omega) q hq) hx hlt)) (fun k hk => hok k hk.2.2.1 hk.1)
  · exact Kd.R_mono (Kd.R_step (Kd.R_bound h.hs) (fun k ho hlt => by
      obtain ⟨hx, _, _, q, hq, hc⟩ := ho
      exact step q k hc (u8E _ (by omega) q hq) (u8E _ (by omega) q hq) hx hlt)) (fun k hk => hok k hk.2.2.1 hk.1)
  · exact Kd.R_mono (Kd.R_step (Kd.R_bound h.ho) (fun k ho hlt => by
      obtain ⟨hx, _, _, q, hq, hc⟩ := ho
      exact step q k hc (opE _ (by omega) (by omega) q hq) (opE _ (by omega) (by omega) q hq) hx hlt)) (fun k hk => hok k hk.2.2.1 hk.1)
/-- Both are turned, one behind the other. -/
theorem FS.turned {W2 : World} (h : FS W b g r vn vs vo rn rs ro now safe ops) (hf : FI W1 b g (fun k => some k ≠ rn.ownBlock) vn1 vs1 vo1 now1 safe1 ops1) (hk : KeepBut W W1 g vo.ownBlock) (hv : vo1.ownBlock = vo.ownBlock ∨ vo1.ownBlock = none ∨ ∃ k, vo1.ownBlock = some k ∧ W.heap.size ≤ k)
    (hr : RF W2 b r rn1 rs1 ro1 now1 safe1 ops1) (hk2 : Keep3 W1 W2 r rn.ownBlock ro.ownBlock) (hn : rn1.ownBlock = rn.ownBlock ∨ rn1.ownBlock = none ∨ ∃ k, rn1.ownBlock = some k ∧ W1.heap.size ≤ k) :
    FS W2 b g r vn1 vs1 vo1 rn1 rs1 ro1 now1 safe1 ops1 ∧ Fr W W2 (Own3 g vo rn) (Own3 g vo1 rn1) := by
  have hr1 := h.r.other h.f hk
  have hro : ∀ k, ro.ownBlock = some k → ∃ cells, W.heap[k]? = some (.cells cells 178 (0, 0)) := fun k hk => own_typed h.r.ho.2.choose_spec.1 k hk
  refine ⟨⟨hf.other hr1 hk2 hn, hr⟩, Nat.le_trans hk.1 hk2.1, fun i hi hs hnr => ?_, fun i ht hi => ?_⟩
  · have h1 : W1.heap[i]? = W.heap[i]? := hk.2 i hi (fun e => hs (.inl e)) (fun e => hs (.inr (.inl e)))
    refine (hk2.2 i (Nat.lt_of_lt_of_le hi hk.1) (fun e => ?_) (fun e => hs (.inr (.inr e))) (fun e => ?_)).trans h1
    · subst e
      exact (hnr _ _ h.r.hb).2 rfl
    · obtain ⟨c, hc⟩ := hro i e.symm
      exact (hnr _ _ hc).1 rfl
  · rcases ht with e | e | e
    · exact .inl e
    · rcases hv with e1 | e1 | ⟨k, e1, hk1⟩
      · exact .inr (.inl (e.trans e1))
      · rw [e1] at e; cases e
      · rw [e1] at e; cases e; omega
    · rcases hn with e1 | e1 | ⟨k, e1, hk1⟩
      · exact .inr (.inr (e.trans e1))
      · rw [e1] at e; cases e
      · rw [e1] at e; cases e; have := hk.1; omega
end
/-- What a file is. -/
structure FSt where
  now : List Int
  safe : List Int
  ops : List FOp
/-- What a call makes of it. -/
def stepF (s : FSt) (a : FAct) : FSt :=
  if a.kd = 0 then (if 0 ≤ a.at_ ∧ a.at_ ≤ 1048576 ∧ (a.b.length : Int) ≤ 1048576 - a.at_ then ⟨(writeF (s.now, s.ops) a.at_.toNat a.b).1, s.safe, (writeF (s.now, s.ops) a.at_.toNat a.b).2⟩ else s)
  else if a.kd = 1 then (if 0 ≤ a.at_ ∧ a.at_ ≤ 1048576 then ⟨(sizeF (s.now, s.ops) a.at_).1, s.safe, (sizeF (s.now, s.ops) a.at_).2⟩ else s)
  else if a.kd = 2 then ⟨s.now, s.now, []⟩
  else ⟨crashF s.safe s.ops a.keep s.ops.length, crashF s.safe s.ops a.keep s.ops.length, []⟩
/-- Its bounds. -/
structure Bd (s : FSt) (k : Nat) : Prop where
  now : s.now.length ≤ 1048576
  safe : s.safe.length ≤ 1048576
  op : ∀ o ∈ s.ops, o.n ≤ 1048576 ∧ o.d.length ≤ 1048576
  ops : s.ops.length ≤ 500 * k
end Go.Proofs.Ytpnbjpkdbiiogaa
