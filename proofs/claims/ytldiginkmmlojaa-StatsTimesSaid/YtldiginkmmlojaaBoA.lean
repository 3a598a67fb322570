/- slices.Values over entries: what a range over it comes by. -/
import Derived.RangeFuncNested
import Derived.RangeFuncBound
import Derived.RangeFuncCalls
import Derived.RangeFuncLeaves
import Derived.RangeFuncBox
import Derived.Shelf.Abstract
import Derived.Shelf.RegionOpen
import Derived.WalkKit
import Derived.OwnWalkIn
import Derived.TacticsInMore
import Derived.LoopNIn
import Derived.LoopIn
import Derived.Test.YtldiginkmmlojaaProg
import Derived.Test.YtldiginkmmlojaaWWords
namespace Go.Proofs.Ytldiginkmmlojaa
set_option linter.unusedVariables false
set_option linter.unusedSimpArgs false
open Go.RowKit Go.Shelf Go.Proofs.YtldiginkmmlojaaW.PrintWords
attribute [local go_sem] Oper.semAt_some

/-- An entry as it lies: its numbers, and where its items lie. -/
structure RecV where
  seq : Int
  real : Int
  mono : Int
  boot : Int
  A : Option Addr
  n : Nat
  c : Nat
/-- An entry whose numbers are 64 bits wide. -/
abbrev RecW := { x : RecV // (Lit.int .u64 x.seq).wf = true ∧ (Lit.int .u64 x.boot).wf = true }
def zRecW : RecW := ⟨⟨0, 0, 0, 0, none, 0, 0⟩, by decide, by decide⟩
def RecV.v (x : RecV) : Value := .agg #[.int .u64 x.seq, .int .u64 x.real, .int .u64 x.mono, .int .u64 x.boot, .slice x.A x.n x.c]
/-- Its five cells. -/
def RecAt (W : World) (ad : Addr) (x : RecV) : Prop :=
  W.cell? ad = some (.int .u64 x.seq) ∧ W.cell? ⟨ad.block, ad.off + 1, none⟩ = some (.int .u64 x.real) ∧ W.cell? ⟨ad.block, ad.off + 2, none⟩ = some (.int .u64 x.mono) ∧ W.cell? ⟨ad.block, ad.off + 3, none⟩ = some (.int .u64 x.boot) ∧ W.cell? ⟨ad.block, ad.off + 4, none⟩ = some (.slice x.A x.n x.c)
theorem RecAt.below {n₀ : Nat} {A B : World} {ad : Addr} {x : RecV} (h : RecAt A ad x) (hb : Below n₀ A B) (hlt : ad.block < n₀) : RecAt B ad x :=
  ⟨(hb.cell (p := ad) hlt).trans h.1, (hb.cell (p := ⟨ad.block, ad.off + 1, none⟩) hlt).trans h.2.1, (hb.cell (p := ⟨ad.block, ad.off + 2, none⟩) hlt).trans h.2.2.1, (hb.cell (p := ⟨ad.block, ad.off + 3, none⟩) hlt).trans h.2.2.2.1, (hb.cell (p := ⟨ad.block, ad.off + 4, none⟩) hlt).trans h.2.2.2.2⟩
def uptoR {α : Type} (f : Nat → α) (k : Nat) : List α := (List.range k).map f
theorem uptoR_succ {α : Type} (f : Nat → α) (k : Nat) : uptoR f (k + 1) = uptoR f k ++ [f k] := by simp [uptoR, List.range_succ]
theorem uptoR_length {α : Type} (f : Nat → α) (k : Nat) : (uptoR f k).length = k := by simp [uptoR]
theorem uptoR_take (zs : List RecW) {k : Nat} (hk : k ≤ zs.length) : uptoR (fun j => zs.getD j zRecW) k = zs.take k := by
  apply List.ext_getElem
  · simp [uptoR, hk]
  · intro i h1 h2
    have : i < zs.length := by simp [uptoR] at h1; omega
    simp [uptoR, this]
set_option maxRecDepth 100000 in
set_option maxHeartbeats 2000000 in
theorem rvalues1_in (F : Fence) (n : Nat) (h7 : F.fn 88) (hro : F.round = none) (hn : 1 ≤ n) (l Bs n₀ : Nat) (b off len cap : Nat) (zs : List RecW) (hreach : len * 64 ≤ 140737488351232) (hb : b < n₀) (J Jx : List RecW → World → Prop)
    (hY : ∀ pre x W, J pre W → pre.length < len → YieldAt F (n - 1) Try.prog l #[x.1.v] W fun e W' =>
      (e = .returned (.bool true) ∧ J (pre ++ [x]) W' ∧ Below n₀ W W') ∨ (e = .returned (.bool false) ∧ Jx (pre ++ [x]) W'))
    (W : World) (hJ : AbidesFrom W.heap.size J) (hn₀ : n₀ ≤ W.heap.size) (hBs : W.cell? ⟨Bs, 0, none⟩ = some (.slice (some ⟨b, off, none⟩) len cap)) (hc : ∀ j, j < len → RecAt W ⟨b, off + j * 5, none⟩ (zs.getD j zRecW).1) (h0 : J [] W) :
    CallsIn F n Try.prog 88 #[.func (.yield l) #[] #[], .pointer (some ⟨Bs, 0, none⟩)] W fun e W' => (∃ v, e = .returned v) ∧
      ((∃ ys, ys = uptoR (fun j => zs.getD j zRecW) len ∧ J ys W') ∨ (∃ pre, (∃ k, k ≤ len ∧ pre = uptoR (fun j => zs.getD j zRecW) k) ∧ Jx pre W')) := by
  refine callsIn_of_wp Try.func88 rfl h7 ?_ hro
  simp only [Try.ntmps88, List.size_toArray, List.length_cons, List.length_nil, Nat.reduceAdd, Nat.reduceSub, Array.replicate_succ, Array.replicate_zero, List.push_toArray, List.append_toArray, List.nil_append, List.cons_append]
  gi_wp2
  gi_loopw [7] (fun i wr => ∃ k : Nat, k ≤ len ∧ i = .int .i64 k ∧ J (uptoR (fun j => zs.getD j zRecW) k) wr ∧ Below n₀ W wr)
    (fun i _ => len - (intOf i).toNat)
  case atStart => exact ⟨0, Nat.zero_le _, rfl, h0, Below.refl _ _⟩
  case round =>
    obtain ⟨k, hk, rfl, hJs, hnx⟩ := hrel
    by_cases hlt : k < len
    · obtain ⟨c0, c1, c2, c3, c4⟩ := (hc k hlt).below hnx hb
      obtain ⟨fn, tmps, assign, body, hy, hR⟩ := hY _ (zs.getD k zRecW) (wr.alloc (.cells #[.int .u64 (zs.getD k zRecW).1.seq, .int .u64 (zs.getD k zRecW).1.real, .int .u64 (zs.getD k zRecW).1.mono, .int .u64 (zs.getD k zRecW).1.boot, .slice (zs.getD k zRecW).1.A (zs.getD k zRecW).1.n (zs.getD k zRecW).1.c] 47)) (hJ _ _ _ none hJs (World.grownBy_alloc wr _ none) (fun r e => by cases e)) (by rw [uptoR_length]; exact hlt)
      have hsucc : uptoR (fun j => zs.getD j zRecW) (k + 1) = uptoR (fun j => zs.getD j zRecW) k ++ [zs.getD k zRecW] := uptoR_succ _ k
      simp only [RecV.v] at hy
      obtain ⟨x, hx⟩ : ∃ x, x = zs.getD k zRecW := ⟨_, rfl⟩
      rw [← hx] at c0 c1 c2 c3 c4 hy hR hsucc
      have HX := Aside0.mk hsucc
      clear hx hsucc
      gi_wp2
      refine hR.mono ?_
      rintro e W3 (⟨rfl, hJ3, hk3⟩ | ⟨rfl, hJx3⟩)
      · gi_wp2
        go_roundw
        case rel => exact ⟨k + 1, by omega, by simp, by rw [HX.out]; exact hJ3, (hnx.trans ((Below.refl n₀ wr).alloc (Nat.le_trans hn₀ hnx.size) _)).trans hk3⟩
        case measure => simp [intOf]; omega
      · gi_wp2
        refine bodyPost_ret (results_none rfl _ _ _) rfl ?_
        exact ⟨⟨_, rfl⟩, .inr ⟨_, ⟨k + 1, by omega, HX.out.symm⟩, hJx3⟩⟩
    · obtain rfl : k = len := by omega
      gi_wp2
      go_end0
      exact ⟨⟨_, rfl⟩, .inl ⟨_, rfl, hJs⟩⟩
/-- A slice value holds entries in a block below n₀; or it is nil and there are none. -/
def Recs (n₀ : Nat) (W : World) (sv : Value) (zs : List RecW) : Prop :=
  (sv = .slice none 0 0 ∧ zs = []) ∨ ∃ b off cap, sv = .slice (some ⟨b, off, none⟩) zs.length cap ∧ b < n₀ ∧ ∀ j, j < zs.length → RecAt W ⟨b, off + j * 5, none⟩ (zs.getD j zRecW).1
theorem Recs.below {n₀ : Nat} {A B : World} (h : Below n₀ A B) {sv : Value} {zs : List RecW} : Recs n₀ A sv zs → Recs n₀ B sv zs
  | .inl e => .inl e
  | .inr ⟨b, off, cap, e, hb, hc⟩ => .inr ⟨b, off, cap, e, hb, fun j hj => (hc j hj).below h hb⟩
theorem Recs.mono {n₀ n₁ : Nat} {A : World} {sv : Value} {zs : List RecW} (hn : n₀ ≤ n₁) : Recs n₀ A sv zs → Recs n₁ A sv zs
  | .inl e => .inl e
  | .inr ⟨b, off, cap, e, hb, hc⟩ => .inr ⟨b, off, cap, e, Nat.lt_of_lt_of_le hb hn, hc⟩
set_option maxRecDepth 100000 in
set_option maxHeartbeats 1000000 in
theorem rvalues1_nil (F : Fence) (n : Nat) (h7 : F.fn 88) (hro : F.round = none) (l Bs : Nat) (J : List RecW → World → Prop) (W : World) (hBs : W.cell? ⟨Bs, 0, none⟩ = some (.slice none 0 0)) (h0 : J [] W) :
    CallsIn F n Try.prog 88 #[.func (.yield l) #[] #[], .pointer (some ⟨Bs, 0, none⟩)] W fun e W' => (∃ v, e = .returned v) ∧ J [] W' := by
  refine callsIn_of_wp Try.func88 rfl h7 ?_ hro
  simp only [Try.ntmps88, List.size_toArray, List.length_cons, List.length_nil, Nat.reduceAdd, Nat.reduceSub, Array.replicate_succ, Array.replicate_zero, List.push_toArray, List.append_toArray, List.nil_append, List.cons_append]
  gi_wp2
  gi_loopw [7] (fun i wr => i = .int .i64 0 ∧ J [] wr) (fun _ _ => 0)
  case atStart => exact ⟨rfl, h0⟩
  case round =>
    obtain ⟨rfl, hJs⟩ := hrel
    gi_wp2
    go_end0
    exact ⟨⟨_, rfl⟩, hJs⟩
set_option maxHeartbeats 1000000 in
theorem rvalues_in (F : Fence) (n : Nat) (h5 : F.fn 65) (hro : F.round = none) (a : Option Addr) (len cap : Nat) (w : World) :
    CallsIn F n Try.prog 65 #[.slice a len cap] w fun e w' => e = .returned (.func (.func 88) #[] #[.pointer (some ⟨w.heap.size, 0, none⟩)]) ∧ w' = w.alloc (.cells #[.slice a len cap] 22) := by
  refine callsIn_of_wp Try.func65 rfl h5 ?_ hro
  simp only [Try.ntmps65, List.size_toArray, List.length_cons, List.length_nil, Nat.reduceAdd, Nat.reduceSub, Array.replicate_succ, Array.replicate_zero, List.push_toArray, List.append_toArray, List.nil_append, List.cons_append]
  gi_wp2
  go_ret
  exact ⟨rfl, rfl⟩
/-- A range over slices.Values comes by all entries in order, or by the first ones. -/
theorem rvalues_stops (F : Fence) (n : Nat) (h7 : F.fn 88) (hro : F.round = none) (hn : 1 ≤ n) (Bs n₀ : Nat) (sv : Value) (zs : List RecW) (hreach : zs.length * 64 ≤ 140737488351232) (w : World) (hBs : Bs < w.heap.size) (hn₀ : n₀ ≤ w.heap.size)
    (hc : w.cell? ⟨Bs, 0, none⟩ = some sv) (hI : Recs n₀ w sv zs) :
    SeqStopsK F n Try.prog 88 #[.pointer (some ⟨Bs, 0, none⟩)] (fun x : RecW => #[x.1.v]) (Below n₀) (fun ys => ys = zs) (fun pre => pre <+: zs) zs.length w := fun l J Jx W hW hJ _ hY h0 => by
  have hc' := (hW.cell (p := ⟨Bs, 0, none⟩) hBs).trans hc
  rcases hI.below (hW.mono hn₀) with ⟨rfl, rfl⟩ | ⟨b, off, cap, rfl, hb, hcs⟩
  · exact (rvalues1_nil F n h7 hro l Bs J W hc' h0).mono fun e W' ⟨he, hj⟩ => ⟨he, .inl ⟨_, rfl, hj⟩⟩
  · refine (rvalues1_in F n h7 hro hn l Bs n₀ b off zs.length cap zs hreach hb J Jx hY W hJ (Nat.le_trans hn₀ hW.size) hc' hcs h0).mono ?_
    rintro e W' ⟨he, ⟨ys, rfl, hj⟩ | ⟨pre, ⟨k, hk, rfl⟩, hj⟩⟩
    · exact ⟨he, .inl ⟨_, by rw [uptoR_take zs (Nat.le_refl _), List.take_length], hj⟩⟩
    · exact ⟨he, .inr ⟨_, by rw [uptoR_take zs hk]; exact List.take_prefix _ _, hj⟩⟩
/-- The law's 'seq'. -/
theorem rseq_any (a : Option Addr) (len cap : Nat) (w : World) : Calls Try.prog 17 #[.slice a len cap] w fun e w' => e = .returned (.func (.func 88) #[] #[.pointer (some ⟨w.heap.size, 0, none⟩)]) ∧ w' = w.alloc (.cells #[.slice a len cap] 22) := by
  go_enter Try.func17, Try.ntmps17
  go_wp2_with (go_at_call 65; refine ((callsIn_wide (n := 1)).1 (rvalues_in Fence.wide 1 trivial rfl a len cap _)).mono ?_; rintro e w1 ⟨rfl, rfl⟩)
  go_ret
  exact ⟨rfl, rfl⟩
end Go.Proofs.Ytldiginkmmlojaa
