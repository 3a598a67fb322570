/- A map's keys, one by one, in whatever order. -/
import Derived.Test.YtldiginkmmlojaaHiA
import Derived.Test.YtldiginkmmlojaaBoC
import Derived.Deep.Cut
import Derived.TacticsInMore
namespace Go.Proofs.Ytldiginkmmlojaa
set_option linter.unusedVariables false
set_option linter.unusedSimpArgs false
open Go.RowKit Go.Maps Go.Proofs.YtldiginkmmlojaaW.PrintWords

theorem keyOf_u64 {P : Program} {k : TypeId} (hk : P.underlying k = some (.int .u64)) {key : Value} {kl : Lit} (h : keyOf P k key = some kl) : ∃ x : Int, key = .int .u64 x ∧ kl = .int .u64 x ∧ (Lit.int .u64 x).wf = true := by
  cases key <;> simp [keyOf, hk, mapKey] at h
  rename_i q a
  obtain ⟨⟨rfl, hw⟩, rfl⟩ := h
  exact ⟨a, rfl, rfl, hw⟩
theorem invU : ∀ key kl, keyOf Try.prog 37 key = some kl → ∃ x : Int, key = Value.int .u64 x := by
  intro key kl h
  obtain ⟨x, hx, _, _⟩ := keyOf_u64 Try.underlying37 h
  exact ⟨x, hx⟩
theorem MR.move {w w1 : World} {P : Program} {k : TypeId} {b r n cnt : Nat} {f : Lit → Option Value} {left : Lit → Bool} (h : MR w P k b r n f left cnt) (e1 : w1.heap[b]? = w.heap[b]?) (e2 : w1.heap[r]? = w.heap[r]?) : MR w1 P k b r n f left cnt := by
  obtain ⟨D, ⟨es, clock, since, seen, c0, hb, F, hs, hD, hr, rest⟩, ht⟩ := h
  exact ⟨D, ⟨es, clock, since, seen, c0, e1.trans hb, F, hs, hD, e2.trans hr, rest⟩, ht⟩
theorem Unt.grown {B r : Nat} {R : Nat → Prop} {A C : World} (h : A.grownBy C (some r)) (hr : B ≤ r) (hR : ¬ R r) : Unt B R A C :=
  ⟨h.size, h.os, h.tape, h.output, fun q hq hx => h.block q hq (fun e => by injection e with e; subst e; exact hx.elim (fun h => by omega) hR)⟩
/-- What has come so far. -/
def Came (f : Lit → Option Value) (left : Lit → Bool) (pre : List Int) : Prop := pre.Nodup ∧ ∀ x, x ∈ pre ↔ ((f (.int .u64 x)).isSome = true ∧ left (.int .u64 x) = false)
theorem Came.start (f : Lit → Option Value) : Came f (fun q => (f q).isSome) [] := ⟨List.nodup_nil, fun x => ⟨fun h => absurd h (List.not_mem_nil), fun h => by have h1 := h.1; have h2 := h.2; simp only at h2; rw [h1] at h2; cases h2⟩⟩
theorem Came.step {f : Lit → Option Value} {left : Lit → Bool} {pre : List Int} (h : Came f left pre) {x : Int} (hl : left (.int .u64 x) = true) (hf : (f (.int .u64 x)).isSome = true) : Came f (fun z => left z && !z.sameKey (.int .u64 x)) (pre ++ [x]) := by
  have hnew : x ∉ pre := fun hx => by have := ((h.2 x).1 hx).2; rw [hl] at this; cases this
  refine ⟨List.nodup_append.2 ⟨h.1, by simp, fun a ha b hb => by simp at hb; subst hb; exact fun e => hnew (e ▸ ha)⟩, fun y => ?_⟩
  by_cases hy : y = x
  · subst hy; simp [hf, Lit.sameKey]
  · simp [h.2 y, hy, Lit.sameKey]
theorem Came.perm {f : Lit → Option Value} {left : Lit → Bool} {pre ks : List Int} (h : Came f left pre) (hl : ∀ kl, left kl = false) (hk : ks.Nodup) (hks : ∀ x, x ∈ ks ↔ (f (.int .u64 x)).isSome = true) : pre.Perm ks :=
  (List.perm_ext_iff_of_nodup h.1 hk).2 fun x => by rw [h.2 x, hl, hks x]; simp
set_option maxHeartbeats 4000000 in
set_option maxRecDepth 100000 in
theorem keys64_seq (n bm m nn : Nat) (f : Lit → Option Value) (ks : List Int) (w0 : World) (hbm : w0.cell? ⟨bm, 0, none⟩ = some (.map (some m))) (hM : MV w0 Try.prog 37 m nn f) (hk : ks.Nodup) (hks : ∀ x, x ∈ ks ↔ (f (.int .u64 x)).isSome = true) :
    SeqD Fence.wide n Try.prog 91 #[.pointer (some ⟨bm, 0, none⟩)] (Value.int .u64) ks nn w0.heap.size w0 := by
  intro l J W hW hN hJ hY h0
  refine callsIn_wide.2 ?_
  have b0 := pw_cell_below hW hbm
  have HM := Aside0.mk (hM.below hW)
  have HML := Aside0.mk (show m < w0.heap.size from hM.lt)
  have HJ := Aside0.mk hJ
  have HY := Aside0.mk hY
  have H0 := Aside0.mk h0
  have HK := Aside0.mk hk
  have HKS := Aside0.mk hks
  clear hM hJ hY h0 hk hks hbm
  obtain ⟨r, hr⟩ : ∃ r, r = W.heap.size := ⟨_, rfl⟩
  go_enter Try.func91, Try.ntmps91
  go_wp2_with (at_range; refine mv_range rfl _ 119 rfl 37 3 lawU Try.underlying119 m nn f rfl HM.out ?_; intro w2 cnt hcnt hrg hg0 hs0)
  go_frame
  have hbw : Below W.heap.size W w2 := ⟨hg0.os, hg0.tape, hg0.output, hg0.size, fun i hi => hg0.block i hi (by simp)⟩
  rw [← hr] at hrg hs0 ⊢
  have HRG := Aside0.mk hrg
  have HBW := Aside0.mk hbw
  have HJ0 := Aside0.mk (HJ.out _ _ _ _ H0.out (Unt.of_below hbw))
  have hNr : w0.heap.size ≤ r := by omega
  have HRE := Aside0.mk hr
  have HS0 := Aside0.mk hs0
  clear hrg hg0 hbw b0 hs0 H0 hr
  go_loopg [3] cnt (fun q v3 wr => ∃ (R : Nat → Prop) (left : Lit → Bool) (cn : Nat) (pre : List Int), Aside0 (q = cn) ∧ Aside0 (pre.length + cn ≤ nn) ∧ Aside0 (MR wr Try.prog 37 m r nn f left cn) ∧ Aside0 (Came f left pre) ∧ Aside0 (∀ q, R q → r < q) ∧ Aside0 (J R pre wr) ∧ Aside0 (r < wr.heap.size))
  case atStart => exact ⟨_, _, cnt, [], ⟨rfl⟩, ⟨by simpa using hcnt⟩, HRG, ⟨Came.start f⟩, ⟨fun _ h => h.elim⟩, HJ0, ⟨by have := HS0.out; omega⟩⟩
  case round =>
    clear HRG HBW HJ0 HS0
    obtain ⟨R, left, cn, pre, hq, HPL, HRG, HC, HRR, HJJ, HRS⟩ := hrel
    go_wp2_with (at_next; refine mv_next rfl _ rfl 37 lawU (fun x : Int => Value.int .u64 x) invU m r nn f left cn rfl HRG.out ?_ ?_)
    · intro hl0
      have HF := Aside0.mk (HC.out.perm hl0 HK.out HKS.out)
      clear hl0
      go_wp2_with fail
      first | go_end0 | ((try simp only [Exit.inBlock, Exit.then]); refine bodyPost_ret (results_none rfl _ _ _) rfl ?_)
      exact ⟨⟨_, rfl⟩, R, pre, fun q hq => by have := HRR.out q hq; have := HRE.out; omega, HF.out, HJJ.out⟩
    · intro x v kq w3 cnt3 hkq hlk hfv hrg3 hlt3 hg3 hs3 hen
      obtain ⟨x', hx', hkx, _⟩ := keyOf_u64 Try.underlying37 hkq
      have hxx : x = x' := by injection hx'
      subst hxx
      subst hkx
      have hfs : (f (.int .u64 x)).isSome = true := by rw [hfv]; rfl
      have hnr : ¬ R r := fun h => Nat.lt_irrefl _ (HRR.out r h)
      have HC2 := Aside0.mk (HC.out.step hlk hfs)
      have HJ3 := HJ.out _ _ _ _ HJJ.out (Unt.grown hg3 (show W.heap.size ≤ r by have := HRE.out; omega) hnr)
      have hsz3 : r < w3.heap.size := by have := HRS.out; omega
      obtain ⟨fn, tmps, assign, body, hy, hRd⟩ := HY.out R pre w3 x ((HKS.out x).2 hfs) (by have := HPL.out; omega) HJ3 (fun q hq => by have := HRR.out q hq; have := HRE.out; omega) (by have := HRE.out; omega)
      have HRY := Aside0.mk hRd
      have HRG3 := Aside0.mk hrg3
      have HS3 := Aside0.mk hsz3
      have HLT := Aside0.mk hlt3
      clear hkq hfv hrg3 hg3 hlk hx' HJ3 hRd hfs hsz3 hs3 hlt3
      go_upto_region 3 with (fail)
      refine (wpIn_wide (n := n)).1 ?_
      gi_wp2
      refine ⟨fun h => by simp [Fence.wide] at h, HRY.out.mono ?_⟩
      rintro e C ⟨R', hfr, rfl, hj⟩
      have HRG4 := Aside0.mk (HRG3.out.move (hfr.low.block m HML.out) (hfr.own r HS3.out (by have := HRE.out; omega) hnr))
      have HJ4 := Aside0.mk hj
      have HR4 := Aside0.mk (show ∀ q, R' q → r < q from fun q hq => (hfr.new q hq).elim (HRR.out q) (fun h => by have := HS3.out; omega))
      have HS4 := Aside0.mk (show r < C.heap.size from Nat.lt_of_lt_of_le HS3.out hfr.low.size)
      clear hfr hj HRY hy
      gi_wp2
      go_wp2_with fail
      go_roundg cnt3
      case measure => have := hq.out; have := HLT.out; omega
      case rel => exact ⟨R', _, cnt3, pre ++ [x], ⟨rfl⟩, ⟨by have := HPL.out; have := HLT.out; rw [List.length_append]; simp; omega⟩, HRG4, HC2, HR4, HJ4, HS4⟩
theorem keys64_value (m : Nat) (w : World) : Calls Try.prog 80 #[.map (some m)] w fun e w' => e = .returned (.func (.func 91) #[] #[.pointer (some ⟨w.heap.size, 0, none⟩)]) ∧ w' = w.alloc (.cells #[.map (some m)] 119) := by
  go_enter Try.func80, Try.ntmps80
  go_wp2
  go_ret
  exact ⟨rfl, rfl⟩
end Go.Proofs.Ytldiginkmmlojaa
