/- The law's rising; the reference's Boots. -/
import Derived.Test.YtldiginkmmlojaaBoD
import Derived.DataShut
namespace Go.Proofs.Ytldiginkmmlojaa
set_option linter.unusedVariables false
open Go.RowKit Go.Proofs.YtldiginkmmlojaaW.PrintWords
attribute [local go_sem] mx2 mn2 mxTwo mnTwo

/-- An entry with another number. -/
def withSeq (x : RecW) (n : Int) (h : (Lit.int .u64 n).wf = true) : RecW := ⟨⟨n, x.1.real, x.1.mono, x.1.boot, x.1.A, x.1.n, x.1.c⟩, h, x.2.2⟩
theorem wfU {n : Int} (h0 : 0 ≤ n) (h1 : n < 18446744073709551616) : (Lit.int .u64 n).wf = true := (Lit.wf_int_iff .u64 n).2 ⟨h0, by show n ≤ 18446744073709551615; omega⟩
theorem seq0 (x : RecW) : 0 ≤ x.1.seq := ((Lit.wf_int_iff .u64 _).1 x.2.1).1
set_option maxHeartbeats 1000000 in
set_option maxRecDepth 100000 in
theorem rising_any (A : Option Addr) (c : Nat) (zs : List RecW) (w : World) (hr : Kd.C kRec w A zs.length zs) (hn : zs.length ≤ 1000) : Calls Try.prog 15 #[.slice A zs.length c] w fun e w' => ∃ v zs', e = .returned v ∧ Kd.R kRec 47 w' w.heap.size (fun _ => True) v zs' ∧ zs'.length = zs.length ∧ Rises zs' (3 * zs.length) ∧ Below w.heap.size w w' := by
  have HR := Aside0.mk hr
  clear hr
  go_enter Try.func15, Try.ntmps15
  go_wp2
  go_loopg [3, 4, 5] zs.length (fun g v3 v4 v5 wr => ∃ (i : Nat) (A3 : Option Addr) (c3 : Nat) (n : Int) (zs' : List RecW), v3 = .slice A3 i c3 ∧ v4 = .int .u64 n ∧ v5 = .int .i64 (i : Nat) ∧ i ≤ zs.length ∧ 0 ≤ n ∧ n ≤ 3 * (i : Int) ∧ Aside0 (g = zs.length - i) ∧ Aside0 (zs'.length = i ∧ Rises zs' n) ∧ Aside0 (Kd.R kRec 47 wr w.heap.size (fun _ => True) (.slice A3 i c3) zs') ∧ Aside0 (Below w.heap.size w wr))
  case atStart => exact ⟨0, none, 0, 0, [], rfl, rfl, rfl, Nat.zero_le _, Int.le_refl _, by simp, ⟨rfl⟩, ⟨rfl, Rises.nil _⟩, ⟨Kd.R_nil _ _ _ _ _⟩, ⟨Below.refl _ _⟩⟩
  case round =>
    obtain ⟨i, A3, c3, n, zs', rfl, rfl, rfl, hi, hn0, hn1, hg, HZ, HO, HB⟩ := hrel
    by_cases hlt : i < zs.length
    · obtain ⟨ad, rfl, s0, s1, s2, s3, s4⟩ := at_Rec (Kd.C_below HR.out HB.out) i hlt
      obtain ⟨x, hx⟩ : ∃ x, x = zs.getD i zRecW := ⟨_, rfl⟩
      rw [← hx] at s0 s1 s2 s3 s4
      clear hx
      have ht0 := Int.tmod_nonneg 3 (seq0 x)
      have ht1 := Int.tmod_lt_of_pos x.1.seq (show (0 : Int) < 3 by decide)
      obtain ⟨N, hN⟩ : ∃ N, IntKind.u64.wrap (n + 1 + x.1.seq.tmod 3) = N := ⟨_, rfl⟩
      have hN2 : N = n + 1 + x.1.seq.tmod 3 := by rw [← hN]; exact wrapU (by omega) (by omega)
      have hNw : (Lit.int .u64 N).wf = true := wfU (by omega) (by omega)
      have hNn : n < N := by omega
      have hNm : N ≤ 3 * ((i + 1 : Nat) : Int) := by omega
      have HNW := Aside0.mk hNw
      have HNN := Aside0.mk hNn
      have HNM := Aside0.mk hNm
      clear hN2 ht0 ht1 hNw hNn hNm
      have HBW := Aside0.mk (below_alloc (Below.refl wr.heap.size wr) (.cells #[.int .u64 N, .int .u64 x.1.real, .int .u64 x.1.mono, .int .u64 x.1.boot, .slice x.1.A x.1.n x.1.c] 47))
      have HSZ := Aside0.mk (show (wr.alloc (.cells #[.int .u64 N, .int .u64 x.1.real, .int .u64 x.1.mono, .int .u64 x.1.boot, .slice x.1.A x.1.n x.1.c] 47)).heap.size = wr.heap.size + 1 by simp)
      go_wp2_with (at_builtin; refine Kd.R_append kRec (w0 := w) (W := wr.alloc (.cells #[.int .u64 N, .int .u64 x.1.real, .int .u64 x.1.mono, .int .u64 x.1.boot, .slice x.1.A x.1.n x.1.c] 47)) w.heap.size rfl (.tmp 25) (.tmp 27) 22 47 (.agg #[.int .u64 0, .int .u64 0, .int .u64 0, .int .u64 0, .slice none 0 0]) 56 rfl Try.underlying22 infoRec5 rfl (by decide) (by omega) (.slice A3 i c3) zs' (withSeq x N HNW.out) [.int .u64 N, .int .u64 x.1.real, .int .u64 x.1.mono, .int .u64 x.1.boot, .slice x.1.A x.1.n x.1.c] (fun _ => True) (fun _ => False) rfl (congrArg (fun s => Value.slice (some ⟨s, 0, none⟩) 1 1) HSZ.out.symm) (kRec_mkM _ _ _ (withSeq x N HNW.out)) (fun _ h => h.elim) (fun _ _ => trivial) (Kd.R_below HO.out HBW.out) (below_step HB.out HBW.out) (Nat.le_trans (below_size HB.out) HBW.out.size) (by have := HZ.out.1; omega) ?_; intro v1 w1 h1 hb1 _ _; obtain ⟨A4, c4, e4⟩ := Kd.R_slice h1; rw [List.length_append, List.length_singleton, HZ.out.1] at e4; subst e4; have HO2 := Aside0.mk h1; have HB2 := Aside0.mk hb1; clear h1 hb1)
      go_roundg (zs.length - (i + 1))
      case measure => have := hg.out; omega
      case rel => exact ⟨i + 1, A4, c4, N, zs' ++ [withSeq x N HNW.out], by go_num, by go_num, by go_num, by omega, by have := HNN.out; omega, HNM.out, ⟨rfl⟩, ⟨by rw [List.length_append, HZ.out.1]; rfl, HZ.out.2.snoc (x := withSeq x N HNW.out) HNN.out hn0⟩, HO2, HB2⟩
    · obtain rfl : i = zs.length := by omega
      go_wp2_with fail
      go_ret
      exact ⟨_, zs', rfl, HO.out, HZ.out.1, ⟨fun j hj => by have := HZ.out.2.1 j hj; omega, HZ.out.2.2⟩, HB.out⟩
end Go.Proofs.Ytldiginkmmlojaa
