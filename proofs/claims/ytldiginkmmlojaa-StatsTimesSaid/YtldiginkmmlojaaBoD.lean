/- Entries in rows; the reference's Gaps. -/
import Derived.Test.YtldiginkmmlojaaStC
import Derived.Test.YtldiginkmmlojaaBoQ
import Derived.Test.YtldiginkmmlojaaBoS
namespace Go.Proofs.Ytldiginkmmlojaa
set_option linter.unusedVariables false
open Go.RowKit Go.Proofs.YtldiginkmmlojaaW.PrintWords
attribute [local go_sem] mx2 mn2 mxTwo mnTwo

def kRec : Kd RecW := Kd.iso (Kd.pair (Kd.int .u64) (Kd.pair (Kd.int .u64) (Kd.pair (Kd.int .u64) (Kd.pair (Kd.int .u64) (Kd.scalar (fun s : Option Addr × Nat × Nat => Value.slice s.1 s.2.1 s.2.2) (fun _ => rfl)))))) (fun x : RecW => (x.1.seq, x.1.real, x.1.mono, x.1.boot, (x.1.A, x.1.n, x.1.c)))
theorem kRec_mkM (w : World) (base : Nat) (ok : Nat → Prop) (x : RecW) : kRec.M w base ok x [.int .u64 x.1.seq, .int .u64 x.1.real, .int .u64 x.1.mono, .int .u64 x.1.boot, .slice x.1.A x.1.n x.1.c] :=
  ⟨[.int .u64 x.1.seq], [.int .u64 x.1.real, .int .u64 x.1.mono, .int .u64 x.1.boot, .slice x.1.A x.1.n x.1.c], rfl, rfl, ⟨[.int .u64 x.1.real], [.int .u64 x.1.mono, .int .u64 x.1.boot, .slice x.1.A x.1.n x.1.c], rfl, rfl, ⟨[.int .u64 x.1.mono], [.int .u64 x.1.boot, .slice x.1.A x.1.n x.1.c], rfl, rfl, ⟨[.int .u64 x.1.boot], [.slice x.1.A x.1.n x.1.c], rfl, rfl, rfl⟩⟩⟩⟩
theorem infoRec5 : (Try.prog.info? 47).map (fun i => (i.zero, i.size, i.bytes)) = some (some (.agg #[.int .u64 0, .int .u64 0, .int .u64 0, .int .u64 0, .slice none 0 0]), 5, 56) := by kernel_rfl
theorem infoU64' : (Try.prog.info? 37).map (fun i => (i.zero, i.size, i.bytes)) = some (some (.int .u64 0), 1, 8) := by kernel_rfl
theorem at_Rec {w : World} {A : Option Addr} {n : Nat} {xs : List RecW} (h : Kd.C kRec w A n xs) (i : Nat) (h1 : i < n) : ∃ ad, A = some ad ∧ RecAt w (ad.add (i * 5)) (xs.getD i zRecW).1 := by
  obtain ⟨ad, c, e, _, hK, hc0⟩ := Kd.C_get h zRecW (i : Int) (by omega) (by omega)
  simp only [Int.toNat_natCast] at hK hc0
  have hc : ∀ j u, c[j]? = some u → w.cell? (ad.add (i * 5 + j)) = some u := hc0
  obtain ⟨_, _, rfl, rfl, ⟨_, _, rfl, rfl, ⟨_, _, rfl, rfl, ⟨_, _, rfl, rfl, rfl⟩⟩⟩⟩ := hK
  exact ⟨ad, e, hc 0 _ rfl, by rw [← add_field _ _ 1 (by omega)]; exact hc 1 _ rfl, by rw [← add_field _ _ 2 (by omega)]; exact hc 2 _ rfl, by rw [← add_field _ _ 3 (by omega)]; exact hc 3 _ rfl, by rw [← add_field _ _ 4 (by omega)]; exact hc 4 _ rfl⟩
set_option maxHeartbeats 1000000 in
set_option maxRecDepth 100000 in
theorem rgaps_any (A : Option Addr) (c : Nat) (zs : List RecW) (w : World) (hr : Kd.C kRec w A zs.length zs) (hn : zs.length ≤ 1000) : Calls Try.prog 21 #[.slice A zs.length c] w fun e w' => ∃ v, e = .returned v ∧ Kd.R (Kd.int .u64) 37 w' w.heap.size (fun _ => True) v (gapK zs (zs.length - 1)) ∧ Below w.heap.size w w' := by
  have HR := Aside0.mk hr
  have hlen : (0 : Int) ≤ zs.length := by omega
  clear hr
  go_enter Try.func21, Try.ntmps21
  go_wp2
  go_loopg [3, 4] zs.length (fun g v3 v4 wr => ∃ (i m : Nat) (A3 : Option Addr) (c3 : Nat), v3 = .slice A3 m c3 ∧ v4 = .int .i64 ((i + 1 : Nat) : Int) ∧ (i + 1 ≤ zs.length ∨ i = 0) ∧ m ≤ i ∧ Aside0 (g = zs.length - i) ∧ Aside0 (Kd.R (Kd.int .u64) 37 wr w.heap.size (fun _ => True) (.slice A3 m c3) (gapK zs i)) ∧ Aside0 (Below w.heap.size w wr))
  case atStart => exact ⟨0, 0, none, 0, rfl, rfl, .inr rfl, Nat.le_refl _, ⟨rfl⟩, ⟨Kd.R_nil _ _ _ _ _⟩, ⟨Below.refl _ _⟩⟩
  case round =>
    obtain ⟨i, m, A3, c3, rfl, rfl, hi, hm, hg, HO, HB⟩ := hrel
    by_cases hlt : i + 1 < zs.length
    · obtain ⟨ad, rfl, s0, _⟩ := at_Rec (Kd.C_below HR.out HB.out) i (by omega)
      obtain ⟨ad', e', s1, _⟩ := at_Rec (Kd.C_below HR.out HB.out) (i + 1) hlt
      obtain rfl : ad = ad' := by injection e'
      clear e'
      have HG := Aside0.mk (gapK_succ zs i)
      obtain ⟨a, ha⟩ : ∃ a, a = sq zs i := ⟨_, rfl⟩
      obtain ⟨b, hb⟩ : ∃ b, b = sq zs (i + 1) := ⟨_, rfl⟩
      rw [show (zs.getD i zRecW).1.seq = a from ha.symm] at s0
      rw [show (zs.getD (i + 1) zRecW).1.seq = b from hb.symm] at s1
      rw [← ha, ← hb] at HG
      clear ha hb
      by_cases he : b = IntKind.u64.wrap (a + 1)
      · have hd : (b != IntKind.u64.wrap (a + 1)) = false := bne_eq_false_iff_eq.mpr he
        have HE := Aside0.mk he
        clear he
        go_wp2
        go_quiet (fail)
        go_wp2_with fail
        go_roundg (zs.length - (i + 1))
        case measure => have := hg.out; omega
        case rel => exact ⟨i + 1, m, A3, c3, rfl, by go_num, .inl (by omega), by omega, ⟨rfl⟩, ⟨by rw [HG.out, if_pos HE.out]; exact Kd.R_drewN HO.out _⟩, ⟨pw_below_drewN HB.out _⟩⟩
      · have hd : (b != IntKind.u64.wrap (a + 1)) = true := bne_iff_ne.mpr he
        have HE := Aside0.mk he
        clear he
        go_wp2
        go_quiet (fail)
        go_wp2_with (at_builtin; refine Kd.R_append (Kd.int .u64) (w0 := w) w.heap.size rfl (.tmp 24) (.tmp 31) 34 37 (.int .u64 0) 8 rfl Try.underlying34 infoU64' rfl (by decide) (by omega) (.slice A3 m c3) (gapK zs i) a [.int .u64 a] (fun _ => True) (fun _ => False) rfl rfl rfl (fun _ h => h.elim) (fun _ _ => trivial) (Kd.R_drewN HO.out _) (pw_below_drewN HB.out _) (below_size (pw_below_drewN HB.out _)) (by have := (Kd.R_reads' HO.out).1; omega) ?_; intro v1 w1 h1 hb1 _ _; rw [show gapK zs i ++ [a] = gapK zs (i + 1) by rw [HG.out, if_neg HE.out]] at h1; obtain ⟨A4, c4, e4⟩ := Kd.R_slice h1; subst e4; have HO2 := Aside0.mk h1; have HB2 := Aside0.mk hb1; clear h1 hb1)
        go_roundg (zs.length - (i + 1))
        case measure => have := hg.out; omega
        case rel => exact ⟨i + 1, _, A4, c4, rfl, by go_num, .inl (by omega), (by rw [HG.out, if_neg HE.out, List.length_append, List.length_singleton]; have := (Kd.R_reads' HO.out).1; omega), ⟨rfl⟩, HO2, HB2⟩
    · have hk : i = zs.length - 1 := by omega
      go_wp2_with fail
      go_ret
      exact ⟨_, rfl, by rw [← hk]; exact HO.out, HB.out⟩
end Go.Proofs.Ytldiginkmmlojaa
