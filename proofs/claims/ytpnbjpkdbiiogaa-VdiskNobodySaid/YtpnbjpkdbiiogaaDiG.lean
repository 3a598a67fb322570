/- The reference's directory: Crash. -/
import Derived.Test.YtpnbjpkdbiiogaaDiF
namespace Go.Proofs.Ytpnbjpkdbiiogaa
set_option linter.unusedVariables false
open Go.RowKit Go.Proofs.YtpnbjpkdbiiogaaW.PrintWords
attribute [local go_sem] mx2 mn2 mxTwo mnTwo

/-- What a crash leaves, of the first i things. -/
def crashD (safe : List DN) (ops : List DOp) (keep : List Bool) : Nat → List DN
  | 0 => safe
  | i + 1 => if keep.getD i false then didL (crashD safe ops keep i) (ops.getD i zDop) else crashD safe ops keep i
theorem crashD_len (safe : List DN) (ops : List DOp) (kl : List Bool) : ∀ i, (crashD safe ops kl i).length ≤ safe.length + i
  | 0 => Nat.le_refl _
  | i + 1 => by
    have ih := crashD_len safe ops kl i
    unfold crashD
    split
    · have := didL_len (crashD safe ops kl i) (ops.getD i zDop); omega
    · omega
theorem crashD_end (safe : List DN) (ops : List DOp) (kl : List Bool) (n : Nat) (h : kl.length ≤ n) : ∀ i, n ≤ i → crashD safe ops kl i = crashD safe ops kl n
  | 0, hi => by rw [Nat.le_zero.1 hi]
  | i + 1, hi => by
    by_cases e : n = i + 1
    · rw [e]
    · have ih := crashD_end safe ops kl n h i (by omega)
      unfold crashD
      rw [if_neg (by rw [List.getD_eq_getElem?_getD, List.getElem?_eq_none (by omega)]; simp)]
      rw [ih]
      cases n with
      | zero => rfl
      | succ m => rfl
set_option maxHeartbeats 1000000 in
set_option maxRecDepth 100000 in
theorem rdcrash_any (b g : Nat) (vn vs vo : Value) (now safe : List DN) (ops : List DOp) (A : Option Addr) (n c : Nat) (kl : List Bool) (w : World) (h : RD w b g vn vs vo now safe ops) (hk : Kd.bool.C w A n kl) (hs : safe.length + ops.length ≤ 100000) :
    Calls Try.prog 96 #[.pointer (some ⟨g, 0, none⟩), .slice A n c] w fun e w' => ∃ g2 v, e = .returned (.pointer (some ⟨g2, 0, none⟩)) ∧ w.heap.size ≤ g2 ∧ RD w' b g2 v v (.slice none 0 0) (crashD safe ops kl ops.length) (crashD safe ops kl ops.length) [] ∧ Below w.heap.size w w' := by
  obtain rfl : kl.length = n := hk.1
  have hkm := Kd.C_max hk
  have hbw : b ≤ w.heap.size := Nat.le_trans h.hg (Nat.le_of_lt (blk_lt h.hb))
  obtain ⟨A1, c1, rfl⟩ := Kd.R_slice h.hs
  obtain ⟨A2, c2, rfl, _, hC2⟩ := Kd.R_reads h.ho
  have HS1 := Aside0.mk ((blk_cell h.hb 1).trans (rfl : _ = some (Value.slice A1 safe.length c1)))
  have HS2 := Aside0.mk ((blk_cell h.hb 2).trans (rfl : _ = some (Value.slice A2 ops.length c2)))
  have hs1 := HS1.out
  have HK := Aside0.mk hk
  have HC2 := Aside0.mk hC2
  have HSF := Aside0.mk h.hs
  have hol : ops.length ≤ 100000 := by omega
  have HLEN := Aside0.mk (show ∀ i, i ≤ ops.length → (crashD safe ops kl i).length ≤ 100000 from fun i hi => by have := crashD_len safe ops kl i; omega)
  clear h hk hC2 hs
  go_enter Try.func96, Try.ntmps96
  go_wp2
  go_loopg [5, 6] ops.length (fun q v5 v6 wr => ∃ i : Nat, v6 = .int .i64 (i : Int) ∧ i ≤ ops.length ∧ i ≤ kl.length ∧ Aside0 (q = ops.length - i) ∧ Aside0 (Kd.R kDN 156 wr b (fun _ => True) v5 (crashD safe ops kl i)) ∧ Aside0 (Below w.heap.size w wr))
  case atStart => exact ⟨0, rfl, Nat.zero_le _, Nat.zero_le _, ⟨rfl⟩, HSF, ⟨Below.refl _ _⟩⟩
  case round =>
    obtain ⟨i, rfl, hi, hik, hq, HC, HB⟩ := hrel
    have s2 := pw_cell_below HB.out HS2.out
    by_cases hlt : i < ops.length
    · by_cases hkl : i < kl.length
      · obtain ⟨ad2, e2, hkb0⟩ := at_bool HK.out i hkl
        subst e2
        have hkb := pw_cell_below HB.out hkb0
        clear hkb0
        cases hb : kl.getD i false with
        | false =>
          rw [hb] at hkb
          have HSTEP := Aside0.mk (show crashD safe ops kl (i + 1) = crashD safe ops kl i by show (if kl.getD i false = true then didL (crashD safe ops kl i) (ops.getD i zDop) else crashD safe ops kl i) = _; rw [hb]; rfl)
          clear hb
          go_wp2_with fail
          go_roundg (ops.length - (i + 1))
          case measure => have := hq.out; omega
          case rel => exact ⟨i + 1, by go_num, by omega, by omega, ⟨rfl⟩, ⟨by rw [HSTEP.out]; exact HC.out⟩, HB⟩
        | true =>
          rw [hb] at hkb
          obtain ⟨ad, e1, r1, r2, r3, r4⟩ := at_Dop (Kd.C_below HC2.out HB.out) i hlt
          subst e1
          obtain ⟨o, ho⟩ : ∃ o, o = ops.getD i zDop := ⟨_, rfl⟩
          have HSTEP := Aside0.mk (show crashD safe ops kl (i + 1) = didL (crashD safe ops kl i) ⟨o.kd, o.a, o.b, o.id⟩ by show (if kl.getD i false = true then didL (crashD safe ops kl i) (ops.getD i zDop) else crashD safe ops kl i) = _; rw [hb, ← ho]; rfl)
          rw [← ho] at r1 r2 r3 r4
          have hl9 := HLEN.out i hi
          obtain ⟨L, hL⟩ : ∃ L, L = crashD safe ops kl i := ⟨_, rfl⟩
          rw [← hL] at HC HSTEP hl9
          clear hb ho hL
          obtain ⟨A5, c5, hu⟩ := Kd.R_slice HC.out
          subst hu
          go_wp2_with (go_at_call 112; refine (did_any b A5 L.length c5 L o.kd o.a o.b o.id _ HC.out (Nat.le_trans hbw HB.out.size) hl9).mono ?_; rintro e w5 ⟨v5, rfl, hv, hb5⟩; obtain ⟨A6, c6, rfl⟩ := Kd.R_slice hv; have HV := Aside0.mk hv; have HB5 := Aside0.mk (below_step HB.out hb5); clear hv hb5)
          go_roundg (ops.length - (i + 1))
          case measure => have := hq.out; omega
          case rel => exact ⟨i + 1, by go_num, by omega, by omega, ⟨rfl⟩, ⟨by rw [HSTEP.out]; exact HV.out⟩, HB5⟩
      · have HE := Aside0.mk (crashD_end safe ops kl i (by omega) ops.length hi)
        obtain ⟨A5, c5, hu⟩ := Kd.R_slice HC.out
        subst hu
        go_wp2_with fail
        go_ret
        rw [HE.out]
        exact ⟨_, _, rfl, HB.out.size, ⟨blk_new _ _, Kd.R_alloc HC.out _, Kd.R_alloc HC.out _, Kd.R_nil _ _ _ _ _, Nat.le_trans hbw HB.out.size⟩, below_alloc HB.out _⟩
    · obtain rfl : i = ops.length := by omega
      obtain ⟨A5, c5, hu⟩ := Kd.R_slice HC.out
      subst hu
      go_wp2_with fail
      go_ret
      exact ⟨_, _, rfl, HB.out.size, ⟨blk_new _ _, Kd.R_alloc HC.out _, Kd.R_alloc HC.out _, Kd.R_nil _ _ _ _ _, Nat.le_trans hbw HB.out.size⟩, below_alloc HB.out _⟩
end Go.Proofs.Ytpnbjpkdbiiogaa
