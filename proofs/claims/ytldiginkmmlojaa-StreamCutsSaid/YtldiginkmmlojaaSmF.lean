/- Streams: the reference's Lines and Close; the law's same. -/
import Derived.Test.YtldiginkmmlojaaSmE
namespace Go.Proofs.Ytldiginkmmlojaa
set_option linter.unusedVariables false
open Go.RowKit Go.Proofs.YtldiginkmmlojaaW.PrintWords
attribute [local go_sem] mx2 mn2 mxTwo mnTwo

set_option maxHeartbeats 1000000 in
set_option maxRecDepth 100000 in
theorem same37_any (A0 A1 : Option Addr) (n c0 c1 : Nat) (l : List Ln) (w : World) (h0 : Kd.C kLn w A0 n l) (h1 : Kd.C kLn w A1 n l) :
    Calls Try.prog 47 #[.slice A0 n c0, .slice A1 n c1] w fun e w' => e = .returned (.bool true) ∧ ∃ m, w' = w.drewN m := by
  have hn := Kd.C_max h0
  have H0 := Aside0.mk h0
  have H1 := Aside0.mk h1
  clear h0 h1
  go_enter Try.func47, Try.ntmps47
  go_wp2
  go_loopg [5] n (fun g v5 wr => ∃ k : Nat, v5 = .int .i64 (k : Int) ∧ k ≤ n ∧ Aside0 (g = n - k) ∧ ∃ m, wr = w.drewN m)
  case atStart => exact ⟨0, rfl, Nat.zero_le _, ⟨rfl⟩, 0, rfl⟩
  case round =>
    obtain ⟨k, rfl, hk, hg, m, hwr⟩ := hrel
    have H0' := Aside0.mk (show Kd.C kLn wr A0 n l by rw [hwr]; exact Kd.C_drewN H0.out m)
    have H1' := Aside0.mk (show Kd.C kLn wr A1 n l by rw [hwr]; exact Kd.C_drewN H1.out m)
    have HW := Aside0.mk hwr
    clear hwr
    by_cases hlt : k < n
    · obtain ⟨ad0, rfl, x0, y0⟩ := at_Ln H0'.out k hlt
      obtain ⟨ad1, rfl, x1, y1⟩ := at_Ln H1'.out k hlt
      obtain ⟨p, hp⟩ : ∃ p, p = l.getD k zLn := ⟨_, rfl⟩
      rw [← hp] at x0 x1 y0 y1
      clear hp
      go_wp2
      go_quiet (fail)
      go_wp2_with fail
      go_roundg (n - (k + 1))
      case measure => have := hg.out; omega
      case rel => exact ⟨k + 1, by go_num, by omega, ⟨rfl⟩, _, by rw [HW.out, World.drewN_drewN]⟩
    · go_wp2
      go_ret
      exact ⟨rfl, m, HW.out⟩

theorem C_line133 (W : World) (x : Ln) : Kd.C kLn (W.alloc (.cells #[.string x.t, .int .i64 x.e] 133)) (some ⟨W.heap.size, 0, none⟩) 1 [x] := by
  refine ⟨rfl, by omega, fun _ => ⟨_, rfl, fun j p hj => ?_⟩⟩
  have hj0 : j = 0 := by
    have := (List.getElem?_eq_some_iff.1 hj).1
    simp at this
    omega
  subst hj0
  cases hj
  refine ⟨[.string x.t, .int .i64 x.e], rfl, ⟨[.string x.t], [.int .i64 x.e], rfl, rfl, rfl⟩, fun i u hu => ?_⟩
  have hn := blk_cell (blk_new W (.cells #[.string x.t, .int .i64 x.e] 133 (0, 0))) i
  rw [add_plain]
  rw [show 0 * kLn.sz + i = i by simp]
  refine hn.trans ?_
  simpa using hu
theorem rclose_any (r : List Int) (hl : ∀ x ∈ r, 0 ≤ x ∧ x ≤ 255) (hlen : r.length ≤ 1000000000) (w : World) : Calls Try.prog 50 #[.string (strOfNums r)] w fun e w' => ∃ A' c', e = .returned (.slice A' (closeL r).length c') ∧ Kd.C kLn w' A' (closeL r).length (closeL r) ∧ Below w.heap.size w w' := by
  have HL := Aside0.mk hl
  clear hl
  by_cases h0 : r = []
  · subst h0
    rw [show strOfNums [] = ⟨#[]⟩ from rfl]
    go_enter Try.func50, Try.ntmps50
    go_wp2
    go_ret
    exact ⟨none, 0, rfl, ⟨rfl, by simp [closeL], fun h => absurd h (by simp [closeL])⟩, Below.refl _ _⟩
  · have HE := Aside0.mk (show closeL r = [⟨strOfNums (trim r), 4⟩] by unfold closeL; rw [if_neg h0])
    obtain ⟨s, hs⟩ : ∃ s, s = strOfNums r := ⟨_, rfl⟩
    have HS := Aside0.mk hs
    have hne : s.toList.isEmpty = false := by
      rw [hs]
      have h1 : (strOfNums r).toList = r.map (fun n => UInt8.ofNat n.toNat) := by simp [strOfNums]
      rw [h1]
      cases r with
      | nil => exact absurd rfl h0
      | cons a t => rfl
    rw [← hs]
    clear hs h0
    go_enter Try.func50, Try.ntmps50
    go_wp2_with (go_at_call 75; rw [HS.out]; refine (rcut_any r HL.out hlen _).mono ?_; rintro e w1 ⟨rfl, rfl⟩)
    go_ret
    rw [HE.out]
    exact ⟨_, _, rfl, C_line133 w1 ⟨strOfNums (trim r), 4⟩, below_alloc (Below.refl _ _) _⟩
end Go.Proofs.Ytldiginkmmlojaa
