/- Merging: the reference: put. -/
import Derived.Test.YtldiginkmmlojaaMeK
import Derived.Test.YtldiginkmmlojaaMfP
namespace Go.Proofs.Ytldiginkmmlojaa
set_option linter.unusedVariables false
set_option linter.unusedSimpArgs false
open Go.RowKit Go.Proofs.YtldiginkmmlojaaW.PrintWords

set_option maxRecDepth 100000 in
set_option maxHeartbeats 4000000 in
theorem put25_any (A : Option Addr) (c b : Nat) (ok : Nat → Prop) (l : List Int) (x : Int) (w : World) (hR : Kd.R (Kd.int .i64) 3 w b ok (.slice A l.length c) l) (hb0 : b ≤ w.heap.size) (hl : l.length ≤ 100000) (hv : ∀ y ∈ l, 0 ≤ y ∧ y ≤ 1000000) (hx : 0 ≤ x ∧ x ≤ 1000000) :
    Calls Try.prog 70 #[.slice A l.length c, .int .i64 x] w fun e w' => ∃ A' c', e = .returned (.slice A' (putT l x).length c') ∧ Kd.R (Kd.int .i64) 3 w' b (fun _ => True) (.slice A' (putT l x).length c') (putT l x) ∧ Below w.heap.size w w' := by
  obtain ⟨x0, x1⟩ := hx
  have HR := Aside0.mk hR
  have HC := Aside0.mk (C_own hR)
  have HV := Aside0.mk hv
  have HB0 := Aside0.mk hb0
  clear hR hv hb0
  go_enter Try.func70, Try.ntmps70
  go_wp2_with fail
  go_loopg [5, 6, 7] l.length (fun q v5 v6 v7 wr => ∃ (i n5 c5 : Nat) (A5 : Option Addr) (o : List Int) (d : Bool), v5 = .slice A5 n5 c5 ∧ v6 = .bool d ∧ v7 = .int .i64 (i : Int) ∧ i ≤ l.length ∧ o.length ≤ i + 1 ∧ Aside0 (d = bigT x (l.take i)) ∧ Aside0 (o = outT x (l.take i)) ∧ Aside0 (q = l.length - i) ∧ Aside0 (∀ y ∈ l.take i, y / 10 ≠ x / 10) ∧ Aside0 (Kd.R (Kd.int .i64) 3 wr w.heap.size (fun _ => True) (.slice A5 n5 c5) o) ∧ Aside0 (Below w.heap.size w wr))
  case atStart => exact ⟨0, 0, 0, none, [], false, rfl, rfl, rfl, Nat.zero_le _, Nat.zero_le _, ⟨rfl⟩, ⟨rfl⟩, ⟨rfl⟩, ⟨fun y hy => absurd hy (List.not_mem_nil)⟩, ⟨Kd.R_nil _ _ _ _ _⟩, ⟨Below.refl _ _⟩⟩
  case round =>
    obtain ⟨i, n5, c5, A5, o, d, rfl, rfl, rfl, hi, hol, HD, HO, hq, HNE, HA, HB⟩ := hrel
    by_cases hlt : i < l.length
    · obtain ⟨ad, rfl, r1⟩ := at_i64 (Kd.C_below HC.out HB.out) i hlt
      have hym : l.getD i 0 ∈ l := List.mem_of_getElem? (show l[i]? = some (l.getD i 0) by rw [List.getD_eq_getElem?_getD, List.getElem?_eq_getElem hlt]; rfl)
      have HYM := Aside0.mk hym
      have HRD := Aside0.mk (show ∀ W, Below w.heap.size w W → W.cell? (ad.add i) = some (.int .i64 (l.getD i 0)) from fun W h => by
        obtain ⟨ad', e', h'⟩ := at_i64 (Kd.C_below HC.out h) i hlt
        injection e' with e'
        subst e'
        exact h')
      obtain ⟨y0, y1⟩ := HV.out _ hym
      have HT := Aside0.mk (show l.take (i + 1) = l.take i ++ [l.getD i 0] by rw [List.take_succ_eq_append_getElem hlt]; simp [List.getD_eq_getElem?_getD, hlt])
      generalize hy : l.getD i 0 = y at *
      have HY := Aside0.mk hy
      clear hy hym
      have hsz := HB.out.size
      have hi0 : (0 : Int) ≤ (i : Int) := by omega
      have hi1 : (i : Int) < (l.length : Int) := by omega
      by_cases heq : y / 10 = x / 10
      · have d0 : (y / 10 == x / 10) = true := beq_iff_eq.mpr heq
        have HP := Aside0.mk (put_hit (n := x) HYM.out heq)
        go_wp2_with fail
        go_ret
        exact ⟨some ad, c, by rw [HP.out]; rfl, by rw [HP.out]; exact R_reok64 (Kd.R_below HR.out HB.out) (fun _ _ => trivial), HB.out⟩
      · have d0 : (y / 10 == x / 10) = false := beq_eq_false_iff_ne.mpr heq
        have HNX := Aside0.mk (show ∀ z ∈ l.take (i + 1), z / 10 ≠ x / 10 by
          rw [HT.out]
          intro z hz
          rcases List.mem_append.1 hz with h | h
          · exact HNE.out z h
          · rw [List.mem_singleton.1 h]; exact heq)
        have HSN := outT_snoc x y (l.take i)
        have HBN := big_snoc x y (l.take i)
        rw [← HT.out, ← HD.out, ← HO.out] at HSN
        rw [← HT.out, ← HD.out] at HBN
        clear heq
        cases d with
        | true =>
          have HS := Aside0.mk (show outT x (l.take (i + 1)) = o ++ [y] from HSN)
          have HBG := Aside0.mk (show bigT x (l.take (i + 1)) = true from HBN)
          clear HSN HBN
          go_wp2_with (at_builtin; refine Kd.R_append (Kd.int .i64) (w0 := w) w.heap.size rfl (.tmp 39) (.tmp 44) 70 3 (.int .i64 0) 8 rfl Try.underlying70 infoI64 rfl (by decide) (by omega) _ (o) (y) [.int .i64 (y)] (fun _ => True) (fun _ => False) rfl rfl rfl (fun _ h => h.elim) (fun _ _ => trivial) HA.out HB.out hsz (by (try simp only [List.length_append, List.length_cons, List.length_nil]); omega) ?_; intro v1 w1 h1 hb1 hg1 hat1; obtain ⟨A6, c6, rfl⟩ := Kd.R_slice h1; generalize hn9 : ((o) ++ [y]).length = n6 at h1 ⊢; have HN := Aside0.mk hn9; clear HA HB; have HA := Aside0.mk h1; have HB := Aside0.mk hb1; have hsz := hb1.size; clear h1 hb1 hg1 hat1 hn9)
          go_roundg (l.length - (i + 1))
          case measure => have := hq.out; omega
          case rel => exact ⟨i + 1, n6, c6, A6, _, true, rfl, rfl, by go_num, by omega, (by rw [List.length_append]; simp; omega), ⟨HBG.out.symm⟩, ⟨HS.out.symm⟩, ⟨rfl⟩, HNX, HA, HB⟩
        | false =>
          by_cases hbg : x / 10 < y / 10
          · have d2 : decide (x / 10 < y / 10) = true := decide_eq_true hbg
            have HS := Aside0.mk (show outT x (l.take (i + 1)) = (o ++ [x]) ++ [y] by rw [HSN, if_neg Bool.false_ne_true, if_pos hbg])
            have HBG := Aside0.mk (show bigT x (l.take (i + 1)) = true by rw [HBN, d2]; rfl)
            clear HSN HBN hbg
            have hox : (o ++ [x]).length ≤ 100002 := by rw [List.length_append]; simp; omega
            go_wp2_with (first | (at_builtin; refine Kd.R_append (Kd.int .i64) (w0 := w) w.heap.size rfl (.tmp 35) (.tmp 37) 70 3 (.int .i64 0) 8 rfl Try.underlying70 infoI64 rfl (by decide) (by omega) _ (o) (x) [.int .i64 (x)] (fun _ => True) (fun _ => False) rfl rfl rfl (fun _ h => h.elim) (fun _ _ => trivial) HA.out HB.out hsz (by (try simp only [List.length_append, List.length_cons, List.length_nil]); omega) ?_; intro v1 w1 h1 hb1 hg1 hat1; obtain ⟨A6, c6, rfl⟩ := Kd.R_slice h1; generalize hn9 : ((o) ++ [x]).length = n6 at h1 ⊢; have HN := Aside0.mk hn9; clear HA HB; have HA := Aside0.mk h1; have HB := Aside0.mk hb1; have hsz := hb1.size; clear h1 hb1 hg1 hat1 hn9; have r1 := HRD.out w1 HB.out) | (at_builtin; refine Kd.R_append (Kd.int .i64) (w0 := w) w.heap.size rfl (.tmp 39) (.tmp 44) 70 3 (.int .i64 0) 8 rfl Try.underlying70 infoI64 rfl (by decide) (by omega) _ (o ++ [x]) (y) [.int .i64 (y)] (fun _ => True) (fun _ => False) rfl rfl rfl (fun _ h => h.elim) (fun _ _ => trivial) HA.out HB.out hsz (by (try simp only [List.length_append, List.length_cons, List.length_nil]); omega) ?_; intro v1 w1 h1 hb1 hg1 hat1; obtain ⟨A7, c7, rfl⟩ := Kd.R_slice h1; generalize hn9 : ((o ++ [x]) ++ [y]).length = n7 at h1 ⊢; have HN := Aside0.mk hn9; clear HA HB; have HA := Aside0.mk h1; have HB := Aside0.mk hb1; have hsz := hb1.size; clear h1 hb1 hg1 hat1 hn9))
            go_roundg (l.length - (i + 1))
            case measure => have := hq.out; omega
            case rel => exact ⟨i + 1, n7, c7, A7, _, true, rfl, rfl, by go_num, by omega, (by
              have := outT_len x (l.take (i + 1))
              rw [HS.out, List.length_take] at this
              omega), ⟨HBG.out.symm⟩, ⟨HS.out.symm⟩, ⟨rfl⟩, HNX, HA, HB⟩
          · have d2 : decide (x / 10 < y / 10) = false := decide_eq_false hbg
            have HS := Aside0.mk (show outT x (l.take (i + 1)) = o ++ [y] by rw [HSN, if_neg Bool.false_ne_true, if_neg hbg])
            have HBG := Aside0.mk (show bigT x (l.take (i + 1)) = false by rw [HBN, d2]; rfl)
            clear HSN HBN hbg
            go_wp2_with (at_builtin; refine Kd.R_append (Kd.int .i64) (w0 := w) w.heap.size rfl (.tmp 39) (.tmp 44) 70 3 (.int .i64 0) 8 rfl Try.underlying70 infoI64 rfl (by decide) (by omega) _ (o) (y) [.int .i64 (y)] (fun _ => True) (fun _ => False) rfl rfl rfl (fun _ h => h.elim) (fun _ _ => trivial) HA.out HB.out hsz (by (try simp only [List.length_append, List.length_cons, List.length_nil]); omega) ?_; intro v1 w1 h1 hb1 hg1 hat1; obtain ⟨A6, c6, rfl⟩ := Kd.R_slice h1; generalize hn9 : ((o) ++ [y]).length = n6 at h1 ⊢; have HN := Aside0.mk hn9; clear HA HB; have HA := Aside0.mk h1; have HB := Aside0.mk hb1; have hsz := hb1.size; clear h1 hb1 hg1 hat1 hn9)
            go_roundg (l.length - (i + 1))
            case measure => have := hq.out; omega
            case rel => exact ⟨i + 1, n6, c6, A6, _, false, rfl, rfl, by go_num, by omega, (by rw [List.length_append]; simp; omega), ⟨HBG.out.symm⟩, ⟨HS.out.symm⟩, ⟨rfl⟩, HNX, HA, HB⟩
    · obtain rfl : i = l.length := by omega
      have HE0 := put_end (l := l) (n := x) (by have := HNE.out; rwa [List.take_length] at this)
      have h1 := HD.out
      have h2 := HO.out
      rw [List.take_length] at h1 h2
      rw [← h1, ← h2] at HE0
      have hsz := HB.out.size
      clear h1 h2
      cases d with
      | true =>
        have HE := Aside0.mk (show putT l x = o from HE0)
        clear HE0
        obtain ⟨A6, c6, e6⟩ := Kd.R_slice HA.out
        have HA6 := Aside0.mk (show Kd.R (Kd.int .i64) 3 wr w.heap.size (fun _ => True) (.slice A6 o.length c6) o by rw [← e6]; exact HA.out)
        injection e6 with e61 e62 e63
        subst e61 e62 e63
        go_wp2_with fail
        go_ret
        exact ⟨A5, c5, by rw [HE.out]; rfl, by rw [HE.out]; exact Kd.R_lower HA6.out HB0.out, HB.out⟩
      | false =>
        have HE := Aside0.mk (show putT l x = o ++ [x] from HE0)
        clear HE0
        go_wp2_with (at_builtin; refine Kd.R_append (Kd.int .i64) (w0 := w) w.heap.size rfl (.tmp 48) (.tmp 50) 70 3 (.int .i64 0) 8 rfl Try.underlying70 infoI64 rfl (by decide) (by omega) _ (o) (x) [.int .i64 (x)] (fun _ => True) (fun _ => False) rfl rfl rfl (fun _ h => h.elim) (fun _ _ => trivial) HA.out HB.out hsz (by (try simp only [List.length_append, List.length_cons, List.length_nil]); omega) ?_; intro v1 w1 h1 hb1 hg1 hat1; obtain ⟨A6, c6, rfl⟩ := Kd.R_slice h1; generalize hn9 : ((o) ++ [x]).length = n6 at h1 ⊢; have HN := Aside0.mk hn9; clear HA HB; have HA := Aside0.mk h1; have HB := Aside0.mk hb1; have hsz := hb1.size; clear h1 hb1 hg1 hat1 hn9)
        go_ret
        exact ⟨A6, c6, by rw [HE.out, HN.out]; rfl, by rw [HE.out, HN.out]; exact Kd.R_lower HA.out HB0.out, HB.out⟩
end Go.Proofs.Ytldiginkmmlojaa
