/- Merging: alike numbers; a copy; what All, Filter, Some hand back; the question. -/
import Derived.Test.YtldiginkmmlojaaMeH
namespace Go.Proofs.Ytldiginkmmlojaa
set_option linter.unusedVariables false
set_option linter.unusedSimpArgs false
open Go.RowKit Go.Proofs.YtldiginkmmlojaaW.PrintWords
attribute [local go_sem] mx2 mn2 mxTwo mnTwo

set_option maxHeartbeats 1000000 in
theorem same_any (A0 A1 : Option Addr) (n m c0 c1 : Nat) (l : List Int) (w : World) (h0 : (Kd.int .i64).C w A0 n l) (h1 : (Kd.int .i64).C w A1 m l) :
    Calls Try.prog 40 #[.slice A0 n c0, .slice A1 m c1] w fun e w' => e = .returned (.bool true) ∧ Below w.heap.size w w' := by
  obtain rfl : l.length = n := h0.1
  obtain rfl : l.length = m := h1.1
  have hm := Kd.C_max h0
  have H0 := Aside0.mk h0
  have H1 := Aside0.mk h1
  clear h0 h1
  go_enter Try.func40, Try.ntmps40
  go_wp2
  go_loopg [5] l.length (fun q v5 wr => ∃ i : Nat, v5 = .int .i64 (i : Int) ∧ i ≤ l.length ∧ Aside0 (q = l.length - i) ∧ Aside0 (Below w.heap.size w wr))
  case atStart => exact ⟨0, rfl, Nat.zero_le _, ⟨rfl⟩, ⟨Below.refl _ _⟩⟩
  case round =>
    obtain ⟨i, rfl, hi, hq, HB⟩ := hrel
    by_cases hlt : i < l.length
    · obtain ⟨ad, rfl, r1⟩ := at_i64 H0.out i hlt
      obtain ⟨ad2, rfl, r2⟩ := at_i64 H1.out i hlt
      obtain ⟨s, hs⟩ : ∃ s, s = l.getD i 0 := ⟨_, rfl⟩
      rw [← hs] at r1 r2
      replace r1 := pw_cell_below HB.out r1
      replace r2 := pw_cell_below HB.out r2
      clear hs
      go_wp2_with fail
      go_quiet (fail)
      go_wp2_with fail
      go_roundg (l.length - (i + 1))
      case measure => have := hq.out; omega
      case rel => exact ⟨i + 1, by go_num, by omega, ⟨rfl⟩, ⟨pw_below_drewN HB.out _⟩⟩
    · go_wp2_with fail
      go_ret
      exact ⟨rfl, HB.out⟩
set_option maxRecDepth 100000 in
set_option maxHeartbeats 1000000 in
theorem clone25_any (A : Option Addr) (c : Nat) (l : List Int) (w : World) (h : (Kd.int .i64).C w A l.length l) (hl : l.length ≤ 1000000) :
    Calls Try.prog 69 #[.slice A l.length c] w fun e w' => ∃ v, e = .returned v ∧ Kd.R (Kd.int .i64) 3 w' w.heap.size (fun _ => True) v l ∧ Below w.heap.size w w' := by
  have q22 : ∀ (w : World) (a : Option Addr) (n c n' c' : Nat), (binOp .eql 70 (.slice a n c) (.slice none n' c')).run Try.prog w = .ok (.bool a.isNone) w := fun w a n c n' c' => Lib.run_eql_slice_nil w _ _ a n c n' c' Try.underlying70
  cases A with
  | none =>
    have hl0 : l.length = 0 := by
      rcases Nat.eq_zero_or_pos l.length with h0 | h0
      · exact h0
      · obtain ⟨ad, e, _⟩ := at_i64 h 0 h0
        cases e
    have hln := List.eq_nil_of_length_eq_zero hl0
    subst hln
    go_enter Try.func69, Try.ntmps69
    go_wp2
    go_ret
    exact ⟨_, rfl, Kd.R_nil _ _ _ _ _, Below.refl _ _⟩
  | some ad =>
    have HC := Aside0.mk h
    clear h
    go_enter Try.func69, Try.ntmps69
    go_wp2_with (at_builtin; refine Kd.R_append_rows (Kd.int .i64) (Rr := (Kd.int .i64).K w) (w0 := w) w.heap.size rfl (.tmp 5) (.tmp 6) 70 3 (.int .i64 0) 8 rfl Try.underlying70 infoI64 rfl (by decide) (by omega) _ [] l (some ad) l.length c (fun _ => True) (fun _ => False) rfl rfl (R_empty _ _ _ _ _ trivial) (Kd.C_alloc HC.out _) (fun _ _ h => h) (fun _ h => h.elim) (fun _ _ => trivial) (below_alloc (Below.refl _ _) _) (by simp) (by simp; omega) ?_; intro v1 w1 h1 hb1 _ _; rw [List.nil_append] at h1; obtain ⟨A1, c1, rfl, hc1, _⟩ := Kd.R_reads h1; have HV := Aside0.mk h1; have HB := Aside0.mk hb1; clear h1 hb1)
    go_ret
    exact ⟨_, rfl, HV.out, HB.out⟩
theorem all_value (g : Nat) (w : World) : Calls Try.prog 42 #[.pointer (some ⟨g, 0, none⟩)] w fun e w' => e = .returned (.func (.func 71) #[] #[.pointer (some ⟨w.heap.size, 0, none⟩)]) ∧ w' = w.alloc (.cells #[.pointer (some ⟨g, 0, none⟩)] 67) := by
  go_enter Try.func42, Try.ntmps42
  go_wp2
  go_ret
  exact ⟨rfl, rfl⟩
theorem filter_value (u v : Value) (w : World) (hu : u.oneCell' = true) (hv : v.oneCell' = true) (f1 f2 : FuncId) (l1 l2 : Array Value) (e1 : u = .func (.func f1) #[] l1) (e2 : v = .func (.func f2) #[] l2) : Calls Try.prog 51 #[u, v] w fun e w' => e = .returned (.func (.func 77) #[] #[.pointer (some ⟨w.heap.size, 0, none⟩), .pointer (some ⟨w.heap.size + 1, 0, none⟩)]) ∧ w' = (w.alloc (.cells #[u] 75)).alloc (.cells #[v] 61) := by
  subst e1 e2
  go_enter Try.func51, Try.ntmps51
  go_wp2
  go_ret
  exact ⟨rfl, rfl⟩
theorem some_value (m : Int) (f1 : FuncId) (l1 : Array Value) (w : World) : Calls Try.prog 53 #[.func (.func f1) #[] l1, .int .i64 m] w fun e w' => e = .returned (.func (.func 78) #[] #[.pointer (some ⟨w.heap.size + 1, 0, none⟩), .pointer (some ⟨w.heap.size, 0, none⟩)]) ∧ w' = (w.alloc (.cells #[.func (.func f1) #[] l1] 75)).alloc (.cells #[.int .i64 m] 3) := by
  go_enter Try.func53, Try.ntmps53
  go_wp2
  go_ret
  exact ⟨rfl, rfl⟩
/-- The question: is the last figure divided by one more than by? -/
def pB (b x : Int) : Bool := x % 10 % (1 + b) == 0
theorem ask_any (q : Nat) (b x : Int) (w : World) (hb : w.cell? ⟨q, 0, none⟩ = some (.int .u8 b)) (b0 : 0 ≤ b) (b1 : b ≤ 255) (x0 : 0 ≤ x) (x1 : x ≤ 1000000) : Calls Try.prog 52 #[.int .i64 x, .pointer (some ⟨q, 0, none⟩)] w fun e w' => e = .returned (.bool (pB b x)) ∧ w' = w := by
  go_enter Try.func52, Try.ntmps52
  go_wp2
  go_ret
  exact ⟨rfl, rfl⟩
end Go.Proofs.Ytldiginkmmlojaa
