/- Seat B: what its texts share (clones; small words), and what each call of the stamp and of its reference answers. -/
import Derived.Test.YtldiginkmmlojaaProg
import Derived.WalkKit
import Derived.WalkSpells
import Derived.Lib.Hide
import Derived.BigQuiet
import Derived.Deep.QuietTactic
import Derived.Deep.LoopGhost
import Derived.Deep.DeepCutAuto
import Derived.Deep.RegionLaw
import Derived.Deep.RegionHeld3
import Derived.Test.YtldiginkmmlojaaWWords
import Derived.Test.YtldiginkmmlojaaWApart
namespace Go.Proofs.Ytldiginkmmlojaa
set_option linter.unusedVariables false
open Go.RowKit Go.Proofs.YtldiginkmmlojaaW.PrintWords
theorem mx2 (k k' : IntKind) (x y : Int) : Builtin.max2 (.int k x) (.int k' y) = pure (.int k (if x < y then y else x)) := by simp only [Builtin.max2, gt_iff_lt]
theorem mn2 (k k' : IntKind) (x y : Int) : Builtin.min2 (.int k x) (.int k' y) = pure (.int k (if y < x then y else x)) := by simp only [Builtin.min2]
theorem mxTwo (ats : Array TypeId) (ty : TypeId) (a b : Value) : Builtin.max_ ats ty #[a, b] = (Builtin.max2 a b >>= fun s => pure s) := by simp only [Builtin.max_, List.foldlM_cons, List.foldlM_nil]
theorem mnTwo (ats : Array TypeId) (ty : TypeId) (a b : Value) : Builtin.min_ ats ty #[a, b] = (Builtin.min2 a b >>= fun s => pure s) := by simp only [Builtin.min_, List.foldlM_cons, List.foldlM_nil]
attribute [local go_sem] mx2 mn2 mxTwo mnTwo

theorem infoU8 : (Try.prog.info? 5).map (fun i => (i.zero, i.size, i.bytes)) = some (some (.int .u8 0), 1, 1) := by kernel_rfl
theorem infoInt : (Try.prog.info? 3).map (fun i => (i.zero, i.size, i.bytes)) = some (some (.int .i64 0), 1, 8) := by kernel_rfl
theorem infoStr : (Try.prog.info? 9).map (fun i => (i.zero, i.size, i.bytes)) = some (some (.string ⟨#[]⟩), 1, 16) := by kernel_rfl
theorem ret_int {k : IntKind} {a b : Int} (h : a = b) : Ending.returned (.int k a) = .returned (.int k b) := by rw [h]
theorem ret_bool {a b : Bool} (h : a = b) : Ending.returned (.bool a) = .returned (.bool b) := by rw [h]

/-- An empty row of the call's own that is not nil. -/
theorem R_empty {α : Type} (d : Kd α) (e : Nat) (w : World) (base : Nat) (ok : Nat → Prop) (hok : ok w.heap.size) (hb : base ≤ w.heap.size := by omega) :
    d.R e (w.alloc (.cells #[] e)) base ok (.slice (some ⟨w.heap.size, 0, none⟩) 0 0) [] := by
  refine ⟨fun k hk => ?_, [], World.ownsRow_made w #[] 0 hb (Nat.zero_le _) (by simp), Reps.none _ _⟩
  have : w.heap.size = k := by simpa [Value.ownBlock] using hk
  subst this
  exact hok
theorem C_takeN {α : Type} {k : Kd α} {w : World} {A : Option Addr} {xs : List α} {n : Nat} (h : k.C w A n xs) (m : Nat) (hm : m ≤ n) : k.C w A m (xs.take m) := by
  obtain rfl : xs.length = n := h.1
  have h1 := Kd.C_take h hm
  have hl : (xs.take m).length = m := by rw [List.length_take]; omega
  rwa [hl] at h1
theorem C_own {α : Type} {d : Kd α} {e : Nat} {w : World} {base : Nat} {ok : Nat → Prop} {A : Option Addr} {n c : Nat} {xs : List α} (h : d.R e w base ok (.slice A n c) xs) : d.C w A n xs := by
  obtain ⟨rfl, _, h3⟩ := Kd.R_reads' h
  exact h3
theorem cell_al {w : World} {ad : Addr} {v : Value} (o : Obj) (h : w.cell? ad = some v) : (w.alloc o).cell? ad = some v := pw_cell_below (below_alloc (Below.refl _ _) o) h

theorem clone_bytes
(A : Option Addr) (n c : Nat) (l : List _) (w : World) (hr : Kd.C (Kd.int .u8) w A n l) (hb : n ≤ 1099511627776) :
    Calls Try.prog 76 #[.slice A n c] w fun e w' => ∃ A' c', e = .returned (.slice A' n c') ∧ n ≤ c' ∧ Kd.R (Kd.int .u8) 5 w' w.heap.size (fun _ => True) (.slice A' n c') l ∧ Below w.heap.size w w' := by
  have q22 : ∀ (w : World) (a : Option Addr) (n c n' c' : Nat), (binOp .eql 82 (.slice a n c) (.slice none n' c')).run Try.prog w = .ok (.bool a.isNone) w := fun w a n c n' c' => Lib.run_eql_slice_nil w _ _ a n c n' c' Try.underlying82
  obtain rfl : l.length = n := hr.1
  have HR := Aside0.mk hr
  clear hr
  rcases A with _ | ad
  · have hn : l = [] := by
      have h := HR.out.2.2
      by_cases h0 : 0 < l.length
      · obtain ⟨ad, e, _⟩ := h h0
        cases e
      · exact List.eq_nil_of_length_eq_zero (by omega)
    subst hn
    go_enter Try.func76, Try.ntmps76
    go_wp2
    go_ret
    exact ⟨_, _, rfl, Nat.le_refl _, Kd.R_nil _ _ _ _ _, Below.refl _ _⟩
  · go_enter Try.func76, Try.ntmps76
    go_wp2_with (at_builtin; refine Kd.R_append_rows (Kd.int .u8) (Rr := (Kd.int .u8).K w) (w0 := w) w.heap.size rfl (.tmp 5) (.tmp 6) 82 5 (.int .u8 0) 1 rfl Try.underlying82 infoU8 rfl (by decide) (by omega) _ [] l (some ad) l.length c (fun _ => True) (fun _ => False) rfl rfl ?c1 (Kd.C_alloc HR.out _) (fun _ _ h => h) (fun _ h => h.elim) (fun _ _ => trivial) (below_alloc (Below.refl _ _) _) ?c7 ?c8 ?_)
    case c1 => exact R_empty _ _ _ _ _ trivial
    case c7 => simp
    case c8 => simp; omega
    intro v1 w1 ho hb1 _ _
    obtain ⟨A2, c2, rfl, hc2, _⟩ := Kd.R_reads ho
    go_wp2
    go_ret
    exact ⟨_, _, rfl, hc2, ho, hb1⟩
theorem clone_ints
(A : Option Addr) (n c : Nat) (l : List _) (w : World) (hr : Kd.C (Kd.int .i64) w A n l) (hb : n ≤ 1099511627776) :
    Calls Try.prog 69 #[.slice A n c] w fun e w' => ∃ A' c', e = .returned (.slice A' n c') ∧ n ≤ c' ∧ Kd.R (Kd.int .i64) 3 w' w.heap.size (fun _ => True) (.slice A' n c') l ∧ Below w.heap.size w w' := by
  have q22 : ∀ (w : World) (a : Option Addr) (n c n' c' : Nat), (binOp .eql 70 (.slice a n c) (.slice none n' c')).run Try.prog w = .ok (.bool a.isNone) w := fun w a n c n' c' => Lib.run_eql_slice_nil w _ _ a n c n' c' Try.underlying70
  obtain rfl : l.length = n := hr.1
  have HR := Aside0.mk hr
  clear hr
  rcases A with _ | ad
  · have hn : l = [] := by
      have h := HR.out.2.2
      by_cases h0 : 0 < l.length
      · obtain ⟨ad, e, _⟩ := h h0
        cases e
      · exact List.eq_nil_of_length_eq_zero (by omega)
    subst hn
    go_enter Try.func69, Try.ntmps69
    go_wp2
    go_ret
    exact ⟨_, _, rfl, Nat.le_refl _, Kd.R_nil _ _ _ _ _, Below.refl _ _⟩
  · go_enter Try.func69, Try.ntmps69
    go_wp2_with (at_builtin; refine Kd.R_append_rows (Kd.int .i64) (Rr := (Kd.int .i64).K w) (w0 := w) w.heap.size rfl (.tmp 5) (.tmp 6) 70 3 (.int .i64 0) 8 rfl Try.underlying70 infoInt rfl (by decide) (by omega) _ [] l (some ad) l.length c (fun _ => True) (fun _ => False) rfl rfl ?c1 (Kd.C_alloc HR.out _) (fun _ _ h => h) (fun _ h => h.elim) (fun _ _ => trivial) (below_alloc (Below.refl _ _) _) ?c7 ?c8 ?_)
    case c1 => exact R_empty _ _ _ _ _ trivial
    case c7 => simp
    case c8 => simp; omega
    intro v1 w1 ho hb1 _ _
    obtain ⟨A2, c2, rfl, hc2, _⟩ := Kd.R_reads ho
    go_wp2
    go_ret
    exact ⟨_, _, rfl, hc2, ho, hb1⟩
theorem clone_strs
(A : Option Addr) (n c : Nat) (l : List _) (w : World) (hr : Kd.C (Kd.string) w A n l) (hb : n ≤ 1099511627776) :
    Calls Try.prog 66 #[.slice A n c] w fun e w' => ∃ A' c', e = .returned (.slice A' n c') ∧ n ≤ c' ∧ Kd.R (Kd.string) 9 w' w.heap.size (fun _ => True) (.slice A' n c') l ∧ Below w.heap.size w w' := by
  have q22 : ∀ (w : World) (a : Option Addr) (n c n' c' : Nat), (binOp .eql 41 (.slice a n c) (.slice none n' c')).run Try.prog w = .ok (.bool a.isNone) w := fun w a n c n' c' => Lib.run_eql_slice_nil w _ _ a n c n' c' Try.underlying41
  obtain rfl : l.length = n := hr.1
  have HR := Aside0.mk hr
  clear hr
  rcases A with _ | ad
  · have hn : l = [] := by
      have h := HR.out.2.2
      by_cases h0 : 0 < l.length
      · obtain ⟨ad, e, _⟩ := h h0
        cases e
      · exact List.eq_nil_of_length_eq_zero (by omega)
    subst hn
    go_enter Try.func66, Try.ntmps66
    go_wp2
    go_ret
    exact ⟨_, _, rfl, Nat.le_refl _, Kd.R_nil _ _ _ _ _, Below.refl _ _⟩
  · go_enter Try.func66, Try.ntmps66
    go_wp2_with (at_builtin; refine Kd.R_append_rows (Kd.string) (Rr := (Kd.string).K w) (w0 := w) w.heap.size rfl (.tmp 5) (.tmp 6) 41 9 (.string ⟨#[]⟩) 16 rfl Try.underlying41 infoStr rfl (by decide) (by omega) _ [] l (some ad) l.length c (fun _ => True) (fun _ => False) rfl rfl ?c1 (Kd.C_alloc HR.out _) (fun _ _ h => h) (fun _ h => h.elim) (fun _ _ => trivial) (below_alloc (Below.refl _ _) _) ?c7 ?c8 ?_)
    case c1 => exact R_empty _ _ _ _ _ trivial
    case c7 => simp
    case c8 => simp; omega
    intro v1 w1 ho hb1 _ _
    obtain ⟨A2, c2, rfl, hc2, _⟩ := Kd.R_reads ho
    go_wp2
    go_ret
    exact ⟨_, _, rfl, hc2, ho, hb1⟩

/-! ### The stamp -/
def nextV (nx mo : Int) : Int := if mo < nx ∨ nx = 0 then 0 else nx
theorem new_any (a m b : Int) (w : World) : Calls Try.prog 22 #[.int .u64 a, .int .u64 m, .int .u64 b] w fun e w' => e = .returned (.pointer (some ⟨w.heap.size, 0, none⟩)) ∧ w' = w.alloc (.cells #[.int .u64 (if a < 1 then 1 else a), .int .u64 m, .int .u64 b] 122) := by
  by_cases h : a < 1
  · go_enter Try.func22, Try.ntmps22
    go_wp2
    go_ret
    simp
  · go_enter Try.func22, Try.ntmps22
    go_wp2
    go_ret
    simp
theorem next_nil (w : World) : Calls Try.prog 27 #[.pointer none] w fun e w' => e = .returned (.int .u64 0) ∧ ∃ m, w' = w.drewN m := by
  go_enter Try.func27, Try.ntmps27
  go_wp2
  go_quiet (fail)
  go_wp2_with fail
  go_ret
  exact ⟨rfl, _, rfl⟩
theorem next_any (g : Nat) (nx mo bo : Int) (w : World) (hb : w.heap[g]? = some (.cells #[.int .u64 nx, .int .u64 mo, .int .u64 bo] 122 (0, 0))) : Calls Try.prog 27 #[.pointer (some ⟨g, 0, none⟩)] w fun e w' => e = .returned (.int .u64 (nextV nx mo)) ∧ ∃ m, w' = w.drewN m := by
  have hc0 := (blk_cell hb 0).trans (rfl : _ = some (Value.int .u64 nx))
  have hc1 := (blk_cell hb 1).trans (rfl : _ = some (Value.int .u64 mo))
  have hc2 := (blk_cell hb 2).trans (rfl : _ = some (Value.int .u64 bo))
  have hf0 := blk_frozen hb 0
  clear hb
  by_cases h1 : mo < nx
  · have hd := decide_eq_true h1
    go_enter Try.func27, Try.ntmps27
    go_wp2
    go_quiet (fail)
    go_wp2_with fail
    go_ret
    exact ⟨ret_int (by unfold nextV; rw [if_pos (.inl h1)]), _, rfl⟩
  · have hd := decide_eq_false h1
    by_cases h2 : nx = 0
    · subst h2
      go_enter Try.func27, Try.ntmps27
      go_wp2
      go_quiet (fail)
      go_wp2_with fail
      go_ret
      exact ⟨ret_int (by unfold nextV; rw [if_pos (.inr rfl)]), _, rfl⟩
    · have hd2 := decide_eq_false h2
      go_enter Try.func27, Try.ntmps27
      go_wp2
      go_quiet (fail)
      go_wp2_with fail
      go_ret
      exact ⟨ret_int (by unfold nextV; rw [if_neg (by omega)]), _, rfl⟩
theorem last_nil (w : World) : Calls Try.prog 28 #[.pointer none] w fun e w' => e = .returned (.int .u64 0) ∧ w' = w := by
  go_enter Try.func28, Try.ntmps28
  go_wp2
  go_ret
  exact ⟨rfl, rfl⟩
theorem last_any (g : Nat) (nx mo bo : Int) (w : World) (hb : w.heap[g]? = some (.cells #[.int .u64 nx, .int .u64 mo, .int .u64 bo] 122 (0, 0))) (h1 : 1 ≤ nx) (h2 : nx < 18446744073709551616) : Calls Try.prog 28 #[.pointer (some ⟨g, 0, none⟩)] w fun e w' => e = .returned (.int .u64 (nx - 1)) ∧ w' = w := by
  have hc0 := (blk_cell hb 0).trans (rfl : _ = some (Value.int .u64 nx))
  have hc1 := (blk_cell hb 1).trans (rfl : _ = some (Value.int .u64 mo))
  have hc2 := (blk_cell hb 2).trans (rfl : _ = some (Value.int .u64 bo))
  have hf0 := blk_frozen hb 0
  clear hb
  go_enter Try.func28, Try.ntmps28
  go_wp2
  go_ret
  exact ⟨rfl, rfl⟩
theorem boot_nil (w : World) : Calls Try.prog 29 #[.pointer none] w fun e w' => e = .returned (.int .u64 0) ∧ w' = w := by
  go_enter Try.func29, Try.ntmps29
  go_wp2
  go_ret
  exact ⟨rfl, rfl⟩
theorem boot_any (g : Nat) (nx mo bo : Int) (w : World) (hb : w.heap[g]? = some (.cells #[.int .u64 nx, .int .u64 mo, .int .u64 bo] 122 (0, 0))) : Calls Try.prog 29 #[.pointer (some ⟨g, 0, none⟩)] w fun e w' => e = .returned (.int .u64 bo) ∧ w' = w := by
  have hc0 := (blk_cell hb 0).trans (rfl : _ = some (Value.int .u64 nx))
  have hc1 := (blk_cell hb 1).trans (rfl : _ = some (Value.int .u64 mo))
  have hc2 := (blk_cell hb 2).trans (rfl : _ = some (Value.int .u64 bo))
  have hf0 := blk_frozen hb 0
  clear hb
  go_enter Try.func29, Try.ntmps29
  go_wp2
  go_ret
  exact ⟨rfl, rfl⟩
theorem used_nil (k : Int) (w : World) : Calls Try.prog 31 #[.pointer none, .int .u64 k] w fun e w' => e = .returned (.tuple #[]) ∧ w' = w := by
  go_enter Try.func31, Try.ntmps31
  go_wp2
  first | go_end0 | ((try simp only [Exit.inBlock, Exit.then]); refine bodyPost_ret (results_none rfl _ _ _) rfl ?_)
  exact ⟨rfl, rfl⟩
/-- The number that comes next behind one that is used. -/
def usedV (nx k : Int) : Int := if nx = 0 ∨ k < nx then nx else (k + 1) % 18446744073709551616
theorem used_any (g : Nat) (nx mo bo k : Int) (w : World) (hb : w.heap[g]? = some (.cells #[.int .u64 nx, .int .u64 mo, .int .u64 bo] 122 (0, 0))) : Calls Try.prog 31 #[.pointer (some ⟨g, 0, none⟩), .int .u64 k] w fun e w' => e = .returned (.tuple #[]) ∧ (w' = w ∧ usedV nx k = nx ∨ w' = w.setCell ⟨g, 0, none⟩ (.int .u64 (usedV nx k))) := by
  have hc0 := (blk_cell hb 0).trans (rfl : _ = some (Value.int .u64 nx))
  have hc1 := (blk_cell hb 1).trans (rfl : _ = some (Value.int .u64 mo))
  have hc2 := (blk_cell hb 2).trans (rfl : _ = some (Value.int .u64 bo))
  have hf0 := blk_frozen hb 0
  clear hb
  by_cases h2 : nx = 0
  · subst h2
    go_enter Try.func31, Try.ntmps31
    go_wp2
    first | go_end0 | ((try simp only [Exit.inBlock, Exit.then]); refine bodyPost_ret (results_none rfl _ _ _) rfl ?_)
    exact ⟨rfl, .inl ⟨rfl, by unfold usedV; rw [if_pos (.inl rfl)]⟩⟩
  · have hd := decide_eq_false h2
    by_cases h3 : k < nx
    · have hd := decide_eq_true h3
      go_enter Try.func31, Try.ntmps31
      go_wp2
      first | go_end0 | ((try simp only [Exit.inBlock, Exit.then]); refine bodyPost_ret (results_none rfl _ _ _) rfl ?_)
      exact ⟨rfl, .inl ⟨rfl, by unfold usedV; rw [if_pos (.inr h3)]⟩⟩
    · have hd := decide_eq_false h3
      have hU : usedV nx k = (k + 1) % 18446744073709551616 := by unfold usedV; rw [if_neg (by omega)]
      have HU := Aside0.mk hU
      clear hU
      go_enter Try.func31, Try.ntmps31
      go_wp2
      first | go_end0 | ((try simp only [Exit.inBlock, Exit.then]); refine bodyPost_ret (results_none rfl _ _ _) rfl ?_)
      exact ⟨rfl, .inr (by rw [HU.out]; rfl)⟩
end Go.Proofs.Ytldiginkmmlojaa
