/- The limit on one writer: New, Allow. -/
import Derived.Test.YtldiginkmmlojaaStC
import Derived.Test.YtldiginkmmlojaaMap
namespace Go.Proofs.Ytldiginkmmlojaa
set_option linter.unusedVariables false
open Go.RowKit Go.Maps Go.Proofs.YtldiginkmmlojaaW.PrintWords
attribute [local go_sem] mx2 mn2 mxTwo mnTwo

theorem lawSt : Keyed Try.prog 9 := string_keyed Try.underlying9
theorem zeroWin (w : World) : (zeroValue 146).run Try.prog w = .ok (.agg #[.int .u64 0, .int .i64 0, .int .i64 0]) w := by kernel_rfl
/-- A window: since when, how much was let through, how much was barred. -/
structure WV where
  since : Int
  n : Int
  barred : Int
def WV.v (x : WV) : Value := .agg #[.int .u64 x.since, .int .i64 x.n, .int .i64 x.barred]
def sA : ByteArray := ⟨#[97]⟩
def kStr (s : ByteArray) : Lit := .string s.data.toList
/-- What a map holds that knows one writer at most. -/
noncomputable def oneF (o : Option WV) : Lit → Option Value := o.elim (fun _ => none) (fun x => upd (fun _ => none) (kStr sA) (some x.v))
theorem oneF_none : oneF none = fun _ => none := rfl
theorem oneF_some (x : WV) : oneF (some x) = upd (fun _ => none) (kStr sA) (some x.v) := rfl
theorem oneF_at (o : Option WV) : oneF o (kStr sA) = o.map WV.v := by
  cases o with
  | none => rfl
  | some x => rw [oneF_some, upd_same]; rfl
theorem oneF_put (o : Option WV) (x : WV) : upd (oneF o) (kStr sA) (some x.v) = oneF (some x) := by
  cases o with
  | none => rfl
  | some y =>
    funext q
    rw [oneF_some, oneF_some]
    by_cases e : q = kStr sA
    · subst e
      rw [upd_same, upd_same]
    · rw [upd_other _ _ e, upd_other _ _ e, upd_other _ _ e]
/-- The limit in memory. -/
structure LI (W : World) (b g m N : Nat) (span burst most : Int) (o : Option WV) : Prop where
  hb : W.heap[g]? = some (.cells #[.int .u64 span, .int .i64 burst, .int .i64 most, .map (some m)] 141 (0, 0))
  hm : MV W Try.prog 9 m N (oneF o)
  hg : b ≤ g
  hmb : b ≤ m
  hN : o = none → N = 0
theorem LI.below {W W1 : World} {b g m N : Nat} {span burst most : Int} {o : Option WV} (h : LI W b g m N span burst most o) (hb : Below W.heap.size W W1) : LI W1 b g m N span burst most o := ⟨blk_below h.hb hb, h.hm.below hb, h.hg, h.hmb, h.hN⟩
theorem LI.set {W : World} {b g m N p j : Nat} {span burst most : Int} {o : Option WV} {cs : Array Value} (h : LI W b g m N span burst most o) (hp : W.heap[p]? = some (.cells cs 146 (0, 0))) (u : Value) : LI (W.setCell ⟨p, j, none⟩ u) b g m N span burst most o :=
  ⟨blk_far h.hb (show g ≠ p from blk_ne h.hb hp (by decide)) u, h.hm.setCell (h.hm.ne hp) u, h.hg, h.hmb, h.hN⟩
theorem mv_run {w : World} {P : Program} {k e t : TypeId} {b n : Nat} {f : Lit → Option Value} (h : MV w P k b n f) (K : Keyed P k) (ht : P.underlying t = some (.map k e)) (hn : n < maxLen) {key : Value} {kl : Lit} (hkey : keyOf P k key = some kl) (val : Value) :
    ∃ w', (Instr.mapUpdate t (.map (some b)) key val).run P w = .ok () w' ∧ MV w' P k b (n + 1) (upd f kl (some val)) ∧ w.mapTurned w' b := by
  obtain ⟨D, h1, h2⟩ := h
  obtain ⟨w', hrun, r1, r2⟩ := h1.store K ht hn (val := val) (d := .held val) (ps := []) hkey rfl
  exact ⟨w', hrun, ⟨_, r1, h2.put h1.isMap (key_lit hkey) val⟩, r2⟩
theorem LI.stored {W W1 : World} {b g m N : Nat} {span burst most : Int} {o : Option WV} {x : WV} (h : LI W b g m N span burst most o) (hm : MV W1 Try.prog 9 m (N + 1) (upd (oneF o) (kStr sA) (some x.v))) (ht : W.mapTurned W1 m) : LI W1 b g m (N + 1) span burst most (some x) ∧ Below b W W1 := by
  have hg := ht.grown
  have hne : some g ≠ some m := fun e => h.hm.ne h.hb (by injection e with e; exact e.symm)
  exact ⟨⟨blk_grown h.hb hg hne, by rw [oneF_put] at hm; exact hm, h.hg, h.hmb, fun e => by cases e⟩, (Below.refl b W).grown hg (Nat.le_trans h.hg (Nat.le_of_lt (blk_lt h.hb))) (fun k e => by cases e; exact h.hmb)⟩
def mx (a b : Int) : Int := if a < b then b else a
theorem lnew_any (b : Nat) (span burst most : Int) (w : World) (hb : b ≤ w.heap.size) : Calls Try.prog 58 #[.int .u64 span, .int .i64 burst, .int .i64 most] w fun e w' => ∃ g m, e = .returned (.pointer (some ⟨g, 0, none⟩)) ∧ LI w' b g m 0 (mx span 1) (mx burst 0) (mx most 1) none ∧ Below w.heap.size w w' := by
  have hmm := @run_makeMap Try.prog
  go_enter Try.func58, Try.ntmps58
  have h1 := MV.made w Try.prog 9
  have key : ∀ (a c d : Int), a = mx span 1 → c = mx burst 0 → d = mx most 1 → LI ((w.alloc (.map #[] 0)).alloc (.cells #[.int .u64 a, .int .i64 c, .int .i64 d, .map (some w.heap.size)] 141)) b (w.heap.size + 1) w.heap.size 0 (mx span 1) (mx burst 0) (mx most 1) none := by
    rintro a c d rfl rfl rfl
    have hz : (w.alloc (.map #[] 0)).heap.size = w.heap.size + 1 := World.size_alloc ..
    refine ⟨?_, h1.below (below_alloc (Below.refl _ _) _), by omega, hb, fun _ => rfl⟩
    have := blk_new (w.alloc (.map #[] 0)) (.cells #[.int .u64 (mx span 1), .int .i64 (mx burst 0), .int .i64 (mx most 1), .map (some w.heap.size)] 141)
    rw [hz] at this
    exact this
  have HK := Aside0.mk key
  clear key h1
  go_wp2_with fail
  all_goals
    go_ret
    refine ⟨_, rfl, ⟨_, HK.out _ _ _ ?_ ?_ ?_⟩, below_alloc (below_alloc (Below.refl _ _) _) _⟩
    all_goals (unfold mx; split <;> omega)
/-- What a call begins with. -/
def baseW (span now : Int) : Option WV → WV
  | none => ⟨now, 0, 0⟩
  | some x => if span ≤ now - x.since then ⟨now, 0, 0⟩ else x
def toldW (span now : Int) : Option WV → Int
  | none => 0
  | some x => if span ≤ now - x.since then x.barred else 0
def allowW (burst : Int) (x : WV) : Bool × WV := if x.n < burst then (true, ⟨x.since, x.n + 1, x.barred⟩) else (false, ⟨x.since, x.n, x.barred + 1⟩)
/-- Room, where fewer are known than may be. -/
theorem room_any (g m : Nat) (span burst most : Int) (w : World) (hb : w.heap[g]? = some (.cells #[.int .u64 span, .int .i64 burst, .int .i64 most, .map (some m)] 141 (0, 0))) (hm : MV w Try.prog 9 m 0 (fun _ => none)) (h1 : 1 ≤ most) : Calls Try.prog 81 #[.pointer (some ⟨g, 0, none⟩)] w fun e w' => e = .returned (.tuple #[]) ∧ ∃ k, w' = w.drewN k := by
  have hc2 := (blk_cell hb 2).trans (rfl : _ = some (Value.int .i64 most))
  have hc3 := (blk_cell hb 3).trans (rfl : _ = some (Value.map (some m)))
  obtain ⟨es, ck, hes, hz⟩ : ∃ es ck, w.heap[m]? = some (.map es ck) ∧ es.size = 0 := by
    obtain ⟨D, ⟨es, ck, hb, F, hs, _⟩, _⟩ := hm
    exact ⟨es, ck, hb, by omega⟩
  clear hb hm
  have hd : decide ((0 : Int) < most) = true := decide_eq_true (by omega)
  have hlen : ∀ (ty : TypeId) (k : Nat), (Builtin.len_ #[139] ty #[.map (some m)]).run Try.prog (w.drewN k) = .ok (.int .i64 0) (w.drewN k) := fun ty k => by
    have := run_len_map (P := Try.prog) (w.drewN k) 139 ty m es ck (by kernel_rfl) hes
    rw [hz] at this
    exact this
  clear hes hz
  go_enter Try.func81, Try.ntmps81
  go_wp2_with fail
  go_quiet (fail)
  go_wp2_with fail
  first | go_end0 | ((try simp only [Exit.inBlock, Exit.then]); refine bodyPost_ret (results_none rfl _ _ _) rfl ?_)
  exact ⟨rfl, _, rfl⟩
end Go.Proofs.Ytldiginkmmlojaa
