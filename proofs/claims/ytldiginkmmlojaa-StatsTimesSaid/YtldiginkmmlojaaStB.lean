/- (*stamp.Stamp).Record: what the call answers. -/
import Derived.Test.YtldiginkmmlojaaStA
namespace Go.Proofs.Ytldiginkmmlojaa
set_option linter.unusedVariables false
open Go.RowKit Go.Proofs.YtldiginkmmlojaaW.PrintWords

theorem infoRec : (Try.prog.info? 47).map (·.size) = some 5 := by kernel_rfl
theorem R_old {α : Type} {d : Kd α} {e : Nat} {w : World} {base : Nat} {ok : Nat → Prop} {v : Value} {xs : List α} (h : d.R e w base ok v xs) {p : Addr} (hp : p.block < base) (u : Value) : d.R e (w.setCell p u) base ok v xs :=
  Kd.R_mono (Kd.R_far (Kd.R_bound h) (fun k hk => by have := hk.2.1; omega) u) (fun k hk => hk.1)
section
variable {w W : World} {g : Nat} {t : TypeId} {a b c d e a' b' c' d' e' : Value}
theorem put5 (h : W.heap[g]? = some (.cells #[a, b, c, d, e] t (0, 0))) : (((((W.setCell ⟨g, 0, none⟩ a').setCell ⟨g, 1, none⟩ b').setCell ⟨g, 2, none⟩ c').setCell ⟨g, 3, none⟩ d').setCell ⟨g, 4, none⟩ e').heap[g]? = some (.cells #[a', b', c', d', e'] t (0, 0)) :=
  blk_put (blk_put (blk_put (blk_put (blk_put h 0 a' rfl) 1 b' rfl) 2 c' rfl) 3 d' rfl) 4 e' rfl
theorem set5 (h : Below w.heap.size w W) (hg : w.heap.size ≤ g) : Below w.heap.size w (((((W.setCell ⟨g, 0, none⟩ a').setCell ⟨g, 1, none⟩ b').setCell ⟨g, 2, none⟩ c').setCell ⟨g, 3, none⟩ d').setCell ⟨g, 4, none⟩ e') :=
  below_set (below_set (below_set (below_set (below_set h hg) hg) hg) hg) hg
theorem old5 {α : Type} {k : Kd α} {q base : Nat} {ok : Nat → Prop} {v : Value} {xs : List α} (h : k.R q W base ok v xs) (hg : g < base) : k.R q (((((W.setCell ⟨g, 0, none⟩ a').setCell ⟨g, 1, none⟩ b').setCell ⟨g, 2, none⟩ c').setCell ⟨g, 3, none⟩ d').setCell ⟨g, 4, none⟩ e') base ok v xs :=
  R_old (R_old (R_old (R_old (R_old h hg _) hg _) hg _) hg _) hg _
theorem far5 {p : Addr} {v : Value} (h : W.cell? p = some v) (hp : p.block ≠ g) : (((((W.setCell ⟨g, 0, none⟩ a').setCell ⟨g, 1, none⟩ b').setCell ⟨g, 2, none⟩ c').setCell ⟨g, 3, none⟩ d').setCell ⟨g, 4, none⟩ e').cell? p = some v := by
  rw [World.cell?_setCell_far _ _ _ _ (Ne.symm hp), World.cell?_setCell_far _ _ _ _ (Ne.symm hp), World.cell?_setCell_far _ _ _ _ (Ne.symm hp), World.cell?_setCell_far _ _ _ _ (Ne.symm hp), World.cell?_setCell_far _ _ _ _ (Ne.symm hp)]
  exact h
theorem cells5 (h : W.heap[g]? = some (.cells #[a, b, c, d, e] t (0, 0))) : (W.cell? ⟨g, 0, none⟩ = some a ∧ W.cell? ⟨g, 1, none⟩ = some b ∧ W.cell? ⟨g, 2, none⟩ = some c ∧ W.cell? ⟨g, 3, none⟩ = some d ∧ W.cell? ⟨g, 4, none⟩ = some e) ∧ W.frozen? ⟨g, 0, none⟩ = false ∧ W.frozen? ⟨g, 1, none⟩ = false ∧ W.frozen? ⟨g, 2, none⟩ = false ∧ W.frozen? ⟨g, 3, none⟩ = false ∧ W.frozen? ⟨g, 4, none⟩ = false :=
  ⟨⟨blk_cell h 0, blk_cell h 1, blk_cell h 2, blk_cell h 3, blk_cell h 4⟩, blk_frozen h 0, blk_frozen h 1, blk_frozen h 2, blk_frozen h 3, blk_frozen h 4⟩
end
theorem new_drawn {w W : World} {o : Obj} (h : ∃ m, W = (w.alloc o).drewN m) : W.heap[w.heap.size]? = some o ∧ Below w.heap.size w W := by
  obtain ⟨m, rfl⟩ := h
  exact ⟨blk_drewN (blk_new _ _) _, pw_below_drewN (below_alloc (Below.refl _ _) _) _⟩

theorem record_nil (re mn : Int) (A : Option Addr) (n c : Nat) (w : World) : Calls Try.prog 25 #[.pointer none, .int .u64 re, .int .u64 mn, .slice A n c] w fun e w' => e = .returned (.tuple #[.agg #[.int .u64 0, .int .u64 0, .int .u64 0, .int .u64 0, .slice none 0 0], .int .i64 24]) ∧ Below w.heap.size w w' := by
  go_enter Try.func25, Try.ntmps25
  go_wp2_with (go_at_call 27; refine (next_nil _).mono ?_; rintro e W ⟨rfl, hW⟩; obtain ⟨hz, hB⟩ := new_drawn hW; obtain ⟨⟨k0, k1, k2, k3, k4⟩, f0, f1, f2, f3, f4⟩ := cells5 hz; have HB := Aside0.mk hB; have HZ := Aside0.mk hz; clear hW hB hz)
  have hfin := put5 (a' := .int .u64 0) (b' := .int .u64 0) (c' := .int .u64 0) (d' := .int .u64 0) (e' := .slice none 0 0) HZ.out
  (try simp only [Exit.inBlock, Exit.then])
  refine bodyPost_ret (results_ct (P := Try.prog) rfl _ _ w.heap.size 47 #[.int .u64 0, .int .u64 0, .int .u64 0, .int .u64 0, .slice none 0 0] (0, 0) _ rfl hfin Try.underlying47 rfl (by rw [infoRec]; rfl)) rfl ?_
  exact ⟨rfl, set5 HB.out (Nat.le_refl _)⟩
theorem record_none (g : Nat) (nx mo bo : Int) (re mn : Int) (A : Option Addr) (n c : Nat) (w : World) (hb : w.heap[g]? = some (.cells #[.int .u64 nx, .int .u64 mo, .int .u64 bo] 122 (0, 0))) (h : nextV nx mo = 0) : Calls Try.prog 25 #[.pointer (some ⟨g, 0, none⟩), .int .u64 re, .int .u64 mn, .slice A n c] w fun e w' => e = .returned (.tuple #[.agg #[.int .u64 0, .int .u64 0, .int .u64 0, .int .u64 0, .slice none 0 0], .int .i64 24]) ∧ Below w.heap.size w w' := by
  have HBk := Aside0.mk hb
  have HN := Aside0.mk h
  clear hb h
  go_enter Try.func25, Try.ntmps25
  go_wp2_with (go_at_call 27; refine (next_any g nx mo bo _ (blk_alloc HBk.out _)).mono ?_; rw [HN.out]; rintro e W ⟨rfl, hW⟩; obtain ⟨hz, hB⟩ := new_drawn hW; obtain ⟨⟨k0, k1, k2, k3, k4⟩, f0, f1, f2, f3, f4⟩ := cells5 hz; have HB := Aside0.mk hB; have HZ := Aside0.mk hz; clear hW hB hz)
  have hfin := put5 (a' := .int .u64 0) (b' := .int .u64 0) (c' := .int .u64 0) (d' := .int .u64 0) (e' := .slice none 0 0) HZ.out
  (try simp only [Exit.inBlock, Exit.then])
  refine bodyPost_ret (results_ct (P := Try.prog) rfl _ _ w.heap.size 47 #[.int .u64 0, .int .u64 0, .int .u64 0, .int .u64 0, .slice none 0 0] (0, 0) _ rfl hfin Try.underlying47 rfl (by rw [infoRec]; rfl)) rfl ?_
  exact ⟨rfl, set5 HB.out (Nat.le_refl _)⟩
set_option maxHeartbeats 2000000 in
set_option maxRecDepth 100000 in
theorem record_any (g : Nat) (nx mo bo : Int) (re mn : Int) (A : Option Addr) (n c : Nat) (l : List ByteArray) (w : World) (hb : w.heap[g]? = some (.cells #[.int .u64 nx, .int .u64 mo, .int .u64 bo] 122 (0, 0))) (h : nextV nx mo ≠ 0) (hr : Kd.C Kd.string w A n l) (hn : n ≤ 1099511627776) : Calls Try.prog 25 #[.pointer (some ⟨g, 0, none⟩), .int .u64 re, .int .u64 mn, .slice A n c] w fun e w' => ∃ A' c', e = .returned (.tuple #[.agg #[.int .u64 (nextV nx mo), .int .u64 re, .int .u64 mn, .int .u64 bo, .slice A' n c'], .int .i64 0]) ∧ n ≤ c' ∧ Kd.C Kd.string w' A' n l ∧ Below w.heap.size w w' := by
  have HBk := Aside0.mk hb
  have HR := Aside0.mk hr
  clear hb hr
  obtain ⟨N, hN⟩ : ∃ N, N = nextV nx mo := ⟨_, rfl⟩
  rw [← hN] at h ⊢
  have HN := Aside0.mk hN
  clear hN
  have hd := decide_eq_false h
  go_enter Try.func25, Try.ntmps25
  go_wp2_with (go_at_call 27; refine (next_any g nx mo bo _ (blk_alloc HBk.out _)).mono ?_; rw [← HN.out]; rintro e W ⟨rfl, hW⟩; obtain ⟨hz, hB⟩ := new_drawn hW; obtain ⟨⟨k0, k1, k2, k3, k4⟩, f0, f1, f2, f3, f4⟩ := cells5 hz; have HB := Aside0.mk hB; have HZ := Aside0.mk hz; clear hW hB hz)
  have hc2 := (blk_cell (blk_below HBk.out HB.out) 2).trans (rfl : _ = some (Value.int .u64 bo))
  have hne : g ≠ w.heap.size := Nat.ne_of_lt (blk_lt HBk.out)
  clear k0 k1 k2 k3 k4 f0 f1 f2 f3 f4
  go_region_held3 (fun w' => w'.cell? ⟨g, 2, none⟩ = some (.int .u64 bo)) (first | with_reducible exact hc2 | with_reducible exact far5 hc2 hne | exact hc2) (first
    | (go_at_call 66; refine (clone_strs A n c l _ (Kd.C_drew (Kd.C_below HR.out HB.out)) hn).mono ?_; rintro e w1 ⟨A1, c1, rfl, hc1, hv, hb⟩; replace hc2 := pw_cell_below hb hc2; have hz := blk_below (blk_drew HZ.out) hb; obtain ⟨⟨k0, k1, k2, k3, k4⟩, f0, f1, f2, f3, f4⟩ := cells5 hz; have HZ1 := Aside0.mk hz; have HV := Aside0.mk hv; have HB1 := Aside0.mk (below_step (below_drew1 HB.out) hb); clear hv hb hz))
  go_wp2_with fail
  have hfin := put5 (a' := .int .u64 N) (b' := .int .u64 re) (c' := .int .u64 mn) (d' := .int .u64 bo) (e' := .slice A1 n c1) HZ1.out
  (try simp only [Exit.inBlock, Exit.then])
  refine bodyPost_ret (results_ct (P := Try.prog) rfl _ _ w.heap.size 47 #[.int .u64 N, .int .u64 re, .int .u64 mn, .int .u64 bo, .slice A1 n c1] (0, 0) _ rfl hfin Try.underlying47 rfl (by rw [infoRec]; rfl)) rfl ?_
  exact ⟨_, _, rfl, hc1, C_own (old5 HV.out (blk_lt HZ.out)), set5 HB1.out (Nat.le_refl _)⟩
end Go.Proofs.Ytldiginkmmlojaa
