/- The cloning of bytes, sector.Count, the reference's Count and sector.Pieces (at a place not below 0): what each call answers. -/
import Derived.Test.YtpnbjpkdbiiogaaProg
import Derived.WalkKit
import Derived.WalkSpells
import Derived.Lib.Hide
import Derived.BigQuiet
import Derived.Deep.QuietTactic
import Derived.Deep.LoopGhost
import Derived.Deep.DeepCutAuto
import Derived.Deep.RegionLaw
import Derived.Test.YtpnbjpkdbiiogaaWWords
import Derived.Test.YtpnbjpkdbiiogaaWApart
namespace Go.Proofs.Ytpnbjpkdbiiogaa
set_option linter.unusedVariables false
open Go.RowKit Go.Proofs.YtpnbjpkdbiiogaaW.PrintWords
theorem mx2 (k k' : IntKind) (x y : Int) : Builtin.max2 (.int k x) (.int k' y) = pure (.int k (if x < y then y else x)) := by simp only [Builtin.max2, gt_iff_lt]
theorem mn2 (k k' : IntKind) (x y : Int) : Builtin.min2 (.int k x) (.int k' y) = pure (.int k (if y < x then y else x)) := by simp only [Builtin.min2]
theorem mxTwo (ats : Array TypeId) (ty : TypeId) (a b : Value) : Builtin.max_ ats ty #[a, b] = (Builtin.max2 a b >>= fun s => pure s) := by simp only [Builtin.max_, List.foldlM_cons, List.foldlM_nil]
theorem mnTwo (ats : Array TypeId) (ty : TypeId) (a b : Value) : Builtin.min_ ats ty #[a, b] = (Builtin.min2 a b >>= fun s => pure s) := by simp only [Builtin.min_, List.foldlM_cons, List.foldlM_nil]
attribute [local go_sem] mx2 mn2 mxTwo mnTwo

theorem infoU8 : (Try.prog.info? 5).map (fun i => (i.zero, i.size, i.bytes)) = some (some (.int .u8 0), 1, 1) := by kernel_rfl

theorem ret_int {k : IntKind} {a b : Int} (h : a = b) : Ending.returned (.int k a) = .returned (.int k b) := by rw [h]

/-- An empty row of the call's own that is not nil. -/
theorem R_empty {α : Type} (d : Kd α) (e : Nat) (w : World) (base : Nat) (ok : Nat → Prop) (hok : ok w.heap.size) (hb : base ≤ w.heap.size := by omega) :
    d.R e (w.alloc (.cells #[] e)) base ok (.slice (some ⟨w.heap.size, 0, none⟩) 0 0) [] := by
  refine ⟨fun k hk => ?_, [], World.ownsRow_made w #[] 0 hb (Nat.zero_le _) (by simp), Reps.none _ _⟩
  have : w.heap.size = k := by simpa [Value.ownBlock] using hk
  subst this
  exact hok

theorem C_takeN {α : Type} {k : Kd α} {w : World} {A : Option Addr} {xs : List α} {n : Nat} (h : k.C w A n xs) (m : Nat) (hm : m ≤ n) : k.C w A m (xs.take m) := by
  obtain rfl : xs.length = n := h.1
  have h1 := Kd.C_take h hm
  have hl : (xs.take m).length = m := by rw [List.length_take]; omega
  rwa [hl] at h1

/-- A cut from a place on: its address under a letter. -/
theorem cut_drop {α : Type} {P : Program} (d : Kd α) (t e : TypeId) (kl : IntKind) {i : TypeInfo} (ht : P.underlying t = some (.slice e)) (hi : P.info? e = some i) (hsz : i.size = d.sz) (A : Option Addr) (n c m : Nat) (hm : m ≤ n) (hc : n ≤ c) :
    ∃ A3, (∀ W : World, (Instr.slice t (.slice A n c) (some (.int kl (m : Int))) none none).run P W = .ok (.slice A3 (n - m) (c - m)) W) ∧ ∀ (w : World) (xs : List α), d.C w A n xs → d.C w A3 (n - m) (xs.drop m) := by
  refine ⟨if c = m then A else A.map (·.add (m * d.sz)), fun W => ?_, fun w xs h => ?_⟩
  · have h := cut_from (P := P) t e kl ht hi d.sz hsz A n c (m : Int) (by omega) (by omega) W
    simpa using h
  · obtain rfl : xs.length = n := h.1
    have h1 := Kd.C_drop (c := c) h hm hc
    rwa [List.length_drop] at h1

/-- slices.Clone of bytes. -/
theorem clone_bytes (A : Option Addr) (n c : Nat) (l : List Int) (w : World) (hr : Kd.C (Kd.int .u8) w A n l) (hb : n ≤ 140737488355328) :
    Calls Try.prog 86 #[.slice A n c] w fun e w' => ∃ A' c', e = .returned (.slice A' n c') ∧ n ≤ c' ∧ Kd.R (Kd.int .u8) 5 w' w.heap.size (fun _ => True) (.slice A' n c') l ∧ Below w.heap.size w w' := by
  have q22 : ∀ (w : World) (a : Option Addr) (n c n' c' : Nat), (binOp .eql 22 (.slice a n c) (.slice none n' c')).run Try.prog w = .ok (.bool a.isNone) w := fun w a n c n' c' => Lib.run_eql_slice_nil w _ _ a n c n' c' Try.underlying22
  obtain rfl : l.length = n := hr.1
  have HR := Aside0.mk hr
  clear hr
  rcases A with _ | ad
  · have hn : l = [] := by
      have h := HR.out.2.2
      by_cases h0 : 0 < l.length
      · obtain ⟨ad, e, _⟩ := h h0
        cases e
      · exact List.eq_nil_of_length_eq_zero (by omega)
    subst hn
    go_enter Try.func86, Try.ntmps86
    go_wp2
    go_ret
    exact ⟨_, _, rfl, Nat.le_refl _, Kd.R_nil _ _ _ _ _, Below.refl _ _⟩
  · go_enter Try.func86, Try.ntmps86
    go_wp2_with (at_builtin; refine Kd.R_append_rows (Kd.int .u8) (Rr := (Kd.int .u8).K w) (w0 := w) w.heap.size rfl (.tmp 5) (.tmp 6) 22 5 (.int .u8 0) 1 rfl Try.underlying22 infoU8 rfl (by decide) (by omega) _ [] l (some ad) l.length c (fun _ => True) (fun _ => False) rfl rfl ?c1 (Kd.C_alloc HR.out _) (fun _ _ h => h) (fun _ h => h.elim) (fun _ _ => trivial) (below_alloc (Below.refl _ _) _) ?c7 ?c8 ?_)
    case c1 => exact R_empty _ _ _ _ _ trivial
    case c7 => simp
    case c8 => simp; omega
    intro v1 w1 ho hb1 _ _
    obtain ⟨A2, c2, rfl, hc2, _⟩ := Kd.R_reads ho
    go_wp2
    go_ret
    exact ⟨_, _, rfl, hc2, ho, hb1⟩

/-! ### sector.Count and the reference's -/
def cnt (n : Int) : Int := if n ≤ 0 then 0 else (n - 1) / 64 + 1
theorem count_any (n : Int) (w : World) (h : n ≤ 9223372036854775807) :
    Calls Try.prog 18 #[.int .i64 n] w fun e w' => e = .returned (.int .i64 (cnt n)) ∧ w = w' := by
  by_cases h0 : n ≤ 0
  · go_enter Try.func18, Try.ntmps18
    go_wp2
    go_ret
    exact ⟨ret_int (by unfold cnt; rw [if_pos h0]), rfl⟩
  · go_enter Try.func18, Try.ntmps18
    go_wp2
    go_ret
    exact ⟨ret_int (by unfold cnt; rw [if_neg (by omega)]), rfl⟩
theorem refcount_any (n : Int) (w : World) (h : n ≤ 9223372036854775807) :
    Calls Try.prog 19 #[.int .i64 n] w fun e w' => e = .returned (.int .i64 (cnt n)) ∧ w = w' := by
  by_cases h0 : n < 1
  · go_enter Try.func19, Try.ntmps19
    go_wp2
    go_ret
    exact ⟨ret_int (by unfold cnt; rw [if_pos (by omega)]), rfl⟩
  · by_cases h1 : 0 < n % 64
    · go_enter Try.func19, Try.ntmps19
      go_wp2
      go_ret
      exact ⟨ret_int (by unfold cnt; rw [if_neg (by omega)]; omega), rfl⟩
    · go_enter Try.func19, Try.ntmps19
      go_wp2
      go_ret
      exact ⟨ret_int (by unfold cnt; rw [if_neg (by omega)]; omega), rfl⟩

/-! ### pieces -/
structure Pc where
  s : Int
  f : Int
  d : List Int
def kPc : Kd Pc := Kd.iso (Kd.pair (Kd.int .i64) (Kd.pair (Kd.int .i64) (Kd.slice 5 (Kd.int .u8)))) (fun x : Pc => (x.s, x.f, x.d))
theorem kPc_mkM (w : World) (base : Nat) (ok : Nat → Prop) (x : Pc) {v2 : Value} (g2 : (Kd.int .u8).R 5 w base ok v2 x.d) : kPc.M w base ok x [.int .i64 x.s, .int .i64 x.f, v2] :=
  ⟨[.int .i64 x.s], [.int .i64 x.f, v2], rfl, rfl, ⟨[.int .i64 x.f], [v2], rfl, rfl, ⟨v2, rfl, g2⟩⟩⟩
theorem infoPc : (Try.prog.info? 30).map (fun i => (i.zero, i.size, i.bytes)) = some (some (.agg #[(.int .i64 0), (.int .i64 0), (.slice none 0 0)]), 3, 40) := by kernel_rfl

/-- The pieces of a write at a place that is not below 0. -/
def pcs : Nat → Nat → List Int → List Pc
  | 0, _, _ => []
  | g + 1, a, b => if b = [] then [] else ⟨(a : Int) / 64, (a : Int) % 64, b.take (min (64 - a % 64) b.length)⟩ :: pcs g (a + min (64 - a % 64) b.length) (b.drop (min (64 - a % 64) b.length))
theorem pcs_nil (g a : Nat) : pcs g a [] = [] := by cases g <;> simp [pcs]
theorem pcs_more : ∀ (g a : Nat) (b : List Int), b.length ≤ g → ∀ g', g ≤ g' → pcs g' a b = pcs g a b := by
  intro g
  induction g with
  | zero => intro a b hb g' _; obtain rfl : b = [] := List.eq_nil_of_length_eq_zero (by omega); simp [pcs_nil]
  | succ g ih =>
    intro a b hb g' hg
    obtain ⟨g', rfl⟩ : ∃ m, g' = m + 1 := ⟨g' - 1, by omega⟩
    unfold pcs
    by_cases h : b = []
    · rw [if_pos h, if_pos h]
    · rw [if_neg h, if_neg h, ih _ _ (by have : 0 < b.length := List.length_pos_iff.2 h; rw [List.length_drop]; omega) g' (by omega)]
def pieces (a : Nat) (b : List Int) : List Pc := pcs b.length a b
theorem pieces_nil (a : Nat) : pieces a [] = [] := rfl
theorem pieces_step (a : Nat) (b : List Int) (n : Nat) (hn : n = min (64 - a % 64) b.length) (h : 0 < b.length) : pieces a b = ⟨(a : Int) / 64, (a : Int) % 64, b.take n⟩ :: pieces (a + n) (b.drop n) := by
  subst hn
  have hb : b ≠ [] := List.length_pos_iff.1 h
  unfold pieces
  obtain ⟨g, hg⟩ : ∃ m, b.length = m + 1 := ⟨b.length - 1, by omega⟩
  rw [hg, pcs, if_neg hb, ← hg]
  rw [← pcs_more _ (a + min (64 - a % 64) b.length) (b.drop (min (64 - a % 64) b.length)) (Nat.le_refl _) g (by rw [List.length_drop]; omega)]

set_option maxHeartbeats 1000000 in
set_option maxRecDepth 100000 in
theorem pieces_any (a : Nat) (A : Option Addr) (c : Nat) (l : List Int) (w : World) (hr : Kd.C (Kd.int .u8) w A l.length l) (hc : l.length ≤ c) (hl : l.length ≤ 1099511627776) (ha : a ≤ 2305843009213693952) :
    Calls Try.prog 16 #[.int .i64 (a : Int), .slice A l.length c] w fun e w' => ∃ v : Value, e = .returned v ∧ Kd.R kPc 30 w' w.heap.size (fun _ => True) v (pieces a l) ∧ Below w.heap.size w w' := by
  have HR := Aside0.mk hr
  clear hr
  obtain ⟨i0, hi, hz0, hz1, hz2⟩ := info_parts infoU8
  go_enter Try.func16, Try.ntmps16
  go_wp2
  go_loopg [0, 1, 5] l.length (fun g v0 v1 v5 wr => ∃ (a1 : Nat) (A1 : Option Addr) (c1 : Nat) (b : List Int) (out : List Pc), v0 = .int .i64 (a1 : Int) ∧ v1 = .slice A1 b.length c1 ∧ Aside0 (Kd.C (Kd.int .u8) w A1 b.length b) ∧ b.length ≤ c1 ∧ b.length ≤ g ∧ out.length + b.length ≤ l.length ∧ a1 + b.length = a + l.length ∧
      Aside0 (Kd.R kPc 30 wr w.heap.size (fun _ => True) v5 out) ∧ Aside0 (Below w.heap.size w wr) ∧ Aside0 (pieces a l = out ++ pieces a1 b))
  case atStart => exact ⟨a, A, c, l, [], rfl, rfl, HR, hc, Nat.le_refl _, by simp, rfl, ⟨Kd.R_nil _ _ _ _ _⟩, ⟨Below.refl _ _⟩, ⟨rfl⟩⟩
  case round =>
    obtain ⟨a1, A1, c1, b, out, rfl, rfl, HA, hc1, hg, ho, hs, HO, HB, HP⟩ := hrel
    have hs1 : a1 ≤ 4611686018427387904 := by omega
    have HS := Aside0.mk hs
    clear hs
    by_cases h0 : 0 < b.length
    · obtain ⟨n, hn⟩ : ∃ n, n = min (64 - a1 % 64) b.length := ⟨_, rfl⟩
      have hmn : (if (b.length : Int) < 64 - (a1 : Int) % 64 then (b.length : Int) else 64 - (a1 : Int) % 64) = (n : Int) := by split <;> omega
      have hn1 : 1 ≤ n := by omega
      have hn2 : n ≤ b.length := by omega
      have hn3 : n ≤ 64 := by omega
      have HN := Aside0.mk hn
      clear hn
      have HC := Aside0.mk (C_takeN (Kd.C_below HA.out HB.out) n hn2)
      obtain ⟨A3, hcut, hA3⟩ := cut_drop (P := Try.prog) (Kd.int .u8) 22 5 .i64 Try.underlying22 hi hz1 A1 b.length c1 n hn2 hc1
      have HA3 := Aside0.mk hA3
      clear hA3
      go_wp2_with (first
        | (go_at_call 86; refine (clone_bytes A1 n c1 (b.take n) _ HC.out (by omega)).mono ?_; rintro e w1 ⟨A2, c2, rfl, hc2, hv, hbl⟩; have HV := Aside0.mk hv; have HBL := Aside0.mk hbl; have HB1 := Aside0.mk (below_step HB.out hbl); clear hv hbl)
        | (at_builtin; refine Kd.R_append kPc (w0 := w) w.heap.size rfl (.tmp 22) (.tmp 31) 24 30 (.agg #[(.int .i64 0), (.int .i64 0), (.slice none 0 0)]) 40 rfl Try.underlying24 infoPc rfl (by decide) (by omega) u5 out ⟨(a1 : Int) / 64, (a1 : Int) % 64, b.take n⟩ [.int .i64 ((a1 : Int) / 64), .int .i64 ((a1 : Int) % 64), .slice A2 n c2] (fun _ => True) (fun k => True ∧ some k ≠ u5.ownBlock) rfl rfl (kPc_mkM _ _ _ ⟨(a1 : Int) / 64, (a1 : Int) % 64, b.take n⟩ (Kd.R_lower (Kd.R_newR HV.out HO.out) (below_size HB.out))) (fun _ h => h) (fun _ _ => trivial) (Kd.R_below HO.out HBL.out) HB1.out (below_size HB1.out) (by omega) ?_; intro v3 w3 ho3 hb3 _ _; have HO3 := Aside0.mk ho3; have HB3 := Aside0.mk hb3; have HBw := Aside0.mk hb3; clear ho3 hb3))
      go_quiet (fail)
      go_wp2_with fail
      go_roundg (b.length - n)
      case measure => omega
      case rel =>
        refine ⟨a1 + n, A3, c1 - n, b.drop n, out ++ [⟨(a1 : Int) / 64, (a1 : Int) % 64, b.take n⟩], by go_num, by rw [List.length_drop], ⟨?_⟩, by rw [List.length_drop]; omega, by rw [List.length_drop]; omega, by rw [List.length_drop, List.length_append, List.length_singleton]; omega, by have := HS.out; rw [List.length_drop]; omega, ⟨Kd.R_drewN HO3.out _⟩, ⟨pw_below_drewN HB3.out _⟩, ⟨?_⟩⟩
        · rw [List.length_drop]
          exact HA3.out _ _ HA.out
        · rw [HP.out, pieces_step a1 b n HN.out h0, List.append_assoc, List.singleton_append]
    · go_wp2_with fail
      go_ret
      obtain rfl : b = [] := List.eq_nil_of_length_eq_zero (by omega)
      exact ⟨_, rfl, by rw [HP.out, pieces_nil, List.append_nil]; exact HO.out, HB.out⟩
end Go.Proofs.Ytpnbjpkdbiiogaa
