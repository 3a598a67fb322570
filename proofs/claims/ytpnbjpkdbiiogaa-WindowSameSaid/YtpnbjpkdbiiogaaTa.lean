/- The cloning of bytes, sector.Count, the reference's Count and sector.Pieces (at a place not below 0): what each call answers. -/
import Derived.Test.YtpnbjpkdbiiogaaProg
import Derived.WalkKit
import Derived.WalkSpells
import Derived.Lib.Hide
import Derived.BigQuiet
import Derived.Deep.QuietTactic
import Derived.Deep.LoopGhost
import Derived.Deep.DeepCutAuto
import Derived.Deep.RegionLaw
import Derived.Test.YtpnbjpkdbiiogaaWWords
import Derived.Test.YtpnbjpkdbiiogaaWApart
namespace Go.Proofs.Ytpnbjpkdbiiogaa
set_option linter.unusedVariables false
open Go.RowKit Go.Proofs.YtpnbjpkdbiiogaaW.PrintWords
theorem mx2 (k k' : IntKind) (x y : Int) : Builtin.max2 (.int k x) (.int k' y) = pure (.int k (if x < y then y else x)) := by simp only [Builtin.max2, gt_iff_lt]
theorem mn2 (k k' : IntKind) (x y : Int) : Builtin.min2 (.int k x) (.int k' y) = pure (.int k (if y < x then y else x)) := by simp only [Builtin.min2]
theorem mxTwo (ats : Array TypeId) (ty : TypeId) (a b : Value) : Builtin.max_ ats ty #[a, b] = (Builtin.max2 a b >>= fun s => pure s) := by simp only [Builtin.max_, List.foldlM_cons, List.foldlM_nil]
theorem mnTwo (ats : Array TypeId) (ty : TypeId) (a b : Value) : Builtin.min_ ats ty #[a, b] = (Builtin.min2 a b >>= fun s => pure s) := by simp only [Builtin.min_, List.foldlM_cons, List.foldlM_nil]
attribute [local go_sem] mx2 mn2 mxTwo mnTwo

theorem infoU8 : (Try.prog.info? 5).map (fun i => (i.zero, i.size, i.bytes)) = some (some (.int .u8 0), 1, 1) := by kernel_rfl

theorem ret_int {k : IntKind} {a b : Int} (h : a = b) : Ending.returned (.int k a) = .returned (.int k b) := by rw [h]

/-- An empty row of the call's own that is not nil. -/
theorem R_empty {α : Type} (d : Kd α) (e : Nat) (w : World) (base : Nat) (ok : Nat → Prop) (hok : ok w.heap.size) (hb : base ≤ w.heap.size := by omega) :
    d.R e (w.alloc (.cells #[] e)) base ok (.slice (some ⟨w.heap.size, 0, none⟩) 0 0) [] := by
  refine ⟨fun k hk => ?_, [], World.ownsRow_made w #[] 0 hb (Nat.zero_le _) (by simp), Reps.none _ _⟩
  have : w.heap.size = k := by simpa [Value.ownBlock] using hk
  subst this
  exact hok

theorem C_takeN {α : Type} {k : Kd α} {w : World} {A : Option Addr} {xs : List α} {n : Nat} (h : k.C w A n xs) (m : Nat) (hm : m ≤ n) : k.C w A m (xs.take m) := by
  obtain rfl : xs.length = n := h.1
  have h1 := Kd.C_take h hm
  have hl : (xs.take m).length = m := by rw [List.length_take]; omega
  rwa [hl] at h1

/-- A cut from a place on: its address under a letter. -/
theorem cut_drop {α : Type} {P : Program} (d : Kd α) (t e : TypeId) (kl : IntKind) {i : TypeInfo} (ht : P.underlying t = some (.slice e)) (hi : P.info? e = some i) (hsz : i.size = d.sz) (A : Option Addr) (n c m : Nat) (hm : m ≤ n) (hc : n ≤ c) :
    ∃ A3, (∀ W : World, (Instr.slice t (.slice A n c) (some (.int kl (m : Int))) none none).run P W = .ok (.slice A3 (n - m) (c - m)) W) ∧ ∀ (w : World) (xs : List α), d.C w A n xs → d.C w A3 (n - m) (xs.drop m) := by
  refine ⟨if c = m then A else A.map (·.add (m * d.sz)), fun W => ?_, fun w xs h => ?_⟩
  · have h := cut_from (P := P) t e kl ht hi d.sz hsz A n c (m : Int) (by omega) (by omega) W
    simpa using h
  · obtain rfl : xs.length = n := h.1
    have h1 := Kd.C_drop (c := c) h hm hc
    rwa [List.length_drop] at h1

/-- slices.Clone of bytes. -/
theorem clone_bytes (A : Option Addr) (n c : Nat) (l : List Int) (w : World) (hr : Kd.C (Kd.int .u8) w A n l) (hb : n ≤ 140737488355328) :
    Calls Try.prog 86 #[.slice A n c] w fun e w' => ∃ A' c', e = .returned (.slice A' n c') ∧ n ≤ c' ∧ Kd.R (Kd.int .u8) 5 w' w.heap.size (fun _ => True) (.slice A' n c') l ∧ Below w.heap.size w w' := by
  have q22 : ∀ (w : World) (a : Option Addr) (n c n' c' : Nat), (binOp .eql 22 (.slice a n c) (.slice none n' c')).run Try.prog w = .ok (.bool a.isNone) w := fun w a n c n' c' => Lib.run_eql_slice_nil w _ _ a n c n' c' Try.underlying22
  obtain rfl : l.length = n := hr.1
  have HR := Aside0.mk hr
  clear hr
  rcases A with _ | ad
  · have hn : l = [] := by
      have h := HR.out.2.2
      by_cases h0 : 0 < l.length
      · obtain ⟨ad, e, _⟩ := h h0
        cases e
      · exact List.eq_nil_of_length_eq_zero (by omega)
    subst hn
    go_enter Try.func86, Try.ntmps86
    go_wp2
    go_ret
    exact ⟨_, _, rfl, Nat.le_refl _, Kd.R_nil _ _ _ _ _, Below.refl _ _⟩
  · go_enter Try.func86, Try.ntmps86
    go_wp2_with (at_builtin; refine Kd.R_append_rows (Kd.int .u8) (Rr := (Kd.int .u8).K w) (w0 := w) w.heap.size rfl (.tmp 5) (.tmp 6) 22 5 (.int .u8 0) 1 rfl Try.underlying22 infoU8 rfl (by decide) (by omega) _ [] l (some ad) l.length c (fun _ => True) (fun _ => False) rfl rfl ?c1 (Kd.C_alloc HR.out _) (fun _ _ h => h) (fun _ h => h.elim) (fun _ _ => trivial) (below_alloc (Below.refl _ _) _) ?c7 ?c8 ?_)
    case c1 => exact R_empty _ _ _ _ _ trivial
    case c7 => simp
    case c8 => simp; omega
    intro v1 w1 ho hb1 _ _
    obtain ⟨A2, c2, rfl, hc2, _⟩ := Kd.R_reads ho
    go_wp2
    go_ret
    exact ⟨_, _, rfl, hc2, ho, hb1⟩

/-! ### sector.Count and the reference's -/
def cnt (n : Int) : Int := if n ≤ 0 then 0 else (n - 1) / 64 + 1
theorem count_any (n : Int) (w : World) (h : n ≤ 9223372036854775807) :
    Calls Try.prog 18 #[.int .i64 n] w fun e w' => e = .returned (.int .i64 (cnt n)) ∧ w = w' := by
  by_cases h0 : n ≤ 0
  · go_enter Try.func18, Try.ntmps18
    go_wp2
    go_ret
    exact ⟨ret_int (by unfold cnt; rw [if_pos h0]), rfl⟩
  · go_enter Try.func18, Try.ntmps18
    go_wp2
    go_ret
    exact ⟨ret_int (by unfold cnt; rw [if_neg (by omega)]), rfl⟩
theorem refcount_any (n : Int) (w : World) (h : n ≤ 9223372036854775807) :
    Calls Try.prog 19 #[.int .i64 n] w fun e w' => e = .returned (.int .i64 (cnt n)) ∧ w = w' := by
  by_cases h0 : n < 1
  · go_enter Try.func19, Try.ntmps19
    go_wp2
    go_ret
    exact ⟨ret_int (by unfold cnt; rw [if_pos (by omega)]), rfl⟩
  · by_cases h1 : 0 < n % 64
    · go_enter Try.func19, Try.ntmps19
      go_wp2
      go_ret
      exact ⟨ret_int (by unfold cnt; rw [if_neg (by omega)]; omega), rfl⟩
    · go_enter Try.func19, Try.ntmps19
      go_wp2
      go_ret
      exact ⟨ret_int (by unfold cnt; rw [if_neg (by omega)]; omega), rfl⟩

/-! ### pieces -/
structure Pc where
  s : Int
  f : Int
  d : List Int
def kPc : Kd Pc := Kd.iso (Kd.pair (Kd.int .i64) (Kd.pair (Kd.int .i64) (Kd.slice 5 (Kd.int .u8)))) (fun x : Pc => (x.s, x.f, x.d))
theorem kPc_mkM (w : World) (base : Nat) (ok : Nat → Prop) (x : Pc) {v2 : Value} (g2 : (Kd.int .u8).R 5 w base ok v2 x.d) : kPc.M w base ok x [.int .i64 x.s, .int .i64 x.f, v2] :=
  ⟨[.int .i64 x.s], [.int .i64 x.f, v2], rfl, rfl, ⟨[.int .i64 x.f], [v2], rfl, rfl, ⟨v2, rfl, g2⟩⟩⟩
theorem infoPc : (Try.prog.info? 30).map (fun i => (i.zero, i.size, i.bytes)) = some (some (.agg #[(.int .i64 0), (.int .i64 0), (.slice none 0 0)]), 3, 40) := by kernel_rfl

/-- The pieces of a write at a place that is not below 0. -/
def pcs : Nat → Nat → List Int → List Pc
  | 0, _, _ => []
  | g + 1, a, b => if b = [] then [] else ⟨(a : Int) / 64, (a : Int) % 64, b.take (min (64 - a % 64) b.length)⟩ :: pcs g (a + min (64 - a % 64) b.length) (b.drop (min (64 - a % 64) b.length))
theorem pcs_nil (g a : Nat) : pcs g a [] = [] := by cases g <;> simp [pcs]
theorem pcs_more : ∀ (g a : Nat) (b : List Int), b.length ≤ g → ∀ g', g ≤ g' → pcs g' a b = pcs g a b := by
  intro g
  induction g with
  | zero => intro a b hb g' _; obtain rfl : b = [] := List.eq_nil_of_length_eq_zero (by omega); simp [pcs_nil]
  | succ g ih =>
    intro a b hb g' hg
    obtain ⟨g', rfl⟩ : ∃ m, g' = m + 1 := ⟨g' - 1, by omega⟩
    unfold pcs
    by_cases h : b = []
    · rw [if_pos h, if_pos h]
    · rw [if_neg h, if_neg h, ih _ _ (by have : 0 < b.length := List.length_pos_iff.2 h; rw [List.length_drop]; omega) g' (by omega)]
def pieces (a : Nat) (b : List Int) : List Pc := pcs b.length a b
theorem pieces_nil (a : Nat) : pieces a [] = [] := rfl
theorem pieces_step (a : Nat) (b : List Int) (n : Nat) (hn : n = min (64 - a % 64) b.length) (h : 0 < b.length) : pieces a b = ⟨(a : Int) / 64, (a : Int) % 64, b.take n⟩ :: pieces (a + n) (b.drop n) := by
  subst hn
  have hb : b ≠ [] := List.length_pos_iff.1 h
  unfold pieces
  obtain ⟨g, hg⟩ : ∃ m, b.length = m + 1 := ⟨b.length - 1, by omega⟩
  rw [hg, pcs, if_neg hb, ← hg]
  rw [← pcs_more _ (a + min (64 - a % 64) b.length) (b.drop (min (64 - a % 64) b.length)) (Nat.le_refl _) g (by rw [List.length_drop]; omega)]

set_option maxHeartbeats 1000000 in
set_option maxRecDepth 100000 in
theorem pieces_any (a : Nat) (A : Option Addr) (c : Nat) (l : List Int) (w : World) (hr : Kd.C (Kd.int .u8) w A l.length l) (hc : l.length ≤ c) (hl : l.length ≤ 1099511627776) (ha : a ≤ 2305843009213693952) :
    Calls Try.prog 16 #[.int .i64 (a : Int), .slice A l.length c] w fun e w' => ∃ v : Value, e = .returned v ∧ Kd.R kPc 30 w' w.heap.size (fun _ => True) v (pieces a l) ∧ Below w.heap.size w w' := by
  have HR := Aside0.mk hr
  clear hr
  obtain ⟨i0, hi, hz0, hz1, hz2⟩ := info_parts infoU8
  go_enter Try.func16, Try.ntmps16
  go_wp2
  go_loopg [0, 1, 5] l.length (fun g v0 v1 v5 wr => ∃ (a1 : Nat) (A1 : Option Addr) (c1 : Nat) (b : List Int) (out : List Pc), v0 = .int .i64 (a1 : Int) ∧ v1 = .slice A1 b.length c1 ∧ Aside0 (Kd.C (Kd.int .u8) w A1 b.length b) ∧ b.length ≤ c1 ∧ b.length ≤ g ∧ out.length + b.length ≤ l.length ∧ a1 + b.length = a + l.length ∧
      Aside0 (Kd.R kPc 30 wr w.heap.size (fun _ => True) v5 out) ∧ Aside0 (Below w.heap.size w wr) ∧ Aside0 (pieces a l = out ++ pieces a1 b))
  case atStart => exact ⟨a, A, c, l, [], rfl, rfl, HR, hc, Nat.le_refl _, by simp, rfl, ⟨Kd.R_nil _ _ _ _ _⟩, ⟨Below.refl _ _⟩, ⟨rfl⟩⟩
  case round =>
    obtain ⟨a1, A1, c1, b, out, rfl, rfl, HA, hc1, hg, ho, hs, HO, HB, HP⟩ := hrel
    have hs1 : a1 ≤ 4611686018427387904 := by omega
    have HS := Aside0.mk hs
    clear hs
    by_cases h0 : 0 < b.length
    · obtain ⟨n, hn⟩ : ∃ n, n = min (64 - a1 % 64) b.length := ⟨_, rfl⟩
      have hmn : (if (b.length : Int) < 64 - (a1 : Int) % 64 then (b.length : Int) else 64 - (a1 : Int) % 64) = (n : Int) := by split <;> omega
      have hn1 : 1 ≤ n := by omega
      have hn2 : n ≤ b.length := by omega
      have hn3 : n ≤ 64 := by omega
      have HN := Aside0.mk hn
      clear hn
      have HC := Aside0.mk (C_takeN (Kd.C_below HA.out HB.out) n hn2)
      obtain ⟨A3, hcut, hA3⟩ := cut_drop (P := Try.prog) (Kd.int .u8) 22 5 .i64 Try.underlying22 hi hz1 A1 b.length c1 n hn2 hc1
      have HA3 := Aside0.mk hA3
      clear hA3
      go_wp2_with (first
        | (go_at_call 86; refine (clone_bytes A1 n c1 (b.take n) _ HC.out (by omega)).mono ?_; rintro e w1 ⟨A2, c2, rfl, hc2, hv, hbl⟩; have HV := Aside0.mk hv; have HBL := Aside0.mk hbl; have HB1 := Aside0.mk (below_step HB.out hbl); clear hv hbl)
        | (at_builtin; refine Kd.R_append kPc (w0 := w) w.heap.size rfl (.tmp 22) (.tmp 31) 24 30 (.agg #[(.int .i64 0), (.int .i64 0), (.slice none 0 0)]) 40 rfl Try.underlying24 infoPc rfl (by decide) (by omega) u5 out ⟨(a1 : Int) / 64, (a1 : Int) % 64, b.take n⟩ [.int .i64 ((a1 : Int) / 64), .int .i64 ((a1 : Int) % 64), .slice A2 n c2] (fun _ => True) (fun k => True ∧ some k ≠ u5.ownBlock) rfl rfl (kPc_mkM _ _ _ ⟨(a1 : Int) / 64, (a1 : Int) % 64, b.take n⟩ (Kd.R_lower (Kd.R_newR HV.out HO.out) (below_size HB.out))) (fun _ h => h) (fun _ _ => trivial) (Kd.R_below HO.out HBL.out) HB1.out (below_size HB1.out) (by omega) ?_; intro v3 w3 ho3 hb3 _ _; have HO3 := Aside0.mk ho3; have HB3 := Aside0.mk hb3; have HBw := Aside0.mk hb3; clear ho3 hb3))
      go_quiet (fail)
      go_wp2_with fail
      go_roundg (b.length - n)
      case measure => omega
      case rel =>
        refine ⟨a1 + n, A3, c1 - n, b.drop n, out ++ [⟨(a1 : Int) / 64, (a1 : Int) % 64, b.take n⟩], by go_num, by rw [List.length_drop], ⟨?_⟩, by rw [List.length_drop]; omega, by rw [List.length_drop]; omega, by rw [List.length_drop, List.length_append, List.length_singleton]; omega, by have := HS.out; rw [List.length_drop]; omega, ⟨Kd.R_drewN HO3.out _⟩, ⟨pw_below_drewN HB3.out _⟩, ⟨?_⟩⟩
        · rw [List.length_drop]
          exact HA3.out _ _ HA.out
        · rw [HP.out, pieces_step a1 b n HN.out h0, List.append_assoc, List.singleton_append]
    · go_wp2_with fail
      go_ret
      obtain rfl : b = [] := List.eq_nil_of_length_eq_zero (by omega)
      exact ⟨_, rfl, by rw [HP.out, pieces_nil, List.append_nil]; exact HO.out, HB.out⟩
end Go.Proofs.Ytpnbjpkdbiiogaa
/- The reference's Pieces (at a place not below 0): what the call answers, byte by byte. -/
namespace Go.Proofs.Ytpnbjpkdbiiogaa
set_option linter.unusedVariables false
open Go.RowKit Go.Proofs.YtpnbjpkdbiiogaaW.PrintWords
attribute [local go_sem] mx2 mn2 mxTwo mnTwo
theorem infoRPc : (Try.prog.info? 31).map (fun i => (i.zero, i.size, i.bytes)) = some (some (.agg #[(.int .i64 0), (.int .i64 0), (.slice none 0 0)]), 3, 40) := by kernel_rfl

theorem kPc_openM {w : World} {base : Nat} {ok : Nat → Prop} {x : Pc} {cs : List Value} (h : kPc.M w base ok x cs) : ∃ v2, cs = [.int .i64 x.s, .int .i64 x.f, v2] ∧ (Kd.int .u8).R 5 w base ok v2 x.d := by
  obtain ⟨_, _, rfl, rfl, ⟨_, _, rfl, rfl, ⟨v2, rfl, g2⟩⟩⟩ := h
  exact ⟨v2, rfl, g2⟩
theorem at_nat {k : IntKind} {w : World} {A : Option Addr} {n : Nat} {xs : List Int} (h : (Kd.int k).C w A n xs) (i : Nat) (h1 : i < n) : ∃ ad, A = some ad ∧ w.cell? (ad.add i) = some (.int k (rd xs (i : Int))) := by
  obtain ⟨ad, e, hc⟩ := Kd.at_int h (i : Int) (by omega) (by omega)
  exact ⟨ad, e, by simpa using hc⟩
def zPc : Pc := ⟨0, 0, []⟩

/-- One byte more, at a sector and a place in it. -/
def addB (out : List Pc) (s f x : Int) : List Pc :=
  if 0 < out.length ∧ (out.getD (out.length - 1) zPc).s = s then out.set (out.length - 1) ⟨(out.getD (out.length - 1) zPc).s, (out.getD (out.length - 1) zPc).f, (out.getD (out.length - 1) zPc).d ++ [x]⟩
  else out ++ [⟨s, f, [x]⟩]

/-- The reference's loop from a place on. -/
def rpcs (out : List Pc) (a : Nat) : List Int → List Pc
  | [] => out
  | x :: l => rpcs (addB out ((a : Int) / 64) ((a : Int) % 64) x) (a + 1) l

theorem rd_drop (l : List Int) (k : Nat) (h : k < l.length) : l.drop k = rd l (k : Int) :: l.drop (k + 1) := by
  rw [List.drop_eq_getElem_cons h]
  simp [rd, List.getD_eq_getElem?_getD, h]
theorem rpcs_step (out : List Pc) (a : Nat) (l : List Int) (k : Nat) (h : k < l.length) : rpcs out (a + k) (l.drop k) = rpcs (addB out (((a : Int) + k) / 64) (((a : Int) + k) % 64) (rd l (k : Int))) (a + (k + 1)) (l.drop (k + 1)) := by
  rw [rd_drop l k h, rpcs]
  simp only [Int.natCast_add, Nat.add_assoc]

/-- A byte is appended to the data of the piece at m: the row then. -/
theorem rp_back {e : Nat} {out : List Pc} {m n cap g : Nat} {W w5 : World} {base : Nat} {oki : Nat → Prop} {p : Pc} {A2 : Option Addr} {n2 c2 g5 n5 c5 : Nat} {x : Int}
    (HH : Kd.H kPc e W base (fun _ => True) (.slice (some ⟨g, 0, none⟩) n cap) out (m : Int) oki [.int .i64 p.s, .int .i64 p.f, .slice A2 n2 c2]) (hm : m < n)
    (hrow : ∀ k, (Value.slice A2 n2 c2).ownBlock = some k → oki k) (hg5 : W.grownBy w5 (Value.slice A2 n2 c2).ownBlock)
    (ho5 : (Kd.int .u8).R 5 w5 base oki (.slice (some ⟨g5, 0, none⟩) n5 c5) (p.d ++ [x])) (hne : ∀ k, oki k → k ≠ g) :
    Kd.S kPc e (w5.setCell ⟨g, m * 3 + 2, none⟩ (.slice (some ⟨g5, 0, none⟩) n5 c5)) base (fun _ => True) (.slice (some ⟨g, 0, none⟩) n cap) (out.set m ⟨p.s, p.f, p.d ++ [x]⟩) := by
  have h1 := Kd.H_grown HH hg5 hrow
  have h2 := (Kd.H_seg h1 (by omega) (by omega) (seg := [.slice (some ⟨g5, 0, none⟩) n5 c5]) (j := 2) (Nat.le_refl 3) (by intro q hq; rw [List.mem_singleton.1 hq]; rfl)).1
  have h3 : Kd.H kPc e (w5.setCell ⟨g, m * 3 + 2, none⟩ (.slice (some ⟨g5, 0, none⟩) n5 c5)) base (fun _ => True) (.slice (some ⟨g, 0, none⟩) n cap) out (m : Int) oki [.int .i64 p.s, .int .i64 p.f, .slice (some ⟨g5, 0, none⟩) n5 c5] := h2
  have h4 := Kd.H_back h3 (x' := ⟨p.s, p.f, p.d ++ [x]⟩) (okp := oki) (kPc_mkM _ _ _ ⟨p.s, p.f, p.d ++ [x]⟩ (Kd.R_far ho5 (p := ⟨g, m * 3 + 2, none⟩) hne _)) (fun _ h => h)
  simpa using h4

theorem getD_mem (l : List Pc) (m : Nat) (h : m < l.length) : l.getD m zPc ∈ l := by
  rw [List.getD_eq_getElem?_getD, List.getElem?_eq_getElem h]
  exact List.getElem_mem h
theorem set_bound {l : List Pc} {m k : Nat} {q : Pc} (h : ∀ p ∈ l, p.d.length ≤ k) (hq : q.d.length ≤ k + 1) : ∀ p ∈ l.set m q, p.d.length ≤ k + 1 := by
  intro p hp
  rcases List.mem_or_eq_of_mem_set hp with hp | hp
  · have := h p hp; omega
  · rw [hp]; exact hq
theorem addB_new (out : List Pc) (s f x : Int) (h : ¬ (0 < out.length ∧ (out.getD (out.length - 1) zPc).s = s)) : addB out s f x = (out ++ [Pc.mk s f []]).set out.length ⟨((out ++ [Pc.mk s f []]).getD out.length zPc).s, ((out ++ [Pc.mk s f []]).getD out.length zPc).f, ((out ++ [Pc.mk s f []]).getD out.length zPc).d ++ [x]⟩ := by
  unfold addB
  rw [if_neg h]
  simp [List.getD_eq_getElem?_getD]


set_option maxHeartbeats 4000000 in
set_option maxRecDepth 100000 in
theorem rpieces_any (a : Nat) (A : Option Addr) (c : Nat) (l : List Int) (w : World) (hr : Kd.C (Kd.int .u8) w A l.length l) (hc : l.length ≤ c) (hl : l.length ≤ 1099511627776) (ha : a ≤ 2305843009213693952) :
    Calls Try.prog 17 #[.int .i64 (a : Int), .slice A l.length c] w fun e w' => ∃ v : Value, e = .returned v ∧ Kd.S kPc 31 w' w.heap.size (fun _ => True) v (rpcs [] a l) ∧ Below w.heap.size w w' := by
  have HR := Aside0.mk hr
  clear hr
  go_enter Try.func17, Try.ntmps17
  go_wp2
  go_loopg [5, 6] l.length (fun g v5 v6 wr => ∃ (k : Nat) (out : List Pc), v6 = .int .i64 (k : Int) ∧ k ≤ l.length ∧ g = l.length - k ∧ out.length ≤ k ∧ Aside0 (Kd.S kPc 31 wr w.heap.size (fun _ => True) v5 out) ∧ Aside0 (Below w.heap.size w wr) ∧ Aside0 (rpcs [] a l = rpcs out (a + k) (l.drop k)) ∧ Aside0 (∀ p ∈ out, p.d.length ≤ k))
  case atStart => exact ⟨0, [], rfl, Nat.zero_le _, rfl, Nat.le_refl _, ⟨Kd.S_nil _ _ _ _ _⟩, ⟨Below.refl _ _⟩, ⟨rfl⟩, ⟨by simp⟩⟩
  case round =>
    obtain ⟨k, out, rfl, hk, hg, ho, HO, HB, HP, HD⟩ := hrel
    have HG := Aside0.mk hg
    clear hg
    by_cases hlt : k < l.length
    · obtain ⟨ad, rfl, hx⟩ := at_nat HR.out k (by omega)
      have hxw := pw_cell_below HB.out hx
      obtain ⟨A5, c5, hv5, hc5, _⟩ := Kd.S_reads HO.out
      subst hv5
      by_cases h0 : 0 < out.length
      · obtain ⟨g3, c3, ha3, hg3, hgl3, _⟩ := Kd.S_form HO.out h0
        cases ha3
        obtain ⟨P1, hP1⟩ : ∃ P1 : Pc, P1 = out.getD (out.length - 1) zPc := ⟨_, rfl⟩
        obtain ⟨oki1, cs1, hcl1, hM1, hcc1, _, _, _⟩ := Kd.S_elem HO.out zPc ((out.length - 1 : Nat) : Int) (by omega) (by omega)
        obtain ⟨v1, rfl, _⟩ := kPc_openM hM1
        have hcell1 : wr.cell? ⟨g3, (out.length - 1) * 3, none⟩ = some (.int .i64 P1.s) := by rw [hP1]; simpa [kPc, Kd.iso, Kd.pair, Kd.int, Kd.scalar, Kd.slice] using hcc1 0 _ rfl
        clear hcc1 hM1 hcl1
        have HP1 := Aside0.mk hP1
        clear hP1
        by_cases hs : P1.s = ((a : Int) + k) / 64
        · have hsb : (P1.s != ((a : Int) + k) / 64) = false := by simp [hs]
          have HADD : Aside0 (addB out (((a : Int) + k) / 64) (((a : Int) + k) % 64) (rd l (k : Int)) = out.set (out.length - 1) ⟨(out.getD (out.length - 1) zPc).s, (out.getD (out.length - 1) zPc).f, (out.getD (out.length - 1) zPc).d ++ [rd l (k : Int)]⟩) := ⟨by unfold addB; rw [if_pos ⟨h0, by rw [← HP1.out]; exact hs⟩]⟩
          clear hs
          go_wp2_with fail
          have HDO := HD
          obtain ⟨p, hp⟩ : ∃ p : Pc, p = (out).getD (out.length - 1) zPc := ⟨_, rfl⟩
          obtain ⟨oki, cs, hcl, hM0, hcc, hfr, hoki, hH⟩ := Kd.S_elem HO.out zPc ((out.length - 1 : Nat) : Int) (by omega) (by first | omega | (simp; done) | (simp; omega))
          have hM : kPc.M wr w.heap.size oki p cs := by rw [hp]; simpa using hM0
          obtain ⟨v2, rfl, hv2⟩ := kPc_openM hM
          obtain ⟨A2, c2, rfl, hc2, _⟩ := Kd.R_reads hv2
          have hx3 := pw_cell_below HB.out hx
          have hcell : (wr).cell? ⟨g3, (out.length - 1) * 3 + 2, none⟩ = some (.slice A2 p.d.length c2) := by simpa [kPc, Kd.iso, Kd.pair, Kd.int, Kd.scalar, Kd.slice] using hcc 2 _ rfl
          have hfroz : (wr).frozen? ⟨g3, (out.length - 1) * 3 + 2, none⟩ = false := by simpa [kPc, Kd.iso, Kd.pair, Kd.int, Kd.scalar, Kd.slice] using hfr 2
          clear hcc hfr hM0
          have hne3 : ∀ k, (oki k ∨ True ∧ (wr).heap.size ≤ k) → k ≠ g3 := fun k hk he => by
            rcases hk with hk | hk
            · exact (hoki k hk).2 he
            · have := hk.2; omega
          have HH := Aside0.mk (Kd.H_widen hH)
          have HV := Aside0.mk (Kd.R_mono hv2 (fun k hk => (Or.inl hk : oki k ∨ True ∧ (wr).heap.size ≤ k)))
          have hpl : p.d.length ≤ k := by rw [hp]; exact HDO.out _ (getD_mem (out) (out.length - 1) (by first | omega | (simp; done) | (simp; omega)))
          have HPP := Aside0.mk hp
          clear hH hv2 hM hoki hcl hp
          go_region_law ((refine Kd.R_append_step (Kd.int .u8) (W := (wr).drew) (w0 := w) w.heap.size (by rfl) (.tmp 52) (.tmp 57) 22 5 (.int .u8 0) 1 rfl Try.underlying22 infoU8 rfl (by decide) (by omega) (.slice A2 p.d.length c2) p.d (rd l (k : Int)) [.int .u8 (rd l (k : Int))] (fun k => oki k ∨ True ∧ (wr).heap.size ≤ k) (fun _ => False) (by rfl) (by rfl) rfl (fun _ h => h.elim) (fun k hk => .inr ⟨trivial, hk⟩) (Kd.R_drew HV.out) (below_drew1 HB.out) (below_size (below_drew1 HB.out)) (by omega) ?_); intro v5 w5 ho5 hb5 hg5 _; obtain ⟨g5, c5', rfl, _, _, _⟩ := Kd.R_form ho5 (by simp); have hcell5 := hg5.cell (a := ⟨g3, (out.length - 1) * 3 + 2, none⟩) hcell (Kd.R_away HV.out hne3); have hfroz5 : w5.frozen? ⟨g3, (out.length - 1) * 3 + 2, none⟩ = false := (World.frozen?_of_block (hg5.block g3 hgl3 (Kd.R_away HV.out hne3))).trans hfroz; have HO5 := Aside0.mk ho5; have HB5 := Aside0.mk hb5; have HG5 := Aside0.mk hg5; clear ho5 hb5 hg5)
          all_goals
            go_wp2_with fail
            go_roundg (l.length - (k + 1))
            case measure => have := HG.out; omega
            case rel =>
              have h7 := rp_back (m := out.length - 1) (Kd.H_drew HH.out) (by first | omega | (simp; done) | (simp; omega)) HV.out.1 HG5.out HO5.out hne3
              refine ⟨k + 1, (out).set (out.length - 1) ⟨p.s, p.f, p.d ++ [rd l (k : Int)]⟩, by go_num, by omega, rfl, ?_, ⟨by simpa using h7⟩, ⟨HB5.out.setCell (p := ⟨g3, (out.length - 1) * 3 + 2, none⟩) hg3 _⟩, ⟨?_⟩, ⟨set_bound HDO.out (by simp; omega)⟩⟩
              · simp; try omega
              · rw [HP.out, rpcs_step out a l k hlt, HADD.out, HPP.out]
        · have hsb : (P1.s != ((a : Int) + k) / 64) = true := by simp [hs]
          obtain ⟨P0, hP0⟩ : ∃ P0 : Pc, P0 = ⟨((a : Int) + k) / 64, ((a : Int) + k) % 64, []⟩ := ⟨_, rfl⟩
          have HADD : Aside0 (addB out (((a : Int) + k) / 64) (((a : Int) + k) % 64) (rd l (k : Int)) = (out ++ [P0]).set out.length ⟨((out ++ [P0]).getD out.length zPc).s, ((out ++ [P0]).getD out.length zPc).f, ((out ++ [P0]).getD out.length zPc).d ++ [rd l (k : Int)]⟩) := ⟨by rw [hP0]; exact addB_new out _ _ _ (by rw [← HP1.out]; exact fun h => hs h.2)⟩
          have HDO : Aside0 (∀ p ∈ out ++ [P0], p.d.length ≤ k) := ⟨by
            intro q hq
            rcases List.mem_append.1 hq with hq | hq
            · exact HD.out q hq
            · rw [List.mem_singleton.1 hq, hP0]; exact Nat.zero_le _⟩
          have HP0 := Aside0.mk hP0
          clear hP0 hs
          go_wp2_with (first
            | (at_builtin; refine Kd.S_append kPc (w0 := w) w.heap.size rfl (.tmp 35) (.tmp 42) 26 31 (.agg #[(.int .i64 0), (.int .i64 0), (.slice none 0 0)]) 40 rfl Try.underlying26 infoRPc rfl (by decide) (by omega) _ out P0 [.int .i64 (((a : Int) + k) / 64), .int .i64 (((a : Int) + k) % 64), .slice none 0 0] (fun _ => True) (fun _ => False) rfl rfl (by rw [HP0.out]; exact kPc_mkM _ _ _ ⟨((a : Int) + k) / 64, ((a : Int) + k) % 64, []⟩ (Kd.R_nil _ _ _ _ _)) (fun _ h => h.elim) (fun _ _ => trivial) (Kd.S_mono HO.out (fun _ _ => ⟨trivial, id⟩)) HB.out (below_size HB.out) (by omega) ?_; intro v3 w3 ho3 hb3 _ _; have HO3 := Aside0.mk ho3; have HB3 := Aside0.mk hb3; clear ho3 hb3; clear hg3 hgl3 hcell1; obtain ⟨g4, c4, rfl, hg3, hgl3, _⟩ := Kd.S_form HO3.out (by simp)))
          have hlt2 : (out.length : Int) < (out.length : Int) + 1 := by omega
          obtain ⟨p, hp⟩ : ∃ p : Pc, p = (out ++ [P0]).getD (out.length) zPc := ⟨_, rfl⟩
          obtain ⟨oki, cs, hcl, hM0, hcc, hfr, hoki, hH⟩ := Kd.S_elem HO3.out zPc ((out.length : Nat) : Int) (by omega) (by first | omega | (simp; done) | (simp; omega))
          have hM : kPc.M w3 w.heap.size oki p cs := by rw [hp]; simpa using hM0
          obtain ⟨v2, rfl, hv2⟩ := kPc_openM hM
          obtain ⟨A2, c2, rfl, hc2, _⟩ := Kd.R_reads hv2
          have hx3 := pw_cell_below HB3.out hx
          have hcell : (w3).cell? ⟨g4, out.length * 3 + 2, none⟩ = some (.slice A2 p.d.length c2) := by simpa [kPc, Kd.iso, Kd.pair, Kd.int, Kd.scalar, Kd.slice] using hcc 2 _ rfl
          have hfroz : (w3).frozen? ⟨g4, out.length * 3 + 2, none⟩ = false := by simpa [kPc, Kd.iso, Kd.pair, Kd.int, Kd.scalar, Kd.slice] using hfr 2
          clear hcc hfr hM0
          have hne3 : ∀ k, (oki k ∨ True ∧ (w3).heap.size ≤ k) → k ≠ g4 := fun k hk he => by
            rcases hk with hk | hk
            · exact (hoki k hk).2 he
            · have := hk.2; omega
          have HH := Aside0.mk (Kd.H_widen hH)
          have HV := Aside0.mk (Kd.R_mono hv2 (fun k hk => (Or.inl hk : oki k ∨ True ∧ (w3).heap.size ≤ k)))
          have hpl : p.d.length ≤ k := by rw [hp]; exact HDO.out _ (getD_mem (out ++ [P0]) (out.length) (by first | omega | (simp; done) | (simp; omega)))
          have HPP := Aside0.mk hp
          clear hH hv2 hM hoki hcl hp
          go_region_law ((refine Kd.R_append_step (Kd.int .u8) (W := (w3).drew) (w0 := w) w.heap.size (by rfl) (.tmp 52) (.tmp 57) 22 5 (.int .u8 0) 1 rfl Try.underlying22 infoU8 rfl (by decide) (by omega) (.slice A2 p.d.length c2) p.d (rd l (k : Int)) [.int .u8 (rd l (k : Int))] (fun k => oki k ∨ True ∧ (w3).heap.size ≤ k) (fun _ => False) (by rfl) (by rfl) rfl (fun _ h => h.elim) (fun k hk => .inr ⟨trivial, hk⟩) (Kd.R_drew HV.out) (below_drew1 HB3.out) (below_size (below_drew1 HB3.out)) (by omega) ?_); intro v5 w5 ho5 hb5 hg5 _; obtain ⟨g5, c5', rfl, _, _, _⟩ := Kd.R_form ho5 (by simp); have hcell5 := hg5.cell (a := ⟨g4, out.length * 3 + 2, none⟩) hcell (Kd.R_away HV.out hne3); have hfroz5 : w5.frozen? ⟨g4, out.length * 3 + 2, none⟩ = false := (World.frozen?_of_block (hg5.block g4 hgl3 (Kd.R_away HV.out hne3))).trans hfroz; have HO5 := Aside0.mk ho5; have HB5 := Aside0.mk hb5; have HG5 := Aside0.mk hg5; clear ho5 hb5 hg5)
          all_goals
            go_wp2_with fail
            go_roundg (l.length - (k + 1))
            case measure => have := HG.out; omega
            case rel =>
              have h7 := rp_back (m := out.length) (Kd.H_drew HH.out) (by first | omega | (simp; done) | (simp; omega)) HV.out.1 HG5.out HO5.out hne3
              refine ⟨k + 1, (out ++ [P0]).set (out.length) ⟨p.s, p.f, p.d ++ [rd l (k : Int)]⟩, by go_num, by omega, rfl, ?_, ⟨by simpa using h7⟩, ⟨HB5.out.setCell (p := ⟨g4, out.length * 3 + 2, none⟩) hg3 _⟩, ⟨?_⟩, ⟨set_bound HDO.out (by simp; omega)⟩⟩
              · simp; try omega
              · rw [HP.out, rpcs_step out a l k hlt, HADD.out, HPP.out]
      · obtain rfl : out = [] := List.eq_nil_of_length_eq_zero (by omega)
        obtain ⟨P0, hP0⟩ : ∃ P0 : Pc, P0 = ⟨((a : Int) + k) / 64, ((a : Int) + k) % 64, []⟩ := ⟨_, rfl⟩
        have HP0 := Aside0.mk hP0
        clear hP0
        go_wp2_with (first
          | (at_builtin; refine Kd.S_append kPc (w0 := w) w.heap.size rfl (.tmp 35) (.tmp 42) 26 31 (.agg #[(.int .i64 0), (.int .i64 0), (.slice none 0 0)]) 40 rfl Try.underlying26 infoRPc rfl (by decide) (by omega) _ [] P0 [.int .i64 (((a : Int) + k) / 64), .int .i64 (((a : Int) + k) % 64), .slice none 0 0] (fun _ => True) (fun _ => False) rfl rfl (by rw [HP0.out]; exact kPc_mkM _ _ _ ⟨((a : Int) + k) / 64, ((a : Int) + k) % 64, []⟩ (Kd.R_nil _ _ _ _ _)) (fun _ h => h.elim) (fun _ _ => trivial) (Kd.S_mono HO.out (fun _ _ => ⟨trivial, id⟩)) HB.out (below_size HB.out) (by simp) ?_; intro v3 w3 ho3 hb3 _ _; rw [List.nil_append] at ho3; have HO3 := Aside0.mk ho3; have HB3 := Aside0.mk hb3; clear ho3 hb3; obtain ⟨g3, c3, rfl, hg3, hgl3, _⟩ := Kd.S_form HO3.out (by simp)))
        have HADD : Aside0 (addB [] (((a : Int) + k) / 64) (((a : Int) + k) % 64) (rd l (k : Int)) = [P0].set 0 ⟨([P0].getD 0 zPc).s, ([P0].getD 0 zPc).f, ([P0].getD 0 zPc).d ++ [rd l (k : Int)]⟩) := ⟨by rw [HP0.out]; exact addB_new [] _ _ _ (by simp)⟩
        have HDO : Aside0 (∀ p ∈ [P0], p.d.length ≤ k) := ⟨by intro q hq; rw [List.mem_singleton.1 hq, HP0.out]; exact Nat.zero_le _⟩
        obtain ⟨p, hp⟩ : ∃ p : Pc, p = ([P0]).getD (0) zPc := ⟨_, rfl⟩
        obtain ⟨oki, cs, hcl, hM0, hcc, hfr, hoki, hH⟩ := Kd.S_elem HO3.out zPc ((0 : Nat) : Int) (by omega) (by first | omega | (simp; done) | (simp; omega))
        have hM : kPc.M w3 w.heap.size oki p cs := by rw [hp]; simpa using hM0
        obtain ⟨v2, rfl, hv2⟩ := kPc_openM hM
        obtain ⟨A2, c2, rfl, hc2, _⟩ := Kd.R_reads hv2
        have hx3 := pw_cell_below HB3.out hx
        have hcell : (w3).cell? ⟨g3, 2, none⟩ = some (.slice A2 p.d.length c2) := by simpa [kPc, Kd.iso, Kd.pair, Kd.int, Kd.scalar, Kd.slice] using hcc 2 _ rfl
        have hfroz : (w3).frozen? ⟨g3, 2, none⟩ = false := by simpa [kPc, Kd.iso, Kd.pair, Kd.int, Kd.scalar, Kd.slice] using hfr 2
        clear hcc hfr hM0
        have hne3 : ∀ k, (oki k ∨ True ∧ (w3).heap.size ≤ k) → k ≠ g3 := fun k hk he => by
          rcases hk with hk | hk
          · exact (hoki k hk).2 he
          · have := hk.2; omega
        have HH := Aside0.mk (Kd.H_widen hH)
        have HV := Aside0.mk (Kd.R_mono hv2 (fun k hk => (Or.inl hk : oki k ∨ True ∧ (w3).heap.size ≤ k)))
        have hpl : p.d.length ≤ k := by rw [hp]; exact HDO.out _ (getD_mem ([P0]) (0) (by first | omega | (simp; done) | (simp; omega)))
        have HPP := Aside0.mk hp
        clear hH hv2 hM hoki hcl hp
        go_region_law ((refine Kd.R_append_step (Kd.int .u8) (W := (w3).drew) (w0 := w) w.heap.size (by rfl) (.tmp 52) (.tmp 57) 22 5 (.int .u8 0) 1 rfl Try.underlying22 infoU8 rfl (by decide) (by omega) (.slice A2 p.d.length c2) p.d (rd l (k : Int)) [.int .u8 (rd l (k : Int))] (fun k => oki k ∨ True ∧ (w3).heap.size ≤ k) (fun _ => False) (by rfl) (by rfl) rfl (fun _ h => h.elim) (fun k hk => .inr ⟨trivial, hk⟩) (Kd.R_drew HV.out) (below_drew1 HB3.out) (below_size (below_drew1 HB3.out)) (by omega) ?_); intro v5 w5 ho5 hb5 hg5 _; obtain ⟨g5, c5', rfl, _, _, _⟩ := Kd.R_form ho5 (by simp); have hcell5 := hg5.cell (a := ⟨g3, 2, none⟩) hcell (Kd.R_away HV.out hne3); have hfroz5 : w5.frozen? ⟨g3, 2, none⟩ = false := (World.frozen?_of_block (hg5.block g3 hgl3 (Kd.R_away HV.out hne3))).trans hfroz; have HO5 := Aside0.mk ho5; have HB5 := Aside0.mk hb5; have HG5 := Aside0.mk hg5; clear ho5 hb5 hg5)
        all_goals
          go_wp2_with fail
          go_roundg (l.length - (k + 1))
          case measure => have := HG.out; omega
          case rel =>
            have h7 := rp_back (m := 0) (Kd.H_drew HH.out) (by first | omega | (simp; done) | (simp; omega)) HV.out.1 HG5.out HO5.out hne3
            refine ⟨k + 1, ([P0]).set (0) ⟨p.s, p.f, p.d ++ [rd l (k : Int)]⟩, by go_num, by omega, rfl, ?_, ⟨by simpa using h7⟩, ⟨HB5.out.setCell (p := ⟨g3, 2, none⟩) hg3 _⟩, ⟨?_⟩, ⟨set_bound HDO.out (by simp; omega)⟩⟩
            · simp; try omega
            · rw [HP.out, rpcs_step [] a l k hlt, HADD.out, HPP.out]
    · go_wp2_with fail
      go_ret
      have : l.drop k = [] := List.drop_of_length_le (by omega)
      exact ⟨_, rfl, by rw [HP.out, this]; exact HO.out, HB.out⟩
end Go.Proofs.Ytpnbjpkdbiiogaa
/- The reference's pieces are the program's: plain lists, no memory. -/
namespace Go.Proofs.Ytpnbjpkdbiiogaa
set_option linter.unusedVariables false
open Go.RowKit Go.Proofs.YtpnbjpkdbiiogaaW.PrintWords

/-! ### the reference's pieces are the program's -/
theorem addB_same (out0 : List Pc) (p : Pc) (s f x : Int) (h : p.s = s) : addB (out0 ++ [p]) s f x = out0 ++ [⟨p.s, p.f, p.d ++ [x]⟩] := by
  unfold addB
  rw [if_pos (by simp [List.getD_eq_getElem?_getD, h])]
  simp [List.getD_eq_getElem?_getD]
theorem addB_fresh (out : List Pc) (s f x : Int) (h : ∀ p, out.getLast? = some p → p.s ≠ s) : addB out s f x = out ++ [⟨s, f, [x]⟩] := by
  unfold addB
  rw [if_neg]
  rintro ⟨h0, h1⟩
  refine h (out.getD (out.length - 1) zPc) ?_ h1
  rw [List.getLast?_eq_getElem?, List.getD_eq_getElem?_getD, List.getElem?_eq_getElem (by omega)]
  rfl
theorem rpcs_chunk : ∀ (n : Nat) (out0 : List Pc) (a : Nat) (s f : Int) (d l : List Int), n ≤ l.length → (n = 0 ∨ (a : Int) / 64 = s ∧ a % 64 + n ≤ 64) →
    rpcs (out0 ++ [Pc.mk s f d]) a l = rpcs (out0 ++ [Pc.mk s f (d ++ l.take n)]) (a + n) (l.drop n) := by
  intro n
  induction n with
  | zero => intro out0 a s f d l _ _; simp
  | succ n ih =>
    intro out0 a s f d l hl ha
    match l, hl with
    | x :: l, hl =>
      rcases ha with ha | ⟨rfl, ha⟩
      · omega
      · rw [rpcs, addB_same out0 (Pc.mk ((a : Int) / 64) f d) _ _ x rfl]
        simp only [List.length_cons] at hl
        rw [ih out0 (a + 1) ((a : Int) / 64) f (d ++ [x]) l (by omega) (by omega)]
        simp [Nat.add_assoc, Nat.add_comm 1 n]
theorem rpcs_pieces : ∀ (g : Nat) (l : List Int) (out : List Pc) (a : Nat), l.length ≤ g → (∀ p, out.getLast? = some p → p.s ≠ (a : Int) / 64) → rpcs out a l = out ++ pieces a l := by
  intro g
  induction g with
  | zero =>
    intro l out a hl _
    obtain rfl : l = [] := List.eq_nil_of_length_eq_zero (by omega)
    simp [rpcs, pieces_nil]
  | succ g ih =>
    intro l out a hl hf
    match l, hl with
    | [], _ => simp [rpcs, pieces_nil]
    | x :: l, hl =>
      obtain ⟨n, hn⟩ : ∃ n, n = min (64 - a % 64) (x :: l).length := ⟨_, rfl⟩
      rw [pieces_step a (x :: l) n hn (by simp)]
      simp only [List.length_cons] at hl hn
      obtain ⟨m, rfl⟩ : ∃ m, n = m + 1 := ⟨n - 1, by omega⟩
      rw [rpcs, addB_fresh out _ _ x hf, rpcs_chunk m out (a + 1) _ _ _ l (by omega) (by omega)]
      by_cases h0 : l.drop m = []
      · simp [h0, rpcs, pieces_nil]
      · have hml : m < l.length := by
          rcases Nat.lt_or_ge m l.length with h | h
          · exact h
          · exact absurd (List.drop_of_length_le h) h0
        rw [ih (l.drop m) _ (a + 1 + m) (by rw [List.length_drop]; omega)]
        · simp [Nat.add_assoc, Nat.add_comm 1 m]
        · intro p hp
          rw [List.getLast?_concat] at hp
          injection hp with hp
          subst hp
          show (a : Int) / 64 ≠ _
          omega

end Go.Proofs.Ytpnbjpkdbiiogaa
/- Alike bytes are told alike; pieces at a place below 0; the chapter's example (awake) answers true. -/
namespace Go.Proofs.Ytpnbjpkdbiiogaa
set_option linter.unusedVariables false
open Go.RowKit Go.Proofs.YtpnbjpkdbiiogaaW.PrintWords

/-- Alike bytes are told alike. -/
theorem same_any (A0 A1 : Option Addr) (n m c0 c1 : Nat) (l : List Int) (w : World) (h0 : Kd.C (Kd.int .u8) w A0 n l) (h1 : Kd.C (Kd.int .u8) w A1 m l) :
    Calls Try.prog 20 #[.slice A0 n c0, .slice A1 m c1] w fun e w' => e = .returned (.bool true) ∧ w' = w := by
  have hcv3 := Kd.C_string (P := Try.prog) (A := A0) (c := c0) Try.underlying22 Try.underlying5 Try.underlying9 h0
  have hcv4 := Kd.C_string (P := Try.prog) (A := A1) (c := c1) Try.underlying22 Try.underlying5 Try.underlying9 h1
  clear h0 h1
  go_enter Try.func20, Try.ntmps20
  go_wp2
  go_ret
  exact ⟨rfl, rfl⟩

/-- Element i of pieces that are read. -/
theorem at_Pc {w : World} {A : Option Addr} {n : Nat} {xs : List Pc} (h : Kd.C kPc w A n xs) (i : Nat) (h1 : i < n) : ∃ ad A2 c2, A = some ad ∧ w.cell? (ad.add (i * 3)) = some (.int .i64 (xs.getD i zPc).s) ∧ w.cell? ⟨(ad.add (i * 3)).block, (ad.add (i * 3)).off + 1, none⟩ = some (.int .i64 (xs.getD i zPc).f) ∧ w.cell? ⟨(ad.add (i * 3)).block, (ad.add (i * 3)).off + 2, none⟩ = some (.slice A2 (xs.getD i zPc).d.length c2) ∧ (Kd.int .u8).C w A2 (xs.getD i zPc).d.length (xs.getD i zPc).d := by
  obtain ⟨ad, c, e, _, hK, hc0⟩ := Kd.C_get h zPc (i : Int) (by omega) (by omega)
  simp only [Int.toNat_natCast] at hK hc0
  have hc : ∀ j u, c[j]? = some u → w.cell? (ad.add (i * 3 + j)) = some u := hc0
  obtain ⟨_, _, rfl, rfl, ⟨_, _, rfl, rfl, ⟨A2, c2, rfl, l2, g2⟩⟩⟩ := hK
  exact ⟨ad, A2, c2, e, hc 0 _ rfl, by rw [← add_field _ _ 1 (by omega)]; exact hc 1 _ rfl, by rw [← add_field _ _ 2 (by omega)]; exact hc 2 _ rfl, g2⟩

set_option maxHeartbeats 1000000 in
theorem pieces_neg (a : Int) (v : Value) (w : World) (ha : a < 0) :
    Calls Try.prog 16 #[.int .i64 a, v] w fun e w' => e = .returned (.slice none 0 0) ∧ w' = w := by
  go_enter Try.func16, Try.ntmps16
  go_wp2
  refine wp_loop_rounds 1 ?_
  rw [rounds_succ]
  go_wp2
  go_ret
  exact ⟨rfl, rfl⟩
theorem rpieces_neg (a : Int) (v : Value) (w : World) (ha : a < 0) :
    Calls Try.prog 17 #[.int .i64 a, v] w fun e w' => e = .returned (.slice none 0 0) ∧ w' = w := by
  go_enter Try.func17, Try.ntmps17
  go_wp2
  go_ret
  exact ⟨rfl, rfl⟩

theorem C_lit (W : World) (e : TypeId) (k : IntKind) (xs : List Int) (hm : xs.length ≤ 9223372036854775807) : (Kd.int k).C (W.alloc (.cells (xs.map (Value.int k)).toArray e)) (some ⟨W.heap.size, 0, none⟩) xs.length xs := by
  have h := own_lit W W.heap.size e k xs (Nat.le_refl _) hm
  obtain ⟨A, c, hA, hr⟩ := own_reads h
  cases hA
  exact Kd.C_of_reads (enc := Value.int k) (d := (0 : Int)) hr

theorem at_PcR {e g n c : Nat} {w : World} {base : Nat} {ok : Nat → Prop} {xs : List Pc} (h : Kd.R kPc e w base ok (.slice (some ⟨g, 0, none⟩) n c) xs) (i : Nat) (h1 : i < n) : ∃ A2 c2, w.cell? ⟨g, i * 3, none⟩ = some (.int .i64 (xs.getD i zPc).s) ∧ w.cell? ⟨g, i * 3 + 1, none⟩ = some (.int .i64 (xs.getD i zPc).f) ∧ w.cell? ⟨g, i * 3 + 2, none⟩ = some (.slice A2 (xs.getD i zPc).d.length c2) ∧ (Kd.int .u8).C w A2 (xs.getD i zPc).d.length (xs.getD i zPc).d := by
  obtain ⟨hn, _, hc⟩ := Kd.R_reads' h
  obtain ⟨ad, A2, c2, e, r0, r1, r2, r3⟩ := at_Pc hc i (by omega)
  cases e
  simp only [add_plain] at r0 r1 r2
  exact ⟨A2, c2, r0, r1, r2, r3⟩

theorem pieces_awake : pieces 63 [1, 2, 3] = [⟨0, 63, [1]⟩, ⟨1, 0, [2, 3]⟩] := by rfl
set_option maxHeartbeats 2000000 in
set_option maxRecDepth 100000 in
theorem awake05_any (w : World) : Calls Try.prog 15 #[] w fun e w' => e = .returned (.bool true) ∧ Below w.heap.size w w' := by
  have hC := Aside0.mk (C_lit w 5 .u8 [1, 2, 3] (by decide))
  go_enter Try.func15, Try.ntmps15
  go_wp2_with (go_at_call 16; refine (pieces_any 63 (some ⟨w.heap.size, 0, none⟩) 3 [1, 2, 3] _ hC.out (by decide) (by decide) (by decide)).mono ?_; rintro e w1 ⟨v, rfl, hv, hb⟩; rw [pieces_awake] at hv; obtain ⟨g, c, rfl, _, _, _⟩ := Kd.R_form hv (by decide); obtain ⟨A2, c2, h0, h1, h2, _⟩ := at_PcR hv 0 (by decide); obtain ⟨A3, c3, h3, h4, h5, _⟩ := at_PcR hv 1 (by decide); simp at h0 h1 h2 h3 h4 h5; have HBL := Aside0.mk hb; clear hv hb)
  go_ret
  exact ⟨rfl, (below_alloc (Below.refl _ _) _).trans (HBL.out.mono (by simp))⟩
end Go.Proofs.Ytpnbjpkdbiiogaa
/- The walk of the law SectorCuts: it answers true. -/
namespace Go.Proofs.Ytpnbjpkdbiiogaa
set_option linter.unusedVariables false
open Go.RowKit Go.Proofs.YtpnbjpkdbiiogaaW.PrintWords

set_option maxHeartbeats 2000000 in
set_option maxRecDepth 100000 in
theorem cuts_walk (a0 : Int) (A : Option Addr) (c : Nat) (l : List Int) (sz : Int) (w : World) (h0 : -9223372036854775808 ≤ a0) (h1 : a0 ≤ 9223372036854775807) (h2 : -9223372036854775808 ≤ sz) (h3 : sz ≤ 9223372036854775807)
    (hr : Kd.C (Kd.int .u8) w A l.length l) (hc : l.length ≤ c) (hm : l.length ≤ 9223372036854775807) :
    Calls Try.prog 3 #[.int .i64 a0, .slice A l.length c, .int .i64 sz] w fun e w' => e = .returned (.bool true) ∧ Below w.heap.size w w' := by
  have HR := Aside0.mk hr
  clear hr
  by_cases b1 : 2000 < l.length
  · go_enter Try.func3, Try.ntmps3
    go_wp2_with (go_at_call 15; refine (awake05_any _).mono ?_; rintro e w1 ⟨rfl, hb⟩)
    go_ret
    exact ⟨rfl, hb⟩
  · by_cases b2 : 1099511627776 < a0
    · go_enter Try.func3, Try.ntmps3
      go_wp2_with (go_at_call 15; refine (awake05_any _).mono ?_; rintro e w1 ⟨rfl, hb⟩)
      go_ret
      exact ⟨rfl, hb⟩
    · by_cases b3 : 1099511627776 < sz
      · go_enter Try.func3, Try.ntmps3
        go_wp2_with (go_at_call 15; refine (awake05_any _).mono ?_; rintro e w1 ⟨rfl, hb⟩)
        go_ret
        exact ⟨rfl, hb⟩
      · by_cases b4 : a0 < 0
        · go_enter Try.func3, Try.ntmps3
          go_wp2_with (first
            | (go_at_call 16; refine (pieces_neg _ _ _ b4).mono ?_; rintro e w1 ⟨rfl, rfl⟩)
            | (go_at_call 17; refine (rpieces_neg _ _ _ b4).mono ?_; rintro e w1 ⟨rfl, rfl⟩)
            | (go_at_call 18; refine (count_any _ _ (by omega)).mono ?_; rintro e w1 ⟨rfl, rfl⟩)
            | (go_at_call 19; refine (refcount_any _ _ (by omega)).mono ?_; rintro e w1 ⟨rfl, rfl⟩))
          refine wp_loop_rounds 1 ?_
          rw [rounds_succ]
          go_wp2_with (go_at_call 15; refine (awake05_any _).mono ?_; rintro e w1 ⟨rfl, hb⟩)
          go_ret
          exact ⟨rfl, hb⟩
        · obtain ⟨a, rfl⟩ := Int.eq_ofNat_of_zero_le (show 0 ≤ a0 by omega)
          go_enter Try.func3, Try.ntmps3
          go_wp2_with (first
            | (go_at_call 16; refine (pieces_any a A c l _ HR.out hc (by omega) (by omega)).mono ?_; rintro e w1 ⟨v1, rfl, hv1, hb1⟩; obtain ⟨A1, c1, rfl, _, hC1⟩ := Kd.R_reads hv1; have HC1 := Aside0.mk hC1; have HB1 := Aside0.mk hb1; clear hv1 hC1 hb1)
            | (go_at_call 17; refine (rpieces_any a A c l _ (Kd.C_below HR.out HB1.out) hc (by omega) (by omega)).mono ?_; rintro e w2 ⟨v2, rfl, hv2, hb2⟩; rw [rpcs_pieces l.length l [] a (Nat.le_refl _) (by simp), List.nil_append] at hv2; obtain ⟨A2, c2, rfl, _, hC2⟩ := Kd.S_reads hv2; have HC2 := Aside0.mk hC2; have HC3 := Aside0.mk (Kd.C_below HC1.out hb2); have HB2 := Aside0.mk (below_step HB1.out hb2); clear hv2 hC2 hb2)
            | (go_at_call 18; refine (count_any _ _ (by omega)).mono ?_; rintro e w1 ⟨rfl, rfl⟩)
            | (go_at_call 19; refine (refcount_any _ _ (by omega)).mono ?_; rintro e w1 ⟨rfl, rfl⟩))
          obtain ⟨P, hP⟩ : ∃ P, P = pieces a l := ⟨_, rfl⟩
          rw [← hP] at HC2 HC3 ⊢
          clear hP HC1
          have hPm : P.length ≤ 9223372036854775807 := Kd.C_max HC2.out
          go_loopg [9] P.length (fun g v9 wr => ∃ k : Nat, v9 = .int .i64 (k : Int) ∧ k ≤ P.length ∧ Aside0 (g = P.length - k) ∧ Aside0 (Kd.C kPc wr A1 P.length P) ∧ Aside0 (Kd.C kPc wr A2 P.length P) ∧ Aside0 (Below w.heap.size w wr))
          case atStart => exact ⟨0, rfl, Nat.zero_le _, ⟨rfl⟩, HC3, HC2, HB2⟩
          case round =>
            clear HC2 HC3 HB2
            obtain ⟨k, rfl, hk, hg, HC3, HC2, HB2⟩ := hrel
            by_cases hlt : k < P.length
            · obtain ⟨ad1, A3, c3, e1, r1, r2, r3, r4⟩ := at_Pc HC3.out k hlt
              obtain ⟨ad2, A4, c4, e2, s1, s2, s3, s4⟩ := at_Pc HC2.out k hlt
              cases e1
              cases e2
              obtain ⟨p, hp⟩ : ∃ p, p = P.getD k zPc := ⟨_, rfl⟩
              rw [← hp] at r1 r2 r3 r4 s1 s2 s3 s4
              have R4 := Aside0.mk r4
              have S4 := Aside0.mk s4
              clear hp r4 s4
              go_wp2_with fail
              go_quiet ((go_at_call 20; exact Calls.quiet_of_same (same_any _ _ _ _ _ _ p.d _ (Kd.C_drewN R4.out _) (Kd.C_drewN S4.out _))))
              go_wp2_with fail
              go_roundg (P.length - (k + 1))
              case measure => have := hg.out; omega
              case rel => exact ⟨k + 1, by go_num, by omega, ⟨rfl⟩, ⟨Kd.C_drewN HC3.out _⟩, ⟨Kd.C_drewN HC2.out _⟩, ⟨pw_below_drewN HB2.out _⟩⟩
            · go_wp2_with (go_at_call 15; refine (awake05_any _).mono ?_; rintro e w3 ⟨rfl, hb⟩)
              go_ret
              exact ⟨rfl, below_step HB2.out hb⟩
end Go.Proofs.Ytpnbjpkdbiiogaa
/- Lists alone: what is laid over bytes, bytes of another size, a sector of bytes. -/
namespace Go.Proofs.Ytpnbjpkdbiiogaa
set_option linter.unusedVariables false
open Go.RowKit Go.Proofs.YtpnbjpkdbiiogaaW.PrintWords

/-- y laid over x from place k on, as far as x goes. -/
def overlay (x : List Int) (k : Nat) (y : List Int) : List Int := x.take k ++ y.take (x.length - k) ++ x.drop (k + y.length)
theorem overlay_get {x y : List Int} {k : Nat} (hk : k ≤ x.length) (i : Nat) : (overlay x k y)[i]? = if k ≤ i ∧ i < k + y.length ∧ i < x.length then y[i - k]? else x[i]? := by
  unfold overlay
  by_cases h1 : i < k
  · rw [if_neg (by omega), List.append_assoc, List.getElem?_append_left (by rw [List.length_take]; omega), List.getElem?_take, if_pos h1]
  · rw [List.append_assoc, List.getElem?_append_right (by rw [List.length_take]; omega), List.length_take, Nat.min_eq_left hk]
    by_cases h2 : i < k + y.length ∧ i < x.length
    · rw [if_pos ⟨by omega, h2⟩, List.getElem?_append_left (by rw [List.length_take]; omega), List.getElem?_take, if_pos (by omega)]
    · rw [if_neg (by omega), List.getElem?_append_right (by rw [List.length_take]; omega), List.getElem?_drop, List.length_take]
      by_cases h3 : y.length ≤ x.length - k
      · rw [Nat.min_eq_right h3]
        congr 1
        omega
      · rw [List.getElem?_eq_none (by omega), List.getElem?_eq_none (by omega)]
theorem overlay_length {x y : List Int} {k : Nat} (hk : k ≤ x.length) : (overlay x k y).length = x.length := by
  unfold overlay
  simp only [List.length_append, List.length_take, List.length_drop]
  omega
theorem overlay_nil (x : List Int) (k : Nat) : overlay x k [] = x := by simp [overlay]
theorem overlay_step {x y : List Int} {k i : Nat} (hk : k ≤ x.length) (hi : i < y.length) : overlay x k (y.take (i + 1)) = (overlay x k (y.take i)).set (k + i) (rd y (i : Int)) := by
  have hr : rd y (i : Int) = y[i] := by simp [rd, List.getD_eq_getElem?_getD, hi]
  rw [hr]
  apply List.ext_getElem?
  intro j
  rw [overlay_get hk, List.getElem?_set, overlay_length hk, overlay_get hk]
  simp only [List.length_take]
  by_cases h1 : k + i = j
  · subst h1
    by_cases h2 : k + i < x.length
    · rw [if_pos (by omega), if_pos rfl, if_pos h2, List.getElem?_take, if_pos (by omega)]
      simp [hi]
    · rw [if_neg (by omega), if_pos rfl, if_neg h2, List.getElem?_eq_none (by omega)]
  · rw [if_neg h1]
    by_cases h2 : k ≤ j ∧ j < k + min i y.length ∧ j < x.length
    · rw [if_pos (by omega), if_pos h2, List.getElem?_take, List.getElem?_take, if_pos (by omega), if_pos (by omega)]
    · rw [if_neg (by omega), if_neg h2]
/-- Behind the end of x nothing more is laid. -/
theorem overlay_far {x y : List Int} {k i : Nat} (hk : k ≤ x.length) (hi : x.length ≤ k + i) : overlay x k (y.take i) = overlay x k y := by
  apply List.ext_getElem?
  intro j
  rw [overlay_get hk, overlay_get hk]
  simp only [List.length_take]
  by_cases h2 : k ≤ j ∧ j < k + y.length ∧ j < x.length
  · rw [if_pos (by omega), if_pos h2, List.getElem?_take, if_pos (by omega)]
  · rw [if_neg (by omega), if_neg h2]
theorem overlay_take_all {x y : List Int} {k i : Nat} (h : y.length ≤ i) : overlay x k (y.take i) = overlay x k y := by rw [List.take_of_length_le h]

/-- Bytes of another size: what is new is nought. -/
def sizeL (b : List Int) (n : Int) : List Int := overlay (List.replicate n.toNat 0) 0 b
theorem sizeL_length (b : List Int) (n : Int) : (sizeL b n).length = n.toNat := by unfold sizeL; rw [overlay_length (Nat.zero_le _), List.length_replicate]
theorem sizeL_get (b : List Int) (n : Int) (i : Nat) : (sizeL b n)[i]? = if i < n.toNat then some (b.getD i 0) else none := by
  unfold sizeL
  rw [overlay_get (Nat.zero_le _), List.length_replicate]
  by_cases h1 : i < n.toNat
  · rw [if_pos h1]
    by_cases h2 : i < b.length
    · rw [if_pos (by omega)]
      simp [List.getD_eq_getElem?_getD, h2]
    · rw [if_neg (by omega)]
      simp [List.getD_eq_getElem?_getD, h1, List.getElem?_eq_none (Nat.le_of_not_lt h2)]
  · rw [if_neg (by omega), if_neg h1, List.getElem?_eq_none (by rw [List.length_replicate]; omega)]
theorem rd_sizeL (b : List Int) (n : Int) (i : Nat) (h : i < n.toNat) : rd (sizeL b n) (i : Int) = b.getD i 0 := by
  simp [rd, List.getD_eq_getElem?_getD, sizeL_get, h]
theorem take_snoc_rd (l : List Int) (k : Nat) (h : k < l.length) : l.take (k + 1) = l.take k ++ [rd l (k : Int)] := by
  rw [List.take_succ_eq_append_getElem h]
  simp [rd, List.getD_eq_getElem?_getD, h]

/-- A sector of bytes. -/
def atL (b : List Int) (n : Int) : List Int := if 0 ≤ n ∧ n < cnt b.length then sizeL (b.drop (n * 64).toNat) 64 else List.replicate 64 0
theorem atL_length (b : List Int) (n : Int) : (atL b n).length = 64 := by
  unfold atL
  split
  · exact sizeL_length _ _
  · simp
/-- A piece laid over a sector. -/
def layL (old : List Int) (f : Int) (d : List Int) : List Int := if 0 ≤ f ∧ f ≤ 64 then overlay (sizeL old 64) f.toNat d else sizeL old 64
/-- Bytes with another sector. -/
def setL (b : List Int) (n : Int) (s : List Int) : List Int := if 0 ≤ n ∧ n < cnt b.length then overlay b (n * 64).toNat (s.take 64) else b
theorem setL_length (b : List Int) (n : Int) (s : List Int) : (setL b n s).length = b.length := by
  unfold setL
  split
  · rename_i h
    exact overlay_length (by have := h.2; unfold cnt at this; split at this <;> omega)
  · rfl
theorem cnt_room {n : Int} {l : Nat} (h0 : 0 ≤ n) (h : n < cnt l) : n * 64 < l := by unfold cnt at h; split at h <;> omega

/-- Target and base, parted at i. -/
def mixL (t b : List Int) (i : Nat) : List Int := t.take i ++ b.drop i
theorem mixL_zero (t b : List Int) : mixL t b 0 = b := by simp [mixL]
theorem mixL_all (t b : List Int) (i : Nat) (h1 : t.length ≤ i) (h2 : b.length ≤ i) : mixL t b i = t := by simp [mixL, List.take_of_length_le h1, List.drop_of_length_le h2]
theorem mixL_length (t b : List Int) (i : Nat) (h : t.length = b.length) (hi : i ≤ b.length) : (mixL t b i).length = b.length := by simp [mixL]; omega
theorem mixL_set (t b : List Int) (i : Nat) (h : t.length = b.length) (hi : i < b.length) : (mixL t b i).set i (rd t (i : Int)) = mixL t b (i + 1) := by
  unfold mixL
  rw [take_snoc_rd t i (by omega), List.set_append_right _ _ (by rw [List.length_take]; omega), List.length_take, Nat.min_eq_left (by omega), Nat.sub_self, List.drop_eq_getElem_cons hi, List.set_cons_zero, List.append_assoc]
  rfl
theorem mixL_skip (t b : List Int) (i : Nat) (h : t.length = b.length) (hi : i < b.length) (e : rd t (i : Int) = rd b (i : Int)) : mixL t b i = mixL t b (i + 1) := by
  unfold mixL
  rw [take_snoc_rd t i (by omega), List.drop_eq_getElem_cons hi, List.append_assoc, e]
  simp [rd, List.getD_eq_getElem?_getD, hi]
end Go.Proofs.Ytpnbjpkdbiiogaa
/- sector.Size, At, Set and Lay: what each call answers. -/
namespace Go.Proofs.Ytpnbjpkdbiiogaa
set_option linter.unusedVariables false
open Go.RowKit Go.Proofs.YtpnbjpkdbiiogaaW.PrintWords
attribute [local go_sem] mx2 mn2 mxTwo mnTwo

section
variable {P : Program} {ops : Array Oper} {rest : List Oper} {o : Oper} {a : Act} {Q : Exit → Act → World → Prop}
/-- An arm ahead of which this stands is tried at that builtin alone. -/
theorem gateB {W : World} {b : Builtin} {xs : Array Operand} {ts : Array TypeId} (_ho : o.op = .call { callee := .builtin b, args := xs, argTypes := ts }) (h : wpList P ops Q (o :: rest) a W) : wpList P ops Q (o :: rest) a W := h
/-- copy onto the whole of a row of numbers of one's own. -/
theorem copy_all {ki : IntKind} {w0 W : World} (base : Nat) (hgd : o.guard = none) (s x : Operand) (t t' e : TypeId)
    (ho : o.op = .call { callee := .builtin .copy, args := #[s, x], argTypes := #[t, t'] }) (ht : P.underlying t = some (.slice e)) (hinfo : (P.info? e).map (·.size) = some 1)
    (v : Value) (xs ys : List Int) (A : Option Addr) (m c : Nat) (ok : Nat → Prop) (hs : a.eval s = v) (hx : a.eval x = .slice A m c)
    (HO : (Kd.int ki).R e W base ok v xs) (HR : (Kd.int ki).C W A m ys) (HB : Below base w0 W) (hbase : base ≤ W.heap.size)
    (h : ∀ w1, (Kd.int ki).R e w1 base ok v (overlay xs 0 ys) → Below base w0 w1 → W.grownBy w1 v.ownBlock → wpList P ops Q rest (a.put o.dst (.int .i64 ((min m xs.length : Nat) : Int))) w1) :
    wpList P ops Q (o :: rest) a W := by
  refine Kd.R_copy (0 : Int) base hgd s x t t' e ho ht hinfo v xs ys A m c ok hs hx HO HR HB hbase ?_
  intro w1 h1 h2 h3
  have hm : ys.length = m := HR.1
  have e1 : ys.take (min m xs.length) ++ xs.drop (min m xs.length) = overlay xs 0 ys := by
    unfold overlay
    simp only [List.take_zero, List.nil_append, Nat.sub_zero, Nat.zero_add, hm]
    by_cases hc : m ≤ xs.length
    · rw [Nat.min_eq_left hc, List.take_of_length_le (by omega), List.take_of_length_le (by omega)]
    · rw [Nat.min_eq_right (by omega), List.drop_of_length_le (by omega), List.drop_of_length_le (by omega)]
  rw [e1] at h1
  exact h w1 h1 h2 h3
/-- copy onto a row of numbers of one's own from a place on. -/
theorem run_copy_at {ki : IntKind} {W : World} (base : Nat) (t t' ty e : TypeId) (ht : P.underlying t = some (.slice e)) (hinfo : (P.info? e).map (·.size) = some 1)
    (g n cap k : Nat) (hk : k ≤ n) (xs ys : List Int) (A A3 : Option Addr) (m c : Nat) (ok : Nat → Prop)
    (hA3 : k < n → A3 = some ⟨g, k, none⟩)
    (HO : (Kd.int ki).R e W base ok (.slice (some ⟨g, 0, none⟩) n cap) xs) (HR : (Kd.int ki).C W A m ys) :
    ∃ w1, (Builtin.copy_ #[t, t'] ty #[.slice A3 (n - k) (cap - k), .slice A m c]).run P W = .ok (goInt ((min m (n - k) : Nat) : Int)) w1 ∧ (Kd.int ki).R e w1 base ok (.slice (some ⟨g, 0, none⟩) n cap) (overlay xs k ys) ∧ W.grownBy w1 (some g) := by
  have hR := Kd.reads_of_C (enc := Value.int ki) (d := (0 : Int)) (h1 := fun _ => rfl) HR
  have hm : ys.length = m := hR.1
  have hn : n = xs.length := (Kd.R_reads' HO).1
  subst hn
  have hown := Kd.own_of_R HO
  have hov : ys.length = 0 ∨ xs.length = k → overlay xs k ys = xs := by
    intro h
    apply List.ext_getElem?
    intro i
    rw [overlay_get hk, if_neg (by omega)]
  by_cases h0 : min m (xs.length - k) = 0
  · refine ⟨W, ?_, by rw [hov (by omega)]; exact HO, World.grownBy.refl W _⟩
    rw [h0]
    exact run_copy_none W t t' ty e A3 A (xs.length - k) (cap - k) m c ht hinfo h0
  · obtain ⟨ad, hA, hc⟩ := hR.2.2 (by omega)
    rw [hA3 (by omega), hA]
    rcases hown.2 with ⟨hv, _⟩ | ⟨g', cap', cur, hv, hb, hh, hnc, hcm, hcs, htake⟩
    · cases hv
    cases hv
    have hsrc : ∀ j u, (encs (Value.int ki) (ys.take (min m (xs.length - k))))[j]? = some u → W.cell? (ad.add j) = some u := by
      intro j u hu
      have hj : j < (ys.take (min m (xs.length - k))).length := by
        rcases Nat.lt_or_ge j (ys.take (min m (xs.length - k))).length with h | h
        · exact h
        · rw [List.getElem?_eq_none (by rw [encs_length]; exact h)] at hu
          cases hu
      have hjm : j < min m (xs.length - k) := by rw [List.length_take] at hj; omega
      rw [encs_get (d := (0 : Int)) _ j hj] at hu
      rw [hc j (by omega), ← hu]
      simp [List.getD_eq_getElem?_getD, hjm]
    have hkl : (encs (Value.int ki) (ys.take (min m (xs.length - k)))).length = min m (xs.length - k) := by rw [encs_length, List.length_take]; omega
    have hcs1 : cur.size = cap := by omega
    have hr := run_copy_cells (P := P) W t t' ty e g k (xs.length - k) (cap - k) ad m c (encs (Value.int ki) (ys.take (min m (xs.length - k)))) ht hinfo (by rw [hkl]) hsrc
      (fun j hj => by rw [cell_of_row W g _ cur e (0, 0) hh]; simp; omega) (fun j _ => blk_frozen hh _) (by intro u hu; simp only [encs, List.mem_map] at hu; obtain ⟨q, _, rfl⟩ := hu; rfl)
    obtain ⟨cur', h3, h4, h5⟩ := setCells_row (encs (Value.int ki) (ys.take (min m (xs.length - k)))) k W cur hh (by rw [hkl]; omega)
    obtain ⟨s1, s2, s3, s4⟩ := setCells_same g (encs (Value.int ki) (ys.take (min m (xs.length - k)))) k W
    refine ⟨_, by rw [hr, hkl], Kd.R_of_own ?_ (fun j hj => HO.1 j hj), ⟨s1, s2, s3, by rw [s4]; exact Nat.le_refl _, fun j _ hj => setCells_far _ _ j (fun he => hj (by rw [he]))⟩⟩
    have hln : (overlay xs k ys).length = xs.length := overlay_length hk
    rw [hln]
    refine ⟨by rw [encs_length, hln, Nat.mul_one], .inr ⟨g, cap, cur', rfl, hb, h3, hnc, hcm, by rw [h4, hcs], ?_⟩⟩
    have htk : cur.toList.take xs.length = encs (Value.int ki) xs := by rw [← htake, Nat.mul_one]
    rw [h5, hkl, Nat.mul_one]
    have hl1 : (cur.toList.take k).length = k := by rw [List.length_take, Array.length_toList]; omega
    apply List.ext_getElem?
    intro j
    have hcur : ∀ i, i < xs.length → cur.toList[i]? = (encs (Value.int ki) xs)[i]? := by
      intro i hi
      rw [← htk, List.getElem?_take, if_pos hi]
    simp only [encs, List.getElem?_map] at hcur ⊢
    rw [overlay_get hk]
    rw [List.getElem?_take]
    by_cases hj : j < xs.length
    · rw [if_pos hj]
      by_cases h6 : j < k
      · rw [if_neg (by omega), List.append_assoc, List.getElem?_append_left (by omega), List.getElem?_take, if_pos h6]
        exact hcur j hj
      · rw [List.append_assoc, List.getElem?_append_right (by omega), hl1]
        by_cases h7 : j - k < min m (xs.length - k)
        · rw [if_pos (by omega), List.getElem?_append_left (by simp; omega), List.getElem?_map, List.getElem?_take, if_pos h7]
        · rw [if_neg (by omega), List.getElem?_append_right (by simp; omega), List.getElem?_drop]
          rw [← hcur j hj]
          congr 1
          simp
          omega
    · rw [if_neg hj, if_neg (by omega), List.getElem?_eq_none (by omega)]
      rfl
end

theorem infoU8s : (Try.prog.info? 5).map (·.size) = some 1 := by kernel_rfl

set_option maxHeartbeats 1000000 in
set_option maxRecDepth 100000 in
/-- sector.Size. -/
theorem size_any (A : Option Addr) (n c : Nat) (l : List Int) (sz : Int) (w : World) (hr : Kd.C (Kd.int .u8) w A n l) (hn : n ≤ 1099511627776) (hs : sz ≤ 1099511627776) :
    Calls Try.prog 21 #[.slice A n c, .int .i64 sz] w fun e w' => ∃ A' c', e = .returned (.slice A' sz.toNat c') ∧ sz.toNat ≤ c' ∧ Kd.R (Kd.int .u8) 5 w' w.heap.size (fun _ => True) (.slice A' sz.toNat c') (sizeL l sz) ∧ Below w.heap.size w w' := by
  have HR := Aside0.mk hr
  clear hr
  obtain ⟨N, hN⟩ : ∃ N : Nat, N = sz.toNat := ⟨_, rfl⟩
  have hmx : (if sz < 0 then (0 : Int) else sz) = (N : Int) := by split <;> omega
  rw [← hN]
  have HN := Aside0.mk hN
  have hNb : N ≤ 1099511627776 := by omega
  clear hN
  go_enter Try.func21, Try.ntmps21
  go_wp2_with (first
    | (at_make; refine Kd.R_make (Kd.int .u8) (w0 := w) w.heap.size 5 rfl (N := 8) rfl 22 (.tmp 7) (.tmp 7) rfl (N : Int) rfl rfl Try.underlying22 (.int .u8 0) 1 infoU8 rfl (by decide) (by omega) (0 : Int) (ok := fun _ => True) (okp := fun _ => False) rfl (fun _ h => h.elim) trivial (by omega) (by simp; omega) (Below.refl _ _) (Nat.le_refl _) ?_; intro v1 w1 h1 hb1 _ _; simp only [Int.toNat_natCast] at h1; have H1 := Aside0.mk h1; have HB1 := Aside0.mk hb1; clear h1 hb1)
    | ((with_reducible refine gateB (b := .copy) (xs := #[.tmp 9, .tmp 10]) rfl ?_); refine copy_all (ki := .u8) (w0 := w) w.heap.size rfl (.tmp 9) (.tmp 10) 22 22 5 rfl Try.underlying22 infoU8s v1 (List.replicate N 0) l A n c (fun _ => True) rfl rfl H1.out (Kd.C_below HR.out HB1.out) HB1.out (below_size HB1.out) ?_; intro w2 h2 hb2 _; have H2 := Aside0.mk h2; have HB2 := Aside0.mk hb2; clear h2 hb2))
  have h3 : Kd.R (Kd.int .u8) 5 w2 w.heap.size (fun _ => True) v1 (sizeL l sz) := by unfold sizeL; rw [← HN.out]; exact H2.out
  obtain ⟨A', c', rfl, hc', _⟩ := Kd.R_reads h3
  rw [sizeL_length, ← HN.out] at hc'
  go_ret
  exact ⟨A', c', by simp [sizeL_length, HN.out], hc', by simpa [sizeL_length, HN.out] using h3, HB2.out⟩

set_option maxHeartbeats 1000000 in
set_option maxRecDepth 100000 in
/-- sector.At. -/
theorem at_any (A : Option Addr) (n c : Nat) (l : List Int) (k : Int) (w : World) (hr : Kd.C (Kd.int .u8) w A n l) (hc : n ≤ c) (hn : n ≤ 1099511627776) :
    Calls Try.prog 23 #[.slice A n c, .int .i64 k] w fun e w' => ∃ A' c', e = .returned (.slice A' 64 c') ∧ 64 ≤ c' ∧ Kd.R (Kd.int .u8) 5 w' w.heap.size (fun _ => True) (.slice A' 64 c') (atL l k) ∧ Below w.heap.size w w' := by
  obtain rfl : l.length = n := hr.1
  have HR := Aside0.mk hr
  clear hr
  obtain ⟨i0, hi, _, hz1, _⟩ := info_parts infoU8
  by_cases hk : 0 ≤ k
  · by_cases hk2 : k < cnt l.length
    · obtain ⟨q, rfl⟩ := Int.eq_ofNat_of_zero_le hk
      have hroom := cnt_room hk hk2
      obtain ⟨A3, hcut0, hA3⟩ := cut_drop (P := Try.prog) (Kd.int .u8) 22 5 .i64 Try.underlying22 hi hz1 A l.length c (q * 64) (by omega) hc
      have hcut : ∀ W : World, (Instr.slice 22 (.slice A l.length c) (some (.int .i64 ((q : Int) * 64))) none none).run Try.prog W = .ok (.slice A3 (l.length - q * 64) (c - q * 64)) W := fun W => by simpa using hcut0 W
      have HA3 := Aside0.mk hA3
      clear hA3 hcut0
      go_enter Try.func23, Try.ntmps23
      go_wp2_with (first
        | (at_make; refine Kd.R_make (Kd.int .u8) (w0 := w) (w).heap.size 5 rfl (N := 6) rfl 22 (.const (.int .i64 64)) (.const (.int .i64 64)) rfl 64 rfl rfl Try.underlying22 (.int .u8 0) 1 infoU8 rfl (by decide) (by omega) (0 : Int) (ok := fun _ => True) (okp := fun _ => False) rfl (fun _ h => h.elim) trivial (by omega) (by decide) (Below.refl _ _) (Nat.le_refl _) ?_; intro v1 w1 h1 hb1 _ _; have h1' : Kd.R (Kd.int .u8) 5 w1 (w).heap.size (fun _ => True) v1 (List.replicate 64 0) := h1; obtain ⟨g1, c1, rfl, _, _, _⟩ := Kd.R_form h1' (by simp); rw [List.length_replicate] at h1'; have H1 := Aside0.mk h1'; have HB1 := Aside0.mk hb1; clear h1 h1' hb1)
        | (go_at_call 18; refine (count_any _ _ (by omega)).mono ?_; rintro e w1 ⟨rfl, rfl⟩)
        | ((with_reducible refine gateB (b := .copy) (xs := #[.tmp 16, .tmp 20]) rfl ?_); refine copy_all (ki := .u8) (w0 := w) w.heap.size rfl (.tmp 16) (.tmp 20) 22 22 5 rfl Try.underlying22 infoU8s (.slice (some ⟨g1, 0, none⟩) 64 c1) (List.replicate 64 0) (l.drop (q * 64)) A3 (l.length - q * 64) (c - q * 64) (fun _ => True) rfl rfl H1.out (Kd.C_below (HA3.out _ _ HR.out) HB1.out) HB1.out (below_size HB1.out) ?_; intro w2 h2 hb2 _; have H2 := Aside0.mk h2; have HB2 := Aside0.mk hb2; clear h2 hb2))
      go_ret
      exact ⟨_, _, rfl, (Kd.R_reads' H2.out).2.1, by unfold atL; rw [if_pos ⟨hk, hk2⟩]; unfold sizeL; rw [show ((q : Int) * 64).toNat = q * 64 by omega]; exact H2.out, HB2.out⟩
    · go_enter Try.func23, Try.ntmps23
      go_wp2_with (first
        | (at_make; refine Kd.R_make (Kd.int .u8) (w0 := w) (w).heap.size 5 rfl (N := 6) rfl 22 (.const (.int .i64 64)) (.const (.int .i64 64)) rfl 64 rfl rfl Try.underlying22 (.int .u8 0) 1 infoU8 rfl (by decide) (by omega) (0 : Int) (ok := fun _ => True) (okp := fun _ => False) rfl (fun _ h => h.elim) trivial (by omega) (by decide) (Below.refl _ _) (Nat.le_refl _) ?_; intro v1 w1 h1 hb1 _ _; have h1' : Kd.R (Kd.int .u8) 5 w1 (w).heap.size (fun _ => True) v1 (List.replicate 64 0) := h1; obtain ⟨g1, c1, rfl, _, _, _⟩ := Kd.R_form h1' (by simp); rw [List.length_replicate] at h1'; have H1 := Aside0.mk h1'; have HB1 := Aside0.mk hb1; clear h1 h1' hb1)
        | (go_at_call 18; refine (count_any _ _ (by omega)).mono ?_; rintro e w1 ⟨rfl, rfl⟩))
      go_ret
      exact ⟨_, _, rfl, (Kd.R_reads' H1.out).2.1, by unfold atL; rw [if_neg (by omega)]; exact H1.out, HB1.out⟩
  · go_enter Try.func23, Try.ntmps23
    go_wp2_with (first
      | (at_make; refine Kd.R_make (Kd.int .u8) (w0 := w) (w).heap.size 5 rfl (N := 6) rfl 22 (.const (.int .i64 64)) (.const (.int .i64 64)) rfl 64 rfl rfl Try.underlying22 (.int .u8 0) 1 infoU8 rfl (by decide) (by omega) (0 : Int) (ok := fun _ => True) (okp := fun _ => False) rfl (fun _ h => h.elim) trivial (by omega) (by decide) (Below.refl _ _) (Nat.le_refl _) ?_; intro v1 w1 h1 hb1 _ _; have h1' : Kd.R (Kd.int .u8) 5 w1 (w).heap.size (fun _ => True) v1 (List.replicate 64 0) := h1; obtain ⟨g1, c1, rfl, _, _, _⟩ := Kd.R_form h1' (by simp); rw [List.length_replicate] at h1'; have H1 := Aside0.mk h1'; have HB1 := Aside0.mk hb1; clear h1 h1' hb1)
      | fail)
    go_ret
    exact ⟨_, _, rfl, (Kd.R_reads' H1.out).2.1, by unfold atL; rw [if_neg (by omega)]; exact H1.out, HB1.out⟩

/-- A cut of a row of one's own from a place on. -/
theorem cut_own {P : Program} (t e : TypeId) (kl : IntKind) {i : TypeInfo} (ht : P.underlying t = some (.slice e)) (hi : P.info? e = some i) (hsz : i.size = 1) (g n c m : Nat) (hm : m ≤ n) (hc : n ≤ c) :
    ∃ A3, (∀ W : World, (Instr.slice t (.slice (some ⟨g, 0, none⟩) n c) (some (.int kl (m : Int))) none none).run P W = .ok (.slice A3 (n - m) (c - m)) W) ∧ (m < n → A3 = some ⟨g, m, none⟩) := by
  refine ⟨_, fun W => by simpa using cut_from (P := P) t e kl ht hi 1 hsz (some ⟨g, 0, none⟩) n c (m : Int) (by omega) (by omega) W, fun h => ?_⟩
  rw [if_neg (by omega)]
  simp [add_plain]
theorem gateS {P : Program} {ops : Array Oper} {o : Oper} {a : Act} {Q : Exit → Act → World → Prop} {Kc : Act → World → Prop} {W : World} {E : Prop} {b : Builtin} {xs : Array Operand} {ts : Array TypeId} (_ho : o.op = .call { callee := .builtin b, args := xs, argTypes := ts })
    (h : if Region.wanted o (yielded ops a.tmps) = true then Oper.wp P o a W Kc Q else E) : if Region.wanted o (yielded ops a.tmps) = true then Oper.wp P o a W Kc Q else E := h
theorem step_copy_at {P : Program} {ops : Array Oper} {o : Oper} {a : Act} {Q : Exit → Act → World → Prop} {Kc : Act → World → Prop} {ki : IntKind} {w0 W : World} (base : Nat) (hw : Region.wanted o (yielded ops a.tmps) = true) (s x : Operand) (t t' e : TypeId)
    (ho : o.op = .call { callee := .builtin .copy, args := #[s, x], argTypes := #[t, t'] }) (ht : P.underlying t = some (.slice e)) (hinfo : (P.info? e).map (·.size) = some 1)
    (g n cap k : Nat) (hk : k ≤ n) (xs ys : List Int) (A A3 : Option Addr) (m c : Nat) (ok : Nat → Prop) (hA3 : k < n → A3 = some ⟨g, k, none⟩)
    (hs : a.eval s = .slice A3 (n - k) (cap - k)) (hx : a.eval x = .slice A m c)
    (HO : (Kd.int ki).R e W base ok (.slice (some ⟨g, 0, none⟩) n cap) xs) (HR : (Kd.int ki).C W A m ys) (HB : Below base w0 W) (hbase : base ≤ W.heap.size)
    (h : ∀ w1, (Kd.int ki).R e w1 base ok (.slice (some ⟨g, 0, none⟩) n cap) (overlay xs k ys) → Below base w0 w1 → W.grownBy w1 (some g) → Kc (a.put o.dst (.int .i64 ((min m (n - k) : Nat) : Int))) w1) :
    if Region.wanted o (yielded ops a.tmps) = true then Oper.wp P o a W Kc Q else Kc (a.put o.dst undef) W := by
  rw [if_pos hw]
  obtain ⟨w1, hr, h1, h2⟩ := run_copy_at (P := P) base t t' o.type e ht hinfo g n cap k hk xs ys A A3 m c ok hA3 HO HR
  unfold Oper.wp execOp
  simp only [ho, resolve, invoke, builtin, Sem.run_bind, Sem.run_pure, Result.andThen_ok, List.map_toArray, List.map_cons, List.map_nil, hs, hx, hr]
  exact h w1 h1 (HB.grown h2 hbase (fun j hj => Kd.R_base HO j (by simpa [Value.ownBlock] using hj))) h2

set_option maxHeartbeats 2000000 in
set_option maxRecDepth 100000 in
/-- sector.Set. -/
theorem set_any (A : Option Addr) (n c : Nat) (l : List Int) (k : Int) (As : Option Addr) (ns cs : Nat) (ls : List Int) (w : World) (hr : Kd.C (Kd.int .u8) w A n l) (hn : n ≤ 1099511627776) (hrs : Kd.C (Kd.int .u8) w As ns ls) (hcs : ns ≤ cs) (hns : ns ≤ 1099511627776) :
    Calls Try.prog 25 #[.slice A n c, .int .i64 k, .slice As ns cs] w fun e w' => ∃ A' c', e = .returned (.slice A' n c') ∧ n ≤ c' ∧ Kd.R (Kd.int .u8) 5 w' w.heap.size (fun _ => True) (.slice A' n c') (setL l k ls) ∧ Below w.heap.size w w' := by
  obtain rfl : l.length = n := hr.1
  have HR := Aside0.mk hr
  have HS := Aside0.mk hrs
  clear hr hrs
  obtain ⟨i0, hi, _, hz1, _⟩ := info_parts infoU8
  by_cases hk : 0 ≤ k
  · by_cases hk2 : k < cnt l.length
    · obtain ⟨q, rfl⟩ := Int.eq_ofNat_of_zero_le hk
      have hroom := cnt_room hk hk2
      obtain ⟨N, hN⟩ : ∃ N, N = min ns 64 := ⟨_, rfl⟩
      have hmn : (if (64 : Int) < (ns : Int) then (64 : Int) else (ns : Int)) = (N : Int) := by split <;> omega
      have hN1 : N ≤ ns := by omega
      have HN := Aside0.mk hN
      clear hN
      have hcut2 : ∀ W : World, (Instr.slice 22 (.slice As ns cs) none (some (.int .i64 (N : Int))) none).run Try.prog W = .ok (.slice As N cs) W := fun W => by simpa using cut_to (P := Try.prog) 22 5 .i64 Try.underlying22 hi As ns cs (N : Int) (by omega) (by omega) hcs W
      go_enter Try.func25, Try.ntmps25
      go_wp2_with (first
        | (go_at_call 86; refine (clone_bytes A l.length c l _ HR.out (by omega)).mono ?_; rintro e w1 ⟨A1, c1, rfl, hc1, hv, hbl⟩; have HV := Aside0.mk hv; have HB1 := Aside0.mk hbl; obtain ⟨g, cc, hE, _, _, _⟩ := Kd.R_form hv (by omega); cases hE; clear hv hbl; obtain ⟨A3, hcut0, hA3⟩ := cut_own (P := Try.prog) 22 5 .i64 Try.underlying22 hi hz1 g l.length c1 (q * 64) (by omega) hc1; have hcut : ∀ W : World, (Instr.slice 22 (.slice (some ⟨g, 0, none⟩) l.length c1) (some (.int .i64 ((q : Int) * 64))) none none).run Try.prog W = .ok (.slice A3 (l.length - q * 64) (c1 - q * 64)) W := fun W => (by simpa using hcut0 W); have HA3 := Aside0.mk hA3; clear hA3 hcut0)
        | (go_at_call 18; refine (count_any _ _ (by omega)).mono ?_; rintro e w1 ⟨rfl, rfl⟩))
      have hwr : IntKind.i64.wrap ((q : Int) * 64) = (q : Int) * 64 := by rw [IntKind.wrap_i64]; omega
      go_region_law (((with_reducible refine gateS (b := .copy) (xs := #[.tmp 22, .tmp 27]) rfl ?_); refine step_copy_at (ki := .u8) (w0 := w) (W := w1.drew) w.heap.size (by rfl) (.tmp 22) (.tmp 27) 22 22 5 (by rfl) Try.underlying22 infoU8s g l.length c1 (q * 64) (by omega) l (ls.take N) As A3 N cs (fun _ => True) HA3.out (by rfl) (by rfl) (Kd.R_drew HV.out) (Kd.C_drew (C_takeN (Kd.C_below HS.out HB1.out) N hN1)) (below_drew1 HB1.out) (below_size (below_drew1 HB1.out)) ?_); intro w2 h2 hb2 _; have H2 := Aside0.mk h2; have HB2 := Aside0.mk hb2; clear h2 hb2)
      all_goals
        go_wp2_with fail
        go_ret
        refine ⟨_, _, rfl, hc1, ?_, HB2.out⟩
        unfold setL
        rw [if_pos ⟨hk, hk2⟩, show ((q : Int) * 64).toNat = q * 64 by omega]
        have e : ls.take 64 = ls.take N := by
          have hl : ls.length = ns := HS.out.1
          rw [HN.out]
          rcases Nat.le_total ns 64 with h | h
          · rw [Nat.min_eq_left h, List.take_of_length_le (by omega), List.take_of_length_le (by omega)]
          · rw [Nat.min_eq_right h]
        rw [e]
        exact H2.out
    · go_enter Try.func25, Try.ntmps25
      go_wp2_with (first
        | (go_at_call 86; refine (clone_bytes A l.length c l _ HR.out (by omega)).mono ?_; rintro e w1 ⟨A1, c1, rfl, hc1, hv, hbl⟩; have HV := Aside0.mk hv; have HB1 := Aside0.mk hbl; clear hv hbl)
        | (go_at_call 18; refine (count_any _ _ (by omega)).mono ?_; rintro e w1 ⟨rfl, rfl⟩))
      go_ret
      exact ⟨_, _, rfl, hc1, by unfold setL; rw [if_neg (by omega)]; exact HV.out, HB1.out⟩
  · go_enter Try.func25, Try.ntmps25
    go_wp2_with (go_at_call 86; refine (clone_bytes A l.length c l _ HR.out (by omega)).mono ?_; rintro e w1 ⟨A1, c1, rfl, hc1, hv, hbl⟩; have HV := Aside0.mk hv; have HB1 := Aside0.mk hbl; clear hv hbl)
    go_ret
    exact ⟨_, _, rfl, hc1, by unfold setL; rw [if_neg (by omega)]; exact HV.out, HB1.out⟩

set_option maxHeartbeats 2000000 in
set_option maxRecDepth 100000 in
/-- sector.Lay. -/
theorem lay_any (A : Option Addr) (n c : Nat) (l : List Int) (s f : Int) (Ad : Option Addr) (nd cd : Nat) (d : List Int) (w : World) (hr : Kd.C (Kd.int .u8) w A n l) (hrd : Kd.C (Kd.int .u8) w Ad nd d) :
    Calls Try.prog 27 #[.slice A n c, .agg #[.int .i64 s, .int .i64 f, .slice Ad nd cd]] w fun e w' => ∃ A' c', e = .returned (.slice A' 64 c') ∧ 64 ≤ c' ∧ Kd.R (Kd.int .u8) 5 w' w.heap.size (fun _ => True) (.slice A' 64 c') (layL l f d) ∧ Below w.heap.size w w' := by
  have HR := Aside0.mk hr
  have HD := Aside0.mk hrd
  clear hr hrd
  obtain ⟨i0, hi, _, hz1, _⟩ := info_parts infoU8
  have hb1' : (w.alloc (.cells #[.int .i64 s, .int .i64 f, .slice Ad nd cd] 30)).cell? ⟨w.heap.size, 1, none⟩ = some (.int .i64 f) := blk_cell (blk_new w _) 1
  have hb2' : (w.alloc (.cells #[.int .i64 s, .int .i64 f, .slice Ad nd cd] 30)).cell? ⟨w.heap.size, 2, none⟩ = some (.slice Ad nd cd) := blk_cell (blk_new w _) 2
  have hb1'' : w.cell? ⟨w.heap.size, 1, none⟩ = none := by simp [World.cell?]
  by_cases hf : 0 ≤ f
  · by_cases hf2 : f ≤ 64
    · obtain ⟨q, rfl⟩ := Int.eq_ofNat_of_zero_le hf
      have hq : q ≤ 64 := by omega
      go_enter Try.func27, Try.ntmps27
      go_wp2_with (first
        | (at_make; refine Kd.R_make (Kd.int .u8) (w0 := (w.alloc (.cells #[.int .i64 s, .int .i64 (q : Int), .slice Ad nd cd] 30))) ((w.alloc (.cells #[.int .i64 s, .int .i64 (q : Int), .slice Ad nd cd] 30))).heap.size 5 rfl (N := 6) rfl 22 (.const (.int .i64 64)) (.const (.int .i64 64)) rfl 64 rfl rfl Try.underlying22 (.int .u8 0) 1 infoU8 rfl (by decide) (by omega) (0 : Int) (ok := fun _ => True) (okp := fun _ => False) rfl (fun _ h => h.elim) trivial (by omega) (by decide) (Below.refl _ _) (Nat.le_refl _) ?_; intro v1 w1 h1 hb1 _ _; have h1' : Kd.R (Kd.int .u8) 5 w1 ((w.alloc (.cells #[.int .i64 s, .int .i64 (q : Int), .slice Ad nd cd] 30))).heap.size (fun _ => True) v1 (List.replicate 64 0) := h1; obtain ⟨g1, c1, rfl, _, _, _⟩ := Kd.R_form h1' (by simp); rw [List.length_replicate] at h1'; have H1 := Aside0.mk h1'; have HB1 := Aside0.mk hb1; clear h1 h1' hb1)
        | ((with_reducible refine gateB (b := .copy) (xs := #[.tmp 7, .tmp 8]) rfl ?_); refine copy_all (ki := .u8) (w0 := (w.alloc (.cells #[.int .i64 s, .int .i64 (q : Int), .slice Ad nd cd] 30))) (w.alloc (.cells #[.int .i64 s, .int .i64 (q : Int), .slice Ad nd cd] 30)).heap.size rfl (.tmp 7) (.tmp 8) 22 22 5 rfl Try.underlying22 infoU8s (.slice (some ⟨g1, 0, none⟩) 64 c1) (List.replicate 64 0) l A n c (fun _ => True) rfl rfl H1.out (Kd.C_below (Kd.C_alloc HR.out _) HB1.out) HB1.out (below_size HB1.out) ?_; intro w2 h2 hb2 _; have hx1 := pw_cell_below hb2 hb1'; have hx2 := pw_cell_below hb2 hb2'; have h2' : Kd.R (Kd.int .u8) 5 w2 (w.alloc (.cells #[.int .i64 s, .int .i64 (q : Int), .slice Ad nd cd] 30)).heap.size (fun _ => True) (.slice (some ⟨g1, 0, none⟩) 64 c1) (sizeL l 64) := h2; have H2 := Aside0.mk h2'; have HB2 := Aside0.mk hb2; clear h2 hb2 h2'))
      have hc64 : 64 ≤ c1 := (Kd.R_reads' H2.out).2.1
      obtain ⟨A3, hcut0, hA3⟩ := cut_own (P := Try.prog) 22 5 .i64 Try.underlying22 hi hz1 g1 64 c1 q hq hc64
      have HA3 := Aside0.mk hA3
      clear hA3
      go_region_law (((with_reducible refine gateS (b := .copy) (xs := #[.tmp 21, .tmp 23]) rfl ?_); refine step_copy_at (ki := .u8) (w0 := (w.alloc (.cells #[.int .i64 s, .int .i64 (q : Int), .slice Ad nd cd] 30))) (W := w2.drew) (w.alloc (.cells #[.int .i64 s, .int .i64 (q : Int), .slice Ad nd cd] 30)).heap.size (by rfl) (.tmp 21) (.tmp 23) 22 22 5 (by rfl) Try.underlying22 infoU8s g1 64 c1 q hq (sizeL l 64) d Ad A3 nd cd (fun _ => True) HA3.out (by rfl) (by rfl) (Kd.R_drew H2.out) (Kd.C_drew (Kd.C_below (Kd.C_alloc HD.out _) HB2.out)) (below_drew1 HB2.out) (below_size (below_drew1 HB2.out)) ?_); intro w3 h3 hb3 _; have H3 := Aside0.mk h3; have HB3 := Aside0.mk hb3; clear h3 hb3)
      all_goals
        go_wp2_with fail
        go_ret
        exact ⟨_, _, rfl, hc64, by unfold layL; rw [if_pos ⟨hf, hf2⟩]; exact Kd.R_lower H3.out (by simp), (below_alloc (Below.refl _ _) _).trans (HB3.out.mono (by simp))⟩
    · skip
      go_enter Try.func27, Try.ntmps27
      go_wp2_with (first
        | (at_make; refine Kd.R_make (Kd.int .u8) (w0 := (w.alloc (.cells #[.int .i64 s, .int .i64 f, .slice Ad nd cd] 30))) ((w.alloc (.cells #[.int .i64 s, .int .i64 f, .slice Ad nd cd] 30))).heap.size 5 rfl (N := 6) rfl 22 (.const (.int .i64 64)) (.const (.int .i64 64)) rfl 64 rfl rfl Try.underlying22 (.int .u8 0) 1 infoU8 rfl (by decide) (by omega) (0 : Int) (ok := fun _ => True) (okp := fun _ => False) rfl (fun _ h => h.elim) trivial (by omega) (by decide) (Below.refl _ _) (Nat.le_refl _) ?_; intro v1 w1 h1 hb1 _ _; have h1' : Kd.R (Kd.int .u8) 5 w1 ((w.alloc (.cells #[.int .i64 s, .int .i64 f, .slice Ad nd cd] 30))).heap.size (fun _ => True) v1 (List.replicate 64 0) := h1; obtain ⟨g1, c1, rfl, _, _, _⟩ := Kd.R_form h1' (by simp); rw [List.length_replicate] at h1'; have H1 := Aside0.mk h1'; have HB1 := Aside0.mk hb1; clear h1 h1' hb1)
        | ((with_reducible refine gateB (b := .copy) (xs := #[.tmp 7, .tmp 8]) rfl ?_); refine copy_all (ki := .u8) (w0 := (w.alloc (.cells #[.int .i64 s, .int .i64 f, .slice Ad nd cd] 30))) (w.alloc (.cells #[.int .i64 s, .int .i64 f, .slice Ad nd cd] 30)).heap.size rfl (.tmp 7) (.tmp 8) 22 22 5 rfl Try.underlying22 infoU8s (.slice (some ⟨g1, 0, none⟩) 64 c1) (List.replicate 64 0) l A n c (fun _ => True) rfl rfl H1.out (Kd.C_below (Kd.C_alloc HR.out _) HB1.out) HB1.out (below_size HB1.out) ?_; intro w2 h2 hb2 _; have hx1 := pw_cell_below hb2 hb1'; have hx2 := pw_cell_below hb2 hb2'; have h2' : Kd.R (Kd.int .u8) 5 w2 (w.alloc (.cells #[.int .i64 s, .int .i64 f, .slice Ad nd cd] 30)).heap.size (fun _ => True) (.slice (some ⟨g1, 0, none⟩) 64 c1) (sizeL l 64) := h2; have H2 := Aside0.mk h2'; have HB2 := Aside0.mk hb2; clear h2 hb2 h2'))
      go_ret
      exact ⟨_, _, rfl, (Kd.R_reads' H2.out).2.1, by unfold layL; rw [if_neg (by omega)]; exact Kd.R_lower H2.out (by simp), (below_alloc (Below.refl _ _) _).trans (HB2.out.mono (by simp))⟩
  · skip
    go_enter Try.func27, Try.ntmps27
    go_wp2_with (first
      | (at_make; refine Kd.R_make (Kd.int .u8) (w0 := (w.alloc (.cells #[.int .i64 s, .int .i64 f, .slice Ad nd cd] 30))) ((w.alloc (.cells #[.int .i64 s, .int .i64 f, .slice Ad nd cd] 30))).heap.size 5 rfl (N := 6) rfl 22 (.const (.int .i64 64)) (.const (.int .i64 64)) rfl 64 rfl rfl Try.underlying22 (.int .u8 0) 1 infoU8 rfl (by decide) (by omega) (0 : Int) (ok := fun _ => True) (okp := fun _ => False) rfl (fun _ h => h.elim) trivial (by omega) (by decide) (Below.refl _ _) (Nat.le_refl _) ?_; intro v1 w1 h1 hb1 _ _; have h1' : Kd.R (Kd.int .u8) 5 w1 ((w.alloc (.cells #[.int .i64 s, .int .i64 f, .slice Ad nd cd] 30))).heap.size (fun _ => True) v1 (List.replicate 64 0) := h1; obtain ⟨g1, c1, rfl, _, _, _⟩ := Kd.R_form h1' (by simp); rw [List.length_replicate] at h1'; have H1 := Aside0.mk h1'; have HB1 := Aside0.mk hb1; clear h1 h1' hb1)
      | ((with_reducible refine gateB (b := .copy) (xs := #[.tmp 7, .tmp 8]) rfl ?_); refine copy_all (ki := .u8) (w0 := (w.alloc (.cells #[.int .i64 s, .int .i64 f, .slice Ad nd cd] 30))) (w.alloc (.cells #[.int .i64 s, .int .i64 f, .slice Ad nd cd] 30)).heap.size rfl (.tmp 7) (.tmp 8) 22 22 5 rfl Try.underlying22 infoU8s (.slice (some ⟨g1, 0, none⟩) 64 c1) (List.replicate 64 0) l A n c (fun _ => True) rfl rfl H1.out (Kd.C_below (Kd.C_alloc HR.out _) HB1.out) HB1.out (below_size HB1.out) ?_; intro w2 h2 hb2 _; have hx1 := pw_cell_below hb2 hb1'; have hx2 := pw_cell_below hb2 hb2'; have h2' : Kd.R (Kd.int .u8) 5 w2 (w.alloc (.cells #[.int .i64 s, .int .i64 f, .slice Ad nd cd] 30)).heap.size (fun _ => True) (.slice (some ⟨g1, 0, none⟩) 64 c1) (sizeL l 64) := h2; have H2 := Aside0.mk h2'; have HB2 := Aside0.mk hb2; clear h2 hb2 h2'))
    go_ret
    exact ⟨_, _, rfl, (Kd.R_reads' H2.out).2.1, by unfold layL; rw [if_neg (by omega)]; exact Kd.R_lower H2.out (by simp), (below_alloc (Below.refl _ _) _).trans (HB2.out.mono (by simp))⟩
end Go.Proofs.Ytpnbjpkdbiiogaa
