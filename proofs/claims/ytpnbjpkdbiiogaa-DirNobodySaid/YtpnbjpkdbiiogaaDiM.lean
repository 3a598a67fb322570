/- Directories: the law's state; light; the example. -/
import Derived.Test.YtpnbjpkdbiiogaaDiL
namespace Go.Proofs.Ytpnbjpkdbiiogaa
set_option linter.unusedVariables false
open Go.RowKit Go.Maps Go.Sort Go.Proofs.YtpnbjpkdbiiogaaW.PrintWords
attribute [local go_sem] mx2 mn2 mxTwo mnTwo

/-- A call of a statement on directories. -/
structure DAct where
  kd : Int
  a : ByteArray
  b : ByteArray
  id : Int
  keep : List Bool
def zDact : DAct := ⟨0, ⟨#[]⟩, ⟨#[]⟩, 0, []⟩
def kDact : Kd DAct := Kd.iso (Kd.pair (Kd.int .i64) (Kd.pair Kd.string (Kd.pair Kd.string (Kd.pair (Kd.int .i64) (Kd.slice 4 Kd.bool))))) (fun x : DAct => (x.kd, x.a, x.b, x.id, x.keep))
theorem at_Dact {w : World} {A : Option Addr} {n : Nat} {xs : List DAct} (h : Kd.C kDact w A n xs) (i : Nat) (h1 : i < n) : ∃ ad A3 c3, A = some ad ∧ w.cell? (ad.add (i * 5)) = some (.int .i64 (xs.getD i zDact).kd) ∧ w.cell? ⟨(ad.add (i * 5)).block, (ad.add (i * 5)).off + 1, none⟩ = some (.string (xs.getD i zDact).a) ∧ w.cell? ⟨(ad.add (i * 5)).block, (ad.add (i * 5)).off + 2, none⟩ = some (.string (xs.getD i zDact).b) ∧ w.cell? ⟨(ad.add (i * 5)).block, (ad.add (i * 5)).off + 3, none⟩ = some (.int .i64 (xs.getD i zDact).id) ∧ w.cell? ⟨(ad.add (i * 5)).block, (ad.add (i * 5)).off + 4, none⟩ = some (.slice A3 (xs.getD i zDact).keep.length c3) ∧ Kd.bool.C w A3 (xs.getD i zDact).keep.length (xs.getD i zDact).keep := by
  obtain ⟨ad, c, e, _, hK, hc0⟩ := Kd.C_get h zDact (i : Int) (by omega) (by omega)
  simp only [Int.toNat_natCast] at hK hc0
  have hc : ∀ j u, c[j]? = some u → w.cell? (ad.add (i * 5 + j)) = some u := hc0
  obtain ⟨_, _, rfl, rfl, ⟨_, _, rfl, rfl, ⟨_, _, rfl, rfl, ⟨_, _, rfl, rfl, ⟨A3, c3, rfl, l3, g3⟩⟩⟩⟩⟩ := hK
  exact ⟨ad, A3, c3, e, hc 0 _ rfl, by rw [← add_field _ _ 1 (by omega)]; exact hc 1 _ rfl, by rw [← add_field _ _ 2 (by omega)]; exact hc 2 _ rfl, by rw [← add_field _ _ 3 (by omega)]; exact hc 3 _ rfl, by rw [← add_field _ _ 4 (by omega)]; exact hc 4 _ rfl, g3⟩
theorem dlight_yes (kd id : Int) (sa sb : ByteArray) (A3 : Option Addr) (n3 c3 : Nat) (w : World) (h1 : sa.size ≤ 200) (h2 : sb.size ≤ 200) (h3 : n3 ≤ 100) : Calls Try.prog 45 #[(.agg #[.int .i64 kd, .string sa, .string sb, .int .i64 id, .slice A3 n3 c3])] w fun e w' => e = .returned (.bool true) ∧ Below w.heap.size w w' := by
  have d1 : decide (sa.size ≤ 200) = true := decide_eq_true h1
  have d2 : decide (sb.size ≤ 200) = true := decide_eq_true h2
  have d3 : decide (n3 ≤ 100) = true := decide_eq_true h3
  go_enter Try.func45, Try.ntmps45
  go_wp2
  go_ret
  first
  | exact ⟨rfl, below_alloc (Below.refl _ _) _⟩
  | exact ⟨ret_bool (decide_eq_true (by omega)), below_alloc (Below.refl _ _) _⟩
  | exact ⟨ret_bool (decide_eq_false (by omega)), below_alloc (Below.refl _ _) _⟩
theorem dlight_no (kd id : Int) (sa sb : ByteArray) (A3 : Option Addr) (n3 c3 : Nat) (w : World) (h : ¬ (sa.size ≤ 200 ∧ sb.size ≤ 200 ∧ n3 ≤ 100)) : Calls Try.prog 45 #[(.agg #[.int .i64 kd, .string sa, .string sb, .int .i64 id, .slice A3 n3 c3])] w fun e w' => e = .returned (.bool false) ∧ Below w.heap.size w w' := by
  by_cases h1 : sa.size ≤ 200
  · have d1 : decide (sa.size ≤ 200) = true := decide_eq_true h1
    by_cases h2 : sb.size ≤ 200
    · have d2 : decide (sb.size ≤ 200) = true := decide_eq_true h2
      have h3 : ¬ n3 ≤ 100 := fun h3 => h ⟨h1, h2, h3⟩
      have d3 : decide (n3 ≤ 100) = false := decide_eq_false h3
      clear h
      go_enter Try.func45, Try.ntmps45
      go_wp2
      go_ret
      first
      | exact ⟨rfl, below_alloc (Below.refl _ _) _⟩
      | exact ⟨ret_bool (decide_eq_true (by omega)), below_alloc (Below.refl _ _) _⟩
      | exact ⟨ret_bool (decide_eq_false (by omega)), below_alloc (Below.refl _ _) _⟩
    · have d2 : decide (sb.size ≤ 200) = false := decide_eq_false h2
      clear h
      go_enter Try.func45, Try.ntmps45
      go_wp2
      go_ret
      first
      | exact ⟨rfl, below_alloc (Below.refl _ _) _⟩
      | exact ⟨ret_bool (decide_eq_true (by omega)), below_alloc (Below.refl _ _) _⟩
      | exact ⟨ret_bool (decide_eq_false (by omega)), below_alloc (Below.refl _ _) _⟩
  · have d1 : decide (sa.size ≤ 200) = false := decide_eq_false h1
    clear h
    go_enter Try.func45, Try.ntmps45
    go_wp2
    go_ret
    first
    | exact ⟨rfl, below_alloc (Below.refl _ _) _⟩
    | exact ⟨ret_bool (decide_eq_true (by omega)), below_alloc (Below.refl _ _) _⟩
    | exact ⟨ret_bool (decide_eq_false (by omega)), below_alloc (Below.refl _ _) _⟩
section
variable {W W1 : World} {b g mn ms N r : Nat} {vo rn rs ro : Value} {now safe now1 safe1 : List DN} {ops ops1 : List DOp}
theorem RD.other (h : RD W b r rn rs ro now1 safe1 ops1) (hd : DI W b g mn ms vo N now safe ops) (hk : Keep3 W W1 g (some mn) vo.ownBlock) : RD W1 b r rn rs ro now1 safe1 ops1 := by
  have hvo : ∀ k, vo.ownBlock = some k → ∃ cells, W.heap[k]? = some (.cells cells 149 (0, 0)) := fun k hk => own_typed hd.ho.2.choose_spec.1 k hk
  have step : ∀ q (k : Nat), (∃ cells, W.heap[k]? = some (.cells cells q (0, 0))) → q ≠ 88 → q ≠ 149 → k < W.heap.size → W1.heap[k]? = W.heap[k]? := by
    intro q k ⟨cells, hc⟩ h1 h2 hlt
    refine hk.2 k hlt (blk_ne hc hd.hb h1) (fun e => ?_) (fun e => ?_)
    · injection e with e
      exact hd.hn.ne hc e.symm
    · obtain ⟨c2, hc2⟩ := hvo k e.symm
      exact (blk_ne hc hc2 h2) rfl
  refine ⟨(step 70 r ⟨_, h.hb⟩ (by decide) (by decide) (blk_lt h.hb)).trans h.hb, ?_, ?_, ?_, h.hg⟩
  · exact Kd.R_mono (Kd.R_step (Kd.R_bound h.hn) (fun k ho hlt => by
      obtain ⟨_, _, _, q, hq, hc⟩ := ho
      exact step q k hc (dnE _ (by omega) q hq) (dnE _ (by omega) q hq) hlt)) (fun k hk => hk.1)
  · exact Kd.R_mono (Kd.R_step (Kd.R_bound h.hs) (fun k ho hlt => by
      obtain ⟨_, _, _, q, hq, hc⟩ := ho
      exact step q k hc (dnE _ (by omega) q hq) (dnE _ (by omega) q hq) hlt)) (fun k hk => hk.1)
  · exact Kd.R_mono (Kd.R_step (Kd.R_bound h.ho) (fun k ho hlt => by
      obtain ⟨_, _, _, q, hq, hc⟩ := ho
      exact step q k hc (ropE7 _ _ (by decide) q hq) (ropE7 _ _ (by decide) q hq) hlt)) (fun k hk => hk.1)
theorem DI.other (h : DI W b g mn ms vo N now safe ops) (hr : RD W b r rn rs ro now1 safe1 ops1) (hk : KeepBut W W1 r ro.ownBlock) : DI W1 b g mn ms vo N now safe ops := by
  have hro : ∀ k, ro.ownBlock = some k → ∃ cells, W.heap[k]? = some (.cells cells 144 (0, 0)) := fun k hk => own_typed hr.ho.2.choose_spec.1 k hk
  have step : ∀ q (k : Nat), (∃ cells, W.heap[k]? = some (.cells cells q (0, 0))) → q ≠ 70 → q ≠ 144 → k < W.heap.size → W1.heap[k]? = W.heap[k]? := by
    intro q k ⟨cells, hc⟩ h1 h2 hlt
    refine hk.2 k hlt (blk_ne hc hr.hb h1) (fun e => ?_)
    obtain ⟨c2, hc2⟩ := hro k e.symm
    exact (blk_ne hc hc2 h2) rfl
  have hmv : ∀ (m : Nat) (f : Lit → Option Value), MV W Try.prog 9 m N f → MV W1 Try.prog 9 m N f := by
    intro m f hm
    refine hm.move (hk.2 m hm.lt (hm.ne hr.hb) (fun e => ?_))
    obtain ⟨c2, hc2⟩ := hro m e.symm
    exact hm.ne hc2 rfl
  refine ⟨(step 88 g ⟨_, h.hb⟩ (by decide) (by decide) (blk_lt h.hb)).trans h.hb, hmv _ _ h.hn, hmv _ _ h.hs, ?_, h.hg, h.hmn, h.hms, h.ne⟩
  exact Kd.R_mono (Kd.R_step (Kd.R_bound h.ho) (fun k ho hlt => by
      obtain ⟨_, _, _, q, hq, hc⟩ := ho
      exact step q k hc (ropE7 _ _ (by decide) q hq) (ropE7 _ _ (by decide) q hq) hlt)) (fun k hk => hk.1)
end
/-- What a directory is. -/
structure DSt where
  now : List DN
  safe : List DN
  ops : List DOp
/-- Both directories. -/
structure DS (W : World) (b g mn ms : Nat) (vo : Value) (N r : Nat) (rn rs ro : Value) (s : DSt) : Prop where
  d : DI W b g mn ms vo N s.now s.safe (s.ops.map nrm)
  r : RD W b r rn rs ro s.now s.safe s.ops
theorem DS.below {W W1 : World} {b g mn ms N r : Nat} {vo rn rs ro : Value} {s : DSt} (h : DS W b g mn ms vo N r rn rs ro s) (hb : Below W.heap.size W W1) : DS W1 b g mn ms vo N r rn rs ro s := ⟨h.d.below hb, h.r.below hb⟩
/-- What a call makes of it. -/
def stepD (s : DSt) (a : DAct) : DSt :=
  if a.kd = 0 ∨ a.kd = 1 ∨ a.kd = 2 then ⟨doNow s.now ⟨a.kd, a.a, a.b, a.id⟩, s.safe, doOps s.now s.ops ⟨a.kd, a.a, a.b, a.id⟩⟩
  else if a.kd = 3 then ⟨s.now, s.now, []⟩
  else ⟨crashD s.safe s.ops a.keep s.ops.length, crashD s.safe s.ops a.keep s.ops.length, []⟩
/-- Its bounds. -/
structure BdD (s : DSt) (N k : Nat) : Prop where
  now : s.now.length ≤ 50 * k
  safe : s.safe.length ≤ 50 * k
  ops : s.ops.length ≤ k
  n : N ≤ 50 * k
  op : ∀ o ∈ s.ops, o.a.size ≤ maxLen ∧ o.b.size ≤ maxLen
  rn : Rising s.now
  rs : Rising s.safe
theorem crash_nrm (safe : List DN) (ops : List DOp) (kl : List Bool) : ∀ i, i ≤ ops.length → crashD safe (ops.map nrm) kl i = crashD safe ops kl i
  | 0, _ => rfl
  | i + 1, h => by
    unfold crashD
    rw [crash_nrm safe ops kl i (by omega)]
    have e : (ops.map nrm).getD i zDop = nrm (ops.getD i zDop) := by simp [List.getD_eq_getElem?_getD, show i < ops.length by omega]
    rw [e, did_nrm]
theorem nrm_size (o : DOp) (h : o.a.size ≤ maxLen ∧ o.b.size ≤ maxLen) : (nrm o).a.size ≤ maxLen ∧ (nrm o).b.size ≤ maxLen := by
  unfold nrm
  split
  · exact ⟨h.1, empty_ok⟩
  · split
    · exact h
    · exact ⟨h.1, empty_ok⟩
theorem ops_nrm (now : List DN) (ops : List DOp) (o : DOp) : doOpsI now (ops.map nrm) o = (doOps now ops o).map nrm := by
  unfold doOpsI doOps
  split <;> simp
theorem stepD_bd (s : DSt) (a : DAct) (N N' k : Nat) (h : BdD s N k) (ha : a.a.size ≤ maxLen ∧ a.b.size ≤ maxLen) (hk : k ≤ 49) (hN : N' ≤ N + k + 1) : BdD (stepD s a) N' (k + 1) := by
  obtain ⟨h1, h2, h3, h4, h5, h6, h7⟩ := h
  unfold stepD
  split
  · refine ⟨?_, by show s.safe.length ≤ _; omega, ?_, by omega, ?_, ?_, h7⟩
    · show (doNow s.now _).length ≤ _
      unfold doNow
      split
      · have := didL_len s.now ⟨a.kd, a.a, a.b, a.id⟩; omega
      · omega
    · show (doOps s.now s.ops _).length ≤ _
      unfold doOps
      split
      · rw [List.length_append, List.length_singleton]; omega
      · omega
    · show ∀ o ∈ doOps s.now s.ops _, _
      unfold doOps
      split
      · intro o ho
        rcases List.mem_append.1 ho with ho | ho
        · exact h5 o ho
        · rw [List.mem_singleton.1 ho]; exact ha
      · exact h5
    · show Rising (doNow s.now _)
      unfold doNow
      split
      · exact rising_did _ _ h6
      · exact h6
  · split
    · exact ⟨by show s.now.length ≤ _; omega, by show s.now.length ≤ _; omega, Nat.zero_le _, by omega, fun o ho => by simp at ho, h6, h6⟩
    · have hl := crashD_len s.safe s.ops a.keep s.ops.length
      have hr := rising_crash s.safe s.ops a.keep h7 s.ops.length
      exact ⟨by show (crashD _ _ _ _).length ≤ _; omega, by show (crashD _ _ _ _).length ≤ _; omega, Nat.zero_le _, by omega, fun o ho => by simp at ho, hr, hr⟩
end Go.Proofs.Ytpnbjpkdbiiogaa
