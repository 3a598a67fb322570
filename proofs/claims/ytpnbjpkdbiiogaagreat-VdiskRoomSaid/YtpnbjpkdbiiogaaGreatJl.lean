/- Disks, the plain law: room that is used; what is loose. -/
import Derived.Test.YtpnbjpkdbiiogaaGreatJj
import Derived.Test.YtpnbjpkdbiiogaaGreatProg
import Derived.Deep.Slices
import Derived.Deep.Fields
import Derived.ChangeSame
import Derived.Test.YtpnbjpkdbiiogaaGreatWWords
import Derived.Test.YtpnbjpkdbiiogaaGreatJk
import Derived.OpenShut
import Derived.Test.YtpnbjpkdbiiogaaGreatJf
import Derived.Test.YtpnbjpkdbiiogaaGreatJg
namespace Go.Proofs.YtpnbjpkdbiiogaaGreat
set_option linter.unusedVariables false
open Go.RowKit Go.Maps Go.Proofs.YtpnbjpkdbiiogaaGreatW.PrintWords

def looseV (s : VSt) : Int := ((s.ops.length + sumV (s.fs.map (·.1)) : Nat) : Int)
def sumC (f : DN → Int) (l : List DN) : Int := (l.map f).sum
theorem sumC_cons (f : DN → Int) (p : DN) (l : List DN) : sumC f (p :: l) = f p + sumC f l := by unfold sumC; rw [List.map_cons, List.sum_cons]
theorem usedV_sum (fs : List (RV × Bool)) : ∀ (l : List DN) (n : Int), l.foldl (fun n p => n + cnt (lenV fs p.2)) n = n + sumC (fun p => cnt (lenV fs p.2)) l
  | [], n => by simp [sumC]
  | p :: t, n => by rw [List.foldl_cons, usedV_sum fs t, sumC_cons]; omega
theorem usedV_is (fs : List (RV × Bool)) (l : List DN) : usedV fs l = sumC (fun p => cnt (lenV fs p.2)) l := by unfold usedV; rw [usedV_sum]; omega
theorem cnt_nn (n : Int) : 0 ≤ cnt n := by unfold cnt; split <;> omega
theorem sumC_congr {f g : DN → Int} : ∀ (l : List DN), (∀ p ∈ l, f p = g p) → sumC f l = sumC g l
  | [], _ => rfl
  | p :: t, h => by rw [sumC_cons, sumC_cons, h p (List.mem_cons_self ..), sumC_congr t (fun q hq => h q (List.mem_cons_of_mem _ hq))]
theorem sumC_filter (f : DN → Int) (hf : ∀ p, 0 ≤ f p) (q : DN → Bool) : ∀ (l : List DN), sumC f (l.filter q) ≤ sumC f l
  | [] => Int.le_refl _
  | p :: t => by
    have ih := sumC_filter f hf q t
    have h1 := hf p
    rw [List.filter_cons, sumC_cons]
    split
    · rw [sumC_cons]; omega
    · omega
theorem sumC_ins (f : DN → Int) (s : ByteArray) (a : Int) : ∀ (l : List DN), sumC f (insL s a l) = f (s, a) + sumC f l
  | [] => by unfold insL; rw [sumC_cons]
  | p :: t => by
    unfold insL
    split
    · rw [sumC_cons]
    · rw [sumC_cons, sumC_ins f s a t, sumC_cons]; omega
/-- One name's number is another. -/
theorem sumC_one {f g : DN → Int} {p0 : DN} : ∀ (l : List DN), l.Pairwise (fun p q => p.2 ≠ q.2) → p0 ∈ l → (∀ p ∈ l, p.2 ≠ p0.2 → g p = f p) → sumC g l = sumC f l - f p0 + g p0
  | [], _, h, _ => by simp at h
  | p :: t, hp, h, hfg => by
    rw [List.pairwise_cons] at hp
    rw [sumC_cons, sumC_cons]
    rcases List.mem_cons.1 h with e | h
    · subst e
      have := sumC_congr (f := g) (g := f) t (fun q hq => hfg q (List.mem_cons_of_mem _ hq) (fun e => hp.1 q hq e.symm))
      omega
    · have h1 := sumC_one t hp.2 h (fun q hq => hfg q (List.mem_cons_of_mem _ hq))
      have h2 := hfg p (List.mem_cons_self ..) (hp.1 p0 h)
      omega
theorem ins_uq (s : ByteArray) (a : Int) : ∀ (l : List DN), l.Pairwise (fun p q => p.2 ≠ q.2) → (∀ p ∈ l, p.2 ≠ a) → (insL s a l).Pairwise (fun p q => p.2 ≠ q.2)
  | [], _, _ => List.pairwise_singleton _ _
  | p :: t, hp, ha => by
    unfold insL
    split
    · rw [List.pairwise_cons]
      exact ⟨fun q hq => (ha q hq).symm, hp⟩
    · rw [List.pairwise_cons] at hp ⊢
      refine ⟨fun q hq => ?_, ins_uq s a t hp.2 (fun q hq => ha q (List.mem_cons_of_mem _ hq))⟩
      rcases mem_insL s a t q hq with rfl | hq
      · exact ha p (List.mem_cons_self ..)
      · exact hp.1 q hq
structure RoomV (s : VSt) : Prop where
  uq : s.now.Pairwise (fun p q => p.2 ≠ q.2)
  le : usedV s.fs s.now ≤ s.room
  ar : s.armed = false
  de : s.dead = false
theorem lenV_at {fs : List (RV × Bool)} {i : Nat} {v : RV} {b : Bool} (h : fs[i]? = some (v, b)) : lenV fs (i : Int) = v.now.length := by unfold lenV; rw [Int.toNat_natCast, h]; rfl
theorem lenV_snoc {fs : List (RV × Bool)} {id : Int} (h : Pres fs id) (x : RV × Bool) : lenV (fs ++ [x]) id = lenV fs id := by
  obtain ⟨i, rfl, v, hv⟩ := h
  rw [lenV_at hv, lenV_at (b := true) (v := v)]
  rw [List.getElem?_append_left (List.getElem?_eq_some_iff.1 hv).1]
  exact hv
theorem lenV_set {fs : List (RV × Bool)} {id : Int} (h : Pres fs id) (j : Nat) (x : RV × Bool) (hne : id ≠ (j : Int)) : lenV (fs.set j x) id = lenV fs id := by
  obtain ⟨i, rfl, v, hv⟩ := h
  rw [lenV_at hv, lenV_at (b := true) (v := v)]
  rw [List.getElem?_set_ne (by omega)]
  exact hv
theorem sumV_set : ∀ (fs : List (RV × Bool)) (i : Nat) (v v' : RV) (b b' : Bool), fs[i]? = some (v, b) → sumV ((fs.set i (v', b')).map (·.1)) + v.ops.length = sumV (fs.map (·.1)) + v'.ops.length
  | [], i, v, v', b, b', h => by simp at h
  | y :: t, 0, v, v', b, b', h => by
    simp at h
    subst h
    show v'.ops.length + sumV (t.map (·.1)) + v.ops.length = v.ops.length + sumV (t.map (·.1)) + v'.ops.length
    omega
  | y :: t, i + 1, v, v', b, b', h => by
    rw [List.getElem?_cons_succ] at h
    have ih := sumV_set t i v v' b b' h
    show y.1.ops.length + sumV ((t.set i (v', b')).map (·.1)) + v.ops.length = y.1.ops.length + sumV (t.map (·.1)) + v'.ops.length
    omega
section
variable {s : VSt} {N M k : Nat}
theorem room_chg (h : RoomV s) : chg s.fuse s.armed s.dead = (0, s.fuse, false) := by rw [h.ar, h.de]; rfl
theorem room_cnt (h : RoomV s) : cntV s = s := by
  have e : cntV s = { s with fuse := (chg s.fuse s.armed s.dead).2.1, dead := (chg s.fuse s.armed s.dead).2.2 } := rfl
  rw [e, room_chg h]
  obtain ⟨a1, a2, a3, a4, a5, a6, a7, a8⟩ := s
  have := h.de
  simp only at this
  subst this
  rfl
/-- A file of another length. -/
theorem RoomV.put (h : RoomV s) (hb : BdV s N M k) {nm : ByteArray} {i : Nat} {v v' : RV} (hn : getN s.now nm = some (i : Int)) (hv : s.fs[i]? = some (v, true)) (hc : usedV s.fs s.now - cnt (v.now.length : Int) + cnt (v'.now.length : Int) ≤ s.room) : RoomV (putV s i v') := by
  refine ⟨h.uq, ?_, h.ar, h.de⟩
  show usedV (s.fs.set i (v', true)) s.now ≤ s.room
  have hm := getN_mem hn
  have h1 := sumC_one (f := fun p => cnt (lenV s.fs p.2)) (g := fun p => cnt (lenV (s.fs.set i (v', true)) p.2)) s.now h.uq hm (fun p hp hne => by
    show cnt (lenV (s.fs.set i (v', true)) p.2) = cnt (lenV s.fs p.2)
    rw [lenV_set (hb.dn p hp).2 i _ hne])
  have hil := (List.getElem?_eq_some_iff.1 hv).1
  have e2 : cnt (lenV (s.fs.set i (v', true)) (i : Int)) = cnt (v'.now.length : Int) := by rw [lenV_at (b := true) (v := v')]; rw [List.getElem?_set_self hil]
  have e3 : cnt (lenV s.fs (i : Int)) = cnt (v.now.length : Int) := by rw [lenV_at hv]
  rw [usedV_is]
  rw [usedV_is] at hc
  simp only at h1
  rw [h1]
  show sumC (fun p => cnt (lenV s.fs p.2)) s.now - cnt (lenV s.fs (i : Int)) + cnt (lenV (s.fs.set i (v', true)) (i : Int)) ≤ s.room
  rw [e2, e3]
  exact hc
theorem writeF_ops (now : List Int) (ops : List FOp) (p : Nat) (l : List Int) (hb : ∀ o ∈ ops, o.n ≤ 1048576 ∧ o.d.length ≤ 1048576) (hp : p + l.length ≤ 1048576) : ((writeF (now, ops) p l).1.length : Int) = (if l.length = 0 then (now.length : Int) else szW now.length p l.length) ∧ ops.length ≤ (writeF (now, ops) p l).2.length := by
  unfold writeF
  by_cases qg : 0 < l.length ∧ now.length < p + l.length
  · have e : growF (now, ops) p l.length = (sizeL now ((p + l.length : Nat) : Int), ops ++ [⟨true, ((p + l.length : Nat) : Int), []⟩]) := by unfold growF; rw [if_pos qg]
    obtain ⟨p1, p2, _⟩ := puts_bd (pieces p l) (pieces_s _ l p (Nat.le_refl _) hp) (growF (now, ops) p l.length) (by
      rw [e]
      intro o ho
      rcases List.mem_append.1 ho with ho | ho
      · exact hb o ho
      · rw [List.mem_singleton.1 ho]
        exact ⟨by show ((p + l.length : Nat) : Int) ≤ 1048576; omega, Nat.zero_le _⟩)
    rw [p1, p2, e]
    refine ⟨?_, by simp; omega⟩
    show ((sizeL now ((p + l.length : Nat) : Int)).length : Int) = _
    rw [sizeL_length, if_neg (by omega)]
    unfold szW
    rw [if_pos qg.2, Int.toNat_natCast]
  · have e : growF (now, ops) p l.length = (now, ops) := by unfold growF; rw [if_neg qg]
    obtain ⟨p1, p2, _⟩ := puts_bd (pieces p l) (pieces_s _ l p (Nat.le_refl _) hp) (growF (now, ops) p l.length) (by rw [e]; exact hb)
    rw [p1, p2, e]
    refine ⟨?_, by show ops.length ≤ ops.length + _; omega⟩
    show (now.length : Int) = _
    split
    · rfl
    · unfold szW
      rw [if_neg (by omega)]
theorem sizeF_ops (now : List Int) (ops : List FOp) (n : Nat) : (sizeF (now, ops) (n : Int)).1.length = n ∧ ops.length ≤ (sizeF (now, ops) (n : Int)).2.length := by
  unfold sizeF
  split
  · rename_i h
    exact ⟨by show now.length = n; simp only at h; omega, Nat.le_refl _⟩
  · exact ⟨by show (sizeL now (n : Int)).length = n; rw [sizeL_length, Int.toNat_natCast], by simp⟩
theorem has_le {fs : List (RV × Bool)} {now : List DN} {room len size : Int} (hl : usedV fs now ≤ room) (h : hasV fs now room len size = true) : usedV fs now - cnt len + cnt size ≤ room := by
  unfold hasV at h
  rcases Bool.or_eq_true .. ▸ h with h | h
  · have := of_decide_eq_true h; omega
  · exact of_decide_eq_true h
theorem used_dir (h : RoomV s) (o : DOp) (hkd : o.kd ≠ 0) (h1 : o.kd ≠ 1) : RoomV (dirOp s o) := by
  have hs : doNow s.now o = s.now ∨ doNow s.now o = withoutL s.now o.a := by
    unfold doNow
    split
    · unfold didL
      rw [if_neg hkd]
      split
      · exact .inl rfl
      · rw [if_neg h1]; exact .inr rfl
    · exact .inl rfl
  have hf : ∀ p : DN, 0 ≤ (fun p : DN => cnt (lenV s.fs p.2)) p := fun p => cnt_nn _
  refine ⟨?_, ?_, h.ar, h.de⟩
  · show (doNow s.now o).Pairwise _
    rcases hs with e | e <;> rw [e]
    · exact h.uq
    · exact h.uq.filter _
  · show usedV s.fs (doNow s.now o) ≤ s.room
    have hle := h.le
    rcases hs with e | e <;> rw [e]
    · exact hle
    · rw [usedV_is] at hle ⊢
      have := sumC_filter _ hf (fun p => !decide (p.1 = o.a)) s.now
      unfold withoutL
      omega
theorem ops_dir (o : DOp) : looseV s ≤ looseV (dirOp s o) := by
  unfold looseV
  show ((s.ops.length + sumV (s.fs.map (·.1)) : Nat) : Int) ≤ (((doOps s.now s.ops o).length + sumV (s.fs.map (·.1)) : Nat) : Int)
  unfold doOps
  split
  · rw [List.length_append, List.length_singleton]; omega
  · omega
theorem loose_put {i : Nat} {v v' : RV} (hv : s.fs[i]? = some (v, true)) (ho : v.ops.length ≤ v'.ops.length) : looseV s ≤ looseV (putV s i v') := by
  have := sumV_set s.fs i v v' true true hv
  unfold looseV
  show ((s.ops.length + sumV (s.fs.map (·.1)) : Nat) : Int) ≤ ((s.ops.length + sumV ((s.fs.set i (v', true)).map (·.1)) : Nat) : Int)
  omega
/-- What a step of the statement on room does. -/
theorem room_step (h : RoomV s) (hb : BdV s N M k) (a : VAct) (hk0 : 0 ≤ a.kd) (hk6 : a.kd ≤ 4 ∨ a.kd = 6) : RoomV (stepV s a) ∧ (a.kd ≠ 3 → a.kd ≠ 4 → looseV s ≤ looseV (stepV s a)) ∧ (stepV s a).room = s.room := by
  have e0 : stepV s a = callV s a := by
    unfold stepV
    rw [if_pos (by omega), if_pos (by rw [room_chg h]), room_cnt h]
  rw [e0]
  by_cases q0 : a.kd = 0
  · unfold callV
    rw [if_pos q0]
    by_cases hd : doCode s.now (newV s a.a) = 0
    · rw [if_pos hd]
      have hn : doNow s.now (newV s a.a) = insL a.a (s.fs.length : Int) (withoutL s.now a.a) := by unfold doNow; rw [if_pos hd]; rfl
      have hlt : ∀ p ∈ s.now, p.2 ≠ (s.fs.length : Int) := fun p hp => by
        obtain ⟨i, e, v, hv⟩ := (hb.dn p hp).2
        have := (List.getElem?_eq_some_iff.1 hv).1
        omega
      refine ⟨⟨?_, ?_, h.ar, h.de⟩, fun _ _ => ?_, rfl⟩
      · show (doNow s.now (newV s a.a)).Pairwise _
        rw [hn]
        exact ins_uq _ _ _ (h.uq.filter _) (fun p hp => hlt p (List.mem_filter.1 hp).1)
      · show usedV (s.fs ++ [(zRV, true)]) (doNow s.now (newV s a.a)) ≤ s.room
        have hle := h.le
        rw [hn, usedV_is, sumC_ins]
        rw [usedV_is] at hle
        have hf : ∀ p : DN, 0 ≤ (fun p : DN => cnt (lenV s.fs p.2)) p := fun p => cnt_nn _
        have h1 := sumC_filter _ hf (fun p => !decide (p.1 = a.a)) s.now
        have h2 : sumC (fun p => cnt (lenV (s.fs ++ [(zRV, true)]) p.2)) (withoutL s.now a.a) = sumC (fun p => cnt (lenV s.fs p.2)) (withoutL s.now a.a) := sumC_congr _ (fun p hp => by rw [lenV_snoc (hb.dn p (List.mem_filter.1 hp).1).2])
        have h3 : cnt (lenV (s.fs ++ [(zRV, true)]) (s.fs.length : Int)) = 0 := by rw [lenV_at (b := true) (v := zRV) (by simp)]; rfl
        rw [h2]
        show cnt (lenV (s.fs ++ [(zRV, true)]) (s.fs.length : Int)) + _ ≤ _
        rw [h3]
        unfold withoutL
        omega
      · unfold looseV
        show ((s.ops.length + sumV (s.fs.map (·.1)) : Nat) : Int) ≤ (((doOps s.now s.ops (newV s a.a)).length + sumV ((s.fs ++ [(zRV, true)]).map (·.1)) : Nat) : Int)
        have e1 : sumV ((s.fs ++ [(zRV, true)]).map (·.1)) = sumV (s.fs.map (·.1)) := by
          unfold sumV
          rw [List.map_append, List.map_append, List.sum_append]
          show _ + 0 = _
          rw [Nat.add_zero]
        rw [e1]
        unfold doOps
        rw [if_pos hd, List.length_append, List.length_singleton]
        omega
    · rw [if_neg hd]
      exact ⟨h, fun _ _ => Int.le_refl _, rfl⟩
  by_cases q4 : a.kd = 4
  · unfold callV
    rw [if_neg q0, if_pos q4]
    exact ⟨⟨h.uq, h.le, h.ar, h.de⟩, fun _ h4 => absurd q4 h4, rfl⟩
  by_cases q6 : a.kd = 6
  · unfold callV
    rw [if_neg q0, if_neg q4, if_neg (by omega), if_pos q6]
    exact ⟨used_dir h ⟨2, a.a, ⟨#[]⟩, 0⟩ (by show (2 : Int) ≠ 0; decide) (by show (2 : Int) ≠ 1; decide), fun _ _ => ops_dir _, rfl⟩
  have hkd : a.kd = 1 ∨ a.kd = 2 ∨ a.kd = 3 := by omega
  unfold callV
  rw [if_neg q0, if_neg q4, if_neg (by omega), if_neg q6]
  cases hn : getN s.now a.a with
  | none => exact ⟨h, fun _ _ => Int.le_refl _, rfl⟩
  | some id =>
    obtain ⟨i, e, v, hv⟩ := (hb.dn _ (getN_mem hn)).2
    simp only at e
    subst e
    show RoomV (match s.fs[(i : Int).toNat]? with | none => s | some x => fileV s a (i : Int).toNat x.1) ∧ (a.kd ≠ 3 → a.kd ≠ 4 → looseV s ≤ looseV (match s.fs[(i : Int).toNat]? with | none => s | some x => fileV s a (i : Int).toNat x.1)) ∧ (match s.fs[(i : Int).toNat]? with | none => s | some x => fileV s a (i : Int).toNat x.1).room = s.room
    rw [Int.toNat_natCast, hv]
    show RoomV (fileV s a i v) ∧ (a.kd ≠ 3 → a.kd ≠ 4 → looseV s ≤ looseV (fileV s a i v)) ∧ (fileV s a i v).room = s.room
    have hfb := hb.fb _ (List.mem_of_getElem? hv)
    unfold fileV
    by_cases q1 : a.kd = 1
    · rw [if_pos q1]
      split
      · rename_i hok
        split
        · rename_i hh
          have hw := writeF_ops v.now v.ops a.at_.toNat a.data hfb.op (by omega)
          refine ⟨h.put hb hn hv ?_, fun _ _ => loose_put hv hw.2, rfl⟩
          show usedV s.fs s.now - cnt (v.now.length : Int) + cnt (((writeF (v.now, v.ops) a.at_.toNat a.data).1.length : Nat) : Int) ≤ s.room
          rw [hw.1]
          by_cases hz : a.data.length = 0
          · rw [if_pos hz]
            have := h.le
            omega
          · rw [if_neg hz]
            exact has_le h.le (hh.resolve_left hz)
        · exact ⟨h, fun _ _ => Int.le_refl _, rfl⟩
      · exact ⟨h, fun _ _ => Int.le_refl _, rfl⟩
    · rw [if_neg q1]
      by_cases q2 : a.kd = 2
      · rw [if_pos q2]
        split
        · rename_i hok
          split
          · rename_i hh
            have hw := sizeF_ops v.now v.ops a.at_.toNat
            refine ⟨h.put hb hn hv ?_, fun _ _ => loose_put hv hw.2, rfl⟩
            show usedV s.fs s.now - cnt (v.now.length : Int) + cnt (((sizeF (v.now, v.ops) (a.at_.toNat : Int)).1.length : Nat) : Int) ≤ s.room
            rw [hw.1, Int.toNat_of_nonneg hok.1]
            exact has_le h.le hh
          · exact ⟨h, fun _ _ => Int.le_refl _, rfl⟩
        · exact ⟨h, fun _ _ => Int.le_refl _, rfl⟩
      · rw [if_neg q2]
        refine ⟨h.put hb hn hv ?_, fun h3 _ => absurd (by omega) h3, rfl⟩
        have := h.le
        show usedV s.fs s.now - cnt (v.now.length : Int) + cnt (v.now.length : Int) ≤ s.room
        omega
end
end Go.Proofs.YtpnbjpkdbiiogaaGreat
/- An argument's reading opened to a description of memory: whole numbers, strings, slices, structs of one-cell fields, nested as wanted. -/
namespace Go.Proofs.YtpnbjpkdbiiogaaGreat
set_option linter.unusedVariables false
open Go.RowKit Go.ChangeShapes Go.WideShapes Go.Deep Go.Proofs.YtpnbjpkdbiiogaaGreatW.PrintWords

/-- Whatever a reading takes at type t is described by d, and is good. -/
def Opens {α : Type} (P : Program) (t : TypeId) (d : Kd α) (good : α → Prop) : Prop :=
  ∀ (H : Type) (enc : TypeId × Value → H) (w : World) (base : Nat) (spare : Nat → Bool) (held : Bool) (fuel : Nat) (cs : List Value) (x : DataW H × List MemPlace), DataW.trod enc P w base spare held fuel t cs = some x → ∃ p, d.K w p cs ∧ good p
theorem opens_int {P : Program} {t : TypeId} {k : IntKind} (ht : P.underlying t = some (.int k)) : Opens P t (Kd.int k) (fun n => (Lit.int k n).wf = true) := by
  intro H enc w base spare held fuel cs x h
  obtain ⟨n, rfl, _, hw⟩ := DataW.trod_int ht h
  exact ⟨n, rfl, hw⟩
theorem opens_string {P : Program} {t : TypeId} (ht : P.underlying t = some .string) : Opens P t Kd.string (fun s => s.size ≤ maxLen) := by
  intro H enc w base spare held fuel cs x h
  obtain ⟨s, rfl, _, hs⟩ := DataW.trod_string ht h
  exact ⟨s, rfl, hs⟩
theorem opens_bool {P : Program} {t : TypeId} (ht : P.underlying t = some .bool) : Opens P t Kd.bool (fun _ => True) := by
  intro H enc w base spare held fuel cs x h
  obtain ⟨b, rfl, _⟩ := DataW.trod_bool ht h
  exact ⟨b, rfl, trivial⟩
theorem list_of {α : Type} {p : Nat → α → Prop} : ∀ (n : Nat), (∀ i, i < n → ∃ x, p i x) → ∃ xs : List α, xs.length = n ∧ ∀ i x, xs[i]? = some x → p i x
  | 0, _ => ⟨[], rfl, fun i x h => by simp at h⟩
  | n + 1, h => by
    obtain ⟨xs, hl, hx⟩ := list_of n (fun i hi => h i (by omega))
    obtain ⟨y, hy⟩ := h n (by omega)
    refine ⟨xs ++ [y], by simp [hl], fun i x hi => ?_⟩
    by_cases hlt : i < n
    · rw [List.getElem?_append_left (by omega)] at hi
      exact hx i x hi
    · have h2 := (List.getElem?_eq_some_iff.1 hi).1
      rw [List.length_append, List.length_singleton] at h2
      obtain rfl : i = n := by omega
      rw [← hl, List.getElem?_concat_length] at hi
      cases hi
      exact hy
theorem opens_slice {α : Type} {d : Kd α} {good : α → Prop} {P : Program} {t e : TypeId} (ht : P.underlying t = some (.slice e)) (hC : P.cellsOf e = d.sz) (hd : Opens P e d good) : Opens P t (Kd.slice e d) (fun xs => ∀ x ∈ xs, good x) := by
  intro H enc w base spare held fuel cs x h
  rcases open_slice ht h with ⟨rfl, _⟩ | ⟨a, len, cap, m, n, D, Pl, rfl, hb, hl, hm, hmm, _, hi⟩
  · exact ⟨[], ⟨none, 0, rfl, Nat.le_refl _, rfl, Nat.zero_le _, fun h0 => absurd h0 (Nat.lt_irrefl _)⟩, fun x hx => by simp at hx⟩
  · have hlm : len ≤ m := by rw [hmm]; split <;> omega
    obtain ⟨xs, hxl, hx⟩ := list_of (p := fun i x => (∃ c, c.length = d.sz ∧ d.K w x c ∧ ∀ j u, c[j]? = some u → w.cell? (a.add (i * d.sz + j)) = some u) ∧ good x) len (fun i hil => by
      obtain ⟨cs', hc, ht'⟩ := hi i (by omega)
      obtain ⟨p, hK, hg⟩ := hd H enc w base spare held n cs' _ ht'
      obtain ⟨_, hcl, hat⟩ := World.cells?_some hc
      refine ⟨p, ⟨cs', by rw [hcl, hC], hK, fun j u hj => ?_⟩, hg⟩
      have hjl := (List.getElem?_eq_some_iff.1 hj).1
      have := hat j (by omega)
      rw [hC, Go.Deep.add_add] at this
      exact this.trans hj)
    unfold maxLen at hm
    refine ⟨xs, ⟨some a, cap, by rw [hxl], by omega, rfl, by omega, fun _ => ⟨a, rfl, fun j p hp => (hx j p hp).1⟩⟩, fun x hxm => ?_⟩
    obtain ⟨i, hil, rfl⟩ := List.getElem_of_mem hxm
    exact (hx i _ (List.getElem?_eq_getElem hil)).2
theorem fields_open {P : Program} {t : TypeId} {fs : Array Field} (ht : P.underlying t = some (.struct fs)) (hone : oneCellFields P fs = true) (hC : P.cellsOf t = fs.size) {H : Type} {enc : TypeId × Value → H} {w : World} {base : Nat} {spare : Nat → Bool} {held : Bool} {fuel : Nat} {cs : List Value} {x : DataW H × List MemPlace} (h : DataW.trod enc P w base spare held fuel t cs = some x) :
    cs.length = fs.size ∧ ∀ (j : Nat) (f : Field), fs[j]? = some f → ∃ (c : Value) (y : DataW H × List MemPlace) (n : Nat), cs[j]? = some c ∧ DataW.trod enc P w base spare held n f.type [c] = some y := by
  obtain ⟨ys, n', hn', hy, hlen, hyl, hf⟩ := DataW.trod_struct ht h
  rw [hC] at hlen
  refine ⟨hlen, fun j f hj => ?_⟩
  obtain ⟨ho, hk⟩ := hone_of hone j f hj
  have hjl : j < fs.size := (Array.getElem?_eq_some_iff.1 hj).1
  have h1 := hf j f hj
  rw [ho, hk] at h1
  have hone' : (cs.drop j).take 1 = [cs[j]'(by omega)] := by
    rw [List.drop_eq_getElem_cons (by omega)]
    rfl
  rw [hone'] at h1
  have hys : ys[j]? = some (ys[j]'(by omega)) := List.getElem?_eq_getElem (by omega)
  exact ⟨_, _, n', List.getElem?_eq_getElem (by omega), h1.trans hys⟩
theorem opens_struct2 {α β : Type} {a : Kd α} {b : Kd β} {ga : α → Prop} {gb : β → Prop} {P : Program} {t : TypeId} {f0 f1 : Field} (ht : P.underlying t = some (.struct #[f0, f1])) (hone : oneCellFields P #[f0, f1] = true) (hC : P.cellsOf t = 2) (h0 : Opens P f0.type a ga) (h1 : Opens P f1.type b gb) :
    Opens P t (Kd.pair a b) (fun x => ga x.1 ∧ gb x.2) := by
  intro H enc w base spare held fuel cs x h
  obtain ⟨hl, hf⟩ := fields_open ht hone hC h
  match cs, hl with
  | [c0, c1], _ =>
    obtain ⟨_, y0, n0, e0, t0⟩ := hf 0 f0 rfl
    obtain ⟨_, y1, n1, e1, t1⟩ := hf 1 f1 rfl
    cases e0; cases e1
    obtain ⟨p0, k0, g0⟩ := h0 H enc w base spare held _ _ _ t0
    obtain ⟨p1, k1, g1⟩ := h1 H enc w base spare held _ _ _ t1
    exact ⟨(p0, p1), ⟨[c0], [c1], rfl, k0, k1⟩, g0, g1⟩
theorem opens_struct3 {α β γ : Type} {a : Kd α} {b : Kd β} {c : Kd γ} {ga : α → Prop} {gb : β → Prop} {gc : γ → Prop} {P : Program} {t : TypeId} {f0 f1 f2 : Field} (ht : P.underlying t = some (.struct #[f0, f1, f2])) (hone : oneCellFields P #[f0, f1, f2] = true) (hC : P.cellsOf t = 3) (h0 : Opens P f0.type a ga) (h1 : Opens P f1.type b gb) (h2 : Opens P f2.type c gc) :
    Opens P t (Kd.pair a (Kd.pair b c)) (fun x => ga x.1 ∧ gb x.2.1 ∧ gc x.2.2) := by
  intro H enc w base spare held fuel cs x h
  obtain ⟨hl, hf⟩ := fields_open ht hone hC h
  match cs, hl with
  | [c0, c1, c2], _ =>
    obtain ⟨_, y0, n0, e0, t0⟩ := hf 0 f0 rfl
    obtain ⟨_, y1, n1, e1, t1⟩ := hf 1 f1 rfl
    obtain ⟨_, y2, n2, e2, t2⟩ := hf 2 f2 rfl
    cases e0; cases e1; cases e2
    obtain ⟨p0, k0, g0⟩ := h0 H enc w base spare held _ _ _ t0
    obtain ⟨p1, k1, g1⟩ := h1 H enc w base spare held _ _ _ t1
    obtain ⟨p2, k2, g2⟩ := h2 H enc w base spare held _ _ _ t2
    exact ⟨(p0, p1, p2), ⟨[c0], [c1, c2], rfl, k0, ⟨[c1], [c2], rfl, k1, k2⟩⟩, g0, g1, g2⟩
theorem opens_struct4 {α β γ δ : Type} {a : Kd α} {b : Kd β} {c : Kd γ} {d : Kd δ} {ga : α → Prop} {gb : β → Prop} {gc : γ → Prop} {gd : δ → Prop} {P : Program} {t : TypeId} {f0 f1 f2 f3 : Field} (ht : P.underlying t = some (.struct #[f0, f1, f2, f3])) (hone : oneCellFields P #[f0, f1, f2, f3] = true) (hC : P.cellsOf t = 4) (h0 : Opens P f0.type a ga) (h1 : Opens P f1.type b gb) (h2 : Opens P f2.type c gc) (h3 : Opens P f3.type d gd) :
    Opens P t (Kd.pair a (Kd.pair b (Kd.pair c d))) (fun x => ga x.1 ∧ gb x.2.1 ∧ gc x.2.2.1 ∧ gd x.2.2.2) := by
  intro H enc w base spare held fuel cs x h
  obtain ⟨hl, hf⟩ := fields_open ht hone hC h
  match cs, hl with
  | [c0, c1, c2, c3], _ =>
    obtain ⟨_, y0, n0, e0, t0⟩ := hf 0 f0 rfl
    obtain ⟨_, y1, n1, e1, t1⟩ := hf 1 f1 rfl
    obtain ⟨_, y2, n2, e2, t2⟩ := hf 2 f2 rfl
    obtain ⟨_, y3, n3, e3, t3⟩ := hf 3 f3 rfl
    cases e0; cases e1; cases e2; cases e3
    obtain ⟨p0, k0, g0⟩ := h0 H enc w base spare held _ _ _ t0
    obtain ⟨p1, k1, g1⟩ := h1 H enc w base spare held _ _ _ t1
    obtain ⟨p2, k2, g2⟩ := h2 H enc w base spare held _ _ _ t2
    obtain ⟨p3, k3, g3⟩ := h3 H enc w base spare held _ _ _ t3
    exact ⟨(p0, p1, p2, p3), ⟨[c0], [c1, c2, c3], rfl, k0, ⟨[c1], [c2, c3], rfl, k1, ⟨[c2], [c3], rfl, k2, k3⟩⟩⟩, g0, g1, g2, g3⟩
theorem opens_struct5 {α β γ δ ε : Type} {a : Kd α} {b : Kd β} {c : Kd γ} {d : Kd δ} {e : Kd ε} {ga : α → Prop} {gb : β → Prop} {gc : γ → Prop} {gd : δ → Prop} {ge : ε → Prop} {P : Program} {t : TypeId} {f0 f1 f2 f3 f4 : Field} (ht : P.underlying t = some (.struct #[f0, f1, f2, f3, f4])) (hone : oneCellFields P #[f0, f1, f2, f3, f4] = true) (hC : P.cellsOf t = 5) (h0 : Opens P f0.type a ga) (h1 : Opens P f1.type b gb) (h2 : Opens P f2.type c gc) (h3 : Opens P f3.type d gd) (h4 : Opens P f4.type e ge) :
    Opens P t (Kd.pair a (Kd.pair b (Kd.pair c (Kd.pair d e)))) (fun x => ga x.1 ∧ gb x.2.1 ∧ gc x.2.2.1 ∧ gd x.2.2.2.1 ∧ ge x.2.2.2.2) := by
  intro H enc w base spare held fuel cs x h
  obtain ⟨hl, hf⟩ := fields_open ht hone hC h
  match cs, hl with
  | [c0, c1, c2, c3, c4], _ =>
    obtain ⟨_, y0, n0, e0, t0⟩ := hf 0 f0 rfl
    obtain ⟨_, y1, n1, e1, t1⟩ := hf 1 f1 rfl
    obtain ⟨_, y2, n2, e2, t2⟩ := hf 2 f2 rfl
    obtain ⟨_, y3, n3, e3, t3⟩ := hf 3 f3 rfl
    obtain ⟨_, y4, n4, e4, t4⟩ := hf 4 f4 rfl
    cases e0; cases e1; cases e2; cases e3; cases e4
    obtain ⟨p0, k0, g0⟩ := h0 H enc w base spare held _ _ _ t0
    obtain ⟨p1, k1, g1⟩ := h1 H enc w base spare held _ _ _ t1
    obtain ⟨p2, k2, g2⟩ := h2 H enc w base spare held _ _ _ t2
    obtain ⟨p3, k3, g3⟩ := h3 H enc w base spare held _ _ _ t3
    obtain ⟨p4, k4, g4⟩ := h4 H enc w base spare held _ _ _ t4
    exact ⟨(p0, p1, p2, p3, p4), ⟨[c0], [c1, c2, c3, c4], rfl, k0, ⟨[c1], [c2, c3, c4], rfl, k1, ⟨[c2], [c3, c4], rfl, k2, ⟨[c3], [c4], rfl, k3, k4⟩⟩⟩⟩, g0, g1, g2, g3, g4⟩
theorem opens_iso {α β : Type} {d : Kd α} {good : α → Prop} {P : Program} {t : TypeId} (f : β → α) (g : α → β) (hfg : ∀ a, f (g a) = a) (h : Opens P t d good) : Opens P t (Kd.iso d f) (fun x => good (f x)) := by
  intro H enc w base spare held fuel cs x hx
  obtain ⟨p, hK, hg⟩ := h H enc w base spare held fuel cs x hx
  exact ⟨g p, by show d.K w (f (g p)) cs; rw [hfg]; exact hK, by show good (f (g p)); rw [hfg]; exact hg⟩
/-- A slice argument, opened. -/
theorem open_arg {α : Type} {d : Kd α} {good : α → Prop} {P : Program} {t e : TypeId} (ho : Opens P t (Kd.slice e d) (fun xs => ∀ x ∈ xs, good x)) {H : Type} {enc : TypeId × Value → H} {w : World} {base : Nat} {spare : Nat → Bool} {held : Bool} {a : Option Addr} {len cap : Nat} {dd : DataW H} {ps : List MemPlace} (h : DataW.Trod enc P w base spare held t (.slice a len cap) dd ps) :
    ∃ xs : List α, xs.length = len ∧ len ≤ cap ∧ Kd.C d w a xs.length xs ∧ ∀ x ∈ xs, good x := by
  obtain ⟨fuel, hf⟩ := h
  obtain ⟨xs, ⟨A, c, hE, hl, hc⟩, hg⟩ := ho _ _ _ _ _ _ _ _ _ hf
  simp [Value.cells] at hE
  obtain ⟨rfl, rfl, rfl⟩ := hE
  exact ⟨xs, rfl, hl, hc, hg⟩
end Go.Proofs.YtpnbjpkdbiiogaaGreat
/- Disks: a call's reading; both new disks; a round's start. -/
namespace Go.Proofs.YtpnbjpkdbiiogaaGreat
set_option linter.unusedVariables false
open Go.RowKit Go.Maps Go.ChangeShapes Go.WideShapes Go.Deep Go.Proofs.YtpnbjpkdbiiogaaGreatW.PrintWords
attribute [local go_sem] mx2 mn2 mxTwo mnTwo

theorem opens_struct6 {α β γ δ ε ζ : Type} {a : Kd α} {b : Kd β} {c : Kd γ} {d : Kd δ} {e : Kd ε} {f : Kd ζ} {ga : α → Prop} {gb : β → Prop} {gc : γ → Prop} {gd : δ → Prop} {ge : ε → Prop} {gf : ζ → Prop} {P : Program} {t : TypeId} {f0 f1 f2 f3 f4 f5 : Field} (ht : P.underlying t = some (.struct #[f0, f1, f2, f3, f4, f5])) (hone : oneCellFields P #[f0, f1, f2, f3, f4, f5] = true) (hC : P.cellsOf t = 6) (h0 : Opens P f0.type a ga) (h1 : Opens P f1.type b gb) (h2 : Opens P f2.type c gc) (h3 : Opens P f3.type d gd) (h4 : Opens P f4.type e ge) (h5 : Opens P f5.type f gf) :
    Opens P t (Kd.pair a (Kd.pair b (Kd.pair c (Kd.pair d (Kd.pair e f))))) (fun x => ga x.1 ∧ gb x.2.1 ∧ gc x.2.2.1 ∧ gd x.2.2.2.1 ∧ ge x.2.2.2.2.1 ∧ gf x.2.2.2.2.2) := by
  intro H enc w base spare held fuel cs x h
  obtain ⟨hl, hf⟩ := fields_open ht hone hC h
  match cs, hl with
  | [c0, c1, c2, c3, c4, c5], _ =>
    obtain ⟨_, y0, n0, e0, t0⟩ := hf 0 f0 rfl
    obtain ⟨_, y1, n1, e1, t1⟩ := hf 1 f1 rfl
    obtain ⟨_, y2, n2, e2, t2⟩ := hf 2 f2 rfl
    obtain ⟨_, y3, n3, e3, t3⟩ := hf 3 f3 rfl
    obtain ⟨_, y4, n4, e4, t4⟩ := hf 4 f4 rfl
    obtain ⟨_, y5, n5, e5, t5⟩ := hf 5 f5 rfl
    cases e0; cases e1; cases e2; cases e3; cases e4; cases e5
    obtain ⟨p0, k0, g0⟩ := h0 H enc w base spare held _ _ _ t0
    obtain ⟨p1, k1, g1⟩ := h1 H enc w base spare held _ _ _ t1
    obtain ⟨p2, k2, g2⟩ := h2 H enc w base spare held _ _ _ t2
    obtain ⟨p3, k3, g3⟩ := h3 H enc w base spare held _ _ _ t3
    obtain ⟨p4, k4, g4⟩ := h4 H enc w base spare held _ _ _ t4
    obtain ⟨p5, k5, g5⟩ := h5 H enc w base spare held _ _ _ t5
    exact ⟨(p0, p1, p2, p3, p4, p5), ⟨[c0], [c1, c2, c3, c4, c5], rfl, k0, ⟨[c1], [c2, c3, c4, c5], rfl, k1, ⟨[c2], [c3, c4, c5], rfl, k2, ⟨[c3], [c4, c5], rfl, k3, ⟨[c4], [c5], rfl, k4, k5⟩⟩⟩⟩⟩, g0, g1, g2, g3, g4, g5⟩
def kVact : Kd VAct := Kd.iso (Kd.pair (Kd.int .i64) (Kd.pair Kd.string (Kd.pair Kd.string (Kd.pair (Kd.int .i64) (Kd.pair (Kd.slice 5 (Kd.int .u8)) (Kd.slice 4 Kd.bool)))))) (fun x : VAct => (x.kd, x.a, x.b, x.at_, x.data, x.keep))
def goodVact (x : VAct) : Prop := (Lit.int .i64 x.kd).wf = true ∧ x.a.size ≤ maxLen ∧ x.b.size ≤ maxLen ∧ (Lit.int .i64 x.at_).wf = true ∧ (∀ y ∈ x.data, (Lit.int .u8 y).wf = true) ∧ (∀ y ∈ x.keep, True)
theorem opens_t22 : Opens Tryz.prog 22 (Kd.slice 32 kVact) (fun xs => ∀ x ∈ xs, goodVact x) :=
  opens_slice Tryz.underlying22 (by kernel_rfl) (opens_iso (fun x : VAct => (x.kd, x.a, x.b, x.at_, x.data, x.keep)) (fun x => ⟨x.1, x.2.1, x.2.2.1, x.2.2.2.1, x.2.2.2.2.1, x.2.2.2.2.2⟩) (fun _ => rfl)
    (opens_struct6 Tryz.underlying32 (by kernel_rfl) (by kernel_rfl) (opens_int Tryz.underlying3) (opens_string Tryz.underlying9) (opens_string Tryz.underlying9) (opens_int Tryz.underlying3) (opens_slice Tryz.underlying30 (by kernel_rfl) (opens_int Tryz.underlying5)) (opens_slice Tryz.underlying23 (by kernel_rfl) (opens_bool Tryz.underlying4))))
theorem opens_t23 : Opens Tryz.prog 23 (Kd.slice 4 Kd.bool) (fun xs => ∀ x ∈ xs, True) := opens_slice Tryz.underlying23 (by kernel_rfl) (opens_bool Tryz.underlying4)
theorem at_Vact {w : World} {A : Option Addr} {n : Nat} {xs : List VAct} (h : Kd.C kVact w A n xs) (i : Nat) (h1 : i < n) : ∃ ad A4 c4 A5 c5, A = some ad ∧ w.cell? (ad.add (i * 6)) = some (.int .i64 (xs.getD i zVact).kd) ∧ w.cell? ⟨(ad.add (i * 6)).block, (ad.add (i * 6)).off + 1, none⟩ = some (.string (xs.getD i zVact).a) ∧ w.cell? ⟨(ad.add (i * 6)).block, (ad.add (i * 6)).off + 2, none⟩ = some (.string (xs.getD i zVact).b) ∧ w.cell? ⟨(ad.add (i * 6)).block, (ad.add (i * 6)).off + 3, none⟩ = some (.int .i64 (xs.getD i zVact).at_) ∧ w.cell? ⟨(ad.add (i * 6)).block, (ad.add (i * 6)).off + 4, none⟩ = some (.slice A4 (xs.getD i zVact).data.length c4) ∧ w.cell? ⟨(ad.add (i * 6)).block, (ad.add (i * 6)).off + 5, none⟩ = some (.slice A5 (xs.getD i zVact).keep.length c5) ∧ (xs.getD i zVact).data.length ≤ c4 ∧ Kd.C (Kd.int .u8) w A4 (xs.getD i zVact).data.length (xs.getD i zVact).data ∧ (xs.getD i zVact).keep.length ≤ c5 ∧ Kd.bool.C w A5 (xs.getD i zVact).keep.length (xs.getD i zVact).keep := by
  obtain ⟨ad, c, e, _, hK, hc0⟩ := Kd.C_get h zVact (i : Int) (by omega) (by omega)
  simp only [Int.toNat_natCast] at hK hc0
  have hc : ∀ j u, c[j]? = some u → w.cell? (ad.add (i * 6 + j)) = some u := hc0
  obtain ⟨_, _, rfl, rfl, ⟨_, _, rfl, rfl, ⟨_, _, rfl, rfl, ⟨_, _, rfl, rfl, ⟨_, _, rfl, ⟨A4, c4, rfl, l4, g4⟩, ⟨A5, c5, rfl, l5, g5⟩⟩⟩⟩⟩⟩ := hK
  exact ⟨ad, A4, c4, A5, c5, e, hc 0 _ rfl, by rw [← add_field _ _ 1 (by omega)]; exact hc 1 _ rfl, by rw [← add_field _ _ 2 (by omega)]; exact hc 2 _ rfl, by rw [← add_field _ _ 3 (by omega)]; exact hc 3 _ rfl, by rw [← add_field _ _ 4 (by omega)]; exact hc 4 _ rfl, by rw [← add_field _ _ 5 (by omega)]; exact hc 5 _ rfl, l4, g4, l5, g5⟩
def s0V (room : Int) : VSt := ⟨[], [], [], [], room, 0, false, false⟩
theorem bdv0 (room : Int) (h : 0 ≤ room) : BdV (s0V room) 0 0 0 := by
  have e : ∀ {α : Type} (P : α → Prop), ∀ x ∈ ([] : List α), P x := fun P x hx => by simp at hx
  exact ⟨Nat.le_refl _, Nat.le_refl _, Nat.le_refl _, Nat.le_refl _, Nat.le_refl _, Nat.le_refl _, e _, List.Pairwise.nil, List.Pairwise.nil, e _, e _, e _, e _, h, ⟨Int.le_refl _, by show (0 : Int) ≤ _; decide⟩⟩
/-- Both disks, new. -/
theorem kx0 {W0 W1 : World} {b g gd mn ms mf r rd : Nat} {room : Int} (hd : DK W0 b (fun k => ¬ rS [] k) g gd mn ms (.slice none 0 0) 0 [] [] [] mf 0 [] 0 room 0 false false) (hb : Below W0.heap.size W0 W1)
    (hr : RK W1 b r rd (.slice none 0 0) (.slice none 0 0) (.slice none 0 0) [] [] [] (.slice none 0 0) [] room 0 false false) : KX W1 b g r 0 0 (s0V room) := 
  ⟨gd, mn, ms, _, mf, [], rd, _, _, _, _, [], ⟨hd.below hb, hr, rfl, rfl⟩⟩
theorem rS_nil (k : Nat) : ¬ rS [] k := fun ⟨q, hq, _⟩ => by simp at hq
end Go.Proofs.YtpnbjpkdbiiogaaGreat
/- No disk; the example. -/
namespace Go.Proofs.YtpnbjpkdbiiogaaGreat
set_option linter.unusedVariables false
open Go.RowKit Go.Maps Go.Proofs.YtpnbjpkdbiiogaaGreatW.PrintWords
attribute [local go_sem] mx2 mn2 mxTwo mnTwo

theorem change_nil (w : World) : Calls Tryz.prog 39 #[.pointer none] w fun e w' => e = .returned (.int .i64 3) ∧ w = w' := by
  go_enter Tryz.func39, Tryz.ntmps39
  go_wp2
  go_ret
  exact ⟨rfl, rfl⟩
theorem knil_create (s : ByteArray) (w : World) : Calls Tryz.prog 24 #[.pointer none, .string s] w fun e w' => e = .returned (.int .i64 3) ∧ w = w' := by
  go_enter Tryz.func24, Tryz.ntmps24
  go_wp2_with (go_at_call 39; refine (change_nil _).mono ?_; rintro e w1 ⟨rfl, rfl⟩)
  go_ret
  exact ⟨rfl, rfl⟩
theorem knil_write (s : ByteArray) (k : Int) (A : Option Addr) (n c : Nat) (w : World) : Calls Tryz.prog 25 #[.pointer none, .string s, .int .i64 k, .slice A n c] w fun e w' => e = .returned (.int .i64 3) ∧ w = w' := by
  go_enter Tryz.func25, Tryz.ntmps25
  go_wp2_with (go_at_call 39; refine (change_nil _).mono ?_; rintro e w1 ⟨rfl, rfl⟩)
  go_ret
  exact ⟨rfl, rfl⟩
theorem knil_trunc (s : ByteArray) (k : Int) (w : World) : Calls Tryz.prog 29 #[.pointer none, .string s, .int .i64 k] w fun e w' => e = .returned (.int .i64 3) ∧ w = w' := by
  go_enter Tryz.func29, Tryz.ntmps29
  go_wp2_with (go_at_call 39; refine (change_nil _).mono ?_; rintro e w1 ⟨rfl, rfl⟩)
  go_ret
  exact ⟨rfl, rfl⟩
theorem knil_sync (s : ByteArray) (w : World) : Calls Tryz.prog 12 #[.pointer none, .string s] w fun e w' => e = .returned (.int .i64 3) ∧ w = w' := by
  go_enter Tryz.func12, Tryz.ntmps12
  go_wp2_with (go_at_call 39; refine (change_nil _).mono ?_; rintro e w1 ⟨rfl, rfl⟩)
  go_ret
  exact ⟨rfl, rfl⟩
theorem knil_syncdir (w : World) : Calls Tryz.prog 13 #[.pointer none] w fun e w' => e = .returned (.int .i64 3) ∧ w = w' := by
  go_enter Tryz.func13, Tryz.ntmps13
  go_wp2_with (go_at_call 39; refine (change_nil _).mono ?_; rintro e w1 ⟨rfl, rfl⟩)
  go_ret
  exact ⟨rfl, rfl⟩
theorem knil_rename (s t : ByteArray) (w : World) : Calls Tryz.prog 32 #[.pointer none, .string s, .string t] w fun e w' => e = .returned (.int .i64 3) ∧ w = w' := by
  go_enter Tryz.func32, Tryz.ntmps32
  go_wp2_with (go_at_call 39; refine (change_nil _).mono ?_; rintro e w1 ⟨rfl, rfl⟩)
  go_ret
  exact ⟨rfl, rfl⟩
theorem knil_unlink (s : ByteArray) (w : World) : Calls Tryz.prog 34 #[.pointer none, .string s] w fun e w' => e = .returned (.int .i64 3) ∧ w = w' := by
  go_enter Tryz.func34, Tryz.ntmps34
  go_wp2_with (go_at_call 39; refine (change_nil _).mono ?_; rintro e w1 ⟨rfl, rfl⟩)
  go_ret
  exact ⟨rfl, rfl⟩
theorem knil_size (s : ByteArray) (w : World) : Calls Tryz.prog 56 #[.pointer none, .string s] w fun e w' => e = .returned (.tuple #[.int .i64 0, .int .i64 3]) ∧ w = w' := by
  go_enter Tryz.func56, Tryz.ntmps56
  go_wp2
  go_ret2
  exact ⟨rfl, rfl⟩
theorem knil_read (s : ByteArray) (k n : Int) (w : World) : Calls Tryz.prog 17 #[.pointer none, .string s, .int .i64 k, .int .i64 n] w fun e w' => e = .returned (.tuple #[.slice none 0 0, .int .i64 3]) ∧ w = w' := by
  go_enter Tryz.func17, Tryz.ntmps17
  go_wp2
  go_ret2
  exact ⟨rfl, rfl⟩
theorem knil_arm (k : Int) (w : World) : Calls Tryz.prog 36 #[.pointer none, .int .i64 k] w fun e w' => e = .returned (.tuple #[]) ∧ w = w' := by
  go_enter Tryz.func36, Tryz.ntmps36
  go_wp2
  first | go_end0 | ((try simp only [Exit.inBlock, Exit.then]); refine bodyPost_ret (results_none rfl _ _ _) rfl ?_)
  exact ⟨rfl, rfl⟩
theorem knil_dead (w : World) : Calls Tryz.prog 54 #[.pointer none] w fun e w' => e = .returned (.bool true) ∧ w = w' := by
  go_enter Tryz.func54, Tryz.ntmps54
  go_wp2
  go_ret
  exact ⟨rfl, rfl⟩
theorem knil_used (w : World) : Calls Tryz.prog 22 #[.pointer none] w fun e w' => e = .returned (.int .i64 0) ∧ w = w' := by
  go_enter Tryz.func22, Tryz.ntmps22
  go_wp2
  go_ret
  exact ⟨rfl, rfl⟩
theorem knil_loose (w : World) : Calls Tryz.prog 23 #[.pointer none] w fun e w' => e = .returned (.int .i64 0) ∧ w = w' := by
  go_enter Tryz.func23, Tryz.ntmps23
  go_wp2
  go_ret
  exact ⟨rfl, rfl⟩
theorem knil_crash (A : Option Addr) (n c : Nat) (w : World) : Calls Tryz.prog 14 #[.pointer none, .slice A n c] w fun e w' => e = .returned (.pointer none) ∧ Below w.heap.size w w' := by
  go_enter Tryz.func14, Tryz.ntmps14
  go_wp2
  go_ret
  exact ⟨rfl, by first | exact Below.refl _ _ | exact below_alloc (Below.refl _ _) _ | exact below_alloc (below_alloc (Below.refl _ _) _) _⟩
theorem C_blk {W : World} {q : Nat} {cs : Array Value} {t : TypeId} (hb : W.heap[q]? = some (.cells cs t (0, 0))) (xs : List Int) (hcs : cs.toList = xs.map (Value.int .u8)) (hm : xs.length ≤ 9223372036854775807) : Kd.C (Kd.int .u8) W (some ⟨q, 0, none⟩) xs.length xs := by
  refine ⟨rfl, hm, fun _ => ⟨_, rfl, fun j p hp => ⟨[.int .u8 p], rfl, rfl, fun i u hu => ?_⟩⟩⟩
  match i, hu with
  | 0, hu =>
    cases hu
    show W.cell? ((⟨q, 0, none⟩ : Addr).add (j * 1 + 0)) = some (.int .u8 p)
    rw [add_plain, blk_cell hb, ← Array.getElem?_toList, hcs, List.getElem?_map, Nat.mul_one, Nat.add_zero, hp]
    rfl
def nA : ByteArray := ⟨#[65]⟩
def fA (g : Nat) (vn vo : Value) (now : List Int) (ops : List FOp) : FR := ⟨0, g, vn, .slice none 0 0, vo, now, [], ops⟩
theorem rightA : doCode [] ⟨0, nA, ⟨#[]⟩, 0⟩ = 0 := by decide +kernel
theorem didA : didL [] ⟨0, nA, ⟨#[]⟩, 0⟩ = [(nA, 0)] := by decide +kernel
theorem getA : getN [(nA, 0)] nA = some 0 := by decide +kernel
theorem risA : Rising [(nA, 0)] := by unfold Rising nmL; simp
theorem fileA (p : FR) (h : p.id = 0) : fileAt [p] 0 = some p := by unfold fileAt; simp [h]
theorem kgA (p : FR) (h : p.id = 0) (hl : p.now.length ≤ 1048576) (ho : p.ops.length ≤ 500000) : KG [(nA, 0)] [p] :=
  ⟨fun q hq => by rw [List.mem_singleton] at hq; subst hq; exact ⟨by decide, by decide, p, fileA p h⟩, fun f hf => by rw [List.mem_singleton] at hf; subst hf; exact ⟨hl, ho⟩⟩
theorem usedA (p : FR) (h : p.id = 0) : usedF [p] [(nA, 0)] = cnt (p.now.length : Int) := by
  unfold usedF
  simp [lenA_some (fileA p h)]
theorem wA : (writeF ([], []) 0 (List.replicate 64 0)).1.length = 64 ∧ (writeF ([], []) 0 (List.replicate 64 0)).2.length = 2 := by decide +kernel
theorem zero_kept (w2 : World) (g g1 : Nat) (hg : g < w2.heap.size) (hg1 : g1 < w2.heap.size) : ∀ W', (∀ j, j < (w2.alloc (.cells (madeCells #[.int .u8 0] 64) 5)).heap.size → j ≠ g → j ≠ g1 → some j ≠ (Value.slice none 0 0).ownBlock → W'.heap[j]? = (w2.alloc (.cells (madeCells #[.int .u8 0] 64) 5)).heap[j]?) → ∀ {b : Nat} {W : World}, Below b W W' → Kd.C (Kd.int .u8) W' (some ⟨w2.heap.size, 0, none⟩) 64 (List.replicate 64 0) := by
  intro W' hk b W _
  have hz : (w2.alloc (.cells (madeCells #[.int .u8 0] 64) 5)).heap.size = w2.heap.size + 1 := World.size_alloc ..
  have hb := (hk w2.heap.size (by omega) (by omega) (by omega) (by simp [Value.ownBlock])).trans (blk_new w2 _)
  exact C_blk hb (List.replicate 64 0) (by rw [toList_madeCells_one]; rfl) (by simp)
theorem setA (p : FR) (vn vs vo : Value) (now safe : List Int) (ops : List FOp) : setFile [p] ⟨p.id, p.g, vn, vs, vo, now, safe, ops⟩ = [⟨p.id, p.g, vn, vs, vo, now, safe, ops⟩] := by unfold setFile; simp
theorem hasA (g1 : Nat) (vn vo : Value) (now : List Int) (ops : List FOp) (n : Int) (hn : (now.length : Int) = n) (h0 : n = 0) : hasF [fA g1 vn vo now ops] [(nA, 0)] 1 ((fA g1 vn vo now ops).now.length) 64 = true := by
  subst h0
  unfold hasF
  rw [usedA _ rfl]
  show (decide (cnt 64 - cnt (now.length : Int) ≤ 0) || decide (cnt (now.length : Int) + (cnt 64 - cnt (now.length : Int)) ≤ 1)) = true
  rw [hn]
  decide
theorem hasN (g1 : Nat) (vn vo : Value) (now : List Int) (ops : List FOp) (hn : now.length = 64) : hasF [fA g1 vn vo now ops] [(nA, 0)] 1 ((fA g1 vn vo now ops).now.length) 65 = false := by
  unfold hasF
  rw [usedA _ rfl]
  show (decide (cnt 65 - cnt (now.length : Int) ≤ 0) || decide (cnt (now.length : Int) + (cnt 65 - cnt (now.length : Int)) ≤ 1)) = false
  rw [hn]
  decide
set_option maxHeartbeats 1000000 in
set_option maxRecDepth 100000 in
theorem awake08_any (w : World) : Calls Tryz.prog 6 #[] w fun e w' => e = .returned (.bool true) ∧ Below w.heap.size w w' := by
  have hmk : ∀ w : World, (Instr.makeSlice 30 (.int .i64 64) (.int .i64 64)).run Tryz.prog w = .ok (.slice (some ⟨w.heap.size, 0, none⟩) 64 64) (w.alloc (.cells (madeCells #[.int .u8 0] 64) 5)) := fun w => run_make_row' (P := Tryz.prog) 30 5 (.int .u8 0) 1 Tryz.underlying30 infoU8 rfl .i64 .i64 64 (by omega) (by omega) w
  have T1 := Aside0.mk trivial
  go_enter Tryz.func6, Tryz.ntmps6
  go_wp2_with (first
    | (go_at_call 7; refine (knew_any w.heap.size (fun _ => True) 1 _ (Nat.le_refl _) (fun _ _ => trivial)).mono ?_; rintro e w1 ⟨g, gd, mn, ms, mf, rfl, hk, hb⟩; have H := Aside0.mk (show DK w1 w.heap.size (fun _ => True) g gd mn ms (.slice none 0 0) 0 [] [] [] mf 0 [] 0 1 0 false false from hk); have HB := Aside0.mk hb; clear hk hb)
    | (go_at_call 24; refine (kcreate_ok w.heap.size (fun _ => True) g gd mn ms _ 0 [] [] [] mf 0 [] 0 1 0 false false _ H.out (by decide) (by decide) (by decide) (by decide) (by decide) (by decide) (by decide) (fun p hp => by simp at hp) nA ⟨#[]⟩ (by decide) rfl rightA).mono ?_; rintro e w2 ⟨rfl, vo1, g1, hk, hl⟩; rw [didA] at hk; have hbn := HB.out.trans hl; clear H HB; have H := Aside0.mk (show DK w2 w.heap.size (fun _ => True) g gd mn ms vo1 1 [(nA, 0)] [] [nrm ⟨0, nA, ⟨#[]⟩, 0⟩] mf 1 [fA g1 (.slice none 0 0) (.slice none 0 0) [] []] 1 1 0 false false from hk); have HB := Aside0.mk hbn; clear hk hl hbn)
    | (go_at_call 25; have gate := T1.out; refine (kwrite_ok w.heap.size (fun _ => True) g gd mn ms vo1 1 [(nA, 0)] [] [nrm ⟨0, nA, ⟨#[]⟩, 0⟩] mf 1 [fA g1 (.slice none 0 0) (.slice none 0 0) [] []] 1 1 0 false false _ (H.out.below (below_alloc (Below.refl _ _) _)) (kgA _ rfl (by simp [fA]) (by simp [fA])) risA (by decide) (by decide) (fun p hp => by rw [List.mem_singleton] at hp; subst hp; decide) (by decide) (by decide) (by decide) rfl nA (by decide) 0 (fA g1 (.slice none 0 0) (.slice none 0 0) [] []) getA (fileA _ rfl) 0 (some ⟨w2.heap.size, 0, none⟩) 64 64 (by decide) (by decide) (List.replicate 64 0) (by simp) (by decide) (fun W' h1 h2 => zero_kept w2 g g1 (blk_lt H.out.hb) (blk_lt (H.out.hf.hf _ (List.mem_singleton_self _)).hb) W' h1 h2) (.inr (hasA g1 _ _ _ _ 0 rfl rfl))).mono ?_; rintro e w3 ⟨rfl, vn', vo', hk, _, hl⟩; rw [setA] at hk; have hbn := (below_alloc HB.out _).trans hl; clear H HB T1 gate; have H := Aside0.mk (show DK w3 w.heap.size (fun _ => True) g gd mn ms vo1 1 [(nA, 0)] [] [nrm ⟨0, nA, ⟨#[]⟩, 0⟩] mf 1 [fA g1 vn' vo' (writeF ([], []) 0 (List.replicate 64 0)).1 (writeF ([], []) 0 (List.replicate 64 0)).2] 1 1 0 false false from hk); have HB := Aside0.mk hbn; clear hk hl hbn)
    | (go_at_call 25; refine (kwrite_space w.heap.size (fun _ => True) g gd mn ms vo1 1 [(nA, 0)] [] [nrm ⟨0, nA, ⟨#[]⟩, 0⟩] mf 1 [fA g1 vn' vo' (writeF ([], []) 0 (List.replicate 64 0)).1 (writeF ([], []) 0 (List.replicate 64 0)).2] 1 1 0 false false _ (H.out.below (below_alloc (Below.refl _ _) _)) (kgA _ rfl (by show (writeF _ _ _).1.length ≤ _; rw [wA.1]; decide) (by show (writeF _ _ _).2.length ≤ _; rw [wA.2]; decide)) risA (by decide) (by decide) (fun p hp => by rw [List.mem_singleton] at hp; subst hp; decide) (by decide) (by decide) (by decide) rfl nA (by decide) 0 (fA g1 vn' vo' (writeF ([], []) 0 (List.replicate 64 0)).1 (writeF ([], []) 0 (List.replicate 64 0)).2) getA (fileA _ rfl) 64 _ 1 1 (by decide) (by decide) (by decide) (hasN g1 _ _ _ _ wA.1)).mono ?_; rintro e w4 ⟨rfl, hk, hl⟩; have hbn := (below_alloc HB.out _).trans hl; clear HB; have HB := Aside0.mk hbn; clear hk hl hbn))
  go_ret
  exact ⟨rfl, HB.out⟩
end Go.Proofs.YtpnbjpkdbiiogaaGreat
/- The walk of the law VdiskPlays: it answers true. -/
namespace Go.Proofs.YtpnbjpkdbiiogaaGreat
set_option linter.unusedVariables false
open Go.RowKit Go.Maps Go.Proofs.YtpnbjpkdbiiogaaGreatW.PrintWords
attribute [local go_sem] mx2 mn2 mxTwo mnTwo

def lightV (a : VAct) : Prop := a.a.size ≤ 200 ∧ a.b.size ≤ 200 ∧ a.data.length ≤ 300 ∧ a.keep.length ≤ 300 ∧ (a.at_ ≤ 1500 ∨ 1048576 < a.at_)
set_option maxHeartbeats 4000000 in
set_option maxRecDepth 100000 in
theorem vplays_walk (room : Int) (A : Option Addr) (c : Nat) (xs : List VAct) (w : World) (hr1 : -9223372036854775808 ≤ room) (hr2 : room ≤ 9223372036854775807) (hp : Kd.C kVact w A xs.length xs) (hc : xs.length ≤ c) (hg : ∀ x ∈ xs, goodVact x) :
    Calls Tryz.prog 4 #[.int .i64 room, .slice A xs.length c] w fun e w' => e = .returned (.bool true) ∧ Below w.heap.size w w' := by
  have hm := Kd.C_max hp
  have HP := Aside0.mk hp
  have HG := Aside0.mk hg
  have HB := Aside0.mk (Below.refl w.heap.size w)
  have HRM := Aside0.mk (show 0 ≤ (if room < 0 then 0 else room) by split <;> omega)
  clear hp hg
  go_enter Tryz.func4, Tryz.ntmps4
  go_wp2_with (first
    | (go_at_call 6; refine (awake08_any _).mono ?_; rintro e W9 ⟨rfl, hb⟩; have hbn := below_step HB.out hb; clear HB; have HB := Aside0.mk hbn; clear hb hbn)
    | (go_at_call 7; refine (knew_any w.heap.size (fun k => ¬ rS [] k) room _ HB.out.size (fun k _ => rS_nil k)).mono ?_; rintro e W0 ⟨g0, gd0, mn0, ms0, mf0, rfl, hd, hb⟩; have hbn := below_step HB.out hb; clear HB; have HB := Aside0.mk hbn; have HD := Aside0.mk hd; clear hd hb hbn)
    | (go_at_call 8; refine (rknew_any w.heap.size room _ HB.out.size).mono ?_; rintro e W1 ⟨r0, rd0, rfl, hr, hb⟩; have hbn := below_step HB.out hb; have hx := kx0 HD.out hb hr; clear HB HD; have HB := Aside0.mk hbn; have HX := Aside0.mk hx; clear hr hb hbn hx))
  clear hr1 hr2
  obtain ⟨rm, hrm⟩ : ∃ rm, rm = (if room < 0 then 0 else room) := ⟨_, rfl⟩
  rw [← hrm] at HRM HX
  clear hrm
  go_loopg [5, 6, 7] 25 (fun q v5 v6 v7 wr => ∃ (i g r N M : Nat) (s : VSt), v7 = .int .i64 (i : Int) ∧ v5 = .pointer (some ⟨g, 0, none⟩) ∧ v6 = .pointer (some ⟨r, 0, none⟩) ∧ i ≤ xs.length ∧ i ≤ 25 ∧ Aside0 (q = 25 - i) ∧ Aside0 (BdV s N M i) ∧ Aside0 (KX wr w.heap.size g r N M s) ∧ Aside0 (Below w.heap.size w wr))
  case atStart => exact ⟨0, _, _, _, _, s0V rm, rfl, rfl, rfl, Nat.zero_le _, Nat.zero_le _, ⟨rfl⟩, ⟨bdv0 rm HRM.out⟩, HX, HB⟩
  case round =>
    clear HX HB
    obtain ⟨i, g, r, N, M, s, rfl, rfl, rfl, hi, hi2, hq, HBD, HX, HB⟩ := hrel
    by_cases hgo : i < xs.length ∧ i < 25
    · obtain ⟨hlt, h25⟩ := hgo
      obtain ⟨ad, A4, c4, A5, c5, e1, r0, r1, r2, r3, r4, r5, hnc, hC4, hkc, hC5⟩ := at_Vact HP.out i hlt
      subst e1
      obtain ⟨a, ha⟩ : ∃ a, a = xs.getD i zVact := ⟨_, rfl⟩
      have hga : goodVact a := by rw [ha, List.getD_eq_getElem?_getD, List.getElem?_eq_getElem hlt]; exact HG.out _ (List.getElem_mem _)
      rw [← ha] at r0 r1 r2 r3 r4 r5 hnc hC4 hkc hC5
      have hst : ∀ W', Below w.heap.size w W' → Kd.C (Kd.int .u8) W' A4 a.data.length a.data := fun W' hb => Kd.C_below hC4 hb
      have HST := Aside0.mk hst
      have HC5 := Aside0.mk hC5
      replace r0 := pw_cell_below HB.out r0
      replace r1 := pw_cell_below HB.out r1
      replace r2 := pw_cell_below HB.out r2
      replace r3 := pw_cell_below HB.out r3
      replace r4 := pw_cell_below HB.out r4
      replace r5 := pw_cell_below HB.out r5
      clear ha hC4 hC5 hst
      by_cases hl : lightV a
      · obtain ⟨hl1, hl2, hl3, hl4, hl5⟩ := hl
        have HL5 := Aside0.mk (show a.at_ ≤ 1500 ∨ ¬ a.at_ ≤ 1500 ∧ 1048576 < a.at_ by omega)
        have HZA := Aside0.mk (show a.a.size ≤ maxLen ∧ a.b.size ≤ maxLen by unfold maxLen; omega)
        have HAT := Aside0.mk (bounds_i64 hga.2.2.2.1).2
        clear hl5 hga
        go_wp2_with (first
          | (go_at_call 9; refine (vlight_yes a.kd a.at_ a.a a.b A4 A5 a.data.length c4 a.keep.length c5 _ hl1 hl2 hl3 hl4 HL5.out).mono ?_; rintro e w1 ⟨rfl, hb⟩; replace r0 := pw_cell_below hb r0; replace r1 := pw_cell_below hb r1; replace r2 := pw_cell_below hb r2; replace r3 := pw_cell_below hb r3; replace r4 := pw_cell_below hb r4; replace r5 := pw_cell_below hb r5; have hx := HX.out.below hb; have hbn := below_step HB.out hb; clear HX HB; have HX := Aside0.mk hx; have HB := Aside0.mk hbn; clear hx hbn hb)
          | (go_at_call 10; refine (vdoes_any a w.heap.size g r N M s i A4 c4 A5 c5 _ HX.out HBD.out (by omega) HZA.out.1 HZA.out.2 HAT.out (by omega) hnc (fun W' hb => HST.out W' (HB.out.trans hb)) (by omega) hkc (Kd.C_below HC5.out HB.out)).mono ?_; rintro e w2 ⟨g', r', N', M', rfl, hx, hbd, hbl⟩; have hbn := HB.out.trans hbl; have HBD2 := Aside0.mk hbd; clear HX HB; have HX := Aside0.mk hx; have HB := Aside0.mk hbn; clear hx hbn hbl hbd)
          | (go_at_call 20; refine (vshows_any w.heap.size g' r' N' M' (stepV s a) (i + 1) _ HX.out HBD2.out (by omega)).mono ?_; rintro e w3 ⟨rfl, hb⟩; have hx := HX.out.below hb; have hbn := below_step HB.out hb; clear HX HB; have HX := Aside0.mk hx; have HB := Aside0.mk hbn; clear hx hbn hb))
        go_roundg (25 - (i + 1))
        case measure => have := hq.out; omega
        case rel => exact ⟨i + 1, _, _, _, _, _, by go_num, rfl, rfl, by omega, by omega, ⟨rfl⟩, HBD2, HX, HB⟩
      · have HNL := Aside0.mk hl
        clear hl hga
        go_wp2_with (first
          | (go_at_call 9; refine (vlight_no a.kd a.at_ a.a a.b A4 A5 a.data.length c4 a.keep.length c5 _ HNL.out).mono ?_; rintro e w1 ⟨rfl, hb⟩; have hbn := below_step HB.out hb; clear HB; have HB := Aside0.mk hbn; clear hbn hb)
          | (go_at_call 6; refine (awake08_any _).mono ?_; rintro e W9 ⟨rfl, hb⟩; have hbn := below_step HB.out hb; clear HB; have HB := Aside0.mk hbn; clear hb hbn))
        go_ret
        exact ⟨rfl, HB.out⟩
    · have fin : i = 25 ∧ i < xs.length ∨ i = xs.length := by omega
      clear hgo
      rcases fin with ⟨rfl, hlt⟩ | rfl
      all_goals
        go_wp2_with (first
          | (go_at_call 6; refine (awake08_any _).mono ?_; rintro e W9 ⟨rfl, hb⟩; have hbn := below_step HB.out hb; clear HB; have HB := Aside0.mk hbn; clear hb hbn))
        go_ret
        exact ⟨rfl, HB.out⟩
end Go.Proofs.YtpnbjpkdbiiogaaGreat
/- The walk of the law VdiskRoom: it answers true. -/
namespace Go.Proofs.YtpnbjpkdbiiogaaGreat
set_option linter.unusedVariables false
open Go.RowKit Go.Maps Go.Proofs.YtpnbjpkdbiiogaaGreatW.PrintWords
attribute [local go_sem] mx2 mn2 mxTwo mnTwo

section
variable {w : World} {b g r N M k : Nat} {s : VSt}
theorem vused_is (h : KX w b g r N M s) (hb : BdV s N M k) (hk : k ≤ 49) (u : Int) (hu : usedV s.fs s.now = u) : Calls Tryz.prog 22 #[.pointer (some ⟨g, 0, none⟩)] w fun e w' => e = .returned (.int .i64 u) ∧ Below w.heap.size w w' := by
  obtain ⟨gd, mn, ms, vo, mf, fl, rd, dn, ds, dv, vF, rl, h⟩ := h
  have hbn := hb.now
  have hbN := hb.n
  have := used_any b (fun k => ¬ rS rl k) g gd mn ms vo N s.now s.safe (s.ops.map nrm) mf M fl (s.fs.length : Int) s.room s.fuse s.armed s.dead w h.d (h.kg hb hk) hb.rn (by omega) (by omega) (fun p hp => (hb.dn p hp).1)
  rw [used_eq h.mf h.mr s.now (fun p hp => (hb.dn p hp).2), usedV_eq h, hu] at this
  exact this
theorem rloose_eq {rl : List RR} (hr : rl.map RR.rv = s.fs.map (·.1)) : looseR s.ops rl = looseV s := by unfold looseR looseV; rw [← sumV_map, hr]
theorem vloose_is (h : KX w b g r N M s) (hb : BdV s N M k) (hk : k ≤ 49) (u : Int) (hu : looseV s = u) : Calls Tryz.prog 23 #[.pointer (some ⟨g, 0, none⟩)] w fun e w' => e = .returned (.int .i64 u) ∧ Below w.heap.size w w' := by
  obtain ⟨gd, mn, ms, vo, mf, fl, rd, dn, ds, dv, vF, rl, h⟩ := h
  have hbo := hb.ops
  have hbf := hb.fs
  have hfl := fl_len h.mf
  have hkg := h.kg hb hk
  have := loose_any b (fun k => ¬ rS rl k) g gd mn ms vo N s.now s.safe (s.ops.map nrm) mf M fl (s.fs.length : Int) s.room s.fuse s.armed s.dead w h.d (fun p hp => (hkg.len p hp).2) (by rw [List.length_map]; omega) (by omega)
  rw [loose_eq h.mf h.mr hb.fz s.ops _ (List.length_map ..), rloose_eq h.mr, hu] at this
  exact this
theorem rloose_is (h : KX w b g r N M s) (hb : BdV s N M k) (hk : k ≤ 49) (u : Int) (hu : looseV s = u) : Calls Tryz.prog 21 #[.pointer (some ⟨r, 0, none⟩)] w fun e w' => e = .returned (.int .i64 u) ∧ w = w' := by
  obtain ⟨gd, mn, ms, vo, mf, fl, rd, dn, ds, dv, vF, rl, h⟩ := h
  have hbo := hb.ops
  have hbf := hb.fs
  have hrl := rl_len h.mr
  have hrg := h.rg hb hk
  have := rkloose_any b r rd dn ds dv s.now s.safe s.ops vF rl s.room s.fuse s.armed s.dead w h.r (fun p hp => (hrg.len p hp).2) (by omega) (by omega)
  rw [rloose_eq h.mr, hu] at this
  exact this
end
set_option maxHeartbeats 8000000 in
set_option maxRecDepth 100000 in
theorem vroom_walk (u : Int) (A : Option Addr) (c : Nat) (xs : List VAct) (w : World) (hu1 : 0 ≤ u) (hu2 : u ≤ 255) (hp : Kd.C kVact w A xs.length xs) (hc : xs.length ≤ c) (hg : ∀ x ∈ xs, goodVact x) :
    Calls Tryz.prog 5 #[.int .u8 u, .slice A xs.length c] w fun e w' => e = .returned (.bool true) ∧ Below w.heap.size w w' := by
  have hm := Kd.C_max hp
  have HP := Aside0.mk hp
  have HG := Aside0.mk hg
  have HB := Aside0.mk (Below.refl w.heap.size w)
  have HU0 := Aside0.mk (show (if u < 0 then 0 else u) = u from if_neg (by omega))
  clear hp hg
  go_enter Tryz.func5, Tryz.ntmps5
  go_wp2_with (first
    | (go_at_call 6; refine (awake08_any _).mono ?_; rintro e W9 ⟨rfl, hb⟩; have hbn := below_step HB.out hb; clear HB; have HB := Aside0.mk hbn; clear hb hbn)
    | (go_at_call 7; refine (knew_any w.heap.size (fun k => ¬ rS [] k) u _ HB.out.size (fun k _ => rS_nil k)).mono ?_; rw [HU0.out]; rintro e W0 ⟨g0, gd0, mn0, ms0, mf0, rfl, hd, hb⟩; have hbn := below_step HB.out hb; clear HB; have HB := Aside0.mk hbn; have HD := Aside0.mk hd; clear hd hb hbn)
    | (go_at_call 8; refine (rknew_any w.heap.size u _ HB.out.size).mono ?_; rw [HU0.out]; rintro e W1 ⟨r0, rd0, rfl, hr, hb⟩; have hbn := below_step HB.out hb; have hx := kx0 HD.out hb hr; clear HB HD; have HB := Aside0.mk hbn; have HX := Aside0.mk hx; clear hr hb hbn hx))
  go_loopg [5, 6, 7] 25 (fun q v5 v6 v7 wr => ∃ (i g r N M : Nat) (s : VSt), v7 = .int .i64 (i : Int) ∧ v5 = .pointer (some ⟨g, 0, none⟩) ∧ v6 = .pointer (some ⟨r, 0, none⟩) ∧ i ≤ xs.length ∧ i ≤ 25 ∧ Aside0 (q = 25 - i) ∧ Aside0 (BdV s N M i) ∧ Aside0 (RoomV s) ∧ Aside0 (s.room = u) ∧ Aside0 (KX wr w.heap.size g r N M s) ∧ Aside0 (Below w.heap.size w wr))
  case atStart => exact ⟨0, _, _, _, _, s0V u, rfl, rfl, rfl, Nat.zero_le _, Nat.zero_le _, ⟨rfl⟩, ⟨bdv0 u hu1⟩, ⟨⟨List.Pairwise.nil, hu1, rfl, rfl⟩⟩, ⟨rfl⟩, HX, HB⟩
  case round =>
    clear HX HB
    obtain ⟨i, g, r, N, M, s, rfl, rfl, rfl, hi, hi2, hq, HBD, HRV, HRM, HX, HB⟩ := hrel
    by_cases hgo : i < xs.length ∧ i < 25
    · obtain ⟨hlt, h25⟩ := hgo
      obtain ⟨ad, A4, c4, A5, c5, e1, r0, r1, r2, r3, r4, r5, hnc, hC4, hkc, hC5⟩ := at_Vact HP.out i hlt
      subst e1
      obtain ⟨a, ha⟩ : ∃ a, a = xs.getD i zVact := ⟨_, rfl⟩
      have hga : goodVact a := by rw [ha, List.getD_eq_getElem?_getD, List.getElem?_eq_getElem hlt]; exact HG.out _ (List.getElem_mem _)
      rw [← ha] at r0 r1 r2 r3 r4 r5 hnc hC4 hkc hC5
      have hst : ∀ W', Below w.heap.size w W' → Kd.C (Kd.int .u8) W' A4 a.data.length a.data := fun W' hb => Kd.C_below hC4 hb
      have HST := Aside0.mk hst
      have HC5 := Aside0.mk hC5
      have R0 := Aside0.mk r0
      replace r0 := pw_cell_below HB.out r0
      replace r1 := pw_cell_below HB.out r1
      replace r2 := pw_cell_below HB.out r2
      replace r3 := pw_cell_below HB.out r3
      replace r4 := pw_cell_below HB.out r4
      replace r5 := pw_cell_below HB.out r5
      clear ha hC4 hC5 hst
      by_cases hl : lightV a
      · obtain ⟨hl1, hl2, hl3, hl4, hl5⟩ := hl
        have HL5 := Aside0.mk (show a.at_ ≤ 1500 ∨ ¬ a.at_ ≤ 1500 ∧ 1048576 < a.at_ by omega)
        have HZA := Aside0.mk (show a.a.size ≤ maxLen ∧ a.b.size ≤ maxLen by unfold maxLen; omega)
        have HAT := Aside0.mk (bounds_i64 hga.2.2.2.1).2
        clear hl5 hga
        by_cases hkd : 0 ≤ a.kd ∧ (a.kd ≤ 4 ∨ a.kd = 6)
        · obtain ⟨hst1, hst2, hst3⟩ := room_step HRV.out HBD.out a hkd.1 hkd.2
          have HRV2 := Aside0.mk hst1
          have HRM2 := Aside0.mk (hst3.trans HRM.out)
          obtain ⟨lo, hlo⟩ : ∃ x, looseV s = x := ⟨_, rfl⟩
          obtain ⟨lo2, hlo2⟩ : ∃ x, looseV (stepV s a) = x := ⟨_, rfl⟩
          obtain ⟨us, hus⟩ : ∃ x, usedV (stepV s a).fs (stepV s a).now = x := ⟨_, rfl⟩
          have hle := hst1.le
          rw [hus, HRM2.out] at hle
          rw [hlo, hlo2] at hst2
          have HLO := Aside0.mk hlo
          have HLO2 := Aside0.mk hlo2
          have HUS := Aside0.mk hus
          have du : decide (u < us) = false := decide_eq_false (by omega)
          have d1 : decide (a.kd < 0) = false := decide_eq_false (by omega)
          clear hst1 hst3 hlo hlo2 hus hle
          by_cases q3 : a.kd = 3
          · have e3 : (a.kd != 3) = false := bne_eq_false_iff_eq.2 q3
            have d2 : decide (4 < a.kd) = false := decide_eq_false (by omega)
            clear hst2 hkd q3
            by_cases hlt2 : lo2 < lo
            · have dl := decide_eq_true hlt2
              clear hlt2
              go_wp2_with (first
                | (go_at_call 9; refine (vlight_yes a.kd a.at_ a.a a.b A4 A5 a.data.length c4 a.keep.length c5 _ hl1 hl2 hl3 hl4 HL5.out).mono ?_; rintro e w1 ⟨rfl, hb⟩; replace r0 := pw_cell_below hb r0; replace r1 := pw_cell_below hb r1; replace r2 := pw_cell_below hb r2; replace r3 := pw_cell_below hb r3; replace r4 := pw_cell_below hb r4; replace r5 := pw_cell_below hb r5; have hx := HX.out.below hb; have hbn := below_step HB.out hb; clear HX HB; have HX := Aside0.mk hx; have HB := Aside0.mk hbn; clear hx hbn hb)
                | (go_at_call 21; refine (rloose_is HX.out HBD.out (by omega) lo HLO.out).mono ?_; rintro e w1 ⟨rfl, hw1⟩; subst hw1)
                | (go_at_call 10; refine (vdoes_any a w.heap.size g r N M s i A4 c4 A5 c5 _ HX.out HBD.out (by omega) HZA.out.1 HZA.out.2 HAT.out (by omega) hnc (fun W' hb => HST.out W' (HB.out.trans hb)) (by omega) hkc (Kd.C_below HC5.out HB.out)).mono ?_; rintro e w2 ⟨g', r', N', M', rfl, hx, hbd, hbl⟩; have hbn := HB.out.trans hbl; replace r0 := pw_cell_below hbn R0.out; clear r1 r2 r3 r4 r5; have HBD2 := Aside0.mk hbd; clear HX HB; have HX := Aside0.mk hx; have HB := Aside0.mk hbn; clear hx hbn hbl hbd)
                | (go_at_call 22; refine (vused_is HX.out HBD2.out (by omega) us HUS.out).mono ?_; rintro e w3 ⟨rfl, hb⟩; replace r0 := pw_cell_below hb r0; have hx := HX.out.below hb; have hbn := below_step HB.out hb; clear HX HB; have HX := Aside0.mk hx; have HB := Aside0.mk hbn; clear hx hbn hb)
                | (go_at_call 23; refine (vloose_is HX.out HBD2.out (by omega) lo2 HLO2.out).mono ?_; rintro e w4 ⟨rfl, hb⟩; replace r0 := pw_cell_below hb r0; have hx := HX.out.below hb; have hbn := below_step HB.out hb; clear HX HB; have HX := Aside0.mk hx; have HB := Aside0.mk hbn; clear hx hbn hb))
              all_goals
                go_roundg (25 - (i + 1))
                case measure => have := hq.out; omega
                case rel => exact ⟨i + 1, _, _, _, _, _, by go_num, rfl, rfl, by omega, by omega, ⟨rfl⟩, HBD2, HRV2, HRM2, HX, HB⟩
            · have dl := decide_eq_false hlt2
              clear hlt2
              go_wp2_with (first
                | (go_at_call 9; refine (vlight_yes a.kd a.at_ a.a a.b A4 A5 a.data.length c4 a.keep.length c5 _ hl1 hl2 hl3 hl4 HL5.out).mono ?_; rintro e w1 ⟨rfl, hb⟩; replace r0 := pw_cell_below hb r0; replace r1 := pw_cell_below hb r1; replace r2 := pw_cell_below hb r2; replace r3 := pw_cell_below hb r3; replace r4 := pw_cell_below hb r4; replace r5 := pw_cell_below hb r5; have hx := HX.out.below hb; have hbn := below_step HB.out hb; clear HX HB; have HX := Aside0.mk hx; have HB := Aside0.mk hbn; clear hx hbn hb)
                | (go_at_call 21; refine (rloose_is HX.out HBD.out (by omega) lo HLO.out).mono ?_; rintro e w1 ⟨rfl, hw1⟩; subst hw1)
                | (go_at_call 10; refine (vdoes_any a w.heap.size g r N M s i A4 c4 A5 c5 _ HX.out HBD.out (by omega) HZA.out.1 HZA.out.2 HAT.out (by omega) hnc (fun W' hb => HST.out W' (HB.out.trans hb)) (by omega) hkc (Kd.C_below HC5.out HB.out)).mono ?_; rintro e w2 ⟨g', r', N', M', rfl, hx, hbd, hbl⟩; have hbn := HB.out.trans hbl; replace r0 := pw_cell_below hbn R0.out; clear r1 r2 r3 r4 r5; have HBD2 := Aside0.mk hbd; clear HX HB; have HX := Aside0.mk hx; have HB := Aside0.mk hbn; clear hx hbn hbl hbd)
                | (go_at_call 22; refine (vused_is HX.out HBD2.out (by omega) us HUS.out).mono ?_; rintro e w3 ⟨rfl, hb⟩; replace r0 := pw_cell_below hb r0; have hx := HX.out.below hb; have hbn := below_step HB.out hb; clear HX HB; have HX := Aside0.mk hx; have HB := Aside0.mk hbn; clear hx hbn hb)
                | (go_at_call 23; refine (vloose_is HX.out HBD2.out (by omega) lo2 HLO2.out).mono ?_; rintro e w4 ⟨rfl, hb⟩; replace r0 := pw_cell_below hb r0; have hx := HX.out.below hb; have hbn := below_step HB.out hb; clear HX HB; have HX := Aside0.mk hx; have HB := Aside0.mk hbn; clear hx hbn hb))
              all_goals
                go_roundg (25 - (i + 1))
                case measure => have := hq.out; omega
                case rel => exact ⟨i + 1, _, _, _, _, _, by go_num, rfl, rfl, by omega, by omega, ⟨rfl⟩, HBD2, HRV2, HRM2, HX, HB⟩
          by_cases q4 : a.kd = 4
          · have e3 : (a.kd != 3) = true := bne_iff_ne.2 q3
            have e4 : (a.kd != 4) = false := bne_eq_false_iff_eq.2 q4
            have d2 : decide (4 < a.kd) = false := decide_eq_false (by omega)
            clear hst2 hkd q3 q4
            by_cases hlt2 : lo2 < lo
            · have dl := decide_eq_true hlt2
              clear hlt2
              go_wp2_with (first
                | (go_at_call 9; refine (vlight_yes a.kd a.at_ a.a a.b A4 A5 a.data.length c4 a.keep.length c5 _ hl1 hl2 hl3 hl4 HL5.out).mono ?_; rintro e w1 ⟨rfl, hb⟩; replace r0 := pw_cell_below hb r0; replace r1 := pw_cell_below hb r1; replace r2 := pw_cell_below hb r2; replace r3 := pw_cell_below hb r3; replace r4 := pw_cell_below hb r4; replace r5 := pw_cell_below hb r5; have hx := HX.out.below hb; have hbn := below_step HB.out hb; clear HX HB; have HX := Aside0.mk hx; have HB := Aside0.mk hbn; clear hx hbn hb)
                | (go_at_call 21; refine (rloose_is HX.out HBD.out (by omega) lo HLO.out).mono ?_; rintro e w1 ⟨rfl, hw1⟩; subst hw1)
                | (go_at_call 10; refine (vdoes_any a w.heap.size g r N M s i A4 c4 A5 c5 _ HX.out HBD.out (by omega) HZA.out.1 HZA.out.2 HAT.out (by omega) hnc (fun W' hb => HST.out W' (HB.out.trans hb)) (by omega) hkc (Kd.C_below HC5.out HB.out)).mono ?_; rintro e w2 ⟨g', r', N', M', rfl, hx, hbd, hbl⟩; have hbn := HB.out.trans hbl; replace r0 := pw_cell_below hbn R0.out; clear r1 r2 r3 r4 r5; have HBD2 := Aside0.mk hbd; clear HX HB; have HX := Aside0.mk hx; have HB := Aside0.mk hbn; clear hx hbn hbl hbd)
                | (go_at_call 22; refine (vused_is HX.out HBD2.out (by omega) us HUS.out).mono ?_; rintro e w3 ⟨rfl, hb⟩; replace r0 := pw_cell_below hb r0; have hx := HX.out.below hb; have hbn := below_step HB.out hb; clear HX HB; have HX := Aside0.mk hx; have HB := Aside0.mk hbn; clear hx hbn hb)
                | (go_at_call 23; refine (vloose_is HX.out HBD2.out (by omega) lo2 HLO2.out).mono ?_; rintro e w4 ⟨rfl, hb⟩; replace r0 := pw_cell_below hb r0; have hx := HX.out.below hb; have hbn := below_step HB.out hb; clear HX HB; have HX := Aside0.mk hx; have HB := Aside0.mk hbn; clear hx hbn hb))
              all_goals
                go_roundg (25 - (i + 1))
                case measure => have := hq.out; omega
                case rel => exact ⟨i + 1, _, _, _, _, _, by go_num, rfl, rfl, by omega, by omega, ⟨rfl⟩, HBD2, HRV2, HRM2, HX, HB⟩
            · have dl := decide_eq_false hlt2
              clear hlt2
              go_wp2_with (first
                | (go_at_call 9; refine (vlight_yes a.kd a.at_ a.a a.b A4 A5 a.data.length c4 a.keep.length c5 _ hl1 hl2 hl3 hl4 HL5.out).mono ?_; rintro e w1 ⟨rfl, hb⟩; replace r0 := pw_cell_below hb r0; replace r1 := pw_cell_below hb r1; replace r2 := pw_cell_below hb r2; replace r3 := pw_cell_below hb r3; replace r4 := pw_cell_below hb r4; replace r5 := pw_cell_below hb r5; have hx := HX.out.below hb; have hbn := below_step HB.out hb; clear HX HB; have HX := Aside0.mk hx; have HB := Aside0.mk hbn; clear hx hbn hb)
                | (go_at_call 21; refine (rloose_is HX.out HBD.out (by omega) lo HLO.out).mono ?_; rintro e w1 ⟨rfl, hw1⟩; subst hw1)
                | (go_at_call 10; refine (vdoes_any a w.heap.size g r N M s i A4 c4 A5 c5 _ HX.out HBD.out (by omega) HZA.out.1 HZA.out.2 HAT.out (by omega) hnc (fun W' hb => HST.out W' (HB.out.trans hb)) (by omega) hkc (Kd.C_below HC5.out HB.out)).mono ?_; rintro e w2 ⟨g', r', N', M', rfl, hx, hbd, hbl⟩; have hbn := HB.out.trans hbl; replace r0 := pw_cell_below hbn R0.out; clear r1 r2 r3 r4 r5; have HBD2 := Aside0.mk hbd; clear HX HB; have HX := Aside0.mk hx; have HB := Aside0.mk hbn; clear hx hbn hbl hbd)
                | (go_at_call 22; refine (vused_is HX.out HBD2.out (by omega) us HUS.out).mono ?_; rintro e w3 ⟨rfl, hb⟩; replace r0 := pw_cell_below hb r0; have hx := HX.out.below hb; have hbn := below_step HB.out hb; clear HX HB; have HX := Aside0.mk hx; have HB := Aside0.mk hbn; clear hx hbn hb)
                | (go_at_call 23; refine (vloose_is HX.out HBD2.out (by omega) lo2 HLO2.out).mono ?_; rintro e w4 ⟨rfl, hb⟩; replace r0 := pw_cell_below hb r0; have hx := HX.out.below hb; have hbn := below_step HB.out hb; clear HX HB; have HX := Aside0.mk hx; have HB := Aside0.mk hbn; clear hx hbn hb))
              all_goals
                go_roundg (25 - (i + 1))
                case measure => have := hq.out; omega
                case rel => exact ⟨i + 1, _, _, _, _, _, by go_num, rfl, rfl, by omega, by omega, ⟨rfl⟩, HBD2, HRV2, HRM2, HX, HB⟩
          have dl : decide (lo2 < lo) = false := decide_eq_false (by have := hst2 q3 q4; omega)
          clear hst2 q3 q4
          by_cases q6 : a.kd = 6
          · have e6 : (a.kd != 6) = false := bne_eq_false_iff_eq.2 q6
            have d2 : decide (4 < a.kd) = true := decide_eq_true (by omega)
            clear hkd q6
            go_wp2_with (first
              | (go_at_call 9; refine (vlight_yes a.kd a.at_ a.a a.b A4 A5 a.data.length c4 a.keep.length c5 _ hl1 hl2 hl3 hl4 HL5.out).mono ?_; rintro e w1 ⟨rfl, hb⟩; replace r0 := pw_cell_below hb r0; replace r1 := pw_cell_below hb r1; replace r2 := pw_cell_below hb r2; replace r3 := pw_cell_below hb r3; replace r4 := pw_cell_below hb r4; replace r5 := pw_cell_below hb r5; have hx := HX.out.below hb; have hbn := below_step HB.out hb; clear HX HB; have HX := Aside0.mk hx; have HB := Aside0.mk hbn; clear hx hbn hb)
              | (go_at_call 21; refine (rloose_is HX.out HBD.out (by omega) lo HLO.out).mono ?_; rintro e w1 ⟨rfl, hw1⟩; subst hw1)
              | (go_at_call 10; refine (vdoes_any a w.heap.size g r N M s i A4 c4 A5 c5 _ HX.out HBD.out (by omega) HZA.out.1 HZA.out.2 HAT.out (by omega) hnc (fun W' hb => HST.out W' (HB.out.trans hb)) (by omega) hkc (Kd.C_below HC5.out HB.out)).mono ?_; rintro e w2 ⟨g', r', N', M', rfl, hx, hbd, hbl⟩; have hbn := HB.out.trans hbl; replace r0 := pw_cell_below hbn R0.out; clear r1 r2 r3 r4 r5; have HBD2 := Aside0.mk hbd; clear HX HB; have HX := Aside0.mk hx; have HB := Aside0.mk hbn; clear hx hbn hbl hbd)
              | (go_at_call 22; refine (vused_is HX.out HBD2.out (by omega) us HUS.out).mono ?_; rintro e w3 ⟨rfl, hb⟩; replace r0 := pw_cell_below hb r0; have hx := HX.out.below hb; have hbn := below_step HB.out hb; clear HX HB; have HX := Aside0.mk hx; have HB := Aside0.mk hbn; clear hx hbn hb)
              | (go_at_call 23; refine (vloose_is HX.out HBD2.out (by omega) lo2 HLO2.out).mono ?_; rintro e w4 ⟨rfl, hb⟩; replace r0 := pw_cell_below hb r0; have hx := HX.out.below hb; have hbn := below_step HB.out hb; clear HX HB; have HX := Aside0.mk hx; have HB := Aside0.mk hbn; clear hx hbn hb))
            all_goals
              go_roundg (25 - (i + 1))
              case measure => have := hq.out; omega
              case rel => exact ⟨i + 1, _, _, _, _, _, by go_num, rfl, rfl, by omega, by omega, ⟨rfl⟩, HBD2, HRV2, HRM2, HX, HB⟩
          · have d2 : decide (4 < a.kd) = false := decide_eq_false (by omega)
            clear hkd q6
            go_wp2_with (first
              | (go_at_call 9; refine (vlight_yes a.kd a.at_ a.a a.b A4 A5 a.data.length c4 a.keep.length c5 _ hl1 hl2 hl3 hl4 HL5.out).mono ?_; rintro e w1 ⟨rfl, hb⟩; replace r0 := pw_cell_below hb r0; replace r1 := pw_cell_below hb r1; replace r2 := pw_cell_below hb r2; replace r3 := pw_cell_below hb r3; replace r4 := pw_cell_below hb r4; replace r5 := pw_cell_below hb r5; have hx := HX.out.below hb; have hbn := below_step HB.out hb; clear HX HB; have HX := Aside0.mk hx; have HB := Aside0.mk hbn; clear hx hbn hb)
              | (go_at_call 21; refine (rloose_is HX.out HBD.out (by omega) lo HLO.out).mono ?_; rintro e w1 ⟨rfl, hw1⟩; subst hw1)
              | (go_at_call 10; refine (vdoes_any a w.heap.size g r N M s i A4 c4 A5 c5 _ HX.out HBD.out (by omega) HZA.out.1 HZA.out.2 HAT.out (by omega) hnc (fun W' hb => HST.out W' (HB.out.trans hb)) (by omega) hkc (Kd.C_below HC5.out HB.out)).mono ?_; rintro e w2 ⟨g', r', N', M', rfl, hx, hbd, hbl⟩; have hbn := HB.out.trans hbl; replace r0 := pw_cell_below hbn R0.out; clear r1 r2 r3 r4 r5; have HBD2 := Aside0.mk hbd; clear HX HB; have HX := Aside0.mk hx; have HB := Aside0.mk hbn; clear hx hbn hbl hbd)
              | (go_at_call 22; refine (vused_is HX.out HBD2.out (by omega) us HUS.out).mono ?_; rintro e w3 ⟨rfl, hb⟩; replace r0 := pw_cell_below hb r0; have hx := HX.out.below hb; have hbn := below_step HB.out hb; clear HX HB; have HX := Aside0.mk hx; have HB := Aside0.mk hbn; clear hx hbn hb)
              | (go_at_call 23; refine (vloose_is HX.out HBD2.out (by omega) lo2 HLO2.out).mono ?_; rintro e w4 ⟨rfl, hb⟩; replace r0 := pw_cell_below hb r0; have hx := HX.out.below hb; have hbn := below_step HB.out hb; clear HX HB; have HX := Aside0.mk hx; have HB := Aside0.mk hbn; clear hx hbn hb))
            all_goals
              go_roundg (25 - (i + 1))
              case measure => have := hq.out; omega
              case rel => exact ⟨i + 1, _, _, _, _, _, by go_num, rfl, rfl, by omega, by omega, ⟨rfl⟩, HBD2, HRV2, HRM2, HX, HB⟩
        · by_cases q0 : a.kd < 0
          · have d1 := decide_eq_true q0
            clear hkd q0
            go_wp2_with (first
              | (go_at_call 9; refine (vlight_yes a.kd a.at_ a.a a.b A4 A5 a.data.length c4 a.keep.length c5 _ hl1 hl2 hl3 hl4 HL5.out).mono ?_; rintro e w1 ⟨rfl, hb⟩; replace r0 := pw_cell_below hb r0; replace r1 := pw_cell_below hb r1; replace r2 := pw_cell_below hb r2; replace r3 := pw_cell_below hb r3; replace r4 := pw_cell_below hb r4; replace r5 := pw_cell_below hb r5; have hx := HX.out.below hb; have hbn := below_step HB.out hb; clear HX HB; have HX := Aside0.mk hx; have HB := Aside0.mk hbn; clear hx hbn hb)
              | (go_at_call 6; refine (awake08_any _).mono ?_; rintro e W9 ⟨rfl, hb⟩; have hbn := below_step HB.out hb; clear HB; have HB := Aside0.mk hbn; clear hb hbn))
            go_ret
            exact ⟨rfl, HB.out⟩
          · have d1 := decide_eq_false q0
            have d2 : decide (4 < a.kd) = true := decide_eq_true (by omega)
            have e6 : (a.kd != 6) = true := bne_iff_ne.2 (by omega)
            clear hkd q0
            go_wp2_with (first
              | (go_at_call 9; refine (vlight_yes a.kd a.at_ a.a a.b A4 A5 a.data.length c4 a.keep.length c5 _ hl1 hl2 hl3 hl4 HL5.out).mono ?_; rintro e w1 ⟨rfl, hb⟩; replace r0 := pw_cell_below hb r0; replace r1 := pw_cell_below hb r1; replace r2 := pw_cell_below hb r2; replace r3 := pw_cell_below hb r3; replace r4 := pw_cell_below hb r4; replace r5 := pw_cell_below hb r5; have hx := HX.out.below hb; have hbn := below_step HB.out hb; clear HX HB; have HX := Aside0.mk hx; have HB := Aside0.mk hbn; clear hx hbn hb)
              | (go_at_call 6; refine (awake08_any _).mono ?_; rintro e W9 ⟨rfl, hb⟩; have hbn := below_step HB.out hb; clear HB; have HB := Aside0.mk hbn; clear hb hbn))
            go_ret
            exact ⟨rfl, HB.out⟩
      · have HNL := Aside0.mk hl
        clear hl hga
        go_wp2_with (first
          | (go_at_call 9; refine (vlight_no a.kd a.at_ a.a a.b A4 A5 a.data.length c4 a.keep.length c5 _ HNL.out).mono ?_; rintro e w1 ⟨rfl, hb⟩; have hbn := below_step HB.out hb; clear HB; have HB := Aside0.mk hbn; clear hbn hb)
          | (go_at_call 6; refine (awake08_any _).mono ?_; rintro e W9 ⟨rfl, hb⟩; have hbn := below_step HB.out hb; clear HB; have HB := Aside0.mk hbn; clear hb hbn))
        go_ret
        exact ⟨rfl, HB.out⟩
    · have fin : i = 25 ∧ i < xs.length ∨ i = xs.length := by omega
      clear hgo
      rcases fin with ⟨rfl, hlt⟩ | rfl
      all_goals
        go_wp2_with (first
          | (go_at_call 20; refine (vshows_any w.heap.size g r N M s _ _ HX.out HBD.out (by omega)).mono ?_; rintro e w3 ⟨rfl, hb⟩; have hbn := below_step HB.out hb; clear HX HB; have HB := Aside0.mk hbn; clear hbn hb)
          | (go_at_call 6; refine (awake08_any _).mono ?_; rintro e W9 ⟨rfl, hb⟩; have hbn := below_step HB.out hb; clear HB; have HB := Aside0.mk hbn; clear hb hbn))
        go_ret
        exact ⟨rfl, HB.out⟩
end Go.Proofs.YtpnbjpkdbiiogaaGreat
/- Disks, the plain law: files that were synced, and a crash. -/
namespace Go.Proofs.YtpnbjpkdbiiogaaGreat
set_option linter.unusedVariables false
open Go.RowKit Go.Maps Go.Proofs.YtpnbjpkdbiiogaaGreatW.PrintWords

/-- Neither stopped nor about to stop. -/
def Calm (s : VSt) : Prop := s.armed = false ∧ s.dead = false
theorem Calm.chg {s : VSt} (h : Calm s) : chg s.fuse s.armed s.dead = (0, s.fuse, false) := by rw [h.1, h.2]; rfl
theorem fileV_calm (s : VSt) (a : VAct) (i : Nat) (v : RV) (h : Calm s) : Calm (fileV s a i v) := by
  unfold fileV
  split
  · split
    · split
      · exact h
      · exact h
    · exact h
  · split
    · split
      · split
        · exact h
        · exact h
      · exact h
    · exact h
theorem callV_calm (s : VSt) (a : VAct) (h : Calm s) : Calm (callV s a) := by
  unfold callV
  split
  · split
    · exact h
    · exact h
  · split
    · exact h
    · split
      · exact h
      · split
        · exact h
        · split
          · exact h
          · split
            · exact h
            · exact fileV_calm _ _ _ _ h
theorem step_calm (s : VSt) (a : VAct) (h : Calm s) (h7 : a.kd ≠ 7) : Calm (stepV s a) := by
  unfold stepV
  split
  · rw [if_pos (by rw [h.chg])]
    refine callV_calm _ _ ⟨h.1, ?_⟩
    show (chg s.fuse s.armed s.dead).2.2 = false
    rw [h.chg]
  · exact ⟨rfl, rfl⟩
/-- The first names' files are safe as they are now. -/
def SyF (s : VSt) (fs : List (RV × Bool)) (j : Nat) : Prop :=
  ∀ (i : Nat) (v : RV) (bb : Bool), s.fs[i]? = some (v, bb) → ∃ v', fs[i]? = some (v', bb) ∧ v'.now = v.now ∧ (∀ m, m < j → (s.now.getD m zDN).2 = (i : Int) → v'.safe = v'.now ∧ v'.ops = [])
theorem SyF.zero (s : VSt) : SyF s s.fs 0 := fun i v bb h => ⟨v, h, rfl, fun m hm => absurd hm (Nat.not_lt_zero _)⟩
theorem SyF.step {s : VSt} {fs : List (RV × Bool)} {j : Nat} (h : SyF s fs j) {i : Nat} {v : RV} (hi : (s.now.getD j zDN).2 = (i : Int)) (hv : fs[i]? = some (v, true)) : SyF s (fs.set i (⟨v.now, v.now, []⟩, true)) (j + 1) := by
  intro q u bb hq
  obtain ⟨v', h1, h2, h3⟩ := h q u bb hq
  by_cases e : i = q
  · subst e
    rw [hv] at h1
    cases h1
    exact ⟨⟨v.now, v.now, []⟩, by rw [List.getElem?_set_self (List.getElem?_eq_some_iff.1 hv).1], h2, fun _ _ _ => ⟨rfl, rfl⟩⟩
  · refine ⟨v', by rw [List.getElem?_set_ne e]; exact h1, h2, fun m hm hmi => ?_⟩
    by_cases e2 : m = j
    · subst e2
      omega
    · exact h3 m (by omega) hmi
theorem FB.sync0 {v : RV} {k : Nat} (h : FB v k) : FB ⟨v.now, v.now, []⟩ k := ⟨h.now, h.now, Nat.zero_le _, fun o ho => by simp at ho⟩
section
variable {s : VSt} {N M k : Nat}
theorem BdV.sync0 (h : BdV s N M k) (i : Nat) (v : RV) (hv : FB v k) : BdV (putV s i v) N M k := by
  refine ⟨h.now, h.safe, h.ops, h.n, h.m, ?_, fun o ho => ⟨(h.op o ho).1, fun e => ((h.op o ho).2 e).set i v⟩, h.rn, h.rs, fun p hp => ⟨(h.dn p hp).1, (h.dn p hp).2.set i v⟩, fun p hp => ⟨(h.ds p hp).1, (h.ds p hp).2.set i v⟩, ?_, ?_, h.room, h.fuse⟩
  · show (s.fs.set i (v, true)).length ≤ _
    rw [List.length_set]
    exact h.fs
  · intro x hx hb
    rcases mem_set_or hx with hx | rfl
    · exact h.fz x hx hb
    · cases hb
  · intro x hx
    rcases mem_set_or hx with hx | rfl
    · exact h.fb x hx
    · exact hv
theorem BdV.syncdir0 (h : BdV s N M k) : BdV { s with safe := s.now, ops := [] } N M k :=
  ⟨h.now, h.now, Nat.zero_le _, h.n, h.m, h.fs, fun o ho => by simp at ho, h.rn, h.rn, h.dn, h.dn, h.fz, h.fb, h.room, h.fuse⟩
end
theorem crashV_get (nm : Int → Bool) (kl : List Bool) : ∀ (l : List (RV × Bool)) (j at_ i : Nat) (x : RV × Bool), l[i]? = some x → nm ((j + i : Nat) : Int) = true → ∃ kl', (crashV nm kl j at_ l)[i]? = some (x.1.crash kl', true)
  | [], j, at_, i, x, h, _ => by simp at h
  | y :: t, j, at_, 0, x, h, hn => by
    simp at h
    subst h
    rw [Nat.add_zero] at hn
    exact ⟨_, by show some (if nm (j : Int) then _ else _) = _; rw [hn]; rfl⟩
  | y :: t, j, at_, i + 1, x, h, hn => by
    rw [List.getElem?_cons_succ] at h
    rw [show j + (i + 1) = j + 1 + i by omega] at hn
    obtain ⟨kl', hv⟩ := crashV_get nm kl t (j + 1) (at_ + y.1.ops.length) i x h hn
    exact ⟨kl', hv⟩
/-- What a crash leaves of a name's file, if all was made safe. -/
theorem crash_safe {s : VSt} {fs : List (RV × Bool)} (h : SyF s fs s.now.length) (kl : List Bool) {m i : Nat} {v : RV} (hm : m < s.now.length) (hi : (s.now.getD m zDN).2 = (i : Int)) (hv : s.fs[i]? = some (v, true)) :
    ∃ v', (crashS { s with fs := fs, safe := s.now, ops := [] } kl).fs[i]? = some (v', true) ∧ v'.now = v.now := by
  obtain ⟨v', h1, h2, h3⟩ := h i v true hv
  obtain ⟨h4, h5⟩ := h3 m hm hi
  have hmem : s.now.getD m zDN ∈ s.now := by rw [List.getD_eq_getElem?_getD, List.getElem?_eq_getElem hm]; exact List.getElem_mem _
  have hn : namedI (crashD s.now [] kl 0) ((0 + i : Nat) : Int) = true := by
    rw [Nat.zero_add, ← hi]
    exact mem_namedI hmem
  obtain ⟨kl', h6⟩ := crashV_get _ kl fs 0 0 i (v', true) h1 hn
  refine ⟨v'.crash kl', h6, ?_⟩
  unfold RV.crash
  rw [h5, h4]
  exact h2
theorem crash_now (s : VSt) (fs : List (RV × Bool)) (kl : List Bool) : (crashS { s with fs := fs, safe := s.now, ops := [] } kl).now = s.now := rfl
end Go.Proofs.YtpnbjpkdbiiogaaGreat
