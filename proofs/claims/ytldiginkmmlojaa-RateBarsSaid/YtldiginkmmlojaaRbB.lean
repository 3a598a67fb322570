/- The limit on many writers: what holds of it; Known. -/
import Derived.Test.YtldiginkmmlojaaRbA
import Derived.Test.YtldiginkmmlojaaMapR
import Derived.Test.YtldiginkmmlojaaLaid
namespace Go.Proofs.Ytldiginkmmlojaa
set_option linter.unusedVariables false
open Go.RowKit Go.Maps Go.Sort Go.Shelf Go.Proofs.YtldiginkmmlojaaW.PrintWords
attribute [local go_sem] mx2 mn2 mxTwo mnTwo

theorem nmW_sort (l : List LW) (h : RisW l) : (nmW l).mergeSort leB = nmW l := by
  refine List.mergeSort_of_pairwise (h.imp ?_)
  intro a b hab
  exact decide_eq_true (List.le_of_lt hab)
theorem mapW_str (l : List LW) (x : List UInt8) : (mapW l (.string x)).isSome = true ↔ x ∈ nmW l := by
  induction l with
  | nil => rw [mapW_nil]; simp [nmW]
  | cons p t ih =>
    rw [mapW_cons]
    unfold nmW
    rw [List.map_cons, List.mem_cons]
    by_cases h : kStr p.1 = .string x
    · rw [if_pos h]
      unfold kStr at h
      injection h with h
      simp [h]
    · rw [if_neg h, ih]
      have : x ≠ p.1.data.toList := fun e => h (by unfold kStr; rw [e])
      simp [this, nmW]
theorem permW {w : World} {m n : Nat} {D : DataW Value} {l : List LW} (hown : w.ownsMap Try.prog 9 R0 m n D) (ht : Tells D (mapW l)) (hr : RisW l) : (nmW l).Perm (strKeys D) := by
  obtain ⟨es, hD, hp, hk⟩ := hown.entries lawSt
  subst hD
  refine perm_strKeys hp (fun p hpm => ?_) (risW_nodup hr) (fun x => ?_)
  · have h1 : has (.map es) p.1 = true := by
      rw [has_eq, List.any_eq_true]
      exact ⟨p, hpm, WideAt.sameKey_self (hk p hpm)⟩
    rw [ht.has] at h1
    unfold mapW at h1
    split at h1
    · rename_i q hq
      have h9 := List.find?_some hq
      simp only [decide_eq_true_eq] at h9
      exact ⟨_, h9.symm⟩
    · cases h1
  · rw [ht.has, ← mapW_str]
/-- The keys of the map. -/
def ksW (l : List LW) : List Lit := l.map (fun p => kStr p.1)
theorem ksW_nodup {l : List LW} (h : RisW l) : (ksW l).Nodup := by
  have := risW_nodup h
  unfold nmW at this
  unfold ksW
  rw [List.nodup_iff_pairwise_ne, List.pairwise_map] at this ⊢
  exact this.imp (fun hab e => hab (by rw [kStr_inj e]))
theorem ksW_mem (l : List LW) (q : Lit) : (mapW l q).isSome = true ↔ q ∈ ksW l := by
  induction l with
  | nil => rw [mapW_nil]; simp [ksW]
  | cons p t ih =>
    rw [mapW_cons]
    unfold ksW
    rw [List.map_cons, List.mem_cons]
    by_cases h : kStr p.1 = q
    · rw [if_pos h]
      simp [h]
    · rw [if_neg h, ih]
      have : q ≠ kStr p.1 := fun e => h e.symm
      simp [this, ksW]
/-- The limit in memory. -/
structure LJ (W : World) (b g m N : Nat) (span burst most : Int) (l : List LW) : Prop where
  hb : W.heap[g]? = some (.cells #[.int .u64 span, .int .i64 burst, .int .i64 most, .map (some m)] 141 (0, 0))
  hm : MV W Try.prog 9 m N (mapW l)
  hg : b ≤ g
  hmb : b ≤ m
theorem LJ.below {W W1 : World} {b g m N : Nat} {span burst most : Int} {l : List LW} (h : LJ W b g m N span burst most l) (hb : Below W.heap.size W W1) : LJ W1 b g m N span burst most l := ⟨blk_below h.hb hb, h.hm.below hb, h.hg, h.hmb⟩
theorem LJ.of {W : World} {b g m : Nat} {span burst most : Int} (h : LI W b g m 0 span burst most none) : LJ W b g m 0 span burst most [] := ⟨h.hb, by rw [mapW_nil]; exact h.hm, h.hg, h.hmb⟩
theorem wkeys_any (mb : Option Nat) (w : World) : Calls Try.prog 86 #[.map mb] w fun e w' => e = .returned (.func (.func 94) #[] #[.pointer (some ⟨w.heap.size, 0, none⟩)]) ∧ w' = w.alloc (.cells #[.map mb] 139) :=
  (callsIn_wide (n := 5)).1 (AnyZ.keys_in Try.keys86 Fence.wide 5 trivial rfl mb w)
theorem wsorts_in (m : Nat) : AnyZ.SortsIn Try.prog Try.sorted85_ren Fence.wide m :=
  ⟨fun blk off cap ss W hH hblk hsz => callsIn_wide.2 (AnyM.slices_Sort_string Try.sort93 blk off cap ss W hH hblk hsz),
   fun p cap W => callsIn_wide.2 (AnyM.slices_Sort_string_none Try.sort93 p cap W)⟩
set_option maxHeartbeats 1000000 in
theorem wsorted_any (b nn : Nat) (D0 : DataW Value) (w : World) (hown : w.ownsMap Try.prog 9 R0 b nn D0) (hmax : Maps.size D0 ≤ maxLen) (hbytes : Maps.size D0 * 16 ≤ 140737488355328) :
    Calls Try.prog 85 #[.func (.func 94) #[] #[.pointer (some ⟨w.heap.size, 0, none⟩)]] (w.alloc (.cells #[.map (some b)] 139)) fun e w' => ∃ (v : Value) (ss : List (List UInt8)), e = .returned v ∧ ss.Perm (strKeys D0) ∧
      w'.ownsRow (w.alloc (.cells #[.map (some b)] 139)).heap.size 9 1 v ss.length ((ss.mergeSort leB).map encStr) ∧ Below (w.alloc (.cells #[.map (some b)] 139)).heap.size (w.alloc (.cells #[.map (some b)] 139)) w' := by
  have hbl := hown.lt
  have hseq : SeqGives Fence.wide 2 Try.prog 94 #[.pointer (some ⟨w.heap.size, 0, none⟩)] encStr (fun ss => ss.Perm (strKeys D0)) (Maps.size D0) (w.alloc (.cells #[.map (some b)] 139)) :=
    AnyZ.keys_gives (ρ := Try.keys86_ren) { Try.keys86 with } Fence.wide _ trivial rfl (by omega) w.heap.size b nn D0 _ (by simp) (by simp) (by
      obtain ⟨es, clock, hb, Ft, hs, hD⟩ := hown
      exact ⟨es, clock, (Below.heap_alloc _ _ b hbl).trans hb, Ft, hs, hD⟩)
  have h := AnyZ.sorted_in Try.sorted85 Fence.wide 5 trivial trivial trivial trivial rfl (by omega) (wsorts_in _) (enters_of Try.func93 (by kernel_rfl) rfl) 94 #[.pointer (some ⟨w.heap.size, 0, none⟩)] trivial (enters_of Try.func94 (by kernel_rfl) rfl) _ _ hmax hbytes _ hseq
  refine ((callsIn_wide (n := 5)).1 h).mono ?_
  rintro e w' ⟨v, ss, h1, h2, h3, _, h5⟩
  exact ⟨v, ss, h1, h2, h3, h5⟩
/-- The sorted keys, as both callers have them. -/
theorem names_any (b g m N : Nat) (span burst most : Int) (l : List LW) (w : World) (h : LJ w b g m N span burst most l) (hr : RisW l) (hN : N ≤ 1000000) :
    Calls Try.prog 85 #[.func (.func 94) #[] #[.pointer (some ⟨w.heap.size, 0, none⟩)]] (w.alloc (.cells #[.map (some m)] 139)) fun e w' => ∃ v, e = .returned v ∧ Kd.R Kd.string 9 w' w.heap.size (fun _ => True) v (l.map (·.1)) ∧ Below w.heap.size w w' := by
  obtain ⟨D, hown, ht⟩ := h.hm
  have hp := permW hown ht hr
  have hsz : Maps.size D ≤ N := hown.size_le
  refine (wsorted_any m N D w hown (by unfold maxLen; omega) (by omega)).mono ?_
  rintro e w2 ⟨v, ss, rfl, hss, hrow, hb⟩
  have e : ss.mergeSort leB = nmW l := by rw [mergeSort_of_perm (hss.trans hp.symm), nmW_sort l hr]
  have hl : ss.length = (l.map (·.1)).length := by rw [(hss.trans hp.symm).length_eq]; simp [nmW]
  rw [e, hl] at hrow
  have e2 : (nmW l).map encStr = (l.map (·.1)).map Value.string := by
    unfold nmW
    rw [List.map_map, List.map_map]
    refine List.map_congr_left (fun p _ => ?_)
    show Value.string ⟨p.1.data.toList.toArray⟩ = Value.string p.1
    rw [Array.toArray_toList]
  rw [e2] at hrow
  have hsz2 : (w.alloc (.cells #[.map (some m)] 139)).heap.size = w.heap.size + 1 := World.size_alloc ..
  have hR : Kd.R Kd.string 9 w2 (w.alloc (.cells #[.map (some m)] 139)).heap.size (fun _ => True) v (l.map (·.1)) := Kd.R_of_own hrow (fun _ _ => trivial)
  exact ⟨v, rfl, Kd.R_lower hR (by rw [hsz2]; omega), below_step (below_alloc (Below.refl _ _) _) hb⟩
theorem lknown_any (b g m N : Nat) (span burst most : Int) (l : List LW) (w : World) (h : LJ w b g m N span burst most l) (hr : RisW l) (hN : N ≤ 1000000) : Calls Try.prog 63 #[.pointer (some ⟨g, 0, none⟩)] w fun e w' => ∃ v, e = .returned v ∧ Kd.R Kd.string 9 w' w.heap.size (fun _ => True) v (l.map (·.1)) ∧ Below w.heap.size w w' := by
  have hc3 := (blk_cell h.hb 3).trans (rfl : _ = some (Value.map (some m)))
  have HC := Aside0.mk (names_any b g m N span burst most l w h hr hN)
  clear h hr
  go_enter Try.func63, Try.ntmps63
  go_wp2_with (first
    | (go_at_call 86; refine (wkeys_any _ _).mono ?_; rintro e w1 ⟨rfl, rfl⟩)
    | (go_at_call 85; refine HC.out.mono ?_; rintro e w2 ⟨v, rfl, hv, hb⟩; have HV := Aside0.mk hv; have HB := Aside0.mk hb; clear hv hb))
  go_ret
  exact ⟨v, rfl, HV.out, HB.out⟩
end Go.Proofs.Ytldiginkmmlojaa
