/- Directories: names that rise; the code's Names and Sync. -/
import Derived.Test.YtpnbjpkdbiiogaaDiJ
import Derived.Test.YtpnbjpkdbiiogaaLaid
namespace Go.Proofs.Ytpnbjpkdbiiogaa
set_option linter.unusedVariables false
open Go.RowKit Go.Maps Go.Sort Go.Shelf Go.Proofs.YtpnbjpkdbiiogaaW.PrintWords
attribute [local go_sem] mx2 mn2 mxTwo mnTwo

def nmL (l : List DN) : List (List UInt8) := l.map (fun p => p.1.data.toList)
/-- Names rise. -/
def Rising (l : List DN) : Prop := (nmL l).Pairwise (· < ·)
theorem gtS_lt {a b : ByteArray} (h : gtS a b = true) : b.data.toList < a.data.toList := by
  obtain ⟨h1, h2⟩ := gtS_true h
  rw [bytesLess_eq, ByteArray.toList_eq, ByteArray.toList_eq] at h1
  rw [beq_eq_false_iff_ne, ByteArray.toList_eq, ByteArray.toList_eq] at h2
  rcases List.le_iff_lt_or_eq.1 (List.not_lt.1 (of_decide_eq_false h1)) with h | h
  · exact h
  · exact absurd h.symm h2
theorem gtS_ge {a b : ByteArray} (h : gtS a b = false) (hne : a ≠ b) : a.data.toList < b.data.toList := by
  rcases gtS_false h with h1 | ⟨_, h2⟩
  · rw [bytesLess_eq, ByteArray.toList_eq, ByteArray.toList_eq] at h1
    exact of_decide_eq_true h1
  · rw [beq_iff_eq, ByteArray.toList_eq, ByteArray.toList_eq] at h2
    exact absurd (Go.WideShapes.bytes_inj h2) hne
theorem mem_insL (s : ByteArray) (a : Int) : ∀ (l : List DN) (p : DN), p ∈ insL s a l → p = (s, a) ∨ p ∈ l
  | [], p, h => by simp [insL] at h; exact .inl h
  | q :: t, p, h => by
    unfold insL at h
    split at h
    · rcases List.mem_cons.1 h with h | h
      · exact .inl h
      · exact .inr h
    · rcases List.mem_cons.1 h with h | h
      · exact .inr (by rw [h]; exact List.mem_cons_self ..)
      · rcases mem_insL s a t p h with h | h
        · exact .inl h
        · exact .inr (List.mem_cons_of_mem _ h)
theorem rising_cons {p : DN} {t : List DN} : Rising (p :: t) ↔ (∀ q ∈ t, p.1.data.toList < q.1.data.toList) ∧ Rising t := by
  unfold Rising nmL
  rw [List.map_cons, List.pairwise_cons]
  constructor
  · rintro ⟨h1, h2⟩
    exact ⟨fun q hq => h1 _ (List.mem_map.2 ⟨q, hq, rfl⟩), h2⟩
  · rintro ⟨h1, h2⟩
    refine ⟨fun x hx => ?_, h2⟩
    obtain ⟨q, hq, rfl⟩ := List.mem_map.1 hx
    exact h1 q hq
theorem rising_insL (s : ByteArray) (a : Int) : ∀ (l : List DN), Rising l → (∀ p ∈ l, p.1 ≠ s) → Rising (insL s a l)
  | [], _, _ => by simp [insL, Rising, nmL]
  | p :: t, h, hn => by
    obtain ⟨h1, h2⟩ := rising_cons.1 h
    unfold insL
    split
    · rename_i hg
      have hl := gtS_lt hg
      refine rising_cons.2 ⟨fun q hq => ?_, h⟩
      rcases List.mem_cons.1 hq with rfl | hq
      · exact hl
      · exact List.lt_trans hl (h1 q hq)
    · rename_i hg
      have hl := gtS_ge (by simpa using hg) (hn p (List.mem_cons_self ..))
      refine rising_cons.2 ⟨fun q hq => ?_, rising_insL s a t h2 (fun x hx => hn x (List.mem_cons_of_mem _ hx))⟩
      rcases mem_insL s a t q hq with rfl | hq
      · exact hl
      · exact h1 q hq
theorem rising_without (l : List DN) (s : ByteArray) (h : Rising l) : Rising (withoutL l s) := List.Pairwise.sublist (List.Sublist.map _ (List.filter_sublist ..)) h
theorem rising_with (l : List DN) (s : ByteArray) (a : Int) (h : Rising l) : Rising (withL l s a) := rising_insL s a _ (rising_without l s h) (without_no l s)
theorem rising_did (l : List DN) (o : DOp) (h : Rising l) : Rising (didL l o) := by
  unfold didL
  split
  · exact rising_with _ _ _ h
  · split
    · exact h
    · split
      · exact rising_with _ _ _ (rising_without _ _ h)
      · exact rising_without _ _ h
theorem rising_crash (safe : List DN) (ops : List DOp) (kl : List Bool) (h : Rising safe) : ∀ i, Rising (crashD safe ops kl i)
  | 0 => h
  | i + 1 => by
    unfold crashD
    split
    · exact rising_did _ _ (rising_crash safe ops kl h i)
    · exact rising_crash safe ops kl h i
theorem nm_sort (l : List DN) (h : Rising l) : (nmL l).mergeSort leB = nmL l := by
  refine List.mergeSort_of_pairwise (h.imp ?_)
  intro a b hab
  exact decide_eq_true (List.le_of_lt hab)
theorem mapF_str (l : List DN) (x : List UInt8) : (mapF l (.string x)).isSome = true ↔ x ∈ nmL l := by
  induction l with
  | nil => simp [mapF, nmL]
  | cons p t ih =>
    rw [mapF_cons]
    unfold nmL
    rw [List.map_cons, List.mem_cons]
    by_cases h : kS p.1 = .string x
    · rw [if_pos h]
      unfold kS at h
      injection h with h
      simp [h]
    · rw [if_neg h, ih]
      have : x ≠ p.1.data.toList := fun e => h (by unfold kS; rw [e])
      simp [this, nmL]
theorem rising_nodup (l : List DN) (h : Rising l) : (nmL l).Nodup := h.imp (fun hab e => by subst e; exact List.lt_irrefl _ hab)
theorem perm_nm {w : World} {m n : Nat} {D : DataW Value} {l : List DN} (hown : w.ownsMap Try.prog 9 R0 m n D) (ht : Tells D (mapF l)) (hr : Rising l) : (nmL l).Perm (strKeys D) := by
  obtain ⟨es, hD, hp, hk⟩ := hown.entries lawS
  subst hD
  refine perm_strKeys hp (fun p hpm => ?_) (rising_nodup l hr) (fun x => ?_)
  · have h1 : has (.map es) p.1 = true := by
      rw [has_eq, List.any_eq_true]
      exact ⟨p, hpm, WideAt.sameKey_self (hk p hpm)⟩
    rw [ht.has] at h1
    unfold mapF at h1
    split at h1
    · rename_i q hq
      have h9 := List.find?_some hq
      simp only [decide_eq_true_eq] at h9
      exact ⟨_, h9.symm⟩
    · cases h1
  · rw [ht.has, ← mapF_str]
theorem size_of {w : World} {m n : Nat} {D : DataW Value} (hown : w.ownsMap Try.prog 9 R0 m n D) : Maps.size D ≤ n := hown.size_le
/-- maps.Keys. -/
theorem keys_any (mb : Option Nat) (w : World) : Calls Try.prog 100 #[.map mb] w fun e w' => e = .returned (.func (.func 116) #[] #[.pointer (some ⟨w.heap.size, 0, none⟩)]) ∧ w' = w.alloc (.cells #[.map mb] 85) :=
  (callsIn_wide (n := 5)).1 (AnyZ.keys_in Try.keys100 Fence.wide 5 trivial rfl mb w)
theorem sorts_in (m : Nat) : AnyZ.SortsIn Try.prog Try.sorted99_ren Fence.wide m :=
  ⟨fun blk off cap ss W hH hblk hsz => callsIn_wide.2 (AnyM.slices_Sort_string Try.sort115 blk off cap ss W hH hblk hsz),
   fun p cap W => callsIn_wide.2 (AnyM.slices_Sort_string_none Try.sort115 p cap W)⟩
set_option maxHeartbeats 1000000 in
theorem sorted_any (b nn : Nat) (D0 : DataW Value) (w : World) (hown : w.ownsMap Try.prog 9 R0 b nn D0) (hmax : Maps.size D0 ≤ maxLen) (hbytes : Maps.size D0 * 16 ≤ 140737488355328) :
    Calls Try.prog 99 #[.func (.func 116) #[] #[.pointer (some ⟨w.heap.size, 0, none⟩)]] (w.alloc (.cells #[.map (some b)] 85)) fun e w' => ∃ (v : Value) (ss : List (List UInt8)), e = .returned v ∧ ss.Perm (strKeys D0) ∧
      w'.ownsRow (w.alloc (.cells #[.map (some b)] 85)).heap.size 9 1 v ss.length ((ss.mergeSort leB).map encStr) ∧ Below (w.alloc (.cells #[.map (some b)] 85)).heap.size (w.alloc (.cells #[.map (some b)] 85)) w' := by
  have hbl := hown.lt
  have hseq : SeqGives Fence.wide 2 Try.prog 116 #[.pointer (some ⟨w.heap.size, 0, none⟩)] encStr (fun ss => ss.Perm (strKeys D0)) (Maps.size D0) (w.alloc (.cells #[.map (some b)] 85)) :=
    AnyZ.keys_gives (ρ := Try.keys100_ren) { Try.keys100 with } Fence.wide _ trivial rfl (by omega) w.heap.size b nn D0 _ (by simp) (by simp) (by
      obtain ⟨es, clock, hb, Ft, hs, hD⟩ := hown
      exact ⟨es, clock, (Below.heap_alloc _ _ b hbl).trans hb, Ft, hs, hD⟩)
  have h := AnyZ.sorted_in Try.sorted99 Fence.wide 5 trivial trivial trivial trivial rfl (by omega) (sorts_in _) (enters_of Try.func115 (by kernel_rfl) rfl) 116 #[.pointer (some ⟨w.heap.size, 0, none⟩)] trivial (enters_of Try.func116 (by kernel_rfl) rfl) _ _ hmax hbytes _ hseq
  refine ((callsIn_wide (n := 5)).1 h).mono ?_
  rintro e w' ⟨v, ss, h1, h2, h3, _, h5⟩
  exact ⟨v, ss, h1, h2, h3, h5⟩
/-- The code's Names. -/
theorem dnames_any (b g mn ms N : Nat) (vo : Value) (now safe : List DN) (ops : List DOp) (w : World) (h : DI w b g mn ms vo N now safe ops) (hr : Rising now) (hN : N ≤ 1000000) : Calls Try.prog 50 #[.pointer (some ⟨g, 0, none⟩)] w fun e w' => ∃ v, e = .returned v ∧ Kd.R Kd.string 9 w' w.heap.size (fun _ => True) v (now.map (·.1)) ∧ Below w.heap.size w w' := by
  have hc0 := (blk_cell h.hb 0).trans (rfl : _ = some (Value.map (some mn)))
  obtain ⟨D, hown, ht⟩ := h.hn
  have hp := perm_nm hown ht hr
  have hsz : Maps.size D ≤ N := hown.size_le
  have HC := Aside0.mk (sorted_any mn N D w hown (by unfold maxLen; omega) (by omega))
  have HP := Aside0.mk hp
  have HR := Aside0.mk hr
  clear h hown ht hp hr
  go_enter Try.func50, Try.ntmps50
  go_wp2_with (first
    | (go_at_call 100; refine (keys_any _ _).mono ?_; rintro e w1 ⟨rfl, rfl⟩)
    | (go_at_call 99; refine HC.out.mono ?_; rintro e w2 ⟨v, ss, rfl, hss, hrow, hb⟩; have HX := Aside0.mk (And.intro hss hrow); have HB := Aside0.mk hb; clear hss hrow hb))
  go_ret
  obtain ⟨hss, hrow⟩ := HX.out
  have e : ss.mergeSort leB = nmL now := by rw [mergeSort_of_perm (hss.trans HP.out.symm), nm_sort now HR.out]
  have hl : ss.length = (now.map (·.1)).length := by rw [(hss.trans HP.out.symm).length_eq]; simp [nmL]
  rw [e, hl] at hrow
  have e2 : (nmL now).map encStr = (now.map (·.1)).map Value.string := by
    unfold nmL
    rw [List.map_map, List.map_map]
    refine List.map_congr_left (fun p _ => ?_)
    show Value.string ⟨p.1.data.toList.toArray⟩ = Value.string p.1
    rw [Array.toArray_toList]
  rw [e2] at hrow
  have hsz2 : (w.alloc (.cells #[.map (some mn)] 85)).heap.size = w.heap.size + 1 := World.size_alloc ..
  have hR : Kd.R Kd.string 9 w2 (w.alloc (.cells #[.map (some mn)] 85)).heap.size (fun _ => True) v (now.map (·.1)) := Kd.R_of_own hrow (fun _ _ => trivial)
  exact ⟨v, rfl, Kd.R_lower hR (by rw [hsz2]; omega), below_step (below_alloc (Below.refl _ _) _) HB.out⟩
theorem dnames_nil (w : World) : Calls Try.prog 50 #[.pointer none] w fun e w' => e = .returned (.slice none 0 0) ∧ w = w' := by
  go_enter Try.func50, Try.ntmps50
  go_wp2
  go_ret
  exact ⟨rfl, rfl⟩
/-- maps.Clone. -/
theorem mclone_any (m n : Nat) (f : Lit → Option Value) (w : World) (h : MV w Try.prog 9 m n f) : Calls Try.prog 97 #[.map (some m)] w fun e w' => e = .returned (.map (some w.heap.size)) ∧ MV w' Try.prog 9 w.heap.size n f ∧ Below w.heap.size w w' := by
  obtain ⟨D, hown, ht⟩ := h
  have hcon := AnyW.maps_Clone_owns Try.clone97 9 R0 m n D w hown
  change Calls Try.prog 97 _ _ _ at hcon
  refine hcon.mono ?_
  rintro e w' ⟨he, h1, _, hB⟩
  exact ⟨he, ⟨D, h1, ht⟩, hB⟩
theorem dsync_any (b g mn ms N : Nat) (vo : Value) (now safe : List DN) (ops : List DOp) (w : World) (h : DI w b g mn ms vo N now safe ops) : Calls Try.prog 47 #[.pointer (some ⟨g, 0, none⟩)] w fun e w' => e = .returned (.tuple #[]) ∧ DI w' b g mn w.heap.size (.slice none 0 0) N now now [] ∧ KeepBut w w' g none ∧ Below b w w' := by
  have hc0 := (blk_cell h.hb 0).trans (rfl : _ = some (Value.map (some mn)))
  have hbw : b ≤ w.heap.size := Nat.le_trans h.hg (Nat.le_of_lt (blk_lt h.hb))
  have H := Aside0.mk h
  have HM := Aside0.mk h.hn
  clear h
  go_enter Try.func47, Try.ntmps47
  go_wp2_with (go_at_call 97; refine (mclone_any mn N (mapF now) _ HM.out).mono ?_; rintro e w1 ⟨rfl, hv, hb1⟩; have hbk := blk_below H.out.hb hb1; have k1 := (blk_cell hbk 1).trans (rfl : _ = some (Value.map (some ms))); have k2 := (blk_cell hbk 2).trans (rfl : _ = some vo); have f1 := blk_frozen hbk 1; have f2 := blk_frozen hbk 2; have HV := Aside0.mk hv; have HB := Aside0.mk hb1; have HK := Aside0.mk hbk; clear hv hb1 hbk)
  first | go_end0 | ((try simp only [Exit.inBlock, Exit.then]); refine bodyPost_ret (results_none rfl _ _ _) rfl ?_)
  have hb1 := blk_put HK.out 1 (.map (some w.heap.size)) rfl
  have hmv : ∀ (m : Nat) (f : Lit → Option Value), MV w1 Try.prog 9 m N f → MV ((w1.setCell ⟨g, 1, none⟩ (.map (some w.heap.size))).setCell ⟨g, 2, none⟩ (.slice none 0 0)) Try.prog 9 m N f := by
    intro m f hm
    have h1 := hm.setCell (a := ⟨g, 1, none⟩) (hm.ne HK.out) (.map (some w.heap.size))
    exact h1.setCell (h1.ne hb1) _
  have hmlt := H.out.hn.lt
  exact ⟨rfl, ⟨blk_put hb1 2 _ rfl, hmv _ _ (H.out.hn.below HB.out), hmv _ _ HV.out, Kd.R_nil _ _ _ _ _, H.out.hg, H.out.hmn, hbw, by omega⟩, ((KeepBut.of_below HB.out g none).set_ 1 _).set_ 2 _, ((HB.out.mono hbw).setCell (p := ⟨g, 1, none⟩) H.out.hg _).setCell (p := ⟨g, 2, none⟩) H.out.hg _⟩
theorem dsync_nil (w : World) : Calls Try.prog 47 #[.pointer none] w fun e w' => e = .returned (.tuple #[]) ∧ w = w' := by
  go_enter Try.func47, Try.ntmps47
  go_wp2
  first | go_end0 | ((try simp only [Exit.inBlock, Exit.then]); refine bodyPost_ret (results_none rfl _ _ _) rfl ?_)
  exact ⟨rfl, rfl⟩
end Go.Proofs.Ytpnbjpkdbiiogaa
