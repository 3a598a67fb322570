/- The walk of the law DirNobody: it answers true. -/
import Derived.Test.YtpnbjpkdbiiogaaDiR
namespace Go.Proofs.Ytpnbjpkdbiiogaa
set_option linter.unusedVariables false
open Go.RowKit Go.Maps Go.Sort Go.Proofs.YtpnbjpkdbiiogaaW.PrintWords
attribute [local go_sem] mx2 mn2 mxTwo mnTwo

theorem opens_act07 : Opens Try.prog 73 kDact goodDact :=
  opens_iso (fun x : DAct => (x.kd, x.a, x.b, x.id, x.keep)) (fun x => ⟨x.1, x.2.1, x.2.2.1, x.2.2.2.1, x.2.2.2.2⟩) (fun _ => rfl)
    (opens_struct5 Try.underlying73 (by kernel_rfl) (by kernel_rfl) (opens_int Try.underlying3) (opens_string Try.underlying9) (opens_string Try.underlying9) (opens_int Try.underlying3) (opens_slice Try.underlying48 (by kernel_rfl) (opens_bool Try.underlying4)))
theorem opened_t73 {H : Type} {enc : TypeId × Value → H} {w : World} {base : Nat} {spare : Nat → Bool} {held : Bool} {cs : Array Value} {dd : DataW H} {ps : List MemPlace} (h : DataW.Trod enc Try.prog w base spare held 73 (.agg cs) dd ps) :
    ∃ (a : DAct) (A3 : Option Addr) (c3 : Nat), cs = #[.int .i64 a.kd, .string a.a, .string a.b, .int .i64 a.id, .slice A3 a.keep.length c3] ∧ goodDact a := by
  obtain ⟨fuel, hf⟩ := h
  obtain ⟨a, hK, hg⟩ := opens_act07 _ _ _ _ _ _ _ _ _ hf
  obtain ⟨_, _, hE, rfl, ⟨_, _, rfl, rfl, ⟨_, _, rfl, rfl, ⟨_, _, rfl, rfl, ⟨A3, c3, rfl, _, _⟩⟩⟩⟩⟩ := hK
  refine ⟨a, A3, c3, ?_, hg⟩
  simp [Value.cells] at hE
  rw [← Array.toArray_toList (xs := cs), hE]
/-- No directory: nil, or one that was never made. -/
def Nob (w : World) (v : Value) : Prop := v = .pointer none ∨ ∃ g, v = .pointer (some ⟨g, 0, none⟩) ∧ w.cell? ⟨g, 0, none⟩ = some (.map none) ∧ w.cell? ⟨g, 2, none⟩ = some (.slice none 0 0)
theorem Nob.below {w W : World} {v : Value} (h : Nob w v) (hb : Below w.heap.size w W) : Nob W v := by
  rcases h with h | ⟨g, h, h1, h2⟩
  · exact .inl h
  · exact .inr ⟨g, h, pw_cell_below hb h1, pw_cell_below hb h2⟩
theorem nob_create (v : Value) (s : ByteArray) (id : Int) (w : World) (h : Nob w v) : Calls Try.prog 56 #[v, .string s, .int .i64 id] w fun e w' => e = .returned (.int .i64 3) ∧ w = w' := by
  rcases h with rfl | ⟨g, rfl, hc0, hc2⟩
  all_goals
    have qn : ∀ (w : World) (r : Option Nat), (binOp .eql 85 (.map r) (.map none)).run Try.prog w = .ok (.bool r.isNone) w := fun w r => run_eql_map_nil w 85 9 3 r Try.underlying85
  all_goals go_enter Try.func56, Try.ntmps56
  all_goals
    go_wp2
    go_ret
    exact ⟨rfl, rfl⟩
theorem nob_rename (v : Value) (s t : ByteArray) (w : World) (h : Nob w v) : Calls Try.prog 57 #[v, .string s, .string t] w fun e w' => e = .returned (.int .i64 3) ∧ w = w' := by
  rcases h with rfl | ⟨g, rfl, hc0, hc2⟩
  all_goals
    have qn : ∀ (w : World) (r : Option Nat), (binOp .eql 85 (.map r) (.map none)).run Try.prog w = .ok (.bool r.isNone) w := fun w r => run_eql_map_nil w 85 9 3 r Try.underlying85
  all_goals go_enter Try.func57, Try.ntmps57
  all_goals
    go_wp2
    go_ret
    exact ⟨rfl, rfl⟩
theorem nob_unlink (v : Value) (s : ByteArray) (w : World) (h : Nob w v) : Calls Try.prog 58 #[v, .string s] w fun e w' => e = .returned (.int .i64 3) ∧ w = w' := by
  rcases h with rfl | ⟨g, rfl, hc0, hc2⟩
  all_goals
    have qn : ∀ (w : World) (r : Option Nat), (binOp .eql 85 (.map r) (.map none)).run Try.prog w = .ok (.bool r.isNone) w := fun w r => run_eql_map_nil w 85 9 3 r Try.underlying85
  all_goals go_enter Try.func58, Try.ntmps58
  all_goals
    go_wp2
    go_ret
    exact ⟨rfl, rfl⟩
theorem nob_get (v : Value) (s : ByteArray) (w : World) (h : Nob w v) (hs : s.size ≤ maxLen) : Calls Try.prog 59 #[v, .string s] w fun e w' => e = .returned (.tuple #[.int .i64 0, .bool false]) ∧ w = w' := by
  rcases h with rfl | ⟨g, rfl, hc0, hc2⟩
  · exact dget_nil s w
  · have hnil := fun w : World => look_nil (w := w) true lawS Try.underlying85 (zeroI w) (Go.WideMaps.keyOf_string_mk (P := Try.prog) Try.underlying9 hs)
    go_enter Try.func59, Try.ntmps59
    go_wp2
    go_ret2
    exact ⟨rfl, rfl⟩
theorem nob_pending (v : Value) (w : World) (h : Nob w v) : Calls Try.prog 52 #[v] w fun e w' => e = .returned (.int .i64 0) ∧ w = w' := by
  rcases h with rfl | ⟨g, rfl, hc0, hc2⟩
  · exact dpending_nil w
  · go_enter Try.func52, Try.ntmps52
    go_wp2
    go_ret
    exact ⟨rfl, rfl⟩
set_option maxHeartbeats 1000000 in
theorem sorted_nil (w : World) : Calls Try.prog 99 #[.func (.func 116) #[] #[.pointer (some ⟨w.heap.size, 0, none⟩)]] (w.alloc (.cells #[.map none] 85)) fun e w' => e = .returned (.slice none 0 0) ∧ Below (w.alloc (.cells #[.map none] 85)).heap.size (w.alloc (.cells #[.map none] 85)) w' := by
  have hseq : SeqGives Fence.wide 2 Try.prog 116 #[.pointer (some ⟨w.heap.size, 0, none⟩)] encStr (fun ss : List (List UInt8) => ss = []) 0 (w.alloc (.cells #[.map none] 85)) :=
    AnyZ.keys_gives_nil (ρ := Try.keys100_ren) { Try.keys100 with } Fence.wide _ trivial rfl w.heap.size _ (by simp) (by simp)
  have h := AnyZ.sorted_in Try.sorted99 Fence.wide 5 trivial trivial trivial trivial rfl (by omega) (sorts_in _) (enters_of Try.func115 (by kernel_rfl) rfl) 116 #[.pointer (some ⟨w.heap.size, 0, none⟩)] trivial (enters_of Try.func116 (by kernel_rfl) rfl) _ 0 (Nat.zero_le _) (by omega) _ hseq
  refine ((callsIn_wide (n := 5)).1 h).mono ?_
  rintro e w' ⟨v, ss, h1, h2, h3, h4, h5⟩
  subst h2
  obtain rfl : v = .slice none 0 0 := h4.2 rfl
  exact ⟨h1, h5⟩
theorem nob_names (v : Value) (w : World) (h : Nob w v) : Calls Try.prog 50 #[v] w fun e w' => e = .returned (.slice none 0 0) ∧ Below w.heap.size w w' := by
  rcases h with rfl | ⟨g, rfl, hc0, hc2⟩
  · refine (dnames_nil w).mono ?_
    rintro e w' ⟨rfl, rfl⟩
    exact ⟨rfl, Below.refl _ _⟩
  · have HC := Aside0.mk (sorted_nil w)
    go_enter Try.func50, Try.ntmps50
    go_wp2_with (first
      | (go_at_call 100; refine (keys_any _ _).mono ?_; rintro e w1 ⟨rfl, rfl⟩)
      | (go_at_call 99; refine HC.out.mono ?_; rintro e w2 ⟨rfl, hb⟩; have HB := Aside0.mk hb; clear hb))
    go_ret
    exact ⟨rfl, below_step (below_alloc (Below.refl _ _) _) HB.out⟩
set_option maxHeartbeats 4000000 in
set_option maxRecDepth 100000 in
theorem dnobody_walk (a : DAct) (A3 : Option Addr) (c3 : Nat) (w : World) (hg : goodDact a) :
    Calls Try.prog 11 #[.agg #[.int .i64 a.kd, .string a.a, .string a.b, .int .i64 a.id, .slice A3 a.keep.length c3]] w fun e w' => e = .returned (.bool true) ∧ Below w.heap.size w w' := by
  have HZ := Aside0.mk hg.2.1
  clear hg
  go_enter Try.func11, Try.ntmps11
  go_wp2_with fail
  obtain ⟨W1, hW1⟩ : ∃ W1, W1 = ((w.alloc (.cells #[.int .i64 a.kd, .string a.a, .string a.b, .int .i64 a.id, .slice A3 a.keep.length c3] 73)).alloc (.cells #[.map none, .map none, .slice none 0 0] 88)).alloc (.cells #[.pointer none, .pointer (some ⟨w.heap.size + 1, 0, none⟩)] 64) := ⟨_, rfl⟩
  have hz1 : (w.alloc (.cells #[.int .i64 a.kd, .string a.a, .string a.b, .int .i64 a.id, .slice A3 a.keep.length c3] 73)).heap.size = w.heap.size + 1 := World.size_alloc ..
  have hz2 : ((w.alloc (.cells #[.int .i64 a.kd, .string a.a, .string a.b, .int .i64 a.id, .slice A3 a.keep.length c3] 73)).alloc (.cells #[.map none, .map none, .slice none 0 0] 88)).heap.size = w.heap.size + 1 + 1 := by rw [World.size_alloc, hz1]
  have b0 : W1.heap[w.heap.size]? = some (.cells #[.int .i64 a.kd, .string a.a, .string a.b, .int .i64 a.id, .slice A3 a.keep.length c3] 73 (0, 0)) := by rw [hW1]; exact blk_alloc (blk_alloc (blk_new _ _) _) _
  have b1 : W1.heap[w.heap.size + 1]? = some (.cells #[.map none, .map none, .slice none 0 0] 88 (0, 0)) := by rw [hW1, ← hz1]; exact blk_alloc (blk_new _ _) _
  have b2 : W1.heap[w.heap.size + 1 + 1]? = some (.cells #[.pointer none, .pointer (some ⟨w.heap.size + 1, 0, none⟩)] 64 (0, 0)) := by rw [hW1, ← hz2]; exact blk_new _ _
  have hb1 : Below w.heap.size w W1 := by rw [hW1]; exact below_alloc (below_alloc (below_alloc (Below.refl _ _) _) _) _
  rw [← hW1]
  obtain ⟨p0, hp0⟩ : ∃ p0, p0 = w.heap.size := ⟨_, rfl⟩
  obtain ⟨p1, hp1⟩ : ∃ p1, p1 = w.heap.size + 1 := ⟨_, rfl⟩
  obtain ⟨p2, hp2⟩ : ∃ p2, p2 = w.heap.size + 1 + 1 := ⟨_, rfl⟩
  rw [← hp2, ← hp1] at b2
  rw [← hp1] at b1
  rw [← hp0] at b0
  rw [← hp2, ← hp1, ← hp0]
  have q1 := (blk_cell b0 1).trans (rfl : _ = some (Value.string a.a))
  have q2 := (blk_cell b0 2).trans (rfl : _ = some (Value.string a.b))
  have q3 := (blk_cell b0 3).trans (rfl : _ = some (Value.int .i64 a.id))
  have q4 := (blk_cell b0 4).trans (rfl : _ = some (Value.slice A3 a.keep.length c3))
  have q5 := (blk_cell b2 0).trans (rfl : _ = some (Value.pointer none))
  have q6 := (blk_cell b2 1).trans (rfl : _ = some (Value.pointer (some ⟨p1, 0, none⟩)))
  have HV0 : Aside0 (Nob W1 (.pointer none)) := ⟨.inl rfl⟩
  have HV1 : Aside0 (Nob W1 (.pointer (some ⟨p1, 0, none⟩))) := ⟨.inr ⟨p1, rfl, (blk_cell b1 0).trans rfl, (blk_cell b1 2).trans rfl⟩⟩
  have HB1 := Aside0.mk hb1
  clear b0 b1 b2 hb1 hp0 hp1 hp2 hW1 hz1 hz2
  go_loopg [12] 2 (fun q v12 wr => ∃ i : Nat, v12 = .int .i64 (i : Int) ∧ i ≤ 2 ∧ Aside0 (q = 2 - i) ∧ Aside0 (Below W1.heap.size W1 wr))
  case atStart => exact ⟨0, rfl, Nat.zero_le _, ⟨rfl⟩, ⟨Below.refl _ _⟩⟩
  case round =>
    obtain ⟨i, rfl, hi, hq, HB⟩ := hrel
    have hi3 : i = 0 ∨ i = 1 ∨ i = 2 := by omega
    rcases hi3 with rfl | rfl | rfl
    · have HV := HV0
      have q8 := q5
      have r1 := pw_cell_below HB.out q1
      have r2 := pw_cell_below HB.out q2
      have r3 := pw_cell_below HB.out q3
      have r8 := pw_cell_below HB.out q8
      go_wp2_with (first
        | (go_at_call 56; refine (nob_create _ a.a a.id _ (HV.out.below HB.out)).mono ?_; rintro e w1 ⟨rfl, hw⟩; subst hw)
        | (go_at_call 57; refine (nob_rename _ a.a a.b _ (HV.out.below HB.out)).mono ?_; rintro e w1 ⟨rfl, hw⟩; subst hw)
        | (go_at_call 58; refine (nob_unlink _ a.a _ (HV.out.below HB.out)).mono ?_; rintro e w1 ⟨rfl, hw⟩; subst hw)
        | (go_at_call 59; refine (nob_get _ a.a _ (HV.out.below HB.out) HZ.out).mono ?_; rintro e w1 ⟨rfl, hw⟩; subst hw)
        | (go_at_call 50; refine (nob_names _ _ (HV.out.below HB.out)).mono ?_; rintro e w1 ⟨rfl, hb⟩; have hbn := below_step HB.out hb; clear HB; have HB := Aside0.mk hbn; clear hb hbn)
        | (go_at_call 52; refine (nob_pending _ _ (HV.out.below HB.out)).mono ?_; rintro e w1 ⟨rfl, hw⟩; subst hw))
      go_roundg 1
      case measure => have := hq.out; omega
      case rel => exact ⟨1, by go_num, by omega, ⟨rfl⟩, HB⟩
    · have HV := HV1
      have q8 := q6
      have r1 := pw_cell_below HB.out q1
      have r2 := pw_cell_below HB.out q2
      have r3 := pw_cell_below HB.out q3
      have r8 := pw_cell_below HB.out q8
      go_wp2_with (first
        | (go_at_call 56; refine (nob_create _ a.a a.id _ (HV.out.below HB.out)).mono ?_; rintro e w1 ⟨rfl, hw⟩; subst hw)
        | (go_at_call 57; refine (nob_rename _ a.a a.b _ (HV.out.below HB.out)).mono ?_; rintro e w1 ⟨rfl, hw⟩; subst hw)
        | (go_at_call 58; refine (nob_unlink _ a.a _ (HV.out.below HB.out)).mono ?_; rintro e w1 ⟨rfl, hw⟩; subst hw)
        | (go_at_call 59; refine (nob_get _ a.a _ (HV.out.below HB.out) HZ.out).mono ?_; rintro e w1 ⟨rfl, hw⟩; subst hw)
        | (go_at_call 50; refine (nob_names _ _ (HV.out.below HB.out)).mono ?_; rintro e w1 ⟨rfl, hb⟩; have hbn := below_step HB.out hb; clear HB; have HB := Aside0.mk hbn; clear hb hbn)
        | (go_at_call 52; refine (nob_pending _ _ (HV.out.below HB.out)).mono ?_; rintro e w1 ⟨rfl, hw⟩; subst hw))
      go_roundg 0
      case measure => have := hq.out; omega
      case rel => exact ⟨2, by go_num, by omega, ⟨rfl⟩, HB⟩
    · have r4 := pw_cell_below HB.out q4
      go_wp2_with (first
        | (go_at_call 47; refine (dsync_nil _).mono ?_; rintro e w1 ⟨rfl, hw⟩; subst hw)
        | (go_at_call 48; refine (dcrash_nil A3 _ c3 _).mono ?_; rintro e w1 ⟨rfl, hw⟩; subst hw)
        | (go_at_call 44; refine (awake07_any _).mono ?_; rintro e W9 ⟨rfl, hb⟩; have hbn := below_step HB.out hb; clear HB; have HB := Aside0.mk hbn; clear hb hbn))
      go_ret
      exact ⟨rfl, HB1.out.trans (HB.out.mono HB1.out.size)⟩
end Go.Proofs.Ytpnbjpkdbiiogaa
