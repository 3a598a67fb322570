/- The disk: New; a change is counted; a name's file; its sectors. -/
import Derived.Test.YtpnbjpkdbiiogaaVkA
namespace Go.Proofs.Ytpnbjpkdbiiogaa
set_option linter.unusedVariables false
open Go.RowKit Go.Maps Go.Proofs.YtpnbjpkdbiiogaaW.PrintWords
attribute [local go_sem] mx2 mn2 mxTwo mnTwo

theorem lawI : Keyed Try.prog 3 := int_keyed Try.underlying3
theorem zeroPF (w : World) : (zeroValue 41).run Try.prog w = .ok (.pointer none) w := by kernel_rfl
theorem knew_any (b : Nat) (room : Int) (w : World) (hb : b ≤ w.heap.size) : Calls Try.prog 61 #[.int .i64 room] w fun e w' => ∃ g gd mn ms mf, e = .returned (.pointer (some ⟨g, 0, none⟩)) ∧ DK w' b g gd mn ms (.slice none 0 0) 0 [] [] [] mf 0 [] 0 (if room < 0 then 0 else room) 0 false false ∧ Below w.heap.size w w' := by
  have hmm := @run_makeMap Try.prog
  obtain ⟨rm, hrm⟩ : ∃ rm, rm = (if room < 0 then 0 else room) := ⟨_, rfl⟩
  rw [← hrm]
  have HRM := Aside0.mk hrm
  clear hrm
  have key : ∀ (gd mn ms : Nat) (w1 : World) (r : Int), rm = r → DI w1 b gd mn ms (.slice none 0 0) 0 [] [] [] → Below w.heap.size w w1 → mn < w1.heap.size → ms < w1.heap.size →
      DK ((w1.alloc (.map #[] 0)).alloc (.cells #[.pointer (some ⟨gd, 0, none⟩), .map (some w1.heap.size), .int .i64 0, .int .i64 r, .int .i64 0, .bool false, .bool false] 161)) b (w1.heap.size + 1) gd mn ms (.slice none 0 0) 0 [] [] [] w1.heap.size 0 [] 0 rm 0 false false ∧
      Below w.heap.size w ((w1.alloc (.map #[] 0)).alloc (.cells #[.pointer (some ⟨gd, 0, none⟩), .map (some w1.heap.size), .int .i64 0, .int .i64 r, .int .i64 0, .bool false, .bool false] 161)) := by
    rintro gd mn ms w1 r rfl hd hbl hl1 hl2
    have hs := hbl.size
    have hz : (w1.alloc (.map #[] 0)).heap.size = w1.heap.size + 1 := World.size_alloc ..
    have hbb : Below w1.heap.size w1 ((w1.alloc (.map #[] 0)).alloc (.cells #[.pointer (some ⟨gd, 0, none⟩), .map (some w1.heap.size), .int .i64 0, .int .i64 rm, .int .i64 0, .bool false, .bool false] 161)) := below_alloc (below_alloc (Below.refl _ _) _) _
    refine ⟨⟨?_, hd.below hbb, ((MV.made w1 Try.prog 3).below (below_alloc (Below.refl _ _) _)).congr (fun q => rfl), ⟨fun p hp => by simp at hp, List.Pairwise.nil⟩, by omega, by omega, by omega, by omega⟩, below_step hbl hbb⟩
    have := blk_new (w1.alloc (.map #[] 0)) (.cells #[.pointer (some ⟨gd, 0, none⟩), .map (some w1.heap.size), .int .i64 0, .int .i64 rm, .int .i64 0, .bool false, .bool false] 161)
    rw [hz] at this
    exact this
  have HK := Aside0.mk key
  clear key
  by_cases hr : room < 0
  all_goals
    go_enter Try.func61, Try.ntmps61
    go_wp2_with (go_at_call 43; refine (dnew_any b _ hb).mono ?_; rintro e w1 ⟨gd, mn, ms, rfl, h1, h2, h3, hd, hbl⟩; have HD := Aside0.mk hd; have HBL := Aside0.mk hbl; have HL1 := Aside0.mk hd.hn.lt; have HL2 := Aside0.mk hd.hs.lt; clear hd hbl h1 h2 h3)
    go_ret
    first
    | (have hfin := HK.out gd mn ms w1 0 (by have := HRM.out; split at this <;> omega) HD.out HBL.out HL1.out HL2.out; first | exact ⟨_, rfl, ⟨_, _, _, _, hfin.1⟩, hfin.2⟩ | exact ⟨_, _, _, _, _, rfl, hfin.1, hfin.2⟩)
    | (have hfin := HK.out gd mn ms w1 room (by have := HRM.out; split at this <;> omega) HD.out HBL.out HL1.out HL2.out; first | exact ⟨_, rfl, ⟨_, _, _, _, hfin.1⟩, hfin.2⟩ | exact ⟨_, _, _, _, _, rfl, hfin.1, hfin.2⟩)
/-- What a change tells; what is left of the fuse; whether the disk has stopped. -/
def chg (fuse : Int) (armed dead : Bool) : Int × Int × Bool := if dead then (26, fuse, true) else if armed then (if fuse = 0 then (26, fuse, true) else (0, fuse - 1, false)) else (0, fuse, false)
theorem change_any (b g gd mn ms : Nat) (vo : Value) (N : Nat) (now safe : List DN) (ops : List DOp) (mf M : Nat) (fl : List FR) (next room fuse : Int) (armed dead : Bool) (w : World) (h : DK w b g gd mn ms vo N now safe ops mf M fl next room fuse armed dead) (h0 : 0 ≤ fuse) (h1 : fuse ≤ 1099511627776) : Calls Try.prog 103 #[.pointer (some ⟨g, 0, none⟩)] w fun e w' => e = .returned (.int .i64 (chg fuse armed dead).1) ∧ DK w' b g gd mn ms vo N now safe ops mf M fl next room (chg fuse armed dead).2.1 armed (chg fuse armed dead).2.2 ∧ (∀ k, k ≠ g → w'.heap[k]? = w.heap[k]?) ∧ Below b w w' := by
  have c4 := (blk_cell h.hb 4).trans (rfl : _ = some (Value.int .i64 fuse))
  have c5 := (blk_cell h.hb 5).trans (rfl : _ = some (Value.bool armed))
  have c6 := (blk_cell h.hb 6).trans (rfl : _ = some (Value.bool dead))
  have f4 := blk_frozen h.hb 4
  have f6 := blk_frozen h.hb 6
  have H := Aside0.mk h
  clear h
  cases dead
  · cases armed
    · go_enter Try.func103, Try.ntmps103
      go_wp2
      go_ret
      exact ⟨rfl, H.out, fun _ _ => rfl, Below.refl _ _⟩
    · by_cases hz : fuse = 0
      · subst hz
        go_enter Try.func103, Try.ntmps103
        go_wp2
        go_ret
        exact ⟨rfl, H.out.own (blk_put H.out.hb 6 _ rfl) (fun k hk => Below.heap_setCell w _ _ k hk), fun k hk => Below.heap_setCell w _ _ k hk, (Below.refl _ _).setCell (p := ⟨g, 6, none⟩) H.out.hg _⟩
      · have hc : chg fuse true false = (0, fuse - 1, false) := by unfold chg; simp [hz]
        have HC := Aside0.mk hc
        clear hc
        go_enter Try.func103, Try.ntmps103
        go_wp2
        go_ret
        rw [HC.out]
        exact ⟨rfl, H.out.own (blk_put H.out.hb 4 _ rfl) (fun k hk => Below.heap_setCell w _ _ k hk), fun k hk => Below.heap_setCell w _ _ k hk, (Below.refl _ _).setCell (p := ⟨g, 4, none⟩) H.out.hg _⟩
  · go_enter Try.func103, Try.ntmps103
    go_wp2
    go_ret
    exact ⟨rfl, H.out, fun _ _ => rfl, Below.refl _ _⟩
/-- Names that have files; files that are no longer than may be. -/
structure KG (now : List DN) (fl : List FR) : Prop where
  id : ∀ p ∈ now, 0 ≤ p.2 ∧ p.2 ≤ 1000000 ∧ ∃ f, fileAt fl p.2 = some f
  len : ∀ f ∈ fl, f.now.length ≤ 1048576 ∧ f.ops.length ≤ 500000
theorem getN_mem : ∀ {l : List DN} {s : ByteArray} {id : Int}, getN l s = some id → (s, id) ∈ l
  | [], s, id, h => by cases h
  | p :: t, s, id, h => by
    rw [getN_cons] at h
    split at h
    · rename_i e
      cases h
      subst e
      exact List.mem_cons_self ..
    · exact List.mem_cons_of_mem _ (getN_mem h)
theorem of_none (b g gd mn ms : Nat) (vo : Value) (N : Nat) (now safe : List DN) (ops : List DOp) (mf M : Nat) (fl : List FR) (next room fuse : Int) (armed dead : Bool) (w : World) (h : DK w b g gd mn ms vo N now safe ops mf M fl next room fuse armed dead) (s : ByteArray) (hs : s.size ≤ maxLen) (hn : getN now s = none) : Calls Try.prog 105 #[.pointer (some ⟨g, 0, none⟩), .string s] w fun e w' => e = .returned (.tuple #[.pointer none, .int .i64 6]) ∧ w = w' := by
  have c0 := (blk_cell h.hb 0).trans (rfl : _ = some (Value.pointer (some ⟨gd, 0, none⟩)))
  have H := Aside0.mk h
  have HN := Aside0.mk hn
  clear h hn
  go_enter Try.func105, Try.ntmps105
  go_wp2_with (go_at_call 59; refine (dget_any b gd mn ms N vo now safe ops s _ H.out.hd hs).mono ?_; rw [HN.out]; rintro e w1 ⟨rfl, rfl⟩)
  go_ret2
  exact ⟨rfl, rfl⟩
theorem of_some (b g gd mn ms : Nat) (vo : Value) (N : Nat) (now safe : List DN) (ops : List DOp) (mf M : Nat) (fl : List FR) (next room fuse : Int) (armed dead : Bool) (w : World) (h : DK w b g gd mn ms vo N now safe ops mf M fl next room fuse armed dead) (s : ByteArray) (hs : s.size ≤ maxLen) (id : Int) (hi0 : 0 ≤ id) (hi1 : id ≤ 1000000) (p : FR) (hn : getN now s = some id) (hp : fileAt fl id = some p) : Calls Try.prog 105 #[.pointer (some ⟨g, 0, none⟩), .string s] w fun e w' => e = .returned (.tuple #[.pointer (some ⟨p.g, 0, none⟩), .int .i64 0]) ∧ w = w' := by
  have c0 := (blk_cell h.hb 0).trans (rfl : _ = some (Value.pointer (some ⟨gd, 0, none⟩)))
  have c1 := (blk_cell h.hb 1).trans (rfl : _ = some (Value.map (some mf)))
  have HK := Aside0.mk (keyOf_int_mk (P := Try.prog) Try.underlying3 (WalkArith.wf_i64 (by omega) : (Lit.int .i64 id).wf = true))
  have HV := Aside0.mk (show (filesF fl (.int .i64 id)).getD (Value.pointer none) = .pointer (some ⟨p.g, 0, none⟩) by rw [filesF_at, hp]; rfl)
  have H := Aside0.mk h
  have HN := Aside0.mk hn
  clear h hn hp
  go_enter Try.func105, Try.ntmps105
  go_wp2_with (first
    | (go_at_call 59; refine (dget_any b gd mn ms N vo now safe ops s _ H.out.hd hs).mono ?_; rw [HN.out]; rintro e w1 ⟨rfl, rfl⟩)
    | (at_lookup; refine mv_lookup rfl _ _ 159 rfl 3 41 lawI Try.underlying159 (zeroPF _) mf M (filesF fl) rfl H.out.hm _ (.int .i64 id) rfl HK.out _ HV.out ?_))
  go_ret2
  exact ⟨rfl, rfl⟩
theorem sectors_some (b g gd mn ms : Nat) (vo : Value) (N : Nat) (now safe : List DN) (ops : List DOp) (mf M : Nat) (fl : List FR) (next room fuse : Int) (armed dead : Bool) (w : World) (h : DK w b g gd mn ms vo N now safe ops mf M fl next room fuse armed dead) (s : ByteArray) (hs : s.size ≤ maxLen) (id : Int) (hi0 : 0 ≤ id) (hi1 : id ≤ 1000000) (p : FR) (hn : getN now s = some id) (hp : fileAt fl id = some p) (hl : p.now.length ≤ 1048576) : Calls Try.prog 109 #[.pointer (some ⟨g, 0, none⟩), .string s] w fun e w' => e = .returned (.int .i64 (cnt (p.now.length : Int))) ∧ w = w' := by
  have c0 := (blk_cell h.hb 0).trans (rfl : _ = some (Value.pointer (some ⟨gd, 0, none⟩)))
  have c1 := (blk_cell h.hb 1).trans (rfl : _ = some (Value.map (some mf)))
  have HK := Aside0.mk (keyOf_int_mk (P := Try.prog) Try.underlying3 (WalkArith.wf_i64 (by omega) : (Lit.int .i64 id).wf = true))
  have HV := Aside0.mk (show (filesF fl (.int .i64 id)).getD (Value.pointer none) = .pointer (some ⟨p.g, 0, none⟩) by rw [filesF_at, hp]; rfl)
  have HF := Aside0.mk (h.hf.hf p (fileAt_mem hp).1)
  have H := Aside0.mk h
  have HN := Aside0.mk hn
  clear h hn hp
  go_enter Try.func109, Try.ntmps109
  go_wp2_with (first
    | (go_at_call 59; refine (dget_any b gd mn ms N vo now safe ops s _ H.out.hd hs).mono ?_; rw [HN.out]; rintro e w1 ⟨rfl, rfl⟩)
    | (at_lookup; refine mv_lookup rfl _ _ 159 rfl 3 41 lawI Try.underlying159 (zeroPF _) mf M (filesF fl) rfl H.out.hm _ (.int .i64 id) rfl HK.out _ HV.out ?_)
    | (go_at_call 40; refine (flen_any b p.g _ _ _ _ _ _ _ _ HF.out).mono ?_; rintro e w2 ⟨rfl, rfl⟩)
    | (go_at_call 18; refine (count_any _ _ (by omega)).mono ?_; rintro e w3 ⟨rfl, rfl⟩))
  go_ret
  exact ⟨rfl, rfl⟩
end Go.Proofs.Ytpnbjpkdbiiogaa
