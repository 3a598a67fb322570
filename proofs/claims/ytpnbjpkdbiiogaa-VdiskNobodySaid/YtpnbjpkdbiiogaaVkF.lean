/- No disk; the example. -/
import Derived.Test.YtpnbjpkdbiiogaaVkE
import Derived.Test.YtpnbjpkdbiiogaaDiL
import Derived.Test.YtpnbjpkdbiiogaaOpen
namespace Go.Proofs.Ytpnbjpkdbiiogaa
set_option linter.unusedVariables false
open Go.RowKit Go.Maps Go.Proofs.YtpnbjpkdbiiogaaW.PrintWords
attribute [local go_sem] mx2 mn2 mxTwo mnTwo

theorem change_nil (w : World) : Calls Try.prog 103 #[.pointer none] w fun e w' => e = .returned (.int .i64 3) ∧ w = w' := by
  go_enter Try.func103, Try.ntmps103
  go_wp2
  go_ret
  exact ⟨rfl, rfl⟩
theorem knil_create (s : ByteArray) (w : World) : Calls Try.prog 62 #[.pointer none, .string s] w fun e w' => e = .returned (.int .i64 3) ∧ w = w' := by
  go_enter Try.func62, Try.ntmps62
  go_wp2_with (go_at_call 103; refine (change_nil _).mono ?_; rintro e w1 ⟨rfl, rfl⟩)
  go_ret
  exact ⟨rfl, rfl⟩
theorem knil_write (s : ByteArray) (k : Int) (A : Option Addr) (n c : Nat) (w : World) : Calls Try.prog 68 #[.pointer none, .string s, .int .i64 k, .slice A n c] w fun e w' => e = .returned (.int .i64 3) ∧ w = w' := by
  go_enter Try.func68, Try.ntmps68
  go_wp2_with (go_at_call 103; refine (change_nil _).mono ?_; rintro e w1 ⟨rfl, rfl⟩)
  go_ret
  exact ⟨rfl, rfl⟩
theorem knil_trunc (s : ByteArray) (k : Int) (w : World) : Calls Try.prog 77 #[.pointer none, .string s, .int .i64 k] w fun e w' => e = .returned (.int .i64 3) ∧ w = w' := by
  go_enter Try.func77, Try.ntmps77
  go_wp2_with (go_at_call 103; refine (change_nil _).mono ?_; rintro e w1 ⟨rfl, rfl⟩)
  go_ret
  exact ⟨rfl, rfl⟩
theorem knil_sync (s : ByteArray) (w : World) : Calls Try.prog 78 #[.pointer none, .string s] w fun e w' => e = .returned (.int .i64 3) ∧ w = w' := by
  go_enter Try.func78, Try.ntmps78
  go_wp2_with (go_at_call 103; refine (change_nil _).mono ?_; rintro e w1 ⟨rfl, rfl⟩)
  go_ret
  exact ⟨rfl, rfl⟩
theorem knil_syncdir (w : World) : Calls Try.prog 79 #[.pointer none] w fun e w' => e = .returned (.int .i64 3) ∧ w = w' := by
  go_enter Try.func79, Try.ntmps79
  go_wp2_with (go_at_call 103; refine (change_nil _).mono ?_; rintro e w1 ⟨rfl, rfl⟩)
  go_ret
  exact ⟨rfl, rfl⟩
theorem knil_rename (s t : ByteArray) (w : World) : Calls Try.prog 80 #[.pointer none, .string s, .string t] w fun e w' => e = .returned (.int .i64 3) ∧ w = w' := by
  go_enter Try.func80, Try.ntmps80
  go_wp2_with (go_at_call 103; refine (change_nil _).mono ?_; rintro e w1 ⟨rfl, rfl⟩)
  go_ret
  exact ⟨rfl, rfl⟩
theorem knil_unlink (s : ByteArray) (w : World) : Calls Try.prog 81 #[.pointer none, .string s] w fun e w' => e = .returned (.int .i64 3) ∧ w = w' := by
  go_enter Try.func81, Try.ntmps81
  go_wp2_with (go_at_call 103; refine (change_nil _).mono ?_; rintro e w1 ⟨rfl, rfl⟩)
  go_ret
  exact ⟨rfl, rfl⟩
theorem knil_size (s : ByteArray) (w : World) : Calls Try.prog 76 #[.pointer none, .string s] w fun e w' => e = .returned (.tuple #[.int .i64 0, .int .i64 3]) ∧ w = w' := by
  go_enter Try.func76, Try.ntmps76
  go_wp2
  go_ret2
  exact ⟨rfl, rfl⟩
theorem knil_read (s : ByteArray) (k n : Int) (w : World) : Calls Try.prog 70 #[.pointer none, .string s, .int .i64 k, .int .i64 n] w fun e w' => e = .returned (.tuple #[.slice none 0 0, .int .i64 3]) ∧ w = w' := by
  go_enter Try.func70, Try.ntmps70
  go_wp2
  go_ret2
  exact ⟨rfl, rfl⟩
theorem knil_arm (k : Int) (w : World) : Calls Try.prog 75 #[.pointer none, .int .i64 k] w fun e w' => e = .returned (.tuple #[]) ∧ w = w' := by
  go_enter Try.func75, Try.ntmps75
  go_wp2
  first | go_end0 | ((try simp only [Exit.inBlock, Exit.then]); refine bodyPost_ret (results_none rfl _ _ _) rfl ?_)
  exact ⟨rfl, rfl⟩
theorem knil_dead (w : World) : Calls Try.prog 82 #[.pointer none] w fun e w' => e = .returned (.bool true) ∧ w = w' := by
  go_enter Try.func82, Try.ntmps82
  go_wp2
  go_ret
  exact ⟨rfl, rfl⟩
theorem knil_used (w : World) : Calls Try.prog 83 #[.pointer none] w fun e w' => e = .returned (.int .i64 0) ∧ w = w' := by
  go_enter Try.func83, Try.ntmps83
  go_wp2
  go_ret
  exact ⟨rfl, rfl⟩
theorem knil_loose (w : World) : Calls Try.prog 84 #[.pointer none] w fun e w' => e = .returned (.int .i64 0) ∧ w = w' := by
  go_enter Try.func84, Try.ntmps84
  go_wp2
  go_ret
  exact ⟨rfl, rfl⟩
theorem knil_crash (A : Option Addr) (n c : Nat) (w : World) : Calls Try.prog 85 #[.pointer none, .slice A n c] w fun e w' => e = .returned (.pointer none) ∧ Below w.heap.size w w' := by
  go_enter Try.func85, Try.ntmps85
  go_wp2
  go_ret
  exact ⟨rfl, by first | exact Below.refl _ _ | exact below_alloc (Below.refl _ _) _ | exact below_alloc (below_alloc (Below.refl _ _) _) _⟩
theorem C_blk {W : World} {q : Nat} {cs : Array Value} {t : TypeId} (hb : W.heap[q]? = some (.cells cs t (0, 0))) (xs : List Int) (hcs : cs.toList = xs.map (Value.int .u8)) (hm : xs.length ≤ 9223372036854775807) : Kd.C (Kd.int .u8) W (some ⟨q, 0, none⟩) xs.length xs := by
  refine ⟨rfl, hm, fun _ => ⟨_, rfl, fun j p hp => ⟨[.int .u8 p], rfl, rfl, fun i u hu => ?_⟩⟩⟩
  match i, hu with
  | 0, hu =>
    cases hu
    show W.cell? ((⟨q, 0, none⟩ : Addr).add (j * 1 + 0)) = some (.int .u8 p)
    rw [add_plain, blk_cell hb, ← Array.getElem?_toList, hcs, List.getElem?_map, Nat.mul_one, Nat.add_zero, hp]
    rfl
def nA : ByteArray := ⟨#[65]⟩
def fA (g : Nat) (vn vo : Value) (now : List Int) (ops : List FOp) : FR := ⟨0, g, vn, .slice none 0 0, vo, now, [], ops⟩
theorem rightA : doCode [] ⟨0, nA, ⟨#[]⟩, 0⟩ = 0 := by decide +kernel
theorem didA : didL [] ⟨0, nA, ⟨#[]⟩, 0⟩ = [(nA, 0)] := by decide +kernel
theorem getA : getN [(nA, 0)] nA = some 0 := by decide +kernel
theorem risA : Rising [(nA, 0)] := by unfold Rising nmL; simp
theorem fileA (p : FR) (h : p.id = 0) : fileAt [p] 0 = some p := by unfold fileAt; simp [h]
theorem kgA (p : FR) (h : p.id = 0) (hl : p.now.length ≤ 1048576) (ho : p.ops.length ≤ 500000) : KG [(nA, 0)] [p] :=
  ⟨fun q hq => by rw [List.mem_singleton] at hq; subst hq; exact ⟨by decide, by decide, p, fileA p h⟩, fun f hf => by rw [List.mem_singleton] at hf; subst hf; exact ⟨hl, ho⟩⟩
theorem usedA (p : FR) (h : p.id = 0) : usedF [p] [(nA, 0)] = cnt (p.now.length : Int) := by
  unfold usedF
  simp [lenA_some (fileA p h)]
theorem wA : (writeF ([], []) 0 (List.replicate 64 0)).1.length = 64 ∧ (writeF ([], []) 0 (List.replicate 64 0)).2.length = 2 := by decide +kernel
theorem zero_kept (w2 : World) (g g1 : Nat) (hg : g < w2.heap.size) (hg1 : g1 < w2.heap.size) : ∀ W', (∀ j, j < (w2.alloc (.cells (madeCells #[.int .u8 0] 64) 5)).heap.size → j ≠ g → j ≠ g1 → some j ≠ (Value.slice none 0 0).ownBlock → W'.heap[j]? = (w2.alloc (.cells (madeCells #[.int .u8 0] 64) 5)).heap[j]?) → ∀ {b : Nat} {W : World}, Below b W W' → Kd.C (Kd.int .u8) W' (some ⟨w2.heap.size, 0, none⟩) 64 (List.replicate 64 0) := by
  intro W' hk b W _
  have hz : (w2.alloc (.cells (madeCells #[.int .u8 0] 64) 5)).heap.size = w2.heap.size + 1 := World.size_alloc ..
  have hb := (hk w2.heap.size (by omega) (by omega) (by omega) (by simp [Value.ownBlock])).trans (blk_new w2 _)
  exact C_blk hb (List.replicate 64 0) (by rw [toList_madeCells_one]; rfl) (by simp)
theorem setA (p : FR) (vn vs vo : Value) (now safe : List Int) (ops : List FOp) : setFile [p] ⟨p.id, p.g, vn, vs, vo, now, safe, ops⟩ = [⟨p.id, p.g, vn, vs, vo, now, safe, ops⟩] := by unfold setFile; simp
theorem hasA (g1 : Nat) (vn vo : Value) (now : List Int) (ops : List FOp) (n : Int) (hn : (now.length : Int) = n) (h0 : n = 0) : hasF [fA g1 vn vo now ops] [(nA, 0)] 1 ((fA g1 vn vo now ops).now.length) 64 = true := by
  subst h0
  unfold hasF
  rw [usedA _ rfl]
  show (decide (cnt 64 - cnt (now.length : Int) ≤ 0) || decide (cnt (now.length : Int) + (cnt 64 - cnt (now.length : Int)) ≤ 1)) = true
  rw [hn]
  decide
theorem hasN (g1 : Nat) (vn vo : Value) (now : List Int) (ops : List FOp) (hn : now.length = 64) : hasF [fA g1 vn vo now ops] [(nA, 0)] 1 ((fA g1 vn vo now ops).now.length) 65 = false := by
  unfold hasF
  rw [usedA _ rfl]
  show (decide (cnt 65 - cnt (now.length : Int) ≤ 0) || decide (cnt (now.length : Int) + (cnt 65 - cnt (now.length : Int)) ≤ 1)) = false
  rw [hn]
  decide
set_option maxHeartbeats 1000000 in
set_option maxRecDepth 100000 in
theorem awake08_any (w : World) : Calls Try.prog 74 #[] w fun e w' => e = .returned (.bool true) ∧ Below w.heap.size w w' := by
  have hmk : ∀ w : World, (Instr.makeSlice 22 (.int .i64 64) (.int .i64 64)).run Try.prog w = .ok (.slice (some ⟨w.heap.size, 0, none⟩) 64 64) (w.alloc (.cells (madeCells #[.int .u8 0] 64) 5)) := fun w => run_make_row' (P := Try.prog) 22 5 (.int .u8 0) 1 Try.underlying22 infoU8 rfl .i64 .i64 64 (by omega) (by omega) w
  have T1 := Aside0.mk trivial
  go_enter Try.func74, Try.ntmps74
  go_wp2_with (first
    | (go_at_call 61; refine (knew_any w.heap.size 1 _ (Nat.le_refl _)).mono ?_; rintro e w1 ⟨g, gd, mn, ms, mf, rfl, hk, hb⟩; have H := Aside0.mk (show DK w1 w.heap.size g gd mn ms (.slice none 0 0) 0 [] [] [] mf 0 [] 0 1 0 false false from hk); have HB := Aside0.mk hb; clear hk hb)
    | (go_at_call 62; refine (kcreate_ok w.heap.size g gd mn ms _ 0 [] [] [] mf 0 [] 0 1 0 false false _ H.out (by decide) (by decide) (by decide) (by decide) (by decide) (by decide) (by decide) (fun p hp => by simp at hp) nA ⟨#[]⟩ (by decide) rfl rightA).mono ?_; rintro e w2 ⟨rfl, vo1, g1, hk, hl⟩; rw [didA] at hk; have hbn := HB.out.trans hl; clear H HB; have H := Aside0.mk (show DK w2 w.heap.size g gd mn ms vo1 1 [(nA, 0)] [] [nrm ⟨0, nA, ⟨#[]⟩, 0⟩] mf 1 [fA g1 (.slice none 0 0) (.slice none 0 0) [] []] 1 1 0 false false from hk); have HB := Aside0.mk hbn; clear hk hl hbn)
    | (go_at_call 68; have gate := T1.out; refine (kwrite_ok w.heap.size g gd mn ms vo1 1 [(nA, 0)] [] [nrm ⟨0, nA, ⟨#[]⟩, 0⟩] mf 1 [fA g1 (.slice none 0 0) (.slice none 0 0) [] []] 1 1 0 false false _ (H.out.below (below_alloc (Below.refl _ _) _)) (kgA _ rfl (by simp [fA]) (by simp [fA])) risA (by decide) (by decide) (fun p hp => by rw [List.mem_singleton] at hp; subst hp; decide) (by decide) (by decide) (by decide) rfl nA (by decide) 0 (fA g1 (.slice none 0 0) (.slice none 0 0) [] []) getA (fileA _ rfl) 0 (some ⟨w2.heap.size, 0, none⟩) 64 64 (by decide) (by decide) (List.replicate 64 0) (by simp) (by decide) (fun W' h1 h2 => zero_kept w2 g g1 (blk_lt H.out.hb) (blk_lt (H.out.hf.hf _ (List.mem_singleton_self _)).hb) W' h1 h2) (.inr (hasA g1 _ _ _ _ 0 rfl rfl))).mono ?_; rintro e w3 ⟨rfl, vn', vo', hk, _, hl⟩; rw [setA] at hk; have hbn := (below_alloc HB.out _).trans hl; clear H HB T1 gate; have H := Aside0.mk (show DK w3 w.heap.size g gd mn ms vo1 1 [(nA, 0)] [] [nrm ⟨0, nA, ⟨#[]⟩, 0⟩] mf 1 [fA g1 vn' vo' (writeF ([], []) 0 (List.replicate 64 0)).1 (writeF ([], []) 0 (List.replicate 64 0)).2] 1 1 0 false false from hk); have HB := Aside0.mk hbn; clear hk hl hbn)
    | (go_at_call 68; refine (kwrite_space w.heap.size g gd mn ms vo1 1 [(nA, 0)] [] [nrm ⟨0, nA, ⟨#[]⟩, 0⟩] mf 1 [fA g1 vn' vo' (writeF ([], []) 0 (List.replicate 64 0)).1 (writeF ([], []) 0 (List.replicate 64 0)).2] 1 1 0 false false _ (H.out.below (below_alloc (Below.refl _ _) _)) (kgA _ rfl (by show (writeF _ _ _).1.length ≤ _; rw [wA.1]; decide) (by show (writeF _ _ _).2.length ≤ _; rw [wA.2]; decide)) risA (by decide) (by decide) (fun p hp => by rw [List.mem_singleton] at hp; subst hp; decide) (by decide) (by decide) (by decide) rfl nA (by decide) 0 (fA g1 vn' vo' (writeF ([], []) 0 (List.replicate 64 0)).1 (writeF ([], []) 0 (List.replicate 64 0)).2) getA (fileA _ rfl) 64 _ 1 1 (by decide) (by decide) (by decide) (hasN g1 _ _ _ _ wA.1)).mono ?_; rintro e w4 ⟨rfl, hk, hl⟩; have hbn := (below_alloc HB.out _).trans hl; clear HB; have HB := Aside0.mk hbn; clear hk hl hbn))
  go_ret
  exact ⟨rfl, HB.out⟩
end Go.Proofs.Ytpnbjpkdbiiogaa
