/- The disk: how much room is used; whether there is more. -/
import Derived.Test.YtpnbjpkdbiiogaaVkB
namespace Go.Proofs.Ytpnbjpkdbiiogaa
set_option linter.unusedVariables false
open Go.RowKit Go.Maps Go.Proofs.YtpnbjpkdbiiogaaW.PrintWords
attribute [local go_sem] mx2 mn2 mxTwo mnTwo

theorem wrapI {x : Int} (h0 : 0 ≤ x) (h1 : x < 9223372036854775808) : IntKind.i64.wrap x = x := by
  have e : x % 18446744073709551616 = x := by omega
  simp only [IntKind.wrap, IntKind.signed, IntKind.bits]
  have e64 : (2 : Int) ^ 64 = 18446744073709551616 := rfl
  have e63 : (2 : Int) ^ (64 - 1) = 9223372036854775808 := rfl
  simp only [e64, e63, e]
  rw [if_neg (by simp; omega)]
/-- How long a file is. -/
def lenA (fl : List FR) (id : Int) : Int := ((fileAt fl id).map (fun f => (f.now.length : Int))).getD 0
def usedF (fl : List FR) (l : List DN) : Int := l.foldl (fun n p => n + cnt (lenA fl p.2)) 0
theorem usedF_snoc (fl : List FR) (l : List DN) (p : DN) : usedF fl (l ++ [p]) = usedF fl l + cnt (lenA fl p.2) := by unfold usedF; rw [List.foldl_append]; rfl
theorem lenA_some {fl : List FR} {id : Int} {p : FR} (h : fileAt fl id = some p) : lenA fl id = p.now.length := by unfold lenA; rw [h]; rfl
theorem cnt_bd {n : Int} (h : n ≤ 1048576) : 0 ≤ cnt n ∧ cnt n ≤ 16384 := by
  unfold cnt
  split
  · omega
  · omega
theorem lenA_le {now : List DN} {fl : List FR} (h : KG now fl) (id : Int) : lenA fl id ≤ 1048576 := by
  unfold lenA
  cases e : fileAt fl id with
  | none => simp
  | some f =>
    have := (h.len f (fileAt_mem e).1).1
    simp only [Option.map_some, Option.getD_some]
    omega
theorem usedF_bd {now : List DN} {fl : List FR} (h : KG now fl) : ∀ (l : List DN) (n : Int), 0 ≤ n → 0 ≤ l.foldl (fun n p => n + cnt (lenA fl p.2)) n ∧ l.foldl (fun n p => n + cnt (lenA fl p.2)) n ≤ n + 16384 * (l.length : Int)
  | [], n, hn => by simp [hn]
  | p :: t, n, hn => by
    have hc := cnt_bd (lenA_le h p.2)
    have := usedF_bd h t (n + cnt (lenA fl p.2)) (by omega)
    rw [List.foldl_cons]
    simp only [List.length_cons]
    push_cast
    omega
theorem getN_of_mem : ∀ {l : List DN}, Rising l → ∀ {p : DN}, p ∈ l → getN l p.1 = some p.2
  | [], _, p, h => by simp at h
  | q :: t, hr, p, h => by
    obtain ⟨h1, h2⟩ := rising_cons.1 hr
    rw [getN_cons]
    rcases List.mem_cons.1 h with rfl | h
    · rw [if_pos rfl]
    · have hne : q.1 ≠ p.1 := fun e => by
        have := h1 p h
        rw [e] at this
        exact List.lt_irrefl _ this
      rw [if_neg hne]
      exact getN_of_mem h2 h
set_option maxHeartbeats 1000000 in
set_option maxRecDepth 100000 in
theorem used_any (b g gd mn ms : Nat) (vo : Value) (N : Nat) (now safe : List DN) (ops : List DOp) (mf M : Nat) (fl : List FR) (next room fuse : Int) (armed dead : Bool) (w : World) (h : DK w b g gd mn ms vo N now safe ops mf M fl next room fuse armed dead) (hk : KG now fl) (hr : Rising now) (hN : N ≤ 1000000) (hln : now.length ≤ 100000) (hsz : ∀ p ∈ now, p.1.size ≤ maxLen) : Calls Try.prog 83 #[.pointer (some ⟨g, 0, none⟩)] w fun e w' => e = .returned (.int .i64 (usedF fl now)) ∧ Below w.heap.size w w' := by
  have c0 := (blk_cell h.hb 0).trans (rfl : _ = some (Value.pointer (some ⟨gd, 0, none⟩)))
  have H := Aside0.mk h
  have HK := Aside0.mk hk
  have HR := Aside0.mk hr
  have HS := Aside0.mk hsz
  clear h hk hr hsz
  go_enter Try.func83, Try.ntmps83
  go_wp2_with (go_at_call 50; refine (dnames_any b gd mn ms N vo now safe ops _ H.out.hd HR.out hN).mono ?_; rintro e w1 ⟨v, rfl, hv, hb⟩; obtain ⟨A, c, rfl⟩ := Kd.R_slice hv; rw [List.length_map] at hv ⊢; have HV := Aside0.mk hv; have HB := Aside0.mk hb; clear hv hb)
  go_loopg [3, 14] now.length (fun gk v3 v14 wr => ∃ i : Nat, v3 = .int .i64 (usedF fl (now.take i)) ∧ v14 = .int .i64 (i : Nat) ∧ i ≤ now.length ∧ Aside0 (gk = now.length - i) ∧ Aside0 (Below w1.heap.size w1 wr))
  case atStart => exact ⟨0, rfl, rfl, Nat.zero_le _, ⟨rfl⟩, ⟨Below.refl _ _⟩⟩
  case round =>
    obtain ⟨i, rfl, rfl, hi, hg, HW⟩ := hrel
    by_cases hlt : i < now.length
    · obtain ⟨p, hp⟩ : ∃ p, p = now.getD i zDN := ⟨_, rfl⟩
      have hpm : p ∈ now := by
        rw [hp, List.getD_eq_getElem?_getD, List.getElem?_eq_getElem hlt]
        exact List.getElem_mem _
      have hT : now.take (i + 1) = now.take i ++ [p] := by
        rw [hp, List.take_add_one, List.getElem?_eq_getElem hlt, List.getD_eq_getElem?_getD, List.getElem?_eq_getElem hlt]
        rfl
      obtain ⟨hid0, hid1, f, hf⟩ := HK.out.id p hpm
      have HN := Aside0.mk (getN_of_mem HR.out hpm)
      have HL := Aside0.mk (HK.out.len f (fileAt_mem hf).1).1
      have HU := Aside0.mk (show usedF fl (now.take (i + 1)) = usedF fl (now.take i) + cnt (f.now.length : Int) by rw [hT, usedF_snoc, lenA_some hf])
      have hu : 0 ≤ usedF fl (now.take i) ∧ usedF fl (now.take i) ≤ 0 + 16384 * ((now.take i).length : Int) := usedF_bd HK.out (now.take i) 0 (Int.le_refl _)
      rw [List.length_take, Nat.min_eq_left (by omega)] at hu
      have hcb := cnt_bd (n := (f.now.length : Int)) (by have := HL.out; omega)
      have hs := HS.out p hpm
      obtain ⟨ad, rfl, sy⟩ := Kd.at_string (Kd.C_below (Kd.R_reads' HV.out).2.2 HW.out) (i : Int) (by omega) (by rw [List.length_map]; omega)
      simp only [Int.toNat_natCast] at sy
      rw [show rdOf ByteArray.empty (now.map (·.1)) (i : Int) = p.1 by unfold rdOf; rw [Int.toNat_natCast, hp]; simp [List.getD_eq_getElem?_getD, List.getElem?_eq_getElem hlt]] at sy
      have HF := Aside0.mk hf
      have HS2 := Aside0.mk hs
      obtain ⟨u, hu0⟩ : ∃ u, u = usedF fl (now.take i) := ⟨_, rfl⟩
      obtain ⟨cf, hcf⟩ : ∃ cf, cf = cnt (f.now.length : Int) := ⟨_, rfl⟩
      have hub : 0 ≤ u ∧ u ≤ 16384 * (i : Int) := by rw [hu0]; exact ⟨hu.1, by have := hu.2; omega⟩
      obtain ⟨hu1, hu2⟩ := hub
      rw [← hcf] at HU hcb
      rw [← hu0] at HU ⊢
      obtain ⟨hc1, hc2⟩ := hcb
      have HCF := Aside0.mk hcf
      clear hp hpm hT hf hu hs hu0 hcf
      go_wp2_with (go_at_call 109; refine (sectors_some b g gd mn ms vo N now safe ops mf M fl next room fuse armed dead _ ((H.out.below HB.out).below HW.out) p.1 HS2.out p.2 hid0 hid1 f HN.out HF.out HL.out).mono ?_; rw [← HCF.out]; rintro e w2 ⟨rfl, rfl⟩)
      go_roundg (now.length - (i + 1))
      case measure => have := hg.out; omega
      case rel => exact ⟨i + 1, by rw [HU.out], by go_num, hlt, ⟨rfl⟩, HW⟩
    · obtain rfl : i = now.length := by omega
      rw [List.take_length]
      go_wp2_with fail
      go_ret
      exact ⟨rfl, below_step HB.out HW.out⟩
/-- Whether there is room for a file of a size, in the place of one. -/
def hasF (fl : List FR) (now : List DN) (room : Int) (len size : Int) : Bool := decide (cnt size - cnt len ≤ 0) || decide (usedF fl now + (cnt size - cnt len) ≤ room)
set_option maxHeartbeats 1000000 in
set_option maxRecDepth 100000 in
theorem has_any (b g gd mn ms : Nat) (vo : Value) (N : Nat) (now safe : List DN) (ops : List DOp) (mf M : Nat) (fl : List FR) (next room fuse : Int) (armed dead : Bool) (w : World) (h : DK w b g gd mn ms vo N now safe ops mf M fl next room fuse armed dead) (hk : KG now fl) (hr : Rising now) (hN : N ≤ 1000000) (hln : now.length ≤ 100000) (hsz : ∀ p ∈ now, p.1.size ≤ maxLen) (p : FR) (hp : p ∈ fl) (size : Int) (hs0 : size ≤ 2097152) (hr0 : 0 ≤ room) : Calls Try.prog 106 #[.pointer (some ⟨g, 0, none⟩), .pointer (some ⟨p.g, 0, none⟩), .int .i64 size] w fun e w' => e = .returned (.bool (hasF fl now room p.now.length size)) ∧ Below w.heap.size w w' := by
  have s3 := (blk_cell h.hb 3).trans (rfl : _ = some (Value.int .i64 room))
  have hl := (hk.len p hp).1
  have hcs : 0 ≤ cnt size ∧ cnt size ≤ 32768 := by unfold cnt; split <;> omega
  have hcl := cnt_bd (n := (p.now.length : Int)) (by omega)
  have hub : 0 ≤ usedF fl now ∧ usedF fl now ≤ 0 + 16384 * (now.length : Int) := usedF_bd hk now 0 (Int.le_refl _)
  obtain ⟨u, hu0⟩ : ∃ u, u = usedF fl now := ⟨_, rfl⟩
  have hub2 : 0 ≤ u ∧ u ≤ 16384 * (now.length : Int) := by rw [hu0]; exact ⟨hub.1, by have := hub.2; omega⟩
  obtain ⟨hu1, hu2⟩ := hub2
  have HU := Aside0.mk (fun W hW => used_any b g gd mn ms vo N now safe ops mf M fl next room fuse armed dead W hW hk hr hN hln hsz)
  rw [← hu0] at HU
  unfold hasF
  rw [← hu0]
  have HF := Aside0.mk (h.hf.hf p hp)
  have H := Aside0.mk h
  obtain ⟨cs, hcs0⟩ : ∃ c, c = cnt size := ⟨_, rfl⟩
  obtain ⟨cl, hcl0⟩ : ∃ c, c = cnt (p.now.length : Int) := ⟨_, rfl⟩
  rw [← hcs0] at hcs ⊢
  rw [← hcl0] at hcl ⊢
  have HCS := Aside0.mk hcs0
  have HCL := Aside0.mk hcl0
  obtain ⟨q1, q2⟩ := hcs
  obtain ⟨q3, q4⟩ := hcl
  clear h hk hr hsz hub hu0 hcs0 hcl0
  by_cases hm : cs - cl ≤ 0
  · have hd := decide_eq_true hm
    go_enter Try.func106, Try.ntmps106
    go_wp2_with (first
      | (go_at_call 40; refine (flen_any b p.g _ _ _ _ _ _ _ _ HF.out).mono ?_; rintro e w2 ⟨rfl, rfl⟩)
      | (go_at_call 18; refine (count_any _ _ (by omega)).mono ?_; (first | rw [← HCS.out] | rw [← HCL.out]); rintro e w3 ⟨rfl, rfl⟩))
    go_quiet (fail)
    go_wp2_with fail
    go_ret
    exact ⟨by simp [hm], pw_below_drewN (Below.refl _ _) _⟩
  · have hd := decide_eq_false hm
    go_enter Try.func106, Try.ntmps106
    go_wp2_with (first
      | (go_at_call 40; refine (flen_any b p.g _ _ _ _ _ _ _ _ HF.out).mono ?_; rintro e w2 ⟨rfl, rfl⟩)
      | (go_at_call 18; refine (count_any _ _ (by omega)).mono ?_; (first | rw [← HCS.out] | rw [← HCL.out]); rintro e w3 ⟨rfl, rfl⟩))
    go_region_held3 (fun w' => w'.cell? ⟨g, 3, none⟩ = some (.int .i64 room)) (first | with_reducible exact s3 | exact s3) (first | (go_at_call 83; refine (HU.out _ (H.out.below (below_drew1 (Below.refl _ _)))).mono ?_; rintro e w5 ⟨rfl, hb⟩; replace s3 := pw_cell_below hb s3; have HB := Aside0.mk hb; clear hb))
    all_goals
      go_wp2_with fail
      go_ret
      exact ⟨by rw [wrapI (by omega) (by omega), hd, Bool.false_or]; rfl, below_step (below_drew1 (Below.refl _ _)) HB.out⟩
end Go.Proofs.Ytpnbjpkdbiiogaa
