/- Files: shows; the chapter's example. -/
import Derived.Test.YtpnbjpkdbiiogaaTd
import Derived.Test.YtpnbjpkdbiiogaaProg
import Derived.Maps.OwnSet
import Derived.Maps.RangeWalk
import Derived.WalkKit
import Derived.Sort.Walk0
import Derived.WalkLawsBesides
namespace Go.Proofs.Ytpnbjpkdbiiogaa
set_option linter.unusedVariables false
open Go.RowKit Go.Proofs.YtpnbjpkdbiiogaaW.PrintWords
attribute [local go_sem] mx2 mn2 mxTwo mnTwo

theorem readL_all (now : List Int) (h : now.length ≤ 1048576) : readL now 0 1048576 = now := by
  unfold readL
  by_cases h0 : now = []
  · subst h0; rfl
  · have : 0 < now.length := List.length_pos_iff.2 h0
    rw [if_neg (by omega)]
    exact List.take_of_length_le h
set_option maxHeartbeats 2000000 in
set_option maxRecDepth 100000 in
theorem shows_any (b g r : Nat) (vn vs vo rn rs ro : Value) (now safe : List Int) (ops : List FOp) (k n : Int) (w : World) (h : FS w b g r vn vs vo rn rs ro now safe ops) (hnow : now.length ≤ 1048576) :
    Calls Try.prog 34 #[.pointer (some ⟨g, 0, none⟩), .pointer (some ⟨r, 0, none⟩), .int .i64 k, .int .i64 n] w fun e w' => e = .returned (.bool true) ∧ Below w.heap.size w w' := by
  obtain ⟨A1, c1, hrn, _, hC1⟩ := Kd.R_reads h.r.hn
  obtain ⟨A2, c2, hro⟩ := Kd.R_slice h.r.ho
  subst hrn
  subst hro
  have s0 := (blk_cell h.r.hb 0).trans (rfl : _ = some (Value.slice A1 now.length c1))
  have s2 := (blk_cell h.r.hb 2).trans (rfl : _ = some (Value.slice A2 ops.length c2))
  have HS := Aside0.mk h
  have HC1 := Aside0.mk hC1
  have HRD := Aside0.mk (readL_all now hnow)
  have HB := Aside0.mk (Below.refl w.heap.size w)
  have T1 := Aside0.mk trivial
  have T2 := Aside0.mk trivial
  clear h hC1
  go_enter Try.func34, Try.ntmps34
  go_wp2_with fail
  go_region_held3 (fun w' => w'.cell? ⟨r, 0, none⟩ = some (.slice A1 now.length c1) ∧ w'.cell? ⟨r, 2, none⟩ = some (.slice A2 ops.length c2)) (first | with_reducible exact ⟨s0, s2⟩ | exact ⟨s0, s2⟩) (first
    | (go_at_call 40; refine (flen_any b g _ vn vs vo now safe ops _ HS.out.f.drew).mono ?_; rintro e w1 ⟨rfl, rfl⟩)
    | (go_at_call 37; have gate := T1.out; refine (fread_any b g _ vn vs vo now safe ops 0 1048576 _ HS.out.f.drew (by omega)).mono ?_; rw [HRD.out]; rintro e w2 ⟨A3, c3, rfl, hc, hb⟩; replace s0 := pw_cell_below hb s0; replace s2 := pw_cell_below hb s2; have hs := (HS.out.below (below_drew1 (Below.refl _ _))).below hb; have h1 := Kd.C_below (Kd.C_drew HC1.out) hb; have hbn := below_step (below_drew1 HB.out) hb; clear T1 HS HC1 HB; have HS := Aside0.mk hs; have HC1 := Aside0.mk h1; have HB := Aside0.mk hbn; have HX := Aside0.mk hc; clear gate hs h1 hbn hc hb)
    | (go_at_call 20; have gate := T2.out; refine (same_any A3 A1 _ _ c3 c1 _ _ HX.out HC1.out).mono ?_; rintro e w3 ⟨rfl, rfl⟩; clear T2 HX)
    | (go_at_call 37; refine (fread_any b g _ vn vs vo now safe ops k n _ HS.out.f (by omega)).mono ?_; rintro e w4 ⟨A4, c4, rfl, hc, hb⟩; replace s0 := pw_cell_below hb s0; replace s2 := pw_cell_below hb s2; have hs := HS.out.below hb; have hbn := below_step HB.out hb; clear HS HB HC1; have HS := Aside0.mk hs; have HB := Aside0.mk hbn; have HX := Aside0.mk hc; clear hs hbn hc hb)
    | (go_at_call 91; refine (rread_any b r _ _ _ now safe ops k n _ HS.out.r (by omega)).mono ?_; rintro e w5 ⟨A5, c5, rfl, hc, hb⟩; replace s0 := pw_cell_below hb s0; replace s2 := pw_cell_below hb s2; have hs := HS.out.below hb; have hbn := below_step HB.out hb; have hx := Kd.C_below HX.out hb; clear HS HB HX; have HS := Aside0.mk hs; have HB := Aside0.mk hbn; have HX := Aside0.mk hx; have HY := Aside0.mk hc; clear hs hbn hc hb hx)
    | (go_at_call 20; refine (same_any A4 A5 _ _ c4 c5 _ _ HX.out HY.out).mono ?_; rintro e w6 ⟨rfl, rfl⟩; clear HX HY)
    | (go_at_call 35; refine (fpending_any b g _ vn vs vo now safe ops _ HS.out.f).mono ?_; rintro e w7 ⟨rfl, rfl⟩))
  all_goals
    go_wp2_with fail
    go_ret
    exact ⟨rfl, HB.out⟩
theorem writeF_awake : (writeF ([], []) 63 [1, 2]).2.length = 3 ∧ (writeF ([], []) 63 [1, 2]).1.length = 65 := by decide +kernel
theorem lit_kept (w1 : World) (g : Nat) (hg : g < w1.heap.size) : ∀ W', KeepBut (w1.alloc (.cells #[.int .u8 1, .int .u8 2] 5)) W' g none → Kd.C (Kd.int .u8) W' (some ⟨w1.heap.size, 0, none⟩) 2 [1, 2] := by
  intro W' hk
  exact Kd.C_keep (0 : Int) (C_lit w1 5 .u8 [1, 2] (by decide)) hk (fun ad e _ => by cases e; show w1.heap.size ≠ g; omega)
set_option maxHeartbeats 1000000 in
set_option maxRecDepth 100000 in
theorem awake06_any (w : World) : Calls Try.prog 31 #[] w fun e w' => e = .returned (.bool true) ∧ Below w.heap.size w w' := by
  have HE := Aside0.mk writeF_awake
  go_enter Try.func31, Try.ntmps31
  go_wp2_with (first
    | (go_at_call 30; refine (fnew_any w.heap.size (fun _ => True) w (Nat.le_refl _)).mono ?_; rintro e w1 ⟨rfl, hf, hb⟩; have HF := Aside0.mk hf; have HB := Aside0.mk hb; have HC := Aside0.mk (lit_kept w1 w.heap.size (blk_lt hf.hb)); clear hf hb)
    | (go_at_call 41; refine (fwrite_any w.heap.size w.heap.size (fun _ => True) _ _ _ [] [] [] 63 (some ⟨w1.heap.size, 0, none⟩) 2 2 [1, 2] _ (HF.out.below (below_alloc (Below.refl _ _) _)) (fun _ _ => trivial) rfl (Nat.le_refl _) (fun W' hk' _ => HC.out W' hk') (by omega) (by omega) (by simp) (by simp)).mono ?_; rintro e w2 ⟨rfl, vn1, vo1, hf, _, _, hl⟩; have hbn := (HB.out.trans (below_alloc (Below.refl _ _) _ |>.mono HB.out.size)).trans hl; clear HF HB; have HF := Aside0.mk hf; have HB := Aside0.mk hbn; clear hf hl hbn)
    | (go_at_call 35; refine (fpending_any _ _ _ _ _ _ _ _ _ _ HF.out).mono ?_; rw [HE.out.1]; rintro e w3 ⟨rfl, rfl⟩)
    | (go_at_call 40; refine (flen_any _ _ _ _ _ _ _ _ _ _ HF.out).mono ?_; rw [HE.out.2]; rintro e w4 ⟨rfl, rfl⟩))
  go_ret
  exact ⟨rfl, HB.out⟩
end Go.Proofs.Ytpnbjpkdbiiogaa
/- A row of pieces, lists alone: a piece told, bytes read, pieces forgotten. -/
namespace Go.Proofs.Ytpnbjpkdbiiogaa
set_option linter.unusedVariables false
open Go.RowKit

/-- A piece that is kept. -/
structure PcV where
  nm : ByteArray
  n : Int
  b : List Int
def zPv : PcV := ⟨⟨#[]⟩, 0, []⟩
/-- The row, and how often a piece was kept, and how often it wasn't. -/
structure WSt where
  L : List PcV
  hits : Int
  misses : Int
def isP (nm : ByteArray) (k : Int) (p : PcV) : Bool := decide (p.nm = nm) && decide (p.n = k)
theorem isP_true {nm : ByteArray} {k : Int} {p : PcV} (h : isP nm k p = true) : p.nm = nm ∧ p.n = k := by
  unfold isP at h
  rw [Bool.and_eq_true] at h
  exact ⟨of_decide_eq_true h.1, of_decide_eq_true h.2⟩
theorem isP_false {nm : ByteArray} {k : Int} {p : PcV} (h : isP nm k p = false) : ¬ (p.nm = nm ∧ p.n = k) := fun ⟨h1, h2⟩ => by
  unfold isP at h
  rw [decide_eq_true h1, decide_eq_true h2] at h
  cases h
def getS (most : Nat) (now : List Int) (nm : ByteArray) (s : WSt) (k : Int) : WSt × List Int :=
  match s.L.findIdx? (isP nm k) with
  | some i => (⟨s.L.getD i zPv :: s.L.eraseIdx i, s.hits + 1, s.misses⟩, (s.L.getD i zPv).b)
  | none => (⟨((⟨nm, k, readL now (256 * k) 256⟩ : PcV) :: s.L).take most, s.hits, s.misses + 1⟩, readL now (256 * k) 256)
def readS (most : Nat) (now : List Int) (nm : ByteArray) : Nat → WSt → Nat → Nat → WSt × List Int
  | 0, s, _, _ => (s, [])
  | f + 1, s, at_, n => if n = 0 then (s, []) else
      let r := getS most now nm s ((at_ / 256 : Nat) : Int)
      if r.2.length ≤ at_ % 256 then (r.1, []) else
        let m := min (r.2.length - at_ % 256) n
        if r.2.length < 256 then (r.1, (r.2.drop (at_ % 256)).take m) else
          let q := readS most now nm f r.1 (at_ + m) (n - m)
          (q.1, (r.2.drop (at_ % 256)).take m ++ q.2)
section
variable (most : Nat) (now : List Int) (nm : ByteArray)
theorem readS_fuel : ∀ (f g : Nat) (s : WSt) (at_ n : Nat), n ≤ f → n ≤ g → readS most now nm f s at_ n = readS most now nm g s at_ n
  | 0, 0, _, _, _, _, _ => rfl
  | 0, g + 1, s, a, n, hf, _ => by
    have : n = 0 := by omega
    subst this
    rfl
  | f + 1, 0, s, a, n, _, hg => by
    have : n = 0 := by omega
    subst this
    rfl
  | f + 1, g + 1, s, a, n, hf, hg => by
    unfold readS
    by_cases h0 : n = 0
    · rw [if_pos h0, if_pos h0]
    · rw [if_neg h0, if_neg h0]
      dsimp only
      split
      · rfl
      · split
        · rfl
        · rename_i h1 h2
          rw [readS_fuel f g _ _ _ (by omega) (by omega)]
/-- Bytes read. -/
def readN (s : WSt) (at_ n : Nat) : WSt × List Int := readS most now nm n s at_ n
/-- Bytes read, out of a piece at first. -/
def midN (s : WSt) (b : List Int) (at_ n : Nat) : WSt × List Int :=
  if b.length < 256 then (s, (b.drop (at_ % 256)).take (min (b.length - at_ % 256) n)) else
    ((readN most now nm s (at_ + min (b.length - at_ % 256) n) (n - min (b.length - at_ % 256) n)).1, (b.drop (at_ % 256)).take (min (b.length - at_ % 256) n) ++ (readN most now nm s (at_ + min (b.length - at_ % 256) n) (n - min (b.length - at_ % 256) n)).2)
theorem readN_zero (s : WSt) (at_ : Nat) : readN most now nm s at_ 0 = (s, []) := rfl
theorem readN_step (s : WSt) (at_ n : Nat) (hn : 0 < n) : readN most now nm s at_ n = if (getS most now nm s ((at_ / 256 : Nat) : Int)).2.length ≤ at_ % 256 then ((getS most now nm s ((at_ / 256 : Nat) : Int)).1, []) else midN most now nm (getS most now nm s ((at_ / 256 : Nat) : Int)).1 (getS most now nm s ((at_ / 256 : Nat) : Int)).2 at_ n := by
  obtain ⟨m, rfl⟩ : ∃ m, n = m + 1 := ⟨n - 1, by omega⟩
  unfold readN midN
  rw [readS]
  rw [if_neg (by omega)]
  dsimp only
  split
  · rfl
  · rename_i h1
    split
    · rfl
    · unfold readN
      rw [readS_fuel most now nm m (m + 1 - min ((getS most now nm s ((at_ / 256 : Nat) : Int)).2.length - at_ % 256) (m + 1)) _ _ _ (by omega) (Nat.le_refl _)]
theorem midN_zero (s : WSt) (b : List Int) (at_ : Nat) : midN most now nm s b at_ 0 = (s, []) := by
  unfold midN
  simp [readN_zero]
theorem drop_take_one (b : List Int) (o m : Nat) (ho : o < b.length) (hm : 0 < m) : (b.drop o).take m = b.getD o 0 :: (b.drop (o + 1)).take (m - 1) := by
  rw [List.drop_eq_getElem_cons ho]
  obtain ⟨k, rfl⟩ : ∃ k, m = k + 1 := ⟨m - 1, by omega⟩
  rw [List.take_succ_cons, List.getD_eq_getElem?_getD, List.getElem?_eq_getElem ho]
  rfl
/-- A byte of a piece. -/
theorem midN_more (s : WSt) (b : List Int) (at_ n : Nat) (hn : 0 < n) (ho : at_ % 256 + 1 < b.length) (hb : b.length ≤ 256) : midN most now nm s b at_ n = ((midN most now nm s b (at_ + 1) (n - 1)).1, b.getD (at_ % 256) 0 :: (midN most now nm s b (at_ + 1) (n - 1)).2) := by
  have e : (at_ + 1) % 256 = at_ % 256 + 1 := by omega
  unfold midN
  rw [e, drop_take_one b (at_ % 256) _ (by omega) (by omega)]
  have e1 : min (b.length - at_ % 256) n - 1 = min (b.length - (at_ % 256 + 1)) (n - 1) := by omega
  have e2 : at_ + min (b.length - at_ % 256) n = at_ + 1 + min (b.length - (at_ % 256 + 1)) (n - 1) := by omega
  have e3 : n - min (b.length - at_ % 256) n = n - 1 - min (b.length - (at_ % 256 + 1)) (n - 1) := by omega
  rw [e1, e2, e3]
  split <;> rfl
/-- A piece's last byte. -/
theorem midN_last (s : WSt) (b : List Int) (at_ n : Nat) (hn : 0 < n) (ho : at_ % 256 + 1 = b.length) : midN most now nm s b at_ n = if b.length < 256 then (s, [b.getD (at_ % 256) 0]) else ((readN most now nm s (at_ + 1) (n - 1)).1, b.getD (at_ % 256) 0 :: (readN most now nm s (at_ + 1) (n - 1)).2) := by
  have e1 : min (b.length - at_ % 256) n = 1 := by omega
  unfold midN
  rw [e1, drop_take_one b (at_ % 256) 1 (by omega) (by omega)]
  split
  · rfl
  · rfl
end
/-- What holds of a row. -/
structure OkW (most : Nat) (s : WSt) (G : Nat) : Prop where
  one : 1 ≤ most
  len : s.L.length ≤ most
  cnt : s.L.length ≤ G
  h : 0 ≤ s.hits ∧ s.hits ≤ G
  m : 0 ≤ s.misses ∧ s.misses ≤ G
  key : s.L.Pairwise (fun p q => ¬ (p.nm = q.nm ∧ p.n = q.n))
  ok : ∀ p ∈ s.L, p.nm.size ≤ maxLen ∧ 0 ≤ p.n ∧ p.n ≤ 100000 ∧ p.b.length ≤ 256
theorem OkW.up {most G G' : Nat} {s : WSt} (h : OkW most s G) (hg : G ≤ G') : OkW most s G' :=
  ⟨h.one, h.len, Nat.le_trans h.cnt hg, ⟨h.h.1, by have := h.h.2; omega⟩, ⟨h.m.1, by have := h.m.2; omega⟩, h.key, h.ok⟩
theorem OkW.zero {most : Nat} (h : 1 ≤ most) : OkW most ⟨[], 0, 0⟩ 0 := ⟨h, Nat.zero_le _, Nat.zero_le _, ⟨Int.le_refl _, Int.le_refl _⟩, ⟨Int.le_refl _, Int.le_refl _⟩, List.Pairwise.nil, fun p hp => by simp at hp⟩
theorem readL_len (now : List Int) (k : Int) : (readL now k 256).length ≤ 256 := by
  unfold readL
  split
  · exact Nat.zero_le _
  · rw [List.length_take]
    exact Nat.min_le_left _ _
theorem find_some {L : List PcV} {nm : ByteArray} {k : Int} {i : Nat} (h : L.findIdx? (isP nm k) = some i) : i < L.length ∧ (L.getD i zPv).nm = nm ∧ (L.getD i zPv).n = k ∧ L.getD i zPv ∈ L := by
  obtain ⟨hi, h1, _⟩ := List.findIdx?_eq_some_iff_getElem.1 h
  have e : L.getD i zPv = L[i] := by rw [List.getD_eq_getElem?_getD, List.getElem?_eq_getElem hi]; rfl
  rw [e]
  exact ⟨hi, (isP_true h1).1, (isP_true h1).2, List.getElem_mem _⟩
theorem find_none {L : List PcV} {nm : ByteArray} {k : Int} (h : L.findIdx? (isP nm k) = none) : ∀ p ∈ L, ¬ (p.nm = nm ∧ p.n = k) := fun p hp => isP_false (by
  have := List.findIdx?_eq_none_iff.1 h p hp
  simpa using this)
theorem erase_perm {α : Type} : ∀ (l : List α) (i : Nat) (h : i < l.length), (l[i] :: l.eraseIdx i).Perm l
  | [], i, h => absurd h (Nat.not_lt_zero _)
  | a :: t, 0, _ => List.Perm.refl _
  | a :: t, i + 1, h => (List.Perm.swap a (t[i]'(by simpa using h)) (t.eraseIdx i)).trans ((erase_perm t i (by simpa using h)).cons a)
theorem getS_ok {most G : Nat} {now : List Int} {nm : ByteArray} {s : WSt} {k : Int} (h : OkW most s G) (hnm : nm.size ≤ maxLen) (hk : 0 ≤ k ∧ k ≤ 100000) : OkW most (getS most now nm s k).1 (G + 1) ∧ (getS most now nm s k).2.length ≤ 256 := by
  have h1 := h.one
  have hh := h.h
  have hm := h.m
  have hl := h.len
  have hc := h.cnt
  unfold getS
  cases hf : s.L.findIdx? (isP nm k) with
  | some i =>
    obtain ⟨hi, e1, e2, hmem⟩ := find_some hf
    have hp : s.L.Perm (s.L.getD i zPv :: s.L.eraseIdx i) := by
      have e : s.L.getD i zPv = s.L[i] := by rw [List.getD_eq_getElem?_getD, List.getElem?_eq_getElem hi]; rfl
      rw [e]
      exact (erase_perm s.L i hi).symm
    have hlen : (s.L.getD i zPv :: s.L.eraseIdx i).length = s.L.length := hp.length_eq.symm
    refine ⟨⟨h1, by show (s.L.getD i zPv :: s.L.eraseIdx i).length ≤ _; omega, by show (s.L.getD i zPv :: s.L.eraseIdx i).length ≤ _; omega, ⟨by show 0 ≤ s.hits + 1; omega, by show s.hits + 1 ≤ _; omega⟩, ⟨hm.1, by have := hm.2; show s.misses ≤ _; omega⟩, ?_, ?_⟩, (h.ok _ hmem).2.2.2⟩
    · exact (hp.pairwise_iff (fun {a b} hab => fun ⟨x, y⟩ => hab ⟨x.symm, y.symm⟩)).1 h.key
    · exact fun p hq => h.ok p (hp.mem_iff.2 hq)
  | none =>
    have hno := find_none hf
    have hrl := readL_len now (256 * k)
    refine ⟨⟨h1, by show (List.take _ _).length ≤ _; rw [List.length_take]; omega, by show (List.take _ _).length ≤ _; rw [List.length_take, List.length_cons]; omega, ⟨hh.1, by have := hh.2; show s.hits ≤ _; omega⟩, ⟨by show 0 ≤ s.misses + 1; omega, by show s.misses + 1 ≤ _; omega⟩, ?_, ?_⟩, hrl⟩
    · refine List.Pairwise.sublist (List.take_sublist _ _) (List.pairwise_cons.2 ⟨fun q hq hab => hno q hq ⟨hab.1.symm, hab.2.symm⟩, h.key⟩)
    · intro p hp
      rcases List.mem_cons.1 (List.mem_of_mem_take hp) with rfl | hp
      · exact ⟨hnm, hk.1, hk.2, hrl⟩
      · exact h.ok p hp
theorem readS_ok {most : Nat} {now : List Int} {nm : ByteArray} (hnm : nm.size ≤ maxLen) : ∀ (f : Nat) (s : WSt) (G at_ n : Nat), OkW most s G → at_ + n ≤ 25600000 → OkW most (readS most now nm f s at_ n).1 (G + n) ∧ (readS most now nm f s at_ n).2.length ≤ n
  | 0, s, G, a, n, h, _ => ⟨h.up (Nat.le_add_right _ _), Nat.zero_le _⟩
  | f + 1, s, G, a, n, h, ha => by
    unfold readS
    by_cases h0 : n = 0
    · rw [if_pos h0]
      exact ⟨h.up (Nat.le_add_right _ _), Nat.zero_le _⟩
    · rw [if_neg h0]
      dsimp only
      obtain ⟨g1, g2⟩ := getS_ok (now := now) h hnm (k := ((a / 256 : Nat) : Int)) (by omega)
      generalize getS most now nm s ((a / 256 : Nat) : Int) = r at g1 g2 ⊢
      split
      · exact ⟨g1.up (by omega), Nat.zero_le _⟩
      · split
        · refine ⟨g1.up (by omega), ?_⟩
          show (List.take _ _).length ≤ n
          rw [List.length_take]
          omega
        · rename_i h1 h2
          obtain ⟨i1, i2⟩ := readS_ok hnm f r.1 (G + 1) (a + min (r.2.length - a % 256) n) (n - min (r.2.length - a % 256) n) g1 (by omega)
          refine ⟨i1.up (by omega), ?_⟩
          simp only [List.length_append, List.length_take, List.length_drop]
          omega
theorem readN_ok {most : Nat} {now : List Int} {nm : ByteArray} (hnm : nm.size ≤ maxLen) {s : WSt} {G at_ n : Nat} (h : OkW most s G) (ha : at_ + n ≤ 25600000) : OkW most (readN most now nm s at_ n).1 (G + n) ∧ (readN most now nm s at_ n).2.length ≤ n := readS_ok hnm n s G at_ n h ha
/-- Pieces that stay. -/
def staysP (nm : ByteArray) (k : Int) (p : PcV) : Bool := !(decide (p.nm = nm) && decide (k < (p.n + 1) * 256))
def forgetS (nm : ByteArray) (k : Int) (s : WSt) : WSt := ⟨s.L.filter (staysP nm k), s.hits, s.misses⟩
def forgotN (nm : ByteArray) (k : Int) (s : WSt) : Int := (s.L.length : Int) - ((s.L.filter (staysP nm k)).length : Int)
theorem forgetS_ok {most G : Nat} {nm : ByteArray} {k : Int} {s : WSt} (h : OkW most s G) : OkW most (forgetS nm k s) G := by
  have hf := List.length_filter_le (staysP nm k) s.L
  have hl := h.len
  have hc := h.cnt
  exact ⟨h.one, by show (List.filter _ _).length ≤ _; omega, by show (List.filter _ _).length ≤ _; omega, h.h, h.m, h.key.filter _, fun p hp => h.ok p (List.mem_filter.1 hp).1⟩
end Go.Proofs.Ytpnbjpkdbiiogaa
/- Maps of whatever elements: a map is a function from keys to values. -/
namespace Go.Proofs.Ytpnbjpkdbiiogaa
set_option linter.unusedVariables false
open Go.RowKit Go.Maps

/-- Any element, as it stands. -/
def R0 (v : Value) : Option (DataW Value × List MemPlace) := some (.held v, [])
/-- D is the map that the function says. -/
def Tells (D : DataW Value) (f : Lit → Option Value) : Prop := ∀ (kl : Lit) (z : DataW Value), D.atKey kl z = (match f kl with | some v => .held v | none => z)
/-- Block b is a map of at most n entries: it holds what f says. -/
def MV (w : World) (P : Program) (k : TypeId) (b n : Nat) (f : Lit → Option Value) : Prop := ∃ D : DataW Value, w.ownsMap P k R0 b n D ∧ Tells D f
open Classical in
/-- An entry more, or an entry less. -/
noncomputable def upd (f : Lit → Option Value) (kl : Lit) (v : Option Value) : Lit → Option Value := fun q => if q = kl then v else f q
theorem upd_same (f : Lit → Option Value) (kl : Lit) (v : Option Value) : upd f kl v kl = v := by simp [upd]
theorem upd_other (f : Lit → Option Value) {kl q : Lit} (v : Option Value) (h : q ≠ kl) : upd f kl v q = f q := by simp [upd, h]
theorem Tells.has {D : DataW Value} {f : Lit → Option Value} (h : Tells D f) (kl : Lit) : Maps.has D kl = (f kl).isSome := by
  cases e : f kl with
  | none => exact has_false_of_atKey (fun z => by rw [h kl z, e])
  | some v => exact has_true_of_atKey (y := .held v) (fun z => by rw [h kl z, e])
theorem Tells.put {D : DataW Value} {f : Lit → Option Value} (h : Tells D f) (hm : IsMap D) {kl : Lit} (hk : WideAt.IsKeyLit kl) (v : Value) : Tells (D.put kl (.held v)) (upd f kl (some v)) := by
  intro q z
  by_cases e : q = kl
  · subst e
    rw [upd_same, atKey_put_same hm hk]
  · rw [upd_other _ _ e, atKey_put_other e, h q z]
theorem Tells.del {D : DataW Value} {f : Lit → Option Value} (h : Tells D f) (kl : Lit) : Tells (D.del kl) (upd f kl none) := by
  intro q z
  by_cases e : q = kl
  · subst e
    rw [upd_same, atKey_del_same]
  · rw [upd_other _ _ e, atKey_del_other e, h q z]
theorem key_lit {P : Program} {k : TypeId} {v : Value} {kl : Lit} (h : keyOf P k v = some kl) : WideAt.IsKeyLit kl := by
  unfold keyOf at h
  split at h
  · split at h
    · obtain ⟨ls, _, rfl⟩ := Option.map_eq_some_iff.1 h
      exact trivial
    · cases h
  · split at h
    · obtain ⟨ls, _, rfl⟩ := Option.map_eq_some_iff.1 h
      exact trivial
    · cases h
  · obtain ⟨_, _, _, h2⟩ := Go.WideShapes.mapKey_isKey h
    exact h2
section
variable {w w1 : World} {P : Program} {k : TypeId} {b n : Nat} {f : Lit → Option Value}
theorem MV.made (w : World) (P : Program) (k : TypeId) : MV (w.alloc (.map #[] 0)) P k w.heap.size 0 (fun _ => none) := ⟨_, World.ownsMap_made w P k R0, fun _ _ => rfl⟩
theorem MV.mono (h : MV w P k b n f) {m : Nat} (hm : n ≤ m) : MV w P k b m f := by obtain ⟨D, h1, h2⟩ := h; exact ⟨D, h1.mono hm, h2⟩
theorem MV.lt (h : MV w P k b n f) : b < w.heap.size := by obtain ⟨D, h1, h2⟩ := h; exact h1.lt
theorem MV.move (h : MV w P k b n f) (e : w1.heap[b]? = w.heap[b]?) : MV w1 P k b n f := by
  obtain ⟨D, ⟨es, clock, hb, h1⟩, h2⟩ := h
  exact ⟨D, ⟨es, clock, e.trans hb, h1⟩, h2⟩
theorem MV.below (h : MV w P k b n f) (hb : Below w.heap.size w w1) : MV w1 P k b n f := h.move (hb.block b h.lt)
theorem MV.drew (h : MV w P k b n f) : MV w.drew P k b n f := h
theorem MV.setCell (h : MV w P k b n f) {a : Addr} (ha : b ≠ a.block) (u : Value) : MV (w.setCell a u) P k b n f := h.move (Below.heap_setCell w a u b ha)
theorem MV.obj (h : MV w P k b n f) : ∃ es clock, w.heap[b]? = some (.map es clock) := by
  obtain ⟨D, ⟨es, clock, hb, h1⟩, h2⟩ := h
  exact ⟨es, clock, hb⟩
theorem MV.ne (h : MV w P k b n f) {g : Nat} {cs : Array Value} {t : TypeId} {fr : Nat × Nat} (hg : w.heap[g]? = some (.cells cs t fr)) : b ≠ g := by
  intro e
  obtain ⟨es, clock, hb⟩ := h.obj
  rw [e, hg] at hb
  cases hb
theorem MV.congr (h : MV w P k b n f) {f' : Lit → Option Value} (e : ∀ q, f' q = f q) : MV w P k b n f' := by rwa [show f' = f from funext e]
end
section
variable {P : Program} {w : World} {ops : Array Oper} {rest : List Oper} {o : Oper} {a : Act} {Q : Exit → Act → World → Prop}
/-- v, ok := m[k]. -/
theorem mv_lookup_ok (hg : o.guard = none) (m x : Operand) (t : TypeId) (hop : o.op = Op.lookup t m x true) (k e : TypeId) (K : Keyed P k) (ht : P.underlying t = some (.map k e)) {z : Value} (hz : (zeroValue e).run P w = .ok z w) (b n : Nat) (f : Lit → Option Value)
    (hm : a.eval m = .map (some b)) (h : MV w P k b n f) (key : Value) (kl : Lit) (hx : a.eval x = key) (hkey : keyOf P k key = some kl) (v : Value) (bo : Bool) (hv : (f kl).getD z = v) (hb : (f kl).isSome = bo)
    (hK : wpList P ops Q rest (a.put o.dst (.tuple #[v, .bool bo])) w) : wpList P ops Q (o :: rest) a w := by
  obtain ⟨D, h1, h2⟩ := h
  refine wpList_lookup_own_ok w hg m x t hop k e K ht R0 hz (.held z) [] rfl b n D hm h1 key kl hx hkey (fun v' ps hv' => ?_)
  have e1 : v' = v := by
    have := congrArg (Option.map Prod.fst) hv'
    simp only [R0, Option.map_some, Option.some.injEq] at this
    rw [h2 kl] at this
    rw [← hv]
    cases e : f kl with
    | none => rw [e] at this; simpa using this
    | some y => rw [e] at this; simpa using this
  rw [e1, h2.has kl, hb]
  exact hK
/-- m[k]. -/
theorem mv_lookup (hg : o.guard = none) (m x : Operand) (t : TypeId) (hop : o.op = Op.lookup t m x false) (k e : TypeId) (K : Keyed P k) (ht : P.underlying t = some (.map k e)) {z : Value} (hz : (zeroValue e).run P w = .ok z w) (b n : Nat) (f : Lit → Option Value)
    (hm : a.eval m = .map (some b)) (h : MV w P k b n f) (key : Value) (kl : Lit) (hx : a.eval x = key) (hkey : keyOf P k key = some kl) (v : Value) (hv : (f kl).getD z = v)
    (hK : wpList P ops Q rest (a.put o.dst v) w) : wpList P ops Q (o :: rest) a w := by
  obtain ⟨D, h1, h2⟩ := h
  refine wpList_plain hg fun K' hK' => ?_
  obtain ⟨v', ps, hrun, hv'⟩ := h1.lookup K ht hz (zd := .held z) (zp := []) rfl hkey
  have e1 : v' = v := by
    have := congrArg (Option.map Prod.fst) hv'
    simp only [R0, Option.map_some, Option.some.injEq] at this
    rw [h2 kl] at this
    rw [← hv]
    cases e : f kl with
    | none => rw [e] at this; simpa using this
    | some y => rw [e] at this; simpa using this
  rw [e1] at hrun
  unfold Oper.wp
  simp [execOp, hop, hm, hx, hrun, Result.andThen]
  exact hK' _ _ hK
/-- delete(m, k). -/
theorem mv_delete (hg : o.guard = none) (m x : Operand) (t k : TypeId) (hop : o.op = Op.call { callee := Callee.builtin Builtin.delete, args := #[m, x], argTypes := #[t, k] }) (e : TypeId) (K : Keyed P k) (ht : P.underlying t = some (.map k e)) (b n : Nat) (f : Lit → Option Value)
    (hm : a.eval m = .map (some b)) (h : MV w P k b n f) (key : Value) (kl : Lit) (hx : a.eval x = key) (hkey : keyOf P k key = some kl)
    (hK : ∀ w', MV w' P k b n (upd f kl none) → w.mapTurned w' b → wpList P ops Q rest (a.put o.dst (.tuple #[])) w') : wpList P ops Q (o :: rest) a w := by
  obtain ⟨D, h1, h2⟩ := h
  exact wpList_delete_own w hg m x t k hop e K ht R0 b n D hm h1 key kl hx hkey (fun w' r1 r2 => hK w' ⟨_, r1, h2.del kl⟩ r2)
/-- m[k] = v. -/
theorem mv_store (hg : o.guard = none) (m x v : Operand) (t : TypeId) (hop : o.op = Op.mapUpdate t m x v) (k e : TypeId) (K : Keyed P k) (ht : P.underlying t = some (.map k e)) (b n : Nat) (f : Lit → Option Value)
    (hm : a.eval m = .map (some b)) (h : MV w P k b n f) (hn : n < maxLen) (key val : Value) (kl : Lit) (hx : a.eval x = key) (hv : a.eval v = val) (hkey : keyOf P k key = some kl)
    (hK : ∀ w', MV w' P k b (n + 1) (upd f kl (some val)) → w.mapTurned w' b → wpList P ops Q rest (a.put o.dst undef) w') : wpList P ops Q (o :: rest) a w := by
  obtain ⟨D, h1, h2⟩ := h
  exact wpList_mapUpdate_in w hg m x v t hop k e K ht R0 b n D hm h1 hn key val kl hx hv hkey (.held val) [] rfl (fun w' r1 r2 => hK w' ⟨_, r1, h2.put h1.isMap (key_lit hkey) val⟩ r2)
end
/-- A map that is ranged over. -/
def MR (w : World) (P : Program) (k : TypeId) (b r n : Nat) (f : Lit → Option Value) (left : Lit → Bool) (cnt : Nat) : Prop := ∃ D : DataW Value, w.ranges P k R0 b r n D left cnt ∧ Tells D f
section
variable {w w1 : World} {P : Program} {k : TypeId} {b r n cnt : Nat} {f : Lit → Option Value} {left : Lit → Bool}
theorem MR.owns (h : MR w P k b r n f left cnt) : MV w P k b n f := by obtain ⟨D, h1, h2⟩ := h; exact ⟨D, h1.owns, h2⟩
theorem MR.left_eq (h : MR w P k b r n f left cnt) : w.rangeLeft b r = cnt := by obtain ⟨D, h1, h2⟩ := h; exact h1.left_eq
theorem MR.ne (h : MR w P k b r n f left cnt) : r ≠ b := by obtain ⟨D, h1, h2⟩ := h; exact h1.ne
theorem MR.lt (h : MR w P k b r n f left cnt) : r < w.heap.size := by obtain ⟨D, h1, h2⟩ := h; exact h1.lt
theorem MR.kept {row : Option Nat} (h : MR w P k b r n f left cnt) (hg : w.grownBy w1 row) (hb : some b ≠ row) (hr : some r ≠ row) : MR w1 P k b r n f left cnt := by obtain ⟨D, h1, h2⟩ := h; exact ⟨D, h1.kept hg hb hr, h2⟩
end
section
variable {P : Program} {w : World} {ops : Array Oper} {rest : List Oper} {o : Oper} {a : Act} {Q : Exit → Act → World → Prop}
theorem mv_range (hg : o.guard = none) (m : Operand) (t : TypeId) (hop : o.op = Op.range t m) (k e : TypeId) (K : Keyed P k) (ht : P.underlying t = some (.map k e)) (b n : Nat) (f : Lit → Option Value) (hm : a.eval m = .map (some b)) (h : MV w P k b n f)
    (hK : ∀ w' cnt, cnt ≤ n → MR w' P k b w.heap.size n f (fun q => (f q).isSome) cnt → w.grownBy w' none → w'.heap.size = w.heap.size + 1 → wpList P ops Q rest (a.put o.dst (.pointer (some ⟨w.heap.size, 0, none⟩))) w') : wpList P ops Q (o :: rest) a w := by
  obtain ⟨D, h1, h2⟩ := h
  exact wpList_range_own w hg m t hop k e K ht R0 b n D hm h1 (fun w' r1 r2 r3 => hK w' _ h1.size_le ⟨D, by rwa [show Maps.has D = fun q => (f q).isSome from funext h2.has] at r1, h2⟩ r2 r3)
/-- The step; keys of a shape. -/
theorem mv_next {α : Type} (hg : o.guard = none) (it : Operand) (hop : o.op = Op.next it false) (k : TypeId) (K : Keyed P k) (mkK : α → Value) (invK : ∀ key kl, keyOf P k key = some kl → ∃ x, key = mkK x) (b r n : Nat) (f : Lit → Option Value) (left : Lit → Bool) (cnt : Nat)
    (hit : a.eval it = .pointer (some ⟨r, 0, none⟩)) (h : MR w P k b r n f left cnt)
    (hDone : (∀ kl, left kl = false) → wpList P ops Q rest (a.put o.dst (.tuple #[.bool false])) w)
    (hMore : ∀ (x : α) (v : Value) (kl : Lit) (w' : World) (cnt' : Nat), keyOf P k (mkK x) = some kl → left kl = true → f kl = some v → MR w' P k b r n f (fun z => left z && !z.sameKey kl) cnt' → cnt' < cnt →
      w.grownBy w' (some r) → w'.heap.size = w.heap.size → (Instr.entry (.pointer (some ⟨r, 0, none⟩))).run P w' = .ok (.tuple #[mkK x, v]) w' → wpList P ops Q rest (a.put o.dst (.tuple #[.bool true, mkK x, v])) w') : wpList P ops Q (o :: rest) a w := by
  obtain ⟨D, h1, h2⟩ := h
  refine wpList_next_ranges w hg it hop k K R0 mkK (fun v : Value => v) invK (fun v _ _ => ⟨v, rfl⟩) b r n D left cnt hit h1 (fun _ hl => hDone hl) (fun x v kl y w' cnt' hk hl hv hat hr hlt hg hs he => ?_)
  have e1 : f kl = some v := by
    have h3 := hat (.held (.bool true))
    have h4 := hat (.held (.bool false))
    simp only [R0, Option.some.injEq] at hv
    subst hv
    rw [h2 kl] at h3 h4
    cases e : f kl with
    | none => rw [e] at h3 h4; simp at h3 h4; rw [← h3] at h4; simp at h4
    | some u => rw [e] at h3; simp at h3; rw [h3]
  exact hMore x v kl w' cnt' hk hl e1 ⟨D, hr, h2⟩ hlt hg hs he
end
end Go.Proofs.Ytpnbjpkdbiiogaa
/- Directories, lists alone: names that rise, what is done to them. -/
namespace Go.Proofs.Ytpnbjpkdbiiogaa
set_option linter.unusedVariables false
open Go.RowKit Go.Maps

/-- A name and its file. -/
abbrev DN := ByteArray × Int
def gtS (a b : ByteArray) : Bool := !(Op.bytesLess a.toList b.toList || a.toList == b.toList)
def withoutL (l : List DN) (s : ByteArray) : List DN := l.filter (fun p => !decide (p.1 = s))
def insL (s : ByteArray) (a : Int) : List DN → List DN
  | [] => [(s, a)]
  | p :: t => if gtS p.1 s then (s, a) :: p :: t else p :: insL s a t
def withL (l : List DN) (s : ByteArray) (a : Int) : List DN := insL s a (withoutL l s)
def getN (l : List DN) (s : ByteArray) : Option Int := (l.find? (fun p => decide (p.1 = s))).map (·.2)
/-- Something done to names: 0 Create, 1 Rename, else Unlink. -/
structure DOp where
  kd : Int
  a : ByteArray
  b : ByteArray
  id : Int
def zDop : DOp := ⟨0, ⟨#[]⟩, ⟨#[]⟩, 0⟩
def didL (l : List DN) (o : DOp) : List DN :=
  if o.kd = 0 then withL l o.a o.id else
    match getN l o.a with
    | none => l
    | some id => if o.kd = 1 then withL (withoutL l o.a) o.b id else withoutL l o.a

/-! ### a round of 'with' -/
def insW (s : ByteArray) (a : Int) (st : List DN × Bool) (p : DN) : List DN × Bool := if !st.2 && gtS p.1 s then (st.1 ++ [(s, a)] ++ [p], true) else (st.1 ++ [p], st.2)
def insEnd (s : ByteArray) (a : Int) (st : List DN × Bool) : List DN := if st.2 then st.1 else st.1 ++ [(s, a)]
theorem insW_true (s : ByteArray) (a : Int) : ∀ (l o : List DN), l.foldl (insW s a) (o, true) = (o ++ l, true)
  | [], o => by simp
  | p :: t, o => by
    rw [List.foldl_cons, show insW s a (o, true) p = (o ++ [p], true) from by simp [insW], insW_true s a t]
    simp
theorem insW_end (s : ByteArray) (a : Int) : ∀ (l o : List DN), insEnd s a (l.foldl (insW s a) (o, false)) = o ++ insL s a l
  | [], o => by simp [insEnd, insL]
  | p :: t, o => by
    rw [List.foldl_cons]
    cases h : gtS p.1 s with
    | true =>
      rw [show insW s a (o, false) p = (o ++ [(s, a)] ++ [p], true) from by simp [insW, h], insW_true]
      simp [insEnd, insL, h]
    | false =>
      rw [show insW s a (o, false) p = (o ++ [p], false) from by simp [insW, h], insW_end s a t]
      simp [insL, h]
theorem insW_len (s : ByteArray) (a : Int) : ∀ (l : List DN) (st : List DN × Bool), (l.foldl (insW s a) st).1.length ≤ st.1.length + l.length + (if st.2 then 0 else 1)
  | [], st => by simp
  | p :: t, st => by
    rw [List.foldl_cons]
    have h := insW_len s a t (insW s a st p)
    obtain ⟨o, d⟩ := st
    cases d with
    | true => simp [insW] at h ⊢; omega
    | false =>
      cases hg : gtS p.1 s with
      | true => simp [insW, hg] at h ⊢; omega
      | false => simp [insW, hg] at h ⊢; omega
theorem insL_len (s : ByteArray) (a : Int) : ∀ l : List DN, (insL s a l).length = l.length + 1
  | [] => rfl
  | p :: t => by
    unfold insL
    split
    · simp
    · simp [insL_len s a t]
theorem withoutL_len (l : List DN) (s : ByteArray) : (withoutL l s).length ≤ l.length := List.length_filter_le _ _
theorem withL_len (l : List DN) (s : ByteArray) (a : Int) : (withL l s a).length ≤ l.length + 1 := by unfold withL; rw [insL_len]; have := withoutL_len l s; omega
theorem didL_len (l : List DN) (o : DOp) : (didL l o).length ≤ l.length + 1 := by
  unfold didL
  split
  · exact withL_len _ _ _
  · split
    · omega
    · split
      · have := withL_len (withoutL l o.a) o.b (by assumption); have := withoutL_len l o.a; omega
      · have := withoutL_len l o.a; omega

/-! ### the map that the names are -/
def kS (s : ByteArray) : Lit := .string s.data.toList
theorem kS_inj {s t : ByteArray} (h : kS s = kS t) : s = t := by
  unfold kS at h
  injection h with h
  cases s; cases t
  simp at h
  rw [h]
open Classical in
noncomputable def mapF (l : List DN) : Lit → Option Value := fun q => match l.find? (fun p => decide (kS p.1 = q)) with | some p => some (.int .i64 p.2) | none => none
open Classical in
theorem mapF_at (l : List DN) (s : ByteArray) : mapF l (kS s) = (getN l s).map (Value.int .i64) := by
  unfold mapF getN
  have e : (fun p : DN => decide (kS p.1 = kS s)) = fun p => decide (p.1 = s) := by
    funext p
    by_cases h : p.1 = s
    · simp [h]
    · have h2 : kS p.1 ≠ kS s := fun e => h (kS_inj e)
      simp [h, h2]
  rw [e]
  cases l.find? (fun p => decide (p.1 = s)) <;> rfl
open Classical in
theorem mapF_cons (p : DN) (l : List DN) (q : Lit) : mapF (p :: l) q = if kS p.1 = q then some (.int .i64 p.2) else mapF l q := by
  unfold mapF
  rw [List.find?_cons]
  by_cases h : kS p.1 = q <;> simp [h]
open Classical in
theorem mapF_without (l : List DN) (s : ByteArray) : mapF (withoutL l s) = upd (mapF l) (kS s) none := by
  funext q
  induction l with
  | nil => unfold upd; simp [mapF, withoutL]
  | cons p t ih =>
    by_cases h : p.1 = s
    · have e : withoutL (p :: t) s = withoutL t s := by simp [withoutL, h]
      rw [e, ih]
      unfold upd
      by_cases hq : q = kS s
      · simp [hq]
      · rw [if_neg hq, if_neg hq, mapF_cons, if_neg (fun e2 => hq (by rw [← e2, h]))]
    · have e : withoutL (p :: t) s = p :: withoutL t s := by simp [withoutL, h]
      rw [e, mapF_cons, ih]
      unfold upd
      rw [mapF_cons]
      by_cases hq : q = kS s
      · rw [if_pos hq, if_pos hq, if_neg (fun e2 => h (kS_inj (e2.trans hq)))]
      · rw [if_neg hq, if_neg hq]
open Classical in
theorem mapF_ins (s : ByteArray) (a : Int) : ∀ (l : List DN), (∀ p ∈ l, p.1 ≠ s) → mapF (insL s a l) = upd (mapF l) (kS s) (some (.int .i64 a))
  | [], _ => by
    funext q
    unfold upd
    by_cases hq : q = kS s
    · rw [if_pos hq]; simp [mapF, insL, hq]
    · rw [if_neg hq]; simp [mapF, insL, Ne.symm hq]
  | p :: t, h => by
    have hp := h p (List.mem_cons_self ..)
    funext q
    unfold insL
    split
    · rw [mapF_cons]
      unfold upd
      by_cases hq : q = kS s
      · simp [hq]
      · rw [if_neg (Ne.symm hq), if_neg hq]
    · rw [mapF_cons, mapF_ins s a t (fun x hx => h x (List.mem_cons_of_mem _ hx))]
      unfold upd
      by_cases hq : q = kS s
      · rw [if_pos hq, if_pos hq, if_neg (fun e => hp (kS_inj (e.trans hq)))]
      · rw [if_neg hq, if_neg hq, mapF_cons]
theorem without_no (l : List DN) (s : ByteArray) : ∀ p ∈ withoutL l s, p.1 ≠ s := by
  intro p hp
  simpa using (List.mem_filter.1 hp).2
open Classical in
theorem mapF_with (l : List DN) (s : ByteArray) (a : Int) : mapF (withL l s a) = upd (mapF l) (kS s) (some (.int .i64 a)) := by
  unfold withL
  rw [mapF_ins s a _ (without_no l s), mapF_without]
  funext q
  unfold upd
  by_cases hq : q = kS s
  · simp [hq]
  · simp [hq]
theorem getN_nil (s : ByteArray) : getN [] s = none := rfl
theorem getN_cons (p : DN) (l : List DN) (s : ByteArray) : getN (p :: l) s = if p.1 = s then some p.2 else getN l s := by
  unfold getN
  rw [List.find?_cons]
  by_cases h : p.1 = s <;> simp [h]
end Go.Proofs.Ytpnbjpkdbiiogaa
/- Directories: the reference's without, with, Get, Did. -/
namespace Go.Proofs.Ytpnbjpkdbiiogaa
set_option linter.unusedVariables false
open Go.RowKit Go.Proofs.YtpnbjpkdbiiogaaW.PrintWords
attribute [local go_sem] mx2 mn2 mxTwo mnTwo

def kDN : Kd DN := Kd.pair Kd.string (Kd.int .i64)
theorem kDN_mkM (w : World) (base : Nat) (ok : Nat → Prop) (x : DN) : kDN.M w base ok x [.string x.1, .int .i64 x.2] := ⟨[.string x.1], [.int .i64 x.2], rfl, rfl, rfl⟩
theorem infoName : (Try.prog.info? 156).map (fun i => (i.zero, i.size, i.bytes)) = some (some (.agg #[(.string ⟨#[]⟩), (.int .i64 0)]), 2, 24) := by kernel_rfl
def zDN : DN := (⟨#[]⟩, 0)
theorem at_DN {w : World} {A : Option Addr} {n : Nat} {xs : List DN} (h : Kd.C kDN w A n xs) (i : Nat) (h1 : i < n) : ∃ ad, A = some ad ∧ w.cell? (ad.add (i * 2)) = some (.string (xs.getD i zDN).1) ∧ w.cell? ⟨(ad.add (i * 2)).block, (ad.add (i * 2)).off + 1, none⟩ = some (.int .i64 (xs.getD i zDN).2) := by
  obtain ⟨ad, c, e, _, hK, hc0⟩ := Kd.C_get h zDN (i : Int) (by omega) (by omega)
  simp only [Int.toNat_natCast] at hK hc0
  have hc : ∀ j u, c[j]? = some u → w.cell? (ad.add (i * 2 + j)) = some u := hc0
  obtain ⟨_, _, rfl, rfl, rfl⟩ := hK
  exact ⟨ad, e, hc 0 _ rfl, by rw [← add_field _ _ 1 (by omega)]; exact hc 1 _ rfl⟩
/-- Two texts, asked for being alike. -/
theorem bs_eq (a b : ByteArray) (h : a = b) : (a.toList == b.toList) = true := by simp [h]
theorem bs_ne (a b : ByteArray) (h : a ≠ b) : (a.toList == b.toList) = false := by
  rw [beq_eq_false_iff_ne]
  intro e
  exact h (Go.WideShapes.bytes_inj (by rw [← ByteArray.toList_eq a, ← ByteArray.toList_eq b]; exact e))
theorem take_succ_getD (l : List DN) (i : Nat) (h : i < l.length) : l.take (i + 1) = l.take i ++ [l.getD i zDN] := by
  rw [List.take_succ_eq_append_getElem h]
  simp [List.getD_eq_getElem?_getD, h]
theorem without_take (l : List DN) (s : ByteArray) (i : Nat) (h : i < l.length) : withoutL (l.take (i + 1)) s = withoutL (l.take i) s ++ (if (l.getD i zDN).1 = s then [] else [l.getD i zDN]) := by
  rw [take_succ_getD l i h]
  unfold withoutL
  rw [List.filter_append]
  generalize l.getD i zDN = p
  by_cases e : p.1 = s
  · rw [if_pos e, List.filter_cons_of_neg (by simp [e]), List.filter_nil]
  · rw [if_neg e, List.filter_cons_of_pos (by simp [e]), List.filter_nil]
theorem getN_take (l : List DN) (s : ByteArray) : ∀ (i : Nat), i < l.length → getN (l.take i) s = none → getN (l.take (i + 1)) s = if (l.getD i zDN).1 = s then some (l.getD i zDN).2 else none := by
  intro i h e
  rw [take_succ_getD l i h]
  unfold getN at e ⊢
  rw [Option.map_eq_none_iff] at e
  rw [List.find?_append, e]
  generalize l.getD i zDN = p
  by_cases q : p.1 = s
  · rw [if_pos q, Option.none_or, List.find?_cons_of_pos (by simp [q])]
    rfl
  · rw [if_neg q, Option.none_or, List.find?_cons_of_neg (by simp [q])]
    rfl
theorem getN_found (l : List DN) (s : ByteArray) (i : Nat) (y : Int) (h : getN (l.take i) s = some y) : getN l s = some y := by
  unfold getN at h ⊢
  obtain ⟨p, hp, rfl⟩ := Option.map_eq_some_iff.1 h
  have : l.find? (fun p => decide (p.1 = s)) = some p := by
    conv => lhs; rw [← List.take_append_drop i l]
    rw [List.find?_append, hp]
    rfl
  rw [this]
  rfl
theorem getN_all (l : List DN) (s : ByteArray) (i : Nat) (h : l.length ≤ i) : getN (l.take i) s = getN l s := by rw [List.take_of_length_le h]
set_option maxHeartbeats 1000000 in
theorem rget_any (A : Option Addr) (n c : Nat) (l : List DN) (s : ByteArray) (w : World) (hr : Kd.C kDN w A n l) :
    Calls Try.prog 101 #[.slice A n c, .string s] w fun e w' => e = .returned (.tuple #[.int .i64 ((getN l s).getD 0), .bool (getN l s).isSome]) ∧ w = w' := by
  obtain rfl : l.length = n := hr.1
  have hm := Kd.C_max hr
  have HR := Aside0.mk hr
  clear hr
  go_enter Try.func101, Try.ntmps101
  go_wp2
  go_loopg [6] l.length (fun q v6 wr => ∃ i : Nat, v6 = .int .i64 (i : Int) ∧ i ≤ l.length ∧ Aside0 (q = l.length - i) ∧ Aside0 (getN (l.take i) s = none) ∧ wr = w)
  case atStart => exact ⟨0, rfl, Nat.zero_le _, ⟨rfl⟩, ⟨rfl⟩, rfl⟩
  case round =>
    obtain ⟨i, rfl, hi, hq, HN, rfl⟩ := hrel
    by_cases hlt : i < l.length
    · obtain ⟨ad, e1, r1, r2⟩ := at_DN HR.out i hlt
      subst e1
      have hgt := getN_take l s i hlt HN.out
      obtain ⟨p, hp⟩ : ∃ p, p = l.getD i zDN := ⟨_, rfl⟩
      rw [← hp] at r1 r2 hgt
      clear hp
      by_cases hs : p.1 = s
      · rw [if_pos hs] at hgt
        have HG := Aside0.mk (getN_found l s (i + 1) _ hgt)
        have q1 := bs_eq _ _ hs
        clear hs hgt
        go_wp2
        go_ret2
        rw [HG.out]
        exact ⟨rfl, rfl⟩
      · rw [if_neg hs] at hgt
        have HG := Aside0.mk hgt
        have q1 := bs_ne _ _ hs
        clear hs hgt
        go_wp2
        go_roundg (l.length - (i + 1))
        case measure => have := hq.out; omega
        case rel => exact ⟨i + 1, by go_num, by omega, ⟨rfl⟩, HG, rfl⟩
    · have e := HN.out
      rw [getN_all l s i (by omega)] at e
      have HG := Aside0.mk e
      clear e
      go_wp2
      go_ret2
      rw [HG.out]
      exact ⟨rfl, rfl⟩
set_option maxHeartbeats 1000000 in
theorem rwithout_any (A : Option Addr) (n c : Nat) (l : List DN) (s : ByteArray) (w : World) (hr : Kd.C kDN w A n l) (hn : n ≤ 1000000) :
    Calls Try.prog 121 #[.slice A n c, .string s] w fun e w' => ∃ v, e = .returned v ∧ Kd.R kDN 156 w' w.heap.size (fun _ => True) v (withoutL l s) ∧ Below w.heap.size w w' := by
  obtain rfl : l.length = n := hr.1
  have HR := Aside0.mk hr
  clear hr
  go_enter Try.func121, Try.ntmps121
  go_wp2
  go_loopg [5, 6] l.length (fun q v5 v6 wr => ∃ i : Nat, v6 = .int .i64 (i : Int) ∧ i ≤ l.length ∧ Aside0 (q = l.length - i) ∧ Aside0 (Kd.R kDN 156 wr w.heap.size (fun _ => True) v5 (withoutL (l.take i) s)) ∧ Aside0 (Below w.heap.size w wr))
  case atStart => exact ⟨0, rfl, Nat.zero_le _, ⟨rfl⟩, ⟨Kd.R_nil _ _ _ _ _⟩, ⟨Below.refl _ _⟩⟩
  case round =>
    obtain ⟨i, rfl, hi, hq, HO, HB⟩ := hrel
    by_cases hlt : i < l.length
    · obtain ⟨ad, e1, r1, r2⟩ := at_DN HR.out i hlt
      subst e1
      replace r1 := pw_cell_below HB.out r1
      replace r2 := pw_cell_below HB.out r2
      have hgt := without_take l s i hlt
      have hlb : (withoutL (l.take i) s).length ≤ l.length := Nat.le_trans (withoutL_len _ _) (by rw [List.length_take]; omega)
      obtain ⟨p, hp⟩ : ∃ p, p = l.getD i zDN := ⟨_, rfl⟩
      rw [← hp] at r1 r2 hgt
      have HLB := Aside0.mk hlb
      clear hp hlb
      by_cases hs : p.1 = s
      · rw [if_pos hs, List.append_nil] at hgt
        have HG := Aside0.mk hgt
        have q1 := bs_eq _ _ hs
        clear hs hgt
        go_wp2_with fail
        go_roundg (l.length - (i + 1))
        case measure => have := hq.out; omega
        case rel => exact ⟨i + 1, by go_num, by omega, ⟨rfl⟩, ⟨by rw [HG.out]; exact HO.out⟩, HB⟩
      · rw [if_neg hs] at hgt
        have HG := Aside0.mk hgt
        have q1 := bs_ne _ _ hs
        clear hs hgt
        go_wp2_with (at_builtin; refine Kd.R_append kDN (w0 := w) w.heap.size rfl (.tmp 20) (.tmp 25) 67 156 (.agg #[(.string ⟨#[]⟩), (.int .i64 0)]) 24 rfl Try.underlying67 infoName rfl (by decide) (by omega) u5 _ p [.string (p).1, .int .i64 (p).2] (fun _ => True) (fun _ => False) rfl rfl (kDN_mkM _ _ _ (p)) (fun _ h => h.elim) (fun _ _ => trivial) HO.out HB.out (below_size HB.out) (by have := HLB.out; omega) ?_; intro v1 w1 h1 hb1 _ _; clear HO HB; have HO := Aside0.mk h1; have HB := Aside0.mk hb1; clear h1 hb1)
        go_roundg (l.length - (i + 1))
        case measure => have := hq.out; omega
        case rel => exact ⟨i + 1, by go_num, by omega, ⟨rfl⟩, ⟨by rw [HG.out]; exact HO.out⟩, HB⟩
    · have h9 := HO.out
      rw [List.take_of_length_le (by omega)] at h9
      have HO9 := Aside0.mk h9
      clear h9
      go_wp2_with fail
      go_ret
      exact ⟨_, rfl, HO9.out, HB.out⟩
theorem insW_take (s : ByteArray) (a : Int) (l : List DN) (i : Nat) (h : i < l.length) : (l.take (i + 1)).foldl (insW s a) ([], false) = insW s a ((l.take i).foldl (insW s a) ([], false)) (l.getD i zDN) := by
  rw [take_succ_getD l i h, List.foldl_append]
  rfl
theorem gtS_true {a b : ByteArray} (h : gtS a b = true) : Op.bytesLess a.toList b.toList = false ∧ (a.toList == b.toList) = false := by
  unfold gtS at h
  cases h1 : Op.bytesLess a.toList b.toList <;> cases h2 : (a.toList == b.toList) <;> simp [h1, h2] at h ⊢
theorem gtS_false {a b : ByteArray} (h : gtS a b = false) : Op.bytesLess a.toList b.toList = true ∨ Op.bytesLess a.toList b.toList = false ∧ (a.toList == b.toList) = true := by
  unfold gtS at h
  cases h1 : Op.bytesLess a.toList b.toList <;> cases h2 : (a.toList == b.toList) <;> simp [h1, h2] at h ⊢
set_option maxHeartbeats 2000000 in
set_option maxRecDepth 100000 in
theorem rwith_any (A : Option Addr) (n c : Nat) (l0 : List DN) (s : ByteArray) (id : Int) (w : World) (hr : Kd.C kDN w A n l0) (hn : n ≤ 1000000) :
    Calls Try.prog 120 #[.slice A n c, .string s, .int .i64 id] w fun e w' => ∃ v, e = .returned v ∧ Kd.R kDN 156 w' w.heap.size (fun _ => True) v (withL l0 s id) ∧ Below w.heap.size w w' := by
  obtain rfl : l0.length = n := hr.1
  have HR0 := Aside0.mk hr
  clear hr
  go_enter Try.func120, Try.ntmps120
  go_wp2_with (go_at_call 121; refine (rwithout_any A l0.length c l0 s _ HR0.out hn).mono ?_; rintro e w0 ⟨v0, rfl, hv, hb⟩; obtain ⟨A1, c1, rfl, _, hC⟩ := Kd.R_reads hv; have HR := Aside0.mk hC; have HB := Aside0.mk hb; clear hv hb hC)
  have hl0 := withoutL_len l0 s
  have HWD := Aside0.mk (show withL l0 s id = insEnd s id ((withoutL l0 s).foldl (insW s id) ([], false)) by rw [insW_end]; rfl)
  obtain ⟨l, hl⟩ : ∃ l, l = withoutL l0 s := ⟨_, rfl⟩
  rw [← hl] at HR hl0 HWD ⊢
  clear hl
  have HB0 := HB
  clear HB
  go_loopg [7, 8, 9] l.length (fun q v7 v8 v9 wr => ∃ (i : Nat) (out : List DN) (d : Bool), v9 = .int .i64 (i : Int) ∧ v8 = .bool d ∧ i ≤ l.length ∧ Aside0 (q = l.length - i) ∧ Aside0 ((l.take i).foldl (insW s id) ([], false) = (out, d)) ∧ out.length ≤ i + d.toNat ∧ Aside0 (Kd.R kDN 156 wr w0.heap.size (fun _ => True) v7 out) ∧ Aside0 (Below w0.heap.size w0 wr))
  case atStart => exact ⟨0, [], false, rfl, rfl, Nat.zero_le _, ⟨rfl⟩, ⟨rfl⟩, Nat.zero_le _, ⟨Kd.R_nil _ _ _ _ _⟩, ⟨Below.refl _ _⟩⟩
  case round =>
    obtain ⟨i, out, d, rfl, rfl, hi, hq, HF, hol, HO, HB⟩ := hrel
    by_cases hlt : i < l.length
    · obtain ⟨ad, e1, r1, r2⟩ := at_DN HR.out i hlt
      subst e1
      have hgt := insW_take s id l i hlt
      rw [HF.out] at hgt
      obtain ⟨p, hp⟩ : ∃ p, p = l.getD i zDN := ⟨_, rfl⟩
      rw [← hp] at r1 r2 hgt
      have HC1 := Aside0.mk r1
      have HC2 := Aside0.mk r2
      replace r1 := pw_cell_below HB.out r1
      replace r2 := pw_cell_below HB.out r2
      clear hp
      cases d with
      | true =>
        replace hol : out.length ≤ i + 1 := hol
        have HG := Aside0.mk hgt
        clear hgt
        go_wp2_with (at_builtin; refine Kd.R_append kDN (w0 := w0) w0.heap.size rfl (.tmp 36) (.tmp 41) 67 156 (.agg #[(.string ⟨#[]⟩), (.int .i64 0)]) 24 rfl Try.underlying67 infoName rfl (by decide) (by omega) u7 out p [.string (p).1, .int .i64 (p).2] (fun _ => True) (fun _ => False) rfl rfl (kDN_mkM _ _ _ (p)) (fun _ h => h.elim) (fun _ _ => trivial) HO.out HB.out (below_size HB.out) (by first | omega | (rw [List.length_append, List.length_singleton]; omega)) ?_; intro v1 w1 h1 hb1 hg1 _; skip; clear HO HB; have HO := Aside0.mk h1; have HB := Aside0.mk hb1; clear h1 hb1 hg1)
        go_roundg (l.length - (i + 1))
        case measure => have := hq.out; omega
        case rel => exact ⟨i + 1, out ++ [p], true, by go_num, rfl, by omega, ⟨rfl⟩, ⟨by rw [HG.out]; rfl⟩, by rw [List.length_append, List.length_singleton, Bool.toNat_true]; omega, HO, HB⟩
      | false =>
        replace hol : out.length ≤ i := hol
        have hg : gtS p.1 s = true ∨ gtS p.1 s = false := by cases gtS p.1 s <;> simp
        rcases hg with hg | hg
        · obtain ⟨q1, q2⟩ := gtS_true hg
          have HG := Aside0.mk (show (l.take (i + 1)).foldl (insW s id) ([], false) = (out ++ [(s, id)] ++ [p], true) by rw [hgt]; unfold insW; rw [hg]; rfl)
          have T1 := Aside0.mk trivial
          clear hgt hg
          go_wp2_with (first
            | (have gate := T1.out; (at_builtin; refine Kd.R_append kDN (w0 := w0) w0.heap.size rfl (.tmp 30) (.tmp 34) 67 156 (.agg #[(.string ⟨#[]⟩), (.int .i64 0)]) 24 rfl Try.underlying67 infoName rfl (by decide) (by omega) u7 out ((s, id) : DN) [.string (((s, id) : DN)).1, .int .i64 (((s, id) : DN)).2] (fun _ => True) (fun _ => False) rfl rfl (kDN_mkM _ _ _ (((s, id) : DN))) (fun _ h => h.elim) (fun _ _ => trivial) HO.out HB.out (below_size HB.out) (by first | omega | (rw [List.length_append, List.length_singleton]; omega)) ?_; intro v1 w1 h1 hb1 hg1 _; have r1 := pw_cell_below hb1 HC1.out; have r2 := pw_cell_below hb1 HC2.out; clear HO HB; have HO := Aside0.mk h1; have HB := Aside0.mk hb1; clear h1 hb1 hg1); clear T1 gate)
            | (at_builtin; refine Kd.R_append kDN (w0 := w0) w0.heap.size rfl (.tmp 36) (.tmp 41) 67 156 (.agg #[(.string ⟨#[]⟩), (.int .i64 0)]) 24 rfl Try.underlying67 infoName rfl (by decide) (by omega) v1 (out ++ [((s, id) : DN)]) p [.string (p).1, .int .i64 (p).2] (fun _ => True) (fun _ => False) rfl rfl (kDN_mkM _ _ _ (p)) (fun _ h => h.elim) (fun _ _ => trivial) HO.out HB.out (below_size HB.out) (by first | omega | (rw [List.length_append, List.length_singleton]; omega)) ?_; intro v1 w1 h1 hb1 hg1 _; skip; clear HO HB; have HO := Aside0.mk h1; have HB := Aside0.mk hb1; clear h1 hb1 hg1))
          go_roundg (l.length - (i + 1))
          case measure => have := hq.out; omega
          case rel => exact ⟨i + 1, _, true, by go_num, rfl, by omega, ⟨rfl⟩, ⟨HG.out⟩, by simp; omega, HO, HB⟩
        · have HG := Aside0.mk (show (l.take (i + 1)).foldl (insW s id) ([], false) = (out ++ [p], false) by rw [hgt]; unfold insW; rw [hg]; rfl)
          have hgf := gtS_false hg
          clear hgt hg
          rcases hgf with q1 | ⟨q1, q2⟩
          all_goals
            go_wp2_with (at_builtin; refine Kd.R_append kDN (w0 := w0) w0.heap.size rfl (.tmp 36) (.tmp 41) 67 156 (.agg #[(.string ⟨#[]⟩), (.int .i64 0)]) 24 rfl Try.underlying67 infoName rfl (by decide) (by omega) u7 out p [.string (p).1, .int .i64 (p).2] (fun _ => True) (fun _ => False) rfl rfl (kDN_mkM _ _ _ (p)) (fun _ h => h.elim) (fun _ _ => trivial) HO.out HB.out (below_size HB.out) (by first | omega | (rw [List.length_append, List.length_singleton]; omega)) ?_; intro v1 w1 h1 hb1 hg1 _; skip; clear HO HB; have HO := Aside0.mk h1; have HB := Aside0.mk hb1; clear h1 hb1 hg1)
            go_roundg (l.length - (i + 1))
            case measure => have := hq.out; omega
            case rel => exact ⟨i + 1, _, false, by go_num, rfl, by omega, ⟨rfl⟩, ⟨HG.out⟩, by simp; omega, HO, HB⟩
    · have h9 := HF.out
      rw [List.take_of_length_le (by omega)] at h9
      rw [h9] at HWD
      clear h9
      cases d with
      | true =>
        replace hol : out.length ≤ i + 1 := hol
        go_wp2_with fail
        go_ret
        exact ⟨_, rfl, by rw [HWD.out]; exact Kd.R_lower HO.out HB0.out.size, HB0.out.trans (HB.out.mono HB0.out.size)⟩
      | false =>
        replace hol : out.length ≤ i := hol
        go_wp2_with (at_builtin; refine Kd.R_append kDN (w0 := w0) w0.heap.size rfl (.tmp 45) (.tmp 49) 67 156 (.agg #[(.string ⟨#[]⟩), (.int .i64 0)]) 24 rfl Try.underlying67 infoName rfl (by decide) (by omega) u7 out ((s, id) : DN) [.string (((s, id) : DN)).1, .int .i64 (((s, id) : DN)).2] (fun _ => True) (fun _ => False) rfl rfl (kDN_mkM _ _ _ (((s, id) : DN))) (fun _ h => h.elim) (fun _ _ => trivial) HO.out HB.out (below_size HB.out) (by first | omega | (rw [List.length_append, List.length_singleton]; omega)) ?_; intro v1 w1 h1 hb1 hg1 _; skip; clear HO HB; have HO := Aside0.mk h1; have HB := Aside0.mk hb1; clear h1 hb1 hg1)
        go_ret
        exact ⟨_, rfl, by rw [HWD.out]; exact Kd.R_lower HO.out HB0.out.size, HB0.out.trans (HB.out.mono HB0.out.size)⟩
end Go.Proofs.Ytpnbjpkdbiiogaa
/- Directories: which names are right; alike texts; the reference's Names and Did. -/
namespace Go.Proofs.Ytpnbjpkdbiiogaa
set_option linter.unusedVariables false
open Go.RowKit Go.Proofs.YtpnbjpkdbiiogaaW.PrintWords
attribute [local go_sem] mx2 mn2 mxTwo mnTwo

theorem ret_bool {a b : Bool} (h : a = b) : Ending.returned (.bool a) = .returned (.bool b) := by rw [h]
def okC (c : UInt8) : Bool := decide (33 ≤ (c.toNat : Int) ∧ (c.toNat : Int) ≤ 126 ∧ (c.toNat : Int) ≠ 47)
/-- Is a name right? -/
def rightB (s : ByteArray) : Bool := s.data.toList.all okC && decide (1 ≤ s.size) && decide (s.size ≤ 100)
theorem all_take (s : ByteArray) (k : Nat) (h : k < s.size) : (s.data.toList.take (k + 1)).all okC = ((s.data.toList.take k).all okC && okC s[k]) := by
  have e : s.data.toList.take (k + 1) = s.data.toList.take k ++ [s[k]] := by
    rw [List.take_succ_eq_append_getElem (by simpa using h)]
    rfl
  rw [e, List.all_append]
  simp
theorem all_fail (s : ByteArray) (k : Nat) (h : k < s.size) (hk : okC s[k] = false) : s.data.toList.all okC = false := by
  rw [List.all_eq_false]
  refine ⟨s[k], ?_, by simp [hk]⟩
  rw [Array.mem_toList_iff]
  exact Array.getElem_mem h
theorem all_len (s : ByteArray) (k : Nat) (h : s.size ≤ k) : (s.data.toList.take k).all okC = s.data.toList.all okC := by rw [List.take_of_length_le (by rw [data_length]; exact h)]
theorem okC_false {c : UInt8} (h : okC c = false) : (c.toNat : Int) < 33 ∨ 33 ≤ (c.toNat : Int) ∧ 126 < (c.toNat : Int) ∨ 33 ≤ (c.toNat : Int) ∧ (c.toNat : Int) ≤ 126 ∧ (c.toNat : Int) = 47 := by
  unfold okC at h
  have := of_decide_eq_false h
  omega
theorem okC_true {c : UInt8} (h : okC c = true) : 33 ≤ (c.toNat : Int) ∧ (c.toNat : Int) ≤ 126 ∧ (c.toNat : Int) ≠ 47 := of_decide_eq_true h
set_option maxHeartbeats 1000000 in
theorem rright_any (s : ByteArray) (w : World) (hs : s.size ≤ maxLen) : Calls Try.prog 55 #[.string s] w fun e w' => e = .returned (.bool (rightB s)) ∧ w = w' := by
  unfold maxLen at hs
  go_enter Try.func55, Try.ntmps55
  go_wp2
  go_loopg [3] s.size (fun q v3 wr => ∃ k : Nat, v3 = .int .i64 (k : Int) ∧ k ≤ s.size ∧ Aside0 (q = s.size - k) ∧ Aside0 ((s.data.toList.take k).all okC = true) ∧ wr = w)
  case atStart => exact ⟨0, rfl, Nat.zero_le _, ⟨rfl⟩, ⟨rfl⟩, rfl⟩
  case round =>
    obtain ⟨k, rfl, hk, hq, HA, rfl⟩ := hrel
    by_cases hlt : k < s.size
    · have hst := all_take s k hlt
      rw [HA.out, Bool.true_and] at hst
      cases hc : okC s[k] with
      | true =>
        rw [hc] at hst
        have HST := Aside0.mk hst
        obtain ⟨h1, h2, h3⟩ := okC_true hc
        have q1 : ((s[k].toNat : Int) == 47) = false := beq_eq_false_iff_ne.mpr h3
        have q2 : (s[k].toNat == 47) = false := beq_eq_false_iff_ne.mpr (by omega)
        clear hst hc h3
        go_wp2
        go_roundg (s.size - (k + 1))
        case measure => have := hq.out; omega
        case rel => exact ⟨k + 1, by go_num, by omega, ⟨rfl⟩, HST, rfl⟩
      | false =>
        have HR := Aside0.mk (show rightB s = false by unfold rightB; rw [all_fail s k hlt hc]; rfl)
        have hcf := okC_false hc
        clear hst hc
        rcases hcf with h1 | ⟨h1, h2⟩ | ⟨h1, h2, h3⟩
        · go_wp2
          go_ret
          rw [HR.out]
          exact ⟨rfl, rfl⟩
        · go_wp2
          go_ret
          rw [HR.out]
          exact ⟨rfl, rfl⟩
        · have q1 : ((s[k].toNat : Int) == 47) = true := beq_iff_eq.mpr h3
          have q2 : (s[k].toNat == 47) = true := beq_iff_eq.mpr (by omega)
          clear h3
          go_wp2
          go_ret
          rw [HR.out]
          exact ⟨rfl, rfl⟩
    · have e := HA.out
      rw [all_len s k (by omega)] at e
      have HE := Aside0.mk e
      clear e
      by_cases h1 : 1 ≤ s.size
      · by_cases h2 : s.size ≤ 100
        · have HR := Aside0.mk (show rightB s = true by unfold rightB; rw [HE.out, decide_eq_true h1, decide_eq_true h2]; rfl)
          go_wp2
          go_ret
          rw [HR.out]
          exact ⟨ret_bool (decide_eq_true (by omega)), rfl⟩
        · have HR := Aside0.mk (show rightB s = false by unfold rightB; rw [HE.out, decide_eq_true h1, decide_eq_false h2]; rfl)
          go_wp2
          go_ret
          rw [HR.out]
          exact ⟨ret_bool (decide_eq_false (by omega)), rfl⟩
      · have HR := Aside0.mk (show rightB s = false by unfold rightB; rw [HE.out, decide_eq_false h1]; rfl)
        go_wp2
        go_ret
        rw [HR.out]
        exact ⟨rfl, rfl⟩
set_option maxHeartbeats 1000000 in
set_option maxRecDepth 100000 in
theorem right_any (s : ByteArray) (w : World) (hs : s.size ≤ maxLen) : Calls Try.prog 54 #[.string s] w fun e w' => e = .returned (.bool (rightB s)) ∧ Below w.heap.size w w' := by
  unfold maxLen at hs
  by_cases h1 : 1 ≤ s.size
  · have q0 : (s.toList == []) = false := by
      rw [beq_eq_false_iff_ne, ByteArray.toList_eq]
      intro e
      have := data_length s
      rw [e] at this
      simp at this
      omega
    have q0' : (s.data.toList == []) = false := by rwa [← ByteArray.toList_eq]
    have q0e : s.toList.isEmpty = false := by rw [List.isEmpty_eq_false_iff]; exact beq_eq_false_iff_ne.1 q0
    have q0e' : s.data.toList.isEmpty = false := by rw [List.isEmpty_eq_false_iff]; exact beq_eq_false_iff_ne.1 q0'
    by_cases h2 : s.size ≤ 100
    · have kb := fun W => print_bytes (P := Try.prog) 9 22 5 Try.underlying9 Try.underlying22 Try.underlying5 s W
      obtain ⟨W1, hW1⟩ : ∃ W1, W1 = Lib.bytesWorld w 5 s := ⟨_, rfl⟩
      have HW := Aside0.mk hW1
      have hb1 : Below w.heap.size w W1 := by rw [hW1]; exact bytes_below (Below.refl _ _) (Nat.le_refl _) _ _
      have HB := Aside0.mk hb1
      have HCL := Aside0.mk (show ∀ j, j < s.size → W1.cell? ⟨w.heap.size, j, none⟩ = some (.int .u8 ((s.data.toList.getD j 0).toNat : Int)) by rw [hW1]; exact fun j hj => Lib.bytesWorld_cell w 5 s j hj)
      clear hW1 hb1
      have kb1 := kb w
      rw [← HW.out] at kb1
      clear kb
      go_enter Try.func54, Try.ntmps54
      go_wp2
      obtain ⟨b0, hb0⟩ : ∃ b0, b0 = w.heap.size := ⟨_, rfl⟩
      rw [← hb0] at HCL ⊢
      clear hb0 kb1
      go_loopg [15] s.size (fun q v3 wr => ∃ k : Nat, v3 = .int .i64 (k : Int) ∧ k ≤ s.size ∧ Aside0 (q = s.size - k) ∧ Aside0 ((s.data.toList.take k).all okC = true) ∧ wr = W1)
      case atStart => exact ⟨0, rfl, Nat.zero_le _, ⟨rfl⟩, ⟨rfl⟩, rfl⟩
      case round =>
        obtain ⟨k, rfl, hk, hq, HA, rfl⟩ := hrel
        by_cases hlt : k < s.size
        · have hst := all_take s k hlt
          rw [HA.out, Bool.true_and] at hst
          have hcell := HCL.out k hlt
          have e : s.data.toList.getD k 0 = s[k] := by
            rw [List.getD_eq_getElem?_getD, List.getElem?_eq_getElem (by rw [data_length]; exact hlt)]
            rfl
          rw [e] at hcell
          obtain ⟨c, hce⟩ : ∃ c, c = s[k] := ⟨_, rfl⟩
          have hff := all_fail s k hlt
          rw [← hce] at hst hcell hff
          clear e hce
          cases hc : okC c with
          | true =>
            rw [hc] at hst
            have HST := Aside0.mk hst
            obtain ⟨h1, h2, h3⟩ := okC_true hc
            have q1 : ((c.toNat : Int) == 47) = false := beq_eq_false_iff_ne.mpr h3
            have q2 : (c.toNat == 47) = false := beq_eq_false_iff_ne.mpr (by omega)
            clear hst hc h3 hff
            go_wp2
            go_roundg (s.size - (k + 1))
            case measure => have := hq.out; omega
            case rel => exact ⟨k + 1, by go_num, by omega, ⟨rfl⟩, HST, rfl⟩
          | false =>
            have HR := Aside0.mk (show rightB s = false by unfold rightB; rw [hff hc]; rfl)
            have hcf := okC_false hc
            clear hst hc hff
            rcases hcf with h1 | ⟨h1, h2⟩ | ⟨h1, h2, h3⟩
            · go_wp2
              go_ret
              rw [HR.out]
              exact ⟨rfl, HB.out⟩
            · go_wp2
              go_ret
              rw [HR.out]
              exact ⟨rfl, HB.out⟩
            · have q1 : ((c.toNat : Int) == 47) = true := beq_iff_eq.mpr h3
              have q2 : (c.toNat == 47) = true := beq_iff_eq.mpr (by omega)
              clear h3
              go_wp2
              go_ret
              rw [HR.out]
              exact ⟨rfl, HB.out⟩
        · have e := HA.out
          rw [all_len s k (by omega)] at e
          have HR := Aside0.mk (show rightB s = true by unfold rightB; rw [e, decide_eq_true h1, decide_eq_true h2]; rfl)
          clear e
          go_wp2
          go_ret
          rw [HR.out]
          exact ⟨rfl, HB.out⟩
    · have HR := Aside0.mk (show rightB s = false by unfold rightB; rw [decide_eq_false h2, Bool.and_false])
      go_enter Try.func54, Try.ntmps54
      go_wp2
      go_ret
      rw [HR.out]
      exact ⟨rfl, Below.refl _ _⟩
  · have HR := Aside0.mk (show rightB s = false by unfold rightB; rw [decide_eq_false h1, Bool.and_false, Bool.false_and])
    have hz : s.data.toList = [] := List.eq_nil_of_length_eq_zero (by rw [data_length]; omega)
    have q0 : (s.toList == []) = true := by rw [ByteArray.toList_eq, hz]; rfl
    have q0' : (s.data.toList == []) = true := by rw [hz]; rfl
    have q0e : s.toList.isEmpty = true := by rw [ByteArray.toList_eq, hz]; rfl
    have q0e' : s.data.toList.isEmpty = true := by rw [hz]; rfl
    clear hz
    go_enter Try.func54, Try.ntmps54
    go_wp2
    go_ret
    rw [HR.out]
    exact ⟨rfl, Below.refl _ _⟩
end Go.Proofs.Ytpnbjpkdbiiogaa
/- Directories: alike texts; the reference's Names and Did. -/
namespace Go.Proofs.Ytpnbjpkdbiiogaa
set_option linter.unusedVariables false
open Go.RowKit Go.Proofs.YtpnbjpkdbiiogaaW.PrintWords
attribute [local go_sem] mx2 mn2 mxTwo mnTwo

theorem infoStr : (Try.prog.info? 9).map (fun i => (i.zero, i.size, i.bytes)) = some (some (.string ⟨#[]⟩), 1, 16) := by kernel_rfl
theorem at_str {w : World} {A : Option Addr} {n : Nat} {xs : List ByteArray} (h : Kd.string.C w A n xs) (i : Nat) (h1 : i < n) : ∃ ad, A = some ad ∧ w.cell? (ad.add i) = some (.string (xs.getD i ⟨#[]⟩)) := by
  obtain ⟨ad, c, e, _, hK, hc0⟩ := Kd.C_get h (⟨#[]⟩ : ByteArray) (i : Int) (by omega) (by omega)
  simp only [Int.toNat_natCast] at hK hc0
  have hK' : c = [.string (xs.getD i ⟨#[]⟩)] := hK
  subst hK'
  exact ⟨ad, e, by have := hc0 0 _ rfl; rwa [show i * Kd.string.sz + 0 = i from Nat.mul_one i] at this⟩
set_option maxHeartbeats 1000000 in
theorem texts_any (A0 A1 : Option Addr) (n m c0 c1 : Nat) (l : List ByteArray) (w : World) (h0 : Kd.string.C w A0 n l) (h1 : Kd.string.C w A1 m l) :
    Calls Try.prog 49 #[.slice A0 n c0, .slice A1 m c1] w fun e w' => e = .returned (.bool true) ∧ Below w.heap.size w w' := by
  obtain rfl : l.length = n := h0.1
  obtain rfl : l.length = m := h1.1
  have hm := Kd.C_max h0
  have H0 := Aside0.mk h0
  have H1 := Aside0.mk h1
  clear h0 h1
  go_enter Try.func49, Try.ntmps49
  go_wp2
  go_loopg [5] l.length (fun q v5 wr => ∃ i : Nat, v5 = .int .i64 (i : Int) ∧ i ≤ l.length ∧ Aside0 (q = l.length - i) ∧ Aside0 (Below w.heap.size w wr))
  case atStart => exact ⟨0, rfl, Nat.zero_le _, ⟨rfl⟩, ⟨Below.refl _ _⟩⟩
  case round =>
    obtain ⟨i, rfl, hi, hq, HB⟩ := hrel
    by_cases hlt : i < l.length
    · obtain ⟨ad, rfl, r1⟩ := at_str H0.out i hlt
      obtain ⟨ad2, rfl, r2⟩ := at_str H1.out i hlt
      obtain ⟨s, hs⟩ : ∃ s, s = l.getD i ⟨#[]⟩ := ⟨_, rfl⟩
      rw [← hs] at r1 r2
      replace r1 := pw_cell_below HB.out r1
      replace r2 := pw_cell_below HB.out r2
      have q1 := bs_eq s s rfl
      clear hs
      go_wp2_with fail
      go_quiet (fail)
      go_wp2_with fail
      go_roundg (l.length - (i + 1))
      case measure => have := hq.out; omega
      case rel => exact ⟨i + 1, by go_num, by omega, ⟨rfl⟩, ⟨pw_below_drewN HB.out _⟩⟩
    · go_wp2_with fail
      go_ret
      exact ⟨rfl, HB.out⟩
set_option maxHeartbeats 1000000 in
theorem rnames_any (A : Option Addr) (n c : Nat) (l : List DN) (w : World) (hr : Kd.C kDN w A n l) (hn : n ≤ 1000000) :
    Calls Try.prog 51 #[.slice A n c] w fun e w' => ∃ v, e = .returned v ∧ Kd.R Kd.string 9 w' w.heap.size (fun _ => True) v (l.map (·.1)) ∧ Below w.heap.size w w' := by
  obtain rfl : l.length = n := hr.1
  have HR := Aside0.mk hr
  clear hr
  go_enter Try.func51, Try.ntmps51
  go_wp2
  go_loopg [3, 4] l.length (fun q v3 v4 wr => ∃ i : Nat, v4 = .int .i64 (i : Int) ∧ i ≤ l.length ∧ Aside0 (q = l.length - i) ∧ Aside0 (Kd.R Kd.string 9 wr w.heap.size (fun _ => True) v3 ((l.take i).map (·.1))) ∧ Aside0 (Below w.heap.size w wr))
  case atStart => exact ⟨0, rfl, Nat.zero_le _, ⟨rfl⟩, ⟨Kd.R_nil _ _ _ _ _⟩, ⟨Below.refl _ _⟩⟩
  case round =>
    obtain ⟨i, rfl, hi, hq, HO, HB⟩ := hrel
    by_cases hlt : i < l.length
    · obtain ⟨ad, e1, r1, r2⟩ := at_DN HR.out i hlt
      subst e1
      have HT := Aside0.mk (show (l.take (i + 1)).map (·.1) = (l.take i).map (·.1) ++ [(l.getD i zDN).1] by rw [take_succ_getD l i hlt, List.map_append]; rfl)
      obtain ⟨p, hp⟩ : ∃ p, p = l.getD i zDN := ⟨_, rfl⟩
      rw [← hp] at r1 r2 HT
      replace r1 := pw_cell_below HB.out r1
      have HLB := Aside0.mk (show ((l.take i).map (·.1)).length ≤ l.length by rw [List.length_map, List.length_take]; omega)
      clear hp r2
      go_wp2_with (at_builtin; refine Kd.R_append Kd.string (w0 := w) w.heap.size rfl (.tmp 11) (.tmp 17) 78 9 (.string ⟨#[]⟩) 16 rfl Try.underlying78 infoStr rfl (by decide) (by omega) u3 _ p.1 [.string p.1] (fun _ => True) (fun _ => False) rfl rfl rfl (fun _ h => h.elim) (fun _ _ => trivial) HO.out HB.out (below_size HB.out) (by have := HLB.out; omega) ?_; intro v1 w1 h1 hb1 _ _; rw [← HT.out] at h1; clear HO HB; have HO := Aside0.mk h1; have HB := Aside0.mk hb1; clear h1 hb1)
      go_roundg (l.length - (i + 1))
      case measure => have := hq.out; omega
      case rel => exact ⟨i + 1, by go_num, by omega, ⟨rfl⟩, HO, HB⟩
    · have h9 := HO.out
      rw [List.take_of_length_le (by omega)] at h9
      have HO9 := Aside0.mk h9
      clear h9
      go_wp2_with fail
      go_ret
      exact ⟨_, rfl, HO9.out, HB.out⟩
/-- What is read of a row of one's own. -/
theorem C_own9 {α : Type} {d : Kd α} {e : Nat} {w : World} {base : Nat} {ok : Nat → Prop} {A : Option Addr} {n c : Nat} {xs : List α} (h : d.R e w base ok (.slice A n c) xs) : d.C w A n xs := by
  obtain ⟨rfl, _, h3⟩ := Kd.R_reads' h
  exact h3
set_option maxHeartbeats 2000000 in
set_option maxRecDepth 100000 in
theorem did_any (b : Nat) (A : Option Addr) (n c : Nat) (l : List DN) (kd : Int) (sa sb : ByteArray) (id : Int) (w : World) (hr : Kd.R kDN 156 w b (fun _ => True) (.slice A n c) l) (hbw : b ≤ w.heap.size) (hn : n ≤ 100000) :
    Calls Try.prog 112 #[.slice A n c, (.agg #[.int .i64 kd, .string sa, .string sb, .int .i64 id])] w fun e w' => ∃ v, e = .returned v ∧ Kd.R kDN 156 w' b (fun _ => True) v (didL l ⟨kd, sa, sb, id⟩) ∧ Below w.heap.size w w' := by
  have HR := Aside0.mk hr
  clear hr
  by_cases h0 : kd = 0
  · subst h0
    have HD := Aside0.mk (show didL l ⟨0, sa, sb, id⟩ = withL l sa id by unfold didL; rw [if_pos rfl])
    obtain ⟨g, hg⟩ : ∃ g, g = getN l sa := ⟨_, rfl⟩
    have HG := Aside0.mk hg.symm
    clear hg
    go_enter Try.func112, Try.ntmps112
    go_wp2_with (first
      | (go_at_call 101; refine (rget_any A n c l sa _ (C_own9 (Kd.R_alloc HR.out _))).mono ?_; rw [HG.out]; rintro e w9 ⟨rfl, hw9⟩; subst hw9)
      | (go_at_call 120; refine (rwith_any A n c l sa id _ (C_own9 (Kd.R_alloc HR.out _)) (by omega)).mono ?_; rintro e w5 ⟨v5, rfl, hv, hb⟩; have HV := Aside0.mk (Kd.R_lower hv (Nat.le_trans hbw (below_alloc (Below.refl w.heap.size w) _).size)); have HB := Aside0.mk (below_step (below_alloc (Below.refl _ _) _) hb); clear hv hb))
    go_ret
    rw [HD.out]
    exact ⟨_, rfl, HV.out, HB.out⟩
  · have q0 : (kd == 0) = false := beq_eq_false_iff_ne.mpr h0
    cases hg : getN l sa with
    | none =>
      have HG := Aside0.mk hg
      have HD := Aside0.mk (show didL l ⟨kd, sa, sb, id⟩ = l by unfold didL; rw [if_neg h0]; simp only; rw [hg])
      clear hg h0
      go_enter Try.func112, Try.ntmps112
      go_wp2_with (first
        | (go_at_call 101; refine (rget_any A n c l sa _ (C_own9 (Kd.R_alloc HR.out _))).mono ?_; rw [HG.out]; rintro e w9 ⟨rfl, hw9⟩; subst hw9)
        | fail)
      go_ret
      rw [HD.out]
      exact ⟨_, rfl, Kd.R_alloc HR.out _, below_alloc (Below.refl _ _) _⟩
    | some y =>
      have HG := Aside0.mk hg
      have hnb := blk_new w (.cells #[.int .i64 kd, .string sa, .string sb, .int .i64 id] 144)
      have HT0 := Aside0.mk ((blk_cell hnb 0).trans (rfl : _ = some (Value.int .i64 kd)))
      have HT2 := Aside0.mk ((blk_cell hnb 2).trans (rfl : _ = some (Value.string sb)))
      clear hnb
      have hwl := withoutL_len l sa
      have hln : l.length = n := (C_own9 HR.out).1
      by_cases h1 : kd = 1
      · subst h1
        have HD := Aside0.mk (show didL l ⟨1, sa, sb, id⟩ = withL (withoutL l sa) sb y by unfold didL; rw [if_neg h0]; simp [hg])
        clear hg h0
        have hw2 : (withoutL l sa).length ≤ 1000000 := by omega
        clear hln
        go_enter Try.func112, Try.ntmps112
        go_wp2_with (first
          | (go_at_call 101; refine (rget_any A n c l sa _ (C_own9 (Kd.R_alloc HR.out _))).mono ?_; rw [HG.out]; rintro e w9 ⟨rfl, hw9⟩; subst hw9)
          | (go_at_call 121; refine (rwithout_any A n c l sa _ (C_own9 (Kd.R_alloc HR.out _)) (by omega)).mono ?_; rintro e w5 ⟨v5, rfl, hv, hb⟩; obtain ⟨A5, c5, rfl, _, hC5⟩ := Kd.R_reads hv; have t0 := pw_cell_below hb HT0.out; have t2 := pw_cell_below hb HT2.out; have HC5 := Aside0.mk hC5; have HB := Aside0.mk (below_step (below_alloc (Below.refl _ _) _) hb); clear hv hb hC5)
          | (go_at_call 120; refine (rwith_any A5 (withoutL l sa).length c5 (withoutL l sa) sb y _ HC5.out hw2).mono ?_; rintro e w6 ⟨v6, rfl, hv, hb⟩; have HV := Aside0.mk (Kd.R_lower hv (Nat.le_trans hbw HB.out.size)); have hbn := below_step HB.out hb; clear HB; have HB := Aside0.mk hbn; clear hv hb hbn))
        go_ret
        rw [HD.out]
        exact ⟨_, rfl, HV.out, HB.out⟩
      · have HD := Aside0.mk (show didL l ⟨kd, sa, sb, id⟩ = withoutL l sa by unfold didL; rw [if_neg h0]; simp only; rw [hg]; exact if_neg h1)
        have q1 : (kd == 1) = false := beq_eq_false_iff_ne.mpr h1
        clear hg h0 h1 hln
        go_enter Try.func112, Try.ntmps112
        go_wp2_with (first
          | (go_at_call 101; refine (rget_any A n c l sa _ (C_own9 (Kd.R_alloc HR.out _))).mono ?_; rw [HG.out]; rintro e w9 ⟨rfl, hw9⟩; subst hw9)
          | (go_at_call 121; refine (rwithout_any A n c l sa _ (C_own9 (Kd.R_alloc HR.out _)) (by omega)).mono ?_; rintro e w5 ⟨v5, rfl, hv, hb⟩; have t0 := pw_cell_below hb HT0.out; have HV := Aside0.mk (Kd.R_lower hv (Nat.le_trans hbw (below_alloc (Below.refl w.heap.size w) _).size)); have HB := Aside0.mk (below_step (below_alloc (Below.refl _ _) _) hb); clear hv hb))
        go_ret
        rw [HD.out]
        exact ⟨_, rfl, HV.out, HB.out⟩
end Go.Proofs.Ytpnbjpkdbiiogaa
/- The reference's directory in memory; Do, Sync. -/
namespace Go.Proofs.Ytpnbjpkdbiiogaa
set_option linter.unusedVariables false
open Go.RowKit Go.Proofs.YtpnbjpkdbiiogaaW.PrintWords
attribute [local go_sem] mx2 mn2 mxTwo mnTwo

def kDop : Kd DOp := Kd.iso (Kd.pair (Kd.int .i64) (Kd.pair Kd.string (Kd.pair Kd.string (Kd.int .i64)))) (fun x : DOp => (x.kd, x.a, x.b, x.id))
theorem kDop_mkM (w : World) (base : Nat) (ok : Nat → Prop) (x : DOp) : kDop.M w base ok x [.int .i64 x.kd, .string x.a, .string x.b, .int .i64 x.id] :=
  ⟨[.int .i64 x.kd], [.string x.a, .string x.b, .int .i64 x.id], rfl, rfl, ⟨[.string x.a], [.string x.b, .int .i64 x.id], rfl, rfl, ⟨[.string x.b], [.int .i64 x.id], rfl, rfl, rfl⟩⟩⟩
theorem infoRDop : (Try.prog.info? 144).map (fun i => (i.zero, i.size, i.bytes)) = some (some (.agg #[(.int .i64 0), (.string ⟨#[]⟩), (.string ⟨#[]⟩), (.int .i64 0)]), 4, 48) := by kernel_rfl
theorem infoDop : (Try.prog.info? 149).map (fun i => (i.zero, i.size, i.bytes)) = some (some (.agg #[(.int .i64 0), (.string ⟨#[]⟩), (.string ⟨#[]⟩), (.int .i64 0)]), 4, 48) := by kernel_rfl
theorem at_Dop {w : World} {A : Option Addr} {n : Nat} {xs : List DOp} (h : Kd.C kDop w A n xs) (i : Nat) (h1 : i < n) : ∃ ad, A = some ad ∧ w.cell? (ad.add (i * 4)) = some (.int .i64 (xs.getD i zDop).kd) ∧ w.cell? ⟨(ad.add (i * 4)).block, (ad.add (i * 4)).off + 1, none⟩ = some (.string (xs.getD i zDop).a) ∧ w.cell? ⟨(ad.add (i * 4)).block, (ad.add (i * 4)).off + 2, none⟩ = some (.string (xs.getD i zDop).b) ∧ w.cell? ⟨(ad.add (i * 4)).block, (ad.add (i * 4)).off + 3, none⟩ = some (.int .i64 (xs.getD i zDop).id) := by
  obtain ⟨ad, c, e, _, hK, hc0⟩ := Kd.C_get h zDop (i : Int) (by omega) (by omega)
  simp only [Int.toNat_natCast] at hK hc0
  have hc : ∀ j u, c[j]? = some u → w.cell? (ad.add (i * 4 + j)) = some u := hc0
  obtain ⟨_, _, rfl, rfl, ⟨_, _, rfl, rfl, ⟨_, _, rfl, rfl, rfl⟩⟩⟩ := hK
  exact ⟨ad, e, hc 0 _ rfl, by rw [← add_field _ _ 1 (by omega)]; exact hc 1 _ rfl, by rw [← add_field _ _ 2 (by omega)]; exact hc 2 _ rfl, by rw [← add_field _ _ 3 (by omega)]; exact hc 3 _ rfl⟩
/-- The reference's directory. -/
structure RD (W : World) (b g : Nat) (vn vs vo : Value) (now safe : List DN) (ops : List DOp) : Prop where
  hb : W.heap[g]? = some (.cells #[vn, vs, vo] 70 (0, 0))
  hn : Kd.R kDN 156 W b (fun _ => True) vn now
  hs : Kd.R kDN 156 W b (fun _ => True) vs safe
  ho : Kd.R kDop 144 W b (fun _ => True) vo ops
  hg : b ≤ g
theorem dnE (t : Nat) (h1 : 156 ≠ t) : ∀ q, q ∈ 156 :: kDN.E → q ≠ t := by
  intro q hq
  have : kDN.E = [] := rfl
  rw [this] at hq
  simp at hq
  omega
theorem ropE7 (e t : Nat) (h1 : e ≠ t) : ∀ q, q ∈ e :: kDop.E → q ≠ t := by
  intro q hq
  have : kDop.E = [] := rfl
  rw [this] at hq
  simp at hq
  omega
section
variable {W W1 : World} {b g i : Nat} {x x' : Nat → Prop} {v vo : Value} {cs : Array Value} {t : TypeId}
theorem dfarN {xs : List DN} (h : Kd.R kDN 156 W b x v xs) (hb : W.heap[g]? = some (.cells cs t (0, 0))) (ht : 156 ≠ t) (u : Value) : Kd.R kDN 156 (W.setCell ⟨g, i, none⟩ u) b x v xs :=
  Kd.R_mono (Kd.R_far (Kd.R_types h hb (dnE _ ht)) (p := ⟨g, i, none⟩) (fun k hk => hk.2) u) (fun k hk => hk.1)
theorem dfarO {e : Nat} {xs : List DOp} (h : Kd.R kDop e W b x v xs) (hb : W.heap[g]? = some (.cells cs t (0, 0))) (ht : e ≠ t) (u : Value) : Kd.R kDop e (W.setCell ⟨g, i, none⟩ u) b x v xs :=
  Kd.R_mono (Kd.R_far (Kd.R_types h hb (ropE7 _ _ ht)) (p := ⟨g, i, none⟩) (fun k hk => hk.2) u) (fun k hk => hk.1)
theorem dgrowN {e : Nat} {xs : List DN} {ops : List DOp} (h : Kd.R kDN 156 W b x v xs) (ho : Kd.R kDop e W b x' vo ops) (he : 156 ≠ e) (hg : W.grownBy W1 vo.ownBlock) : Kd.R kDN 156 W1 b x v xs :=
  Kd.R_mono (Kd.R_grown (Kd.R_apartR h ho (dnE _ he)) hg (fun k hk => hk.2)) (fun k hk => hk.1)
end
section
variable {W W1 : World} {b g : Nat} {vn vs vo v1 : Value} {now safe now1 : List DN} {ops : List DOp} {o : DOp}
theorem RD.below (h : RD W b g vn vs vo now safe ops) (hb : Below W.heap.size W W1) : RD W1 b g vn vs vo now safe ops := ⟨blk_below h.hb hb, Kd.R_below h.hn hb, Kd.R_below h.hs hb, Kd.R_below h.ho hb, h.hg⟩
theorem RD.setNow (h : RD W b g vn vs vo now safe ops) (hv : Kd.R kDN 156 W b (fun _ => True) v1 now1) : RD (W.setCell ⟨g, 0, none⟩ v1) b g v1 vs vo now1 safe ops :=
  ⟨blk_put h.hb 0 _ rfl, dfarN hv h.hb (by decide) _, dfarN h.hs h.hb (by decide) _, dfarO h.ho h.hb (by decide) _, h.hg⟩
theorem RD.addOp (h : RD W b g vn vs vo now safe ops) (ho : Kd.R kDop 144 W1 b (fun _ => True) v1 (ops ++ [o])) (hg : W.grownBy W1 vo.ownBlock) : RD (W1.setCell ⟨g, 2, none⟩ v1) b g vn vs v1 now safe (ops ++ [o]) := by
  have hb := blk_grown h.hb hg (Kd.R_ne h.ho h.hb (by decide))
  exact ⟨blk_put hb 2 _ rfl, dfarN (dgrowN h.hn h.ho (by decide) hg) hb (by decide) _, dfarN (dgrowN h.hs h.ho (by decide) hg) hb (by decide) _, dfarO ho hb (by decide) _, h.hg⟩
end
theorem rdsync_any (b g : Nat) (vn vs vo : Value) (now safe : List DN) (ops : List DOp) (w : World) (h : RD w b g vn vs vo now safe ops) : Calls Try.prog 95 #[.pointer (some ⟨g, 0, none⟩)] w fun e w' => e = .returned (.tuple #[]) ∧ RD w' b g vn vn (.slice none 0 0) now now [] ∧ KeepBut w w' g none ∧ Below b w w' := by
  obtain ⟨A, c, rfl⟩ := Kd.R_slice h.hn
  have hc0 := (blk_cell h.hb 0).trans (rfl : _ = some (Value.slice A now.length c))
  have hc1 := (blk_cell h.hb 1).trans (rfl : _ = some vs)
  have hc2 := (blk_cell h.hb 2).trans (rfl : _ = some vo)
  have f1 := blk_frozen h.hb 1
  have f2 := blk_frozen h.hb 2
  have H := Aside0.mk h
  clear h
  go_enter Try.func95, Try.ntmps95
  go_wp2_with fail
  first | go_end0 | ((try simp only [Exit.inBlock, Exit.then]); refine bodyPost_ret (results_none rfl _ _ _) rfl ?_)
  have h1 := blk_put H.out.hb 1 (.slice A now.length c) rfl
  exact ⟨rfl, ⟨blk_put h1 2 _ rfl, dfarN (dfarN H.out.hn H.out.hb (by decide) _) h1 (by decide) _, dfarN (dfarN H.out.hn H.out.hb (by decide) _) h1 (by decide) _, Kd.R_nil _ _ _ _ _, H.out.hg⟩, ((KeepBut.refl _ _ _).set_ 1 _).set_ 2 _, (((Below.refl _ _).setCell (p := ⟨g, 1, none⟩) H.out.hg _).setCell (p := ⟨g, 2, none⟩) H.out.hg _)⟩
def doCode (now : List DN) (o : DOp) : Int :=
  if o.kd = 0 ∧ (getN now o.a).isSome = true then 7 else
  if o.kd ≠ 0 ∧ (getN now o.a).isSome = false then 6 else
  if o.kd = 0 ∧ rightB o.a = false ∨ o.kd = 1 ∧ rightB o.b = false then 1 else 0
def doNow (now : List DN) (o : DOp) : List DN := if doCode now o = 0 then didL now o else now
def doOps (now : List DN) (ops : List DOp) (o : DOp) : List DOp := if doCode now o = 0 then ops ++ [o] else ops
end Go.Proofs.Ytpnbjpkdbiiogaa
