/- Entries as an argument: light; the reference's Words; the example. -/
import Derived.Test.YtldiginkmmlojaaBoF
import Derived.Test.YtldiginkmmlojaaBoC
import Derived.Test.YtldiginkmmlojaaOpen
namespace Go.Proofs.Ytldiginkmmlojaa
set_option linter.unusedVariables false
open Go.RowKit Go.Proofs.YtldiginkmmlojaaW.PrintWords
attribute [local go_sem] mx2 mn2 mxTwo mnTwo

/-- An entry as an argument: four numbers and its items. -/
abbrev LR := Int × Int × Int × Int × List ByteArray
def kLr : Kd LR := Kd.pair (Kd.int .u64) (Kd.pair (Kd.int .u64) (Kd.pair (Kd.int .u64) (Kd.pair (Kd.int .u64) (Kd.slice 9 Kd.string))))
def goodLr (x : LR) : Prop := (Lit.int .u64 x.1).wf = true ∧ (Lit.int .u64 x.2.1).wf = true ∧ (Lit.int .u64 x.2.2.1).wf = true ∧ (Lit.int .u64 x.2.2.2.1).wf = true ∧ ∀ y ∈ x.2.2.2.2, y.size ≤ maxLen
def zLr : LR := (0, 0, 0, 0, [])
theorem opens_t22 : Opens Try.prog 22 (Kd.slice 47 kLr) (fun xs => ∀ x ∈ xs, goodLr x) :=
  opens_slice Try.underlying22 (by kernel_rfl) (opens_struct5 Try.underlying47 (by kernel_rfl) (by kernel_rfl) (opens_int Try.underlying37) (opens_int Try.underlying37) (opens_int Try.underlying37) (opens_int Try.underlying37) (opens_slice Try.underlying41 (by kernel_rfl) (opens_string Try.underlying9)))
theorem at_Lr {w : World} {A : Option Addr} {n : Nat} {xs : List LR} (h : Kd.C kLr w A n xs) (i : Nat) (h1 : i < n) : ∃ ad, A = some ad ∧ w.cell? (ad.add (i * 5)) = some (.int .u64 (xs.getD i zLr).1) ∧ w.cell? ⟨(ad.add (i * 5)).block, (ad.add (i * 5)).off + 1, none⟩ = some (.int .u64 (xs.getD i zLr).2.1) ∧ w.cell? ⟨(ad.add (i * 5)).block, (ad.add (i * 5)).off + 2, none⟩ = some (.int .u64 (xs.getD i zLr).2.2.1) ∧ w.cell? ⟨(ad.add (i * 5)).block, (ad.add (i * 5)).off + 3, none⟩ = some (.int .u64 (xs.getD i zLr).2.2.2.1) ∧
    ∃ A' c', w.cell? ⟨(ad.add (i * 5)).block, (ad.add (i * 5)).off + 4, none⟩ = some (.slice A' (xs.getD i zLr).2.2.2.2.length c') ∧ (xs.getD i zLr).2.2.2.2.length ≤ c' ∧ Kd.C Kd.string w A' (xs.getD i zLr).2.2.2.2.length (xs.getD i zLr).2.2.2.2 := by
  obtain ⟨ad, c, e, _, hK, hc0⟩ := Kd.C_get h zLr (i : Int) (by omega) (by omega)
  simp only [Int.toNat_natCast] at hK hc0
  have hc : ∀ j u, c[j]? = some u → w.cell? (ad.add (i * 5 + j)) = some u := hc0
  obtain ⟨_, _, rfl, rfl, ⟨_, _, rfl, rfl, ⟨_, _, rfl, rfl, ⟨_, _, rfl, rfl, ⟨A', c', rfl, hle, hC⟩⟩⟩⟩⟩ := hK
  exact ⟨ad, e, hc 0 _ rfl, by rw [← add_field _ _ 1 (by omega)]; exact hc 1 _ rfl, by rw [← add_field _ _ 2 (by omega)]; exact hc 2 _ rfl, by rw [← add_field _ _ 3 (by omega)]; exact hc 3 _ rfl, A', c', by rw [← add_field _ _ 4 (by omega)]; exact hc 4 _ rfl, hle, hC⟩
theorem recs_of {w : World} {A : Option Addr} {n : Nat} {xs : List LR} (h : Kd.C kLr w A n xs) (hg : ∀ x ∈ xs, goodLr x) : ∃ zs : List RecW, zs.length = n ∧ Kd.C kRec w A n zs := by
  obtain ⟨zs, hl, hz⟩ := list_of (p := fun i (z : RecW) => ∃ ad, A = some ad ∧ RecAt w (ad.add (i * 5)) z.1) n (fun i hi => by
    obtain ⟨ad, e, h0, h1, h2, h3, A', c', h4, _⟩ := at_Lr h i hi
    have hm : xs.getD i zLr ∈ xs := by
      rw [List.getD_eq_getElem?_getD, List.getElem?_eq_getElem (by rw [h.1]; exact hi)]
      exact List.getElem_mem _
    have hgd := hg _ hm
    exact ⟨⟨⟨(xs.getD i zLr).1, (xs.getD i zLr).2.1, (xs.getD i zLr).2.2.1, (xs.getD i zLr).2.2.2.1, A', _, c'⟩, hgd.1, hgd.2.2.2.1⟩, ad, e, h0, h1, h2, h3, h4⟩)
  refine ⟨zs, hl, hl, h.2.1, fun hn => ?_⟩
  obtain ⟨ad, e, _⟩ := at_Lr h 0 hn
  refine ⟨ad, e, fun j p hp => ?_⟩
  obtain ⟨ad', e', h0, h1, h2, h3, h4⟩ := hz j p hp
  obtain rfl : ad = ad' := by rw [e] at e'; injection e'
  refine ⟨_, rfl, Kd.K_of_M _ (kRec_mkM w 0 (fun _ => True) p), fun i u hi => ?_⟩
  show w.cell? (ad.add (j * 5 + i)) = some u
  match i, hi with
  | 0, hi => cases hi; exact h0
  | 1, hi => cases hi; rw [add_field _ _ 1 (by omega)]; exact h1
  | 2, hi => cases hi; rw [add_field _ _ 2 (by omega)]; exact h2
  | 3, hi => cases hi; rw [add_field _ _ 3 (by omega)]; exact h3
  | 4, hi => cases hi; rw [add_field _ _ 4 (by omega)]; exact h4
theorem recs_C {w : World} {n₀ : Nat} {v : Value} {zs : List RecW} (h : Kd.R kRec 47 w n₀ (fun _ => True) v zs) (n₁ : Nat) (hn : w.heap.size ≤ n₁) : Recs n₁ w v zs := by
  by_cases h0 : 0 < zs.length
  · obtain ⟨g, cap, rfl, hb, hlt, _⟩ := Kd.R_form h h0
    refine .inr ⟨g, 0, cap, rfl, by omega, fun j hj => ?_⟩
    obtain ⟨_, _, hC⟩ := Kd.R_reads' h
    obtain ⟨ad, e, hR⟩ := at_Rec hC j hj
    obtain rfl : ad = ⟨g, 0, none⟩ := by injection e with e; exact e.symm
    rw [add_plain] at hR
    rw [Nat.zero_add]
    exact hR
  · obtain rfl : zs = [] := List.eq_nil_of_length_eq_zero (by omega)
    obtain ⟨inner, hown⟩ := Kd.R_own h
    rcases hown.2 with ⟨h', _⟩ | ⟨g', cap', cur, h', _, hg, _⟩
    · exact .inl ⟨h', rfl⟩
    · exact .inr ⟨g', 0, cap', h', Nat.lt_of_lt_of_le (blk_lt hg) hn, fun j hj => absurd hj (Nat.not_lt_zero _)⟩
set_option maxHeartbeats 1000000 in
set_option maxRecDepth 100000 in
theorem words_any (A1 A2 : Option Addr) (c1 c2 : Nat) (xs : List Int) (w : World) (h1 : Kd.C (Kd.int .u64) w A1 xs.length xs) (h2 : Kd.C (Kd.int .u64) w A2 xs.length xs) : Calls Try.prog 19 #[.slice A1 xs.length c1, .slice A2 xs.length c2] w fun e w' => e = .returned (.bool true) ∧ Below w.heap.size w w' := by
  have hm := Kd.C_max h1
  have H1 := Aside0.mk h1
  have H2 := Aside0.mk h2
  clear h1 h2
  go_enter Try.func19, Try.ntmps19
  go_wp2
  go_loopg [5] xs.length (fun g v5 wr => ∃ i : Nat, v5 = .int .i64 (i : Nat) ∧ i ≤ xs.length ∧ Aside0 (g = xs.length - i) ∧ Aside0 (Below w.heap.size w wr))
  case atStart => exact ⟨0, rfl, Nat.zero_le _, ⟨rfl⟩, ⟨Below.refl _ _⟩⟩
  case round =>
    obtain ⟨i, rfl, hi, hg, HB⟩ := hrel
    by_cases hlt : i < xs.length
    · obtain ⟨a1, rfl, s1⟩ := Kd.at_int (Kd.C_below H1.out HB.out) (i : Int) (by omega) (by omega)
      obtain ⟨a2, rfl, s2⟩ := Kd.at_int (Kd.C_below H2.out HB.out) (i : Int) (by omega) (by omega)
      simp only [Int.toNat_natCast] at s1 s2
      obtain ⟨y, hy⟩ : ∃ y, y = rd xs (i : Int) := ⟨_, rfl⟩
      rw [← hy] at s1 s2
      clear hy
      go_wp2
      go_quiet (fail)
      go_wp2_with fail
      go_roundg (xs.length - (i + 1))
      case measure => have := hg.out; omega
      case rel => exact ⟨i + 1, by go_num, hlt, ⟨rfl⟩, ⟨pw_below_drewN HB.out _⟩⟩
    · obtain rfl : i = xs.length := by omega
      go_wp2_with fail
      go_ret
      exact ⟨rfl, HB.out⟩
set_option maxHeartbeats 1000000 in
set_option maxRecDepth 100000 in
theorem light41_any (A : Option Addr) (c : Nat) (l : List LR) (w : World) (hr : Kd.C kLr w A l.length l) : Calls Try.prog 13 #[.slice A l.length c] w fun e w' => ∃ b, e = .returned (.bool b) ∧ (b = true → l.length ≤ 40) ∧ Below w.heap.size w w' := by
  have hm := Kd.C_max hr
  have HR := Aside0.mk hr
  clear hr
  go_enter Try.func13, Try.ntmps13
  go_wp2
  go_loopg [3, 4] l.length (fun g v3 v4 wr => ∃ (i : Nat) (m : Int), v3 = .int .i64 m ∧ v4 = .int .i64 (i : Nat) ∧ i ≤ l.length ∧ i ≤ 40 ∧ Aside0 (g = l.length - i) ∧ Aside0 (Below w.heap.size w wr))
  case atStart => exact ⟨0, 0, rfl, rfl, Nat.zero_le _, Nat.zero_le _, ⟨rfl⟩, ⟨Below.refl _ _⟩⟩
  case round =>
    obtain ⟨i, m, rfl, rfl, hi, h40, hg, HB⟩ := hrel
    by_cases hlt : i < l.length ∧ i < 40
    · obtain ⟨hl1, hl2⟩ := hlt
      obtain ⟨ad, rfl, _, _, _, _, A', c', s4, _, hC⟩ := at_Lr HR.out i hl1
      obtain ⟨its, hits⟩ : ∃ t, t = (l.getD i zLr).2.2.2.2 := ⟨_, rfl⟩
      rw [← hits] at s4 hC
      clear hits
      have S4 := Aside0.mk s4
      have HC := Aside0.mk hC
      have hmi := Kd.C_max hC
      clear s4 hC
      go_wp2
      go_loopg [3, 5] its.length (fun g v3 v5 wr' => ∃ (k : Nat) (m : Int), v3 = .int .i64 m ∧ v5 = .int .i64 (k : Nat) ∧ k ≤ its.length ∧ k ≤ 70 ∧ Aside0 (g = its.length - k) ∧ Aside0 (Below w.heap.size w wr'))
      case atStart => exact ⟨0, m, rfl, rfl, Nat.zero_le _, Nat.zero_le _, ⟨rfl⟩, HB⟩
      case round =>
        clear HB
        obtain ⟨k, m2, rfl, rfl, hk, h70, hg2, HB⟩ := hrel
        have s4 := pw_cell_below HB.out S4.out
        by_cases hkl : k < its.length ∧ k < 70
        · obtain ⟨hk1, hk2⟩ := hkl
          obtain ⟨a2, rfl, s5⟩ := Kd.at_string (Kd.C_below HC.out HB.out) (k : Int) (by omega) (by omega)
          simp only [Int.toNat_natCast] at s5
          obtain ⟨y, hy⟩ : ∃ y, y = rdOf ByteArray.empty its (k : Int) := ⟨_, rfl⟩
          rw [← hy] at s5
          clear hy
          by_cases h3 : 3000 < y.size
          · go_wp2_with fail
            go_roundg (its.length - (k + 1))
            case measure => have := hg2.out; omega
            case rel => exact ⟨k + 1, _, rfl, by go_num, hk1, hk2, ⟨rfl⟩, HB⟩
          · go_wp2_with fail
            go_roundg (its.length - (k + 1))
            case measure => have := hg2.out; omega
            case rel => exact ⟨k + 1, _, rfl, by go_num, hk1, hk2, ⟨rfl⟩, HB⟩
        · by_cases h20 : 20 < its.length
          · by_cases hk1 : k < its.length
            · have hk2 : ¬ k < 70 := by omega
              go_wp2_with fail
              go_ret
              first | exact ⟨false, rfl, fun h => Bool.noConfusion h, HB.out⟩ | exact ⟨_, rfl, fun h => Bool.noConfusion h, HB.out⟩ | exact ⟨rfl, fun h => Bool.noConfusion h, HB.out⟩ | exact ⟨rfl, HB.out⟩ | exact HB.out
            · go_wp2_with fail
              go_ret
              first | exact ⟨false, rfl, fun h => Bool.noConfusion h, HB.out⟩ | exact ⟨_, rfl, fun h => Bool.noConfusion h, HB.out⟩ | exact ⟨rfl, fun h => Bool.noConfusion h, HB.out⟩ | exact ⟨rfl, HB.out⟩ | exact HB.out
          · have hk1 : ¬ k < its.length := by omega
            go_wp2_with fail
            go_roundg (l.length - (i + 1))
            case measure => have := hg.out; omega
            case rel => exact ⟨i + 1, _, rfl, by go_num, hl1, hl2, ⟨rfl⟩, HB⟩
    · by_cases hl1 : i < l.length
      · have hl2 : ¬ i < 40 := by omega
        have hl3 : ¬ l.length ≤ 40 := by omega
        go_wp2_with fail
        go_ret
        first | exact ⟨false, rfl, fun h => Bool.noConfusion h, HB.out⟩ | exact ⟨_, rfl, fun h => Bool.noConfusion h, HB.out⟩ | exact ⟨rfl, fun h => Bool.noConfusion h, HB.out⟩ | exact ⟨rfl, HB.out⟩ | exact HB.out
      · have hl3 : l.length ≤ 40 := by omega
        go_wp2_with fail
        go_ret
        exact ⟨_, rfl, fun _ => hl3, HB.out⟩
end Go.Proofs.Ytldiginkmmlojaa
