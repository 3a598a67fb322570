/- Directories: the reference's without, with, Get, Did. -/
import Derived.Test.YtpnbjpkdbiiogaaDiA
import Derived.Test.YtpnbjpkdbiiogaaFiP
import Derived.WalkLawsBesides
namespace Go.Proofs.Ytpnbjpkdbiiogaa
set_option linter.unusedVariables false
open Go.RowKit Go.Proofs.YtpnbjpkdbiiogaaW.PrintWords
attribute [local go_sem] mx2 mn2 mxTwo mnTwo

def kDN : Kd DN := Kd.pair Kd.string (Kd.int .i64)
theorem kDN_mkM (w : World) (base : Nat) (ok : Nat → Prop) (x : DN) : kDN.M w base ok x [.string x.1, .int .i64 x.2] := ⟨[.string x.1], [.int .i64 x.2], rfl, rfl, rfl⟩
theorem infoName : (Try.prog.info? 156).map (fun i => (i.zero, i.size, i.bytes)) = some (some (.agg #[(.string ⟨#[]⟩), (.int .i64 0)]), 2, 24) := by kernel_rfl
def zDN : DN := (⟨#[]⟩, 0)
theorem at_DN {w : World} {A : Option Addr} {n : Nat} {xs : List DN} (h : Kd.C kDN w A n xs) (i : Nat) (h1 : i < n) : ∃ ad, A = some ad ∧ w.cell? (ad.add (i * 2)) = some (.string (xs.getD i zDN).1) ∧ w.cell? ⟨(ad.add (i * 2)).block, (ad.add (i * 2)).off + 1, none⟩ = some (.int .i64 (xs.getD i zDN).2) := by
  obtain ⟨ad, c, e, _, hK, hc0⟩ := Kd.C_get h zDN (i : Int) (by omega) (by omega)
  simp only [Int.toNat_natCast] at hK hc0
  have hc : ∀ j u, c[j]? = some u → w.cell? (ad.add (i * 2 + j)) = some u := hc0
  obtain ⟨_, _, rfl, rfl, rfl⟩ := hK
  exact ⟨ad, e, hc 0 _ rfl, by rw [← add_field _ _ 1 (by omega)]; exact hc 1 _ rfl⟩
/-- Two texts, asked for being alike. -/
theorem bs_eq (a b : ByteArray) (h : a = b) : (a.toList == b.toList) = true := by simp [h]
theorem bs_ne (a b : ByteArray) (h : a ≠ b) : (a.toList == b.toList) = false := by
  rw [beq_eq_false_iff_ne]
  intro e
  exact h (Go.WideShapes.bytes_inj (by rw [← ByteArray.toList_eq a, ← ByteArray.toList_eq b]; exact e))
theorem take_succ_getD (l : List DN) (i : Nat) (h : i < l.length) : l.take (i + 1) = l.take i ++ [l.getD i zDN] := by
  rw [List.take_succ_eq_append_getElem h]
  simp [List.getD_eq_getElem?_getD, h]
theorem without_take (l : List DN) (s : ByteArray) (i : Nat) (h : i < l.length) : withoutL (l.take (i + 1)) s = withoutL (l.take i) s ++ (if (l.getD i zDN).1 = s then [] else [l.getD i zDN]) := by
  rw [take_succ_getD l i h]
  unfold withoutL
  rw [List.filter_append]
  generalize l.getD i zDN = p
  by_cases e : p.1 = s
  · rw [if_pos e, List.filter_cons_of_neg (by simp [e]), List.filter_nil]
  · rw [if_neg e, List.filter_cons_of_pos (by simp [e]), List.filter_nil]
theorem getN_take (l : List DN) (s : ByteArray) : ∀ (i : Nat), i < l.length → getN (l.take i) s = none → getN (l.take (i + 1)) s = if (l.getD i zDN).1 = s then some (l.getD i zDN).2 else none := by
  intro i h e
  rw [take_succ_getD l i h]
  unfold getN at e ⊢
  rw [Option.map_eq_none_iff] at e
  rw [List.find?_append, e]
  generalize l.getD i zDN = p
  by_cases q : p.1 = s
  · rw [if_pos q, Option.none_or, List.find?_cons_of_pos (by simp [q])]
    rfl
  · rw [if_neg q, Option.none_or, List.find?_cons_of_neg (by simp [q])]
    rfl
theorem getN_found (l : List DN) (s : ByteArray) (i : Nat) (y : Int) (h : getN (l.take i) s = some y) : getN l s = some y := by
  unfold getN at h ⊢
  obtain ⟨p, hp, rfl⟩ := Option.map_eq_some_iff.1 h
  have : l.find? (fun p => decide (p.1 = s)) = some p := by
    conv => lhs; rw [← List.take_append_drop i l]
    rw [List.find?_append, hp]
    rfl
  rw [this]
  rfl
theorem getN_all (l : List DN) (s : ByteArray) (i : Nat) (h : l.length ≤ i) : getN (l.take i) s = getN l s := by rw [List.take_of_length_le h]
set_option maxHeartbeats 1000000 in
theorem rget_any (A : Option Addr) (n c : Nat) (l : List DN) (s : ByteArray) (w : World) (hr : Kd.C kDN w A n l) :
    Calls Try.prog 101 #[.slice A n c, .string s] w fun e w' => e = .returned (.tuple #[.int .i64 ((getN l s).getD 0), .bool (getN l s).isSome]) ∧ w = w' := by
  obtain rfl : l.length = n := hr.1
  have hm := Kd.C_max hr
  have HR := Aside0.mk hr
  clear hr
  go_enter Try.func101, Try.ntmps101
  go_wp2
  go_loopg [6] l.length (fun q v6 wr => ∃ i : Nat, v6 = .int .i64 (i : Int) ∧ i ≤ l.length ∧ Aside0 (q = l.length - i) ∧ Aside0 (getN (l.take i) s = none) ∧ wr = w)
  case atStart => exact ⟨0, rfl, Nat.zero_le _, ⟨rfl⟩, ⟨rfl⟩, rfl⟩
  case round =>
    obtain ⟨i, rfl, hi, hq, HN, rfl⟩ := hrel
    by_cases hlt : i < l.length
    · obtain ⟨ad, e1, r1, r2⟩ := at_DN HR.out i hlt
      subst e1
      have hgt := getN_take l s i hlt HN.out
      obtain ⟨p, hp⟩ : ∃ p, p = l.getD i zDN := ⟨_, rfl⟩
      rw [← hp] at r1 r2 hgt
      clear hp
      by_cases hs : p.1 = s
      · rw [if_pos hs] at hgt
        have HG := Aside0.mk (getN_found l s (i + 1) _ hgt)
        have q1 := bs_eq _ _ hs
        clear hs hgt
        go_wp2
        go_ret2
        rw [HG.out]
        exact ⟨rfl, rfl⟩
      · rw [if_neg hs] at hgt
        have HG := Aside0.mk hgt
        have q1 := bs_ne _ _ hs
        clear hs hgt
        go_wp2
        go_roundg (l.length - (i + 1))
        case measure => have := hq.out; omega
        case rel => exact ⟨i + 1, by go_num, by omega, ⟨rfl⟩, HG, rfl⟩
    · have e := HN.out
      rw [getN_all l s i (by omega)] at e
      have HG := Aside0.mk e
      clear e
      go_wp2
      go_ret2
      rw [HG.out]
      exact ⟨rfl, rfl⟩
set_option maxHeartbeats 1000000 in
theorem rwithout_any (A : Option Addr) (n c : Nat) (l : List DN) (s : ByteArray) (w : World) (hr : Kd.C kDN w A n l) (hn : n ≤ 1000000) :
    Calls Try.prog 121 #[.slice A n c, .string s] w fun e w' => ∃ v, e = .returned v ∧ Kd.R kDN 156 w' w.heap.size (fun _ => True) v (withoutL l s) ∧ Below w.heap.size w w' := by
  obtain rfl : l.length = n := hr.1
  have HR := Aside0.mk hr
  clear hr
  go_enter Try.func121, Try.ntmps121
  go_wp2
  go_loopg [5, 6] l.length (fun q v5 v6 wr => ∃ i : Nat, v6 = .int .i64 (i : Int) ∧ i ≤ l.length ∧ Aside0 (q = l.length - i) ∧ Aside0 (Kd.R kDN 156 wr w.heap.size (fun _ => True) v5 (withoutL (l.take i) s)) ∧ Aside0 (Below w.heap.size w wr))
  case atStart => exact ⟨0, rfl, Nat.zero_le _, ⟨rfl⟩, ⟨Kd.R_nil _ _ _ _ _⟩, ⟨Below.refl _ _⟩⟩
  case round =>
    obtain ⟨i, rfl, hi, hq, HO, HB⟩ := hrel
    by_cases hlt : i < l.length
    · obtain ⟨ad, e1, r1, r2⟩ := at_DN HR.out i hlt
      subst e1
      replace r1 := pw_cell_below HB.out r1
      replace r2 := pw_cell_below HB.out r2
      have hgt := without_take l s i hlt
      have hlb : (withoutL (l.take i) s).length ≤ l.length := Nat.le_trans (withoutL_len _ _) (by rw [List.length_take]; omega)
      obtain ⟨p, hp⟩ : ∃ p, p = l.getD i zDN := ⟨_, rfl⟩
      rw [← hp] at r1 r2 hgt
      have HLB := Aside0.mk hlb
      clear hp hlb
      by_cases hs : p.1 = s
      · rw [if_pos hs, List.append_nil] at hgt
        have HG := Aside0.mk hgt
        have q1 := bs_eq _ _ hs
        clear hs hgt
        go_wp2_with fail
        go_roundg (l.length - (i + 1))
        case measure => have := hq.out; omega
        case rel => exact ⟨i + 1, by go_num, by omega, ⟨rfl⟩, ⟨by rw [HG.out]; exact HO.out⟩, HB⟩
      · rw [if_neg hs] at hgt
        have HG := Aside0.mk hgt
        have q1 := bs_ne _ _ hs
        clear hs hgt
        go_wp2_with (at_builtin; refine Kd.R_append kDN (w0 := w) w.heap.size rfl (.tmp 20) (.tmp 25) 67 156 (.agg #[(.string ⟨#[]⟩), (.int .i64 0)]) 24 rfl Try.underlying67 infoName rfl (by decide) (by omega) u5 _ p [.string (p).1, .int .i64 (p).2] (fun _ => True) (fun _ => False) rfl rfl (kDN_mkM _ _ _ (p)) (fun _ h => h.elim) (fun _ _ => trivial) HO.out HB.out (below_size HB.out) (by have := HLB.out; omega) ?_; intro v1 w1 h1 hb1 _ _; clear HO HB; have HO := Aside0.mk h1; have HB := Aside0.mk hb1; clear h1 hb1)
        go_roundg (l.length - (i + 1))
        case measure => have := hq.out; omega
        case rel => exact ⟨i + 1, by go_num, by omega, ⟨rfl⟩, ⟨by rw [HG.out]; exact HO.out⟩, HB⟩
    · have h9 := HO.out
      rw [List.take_of_length_le (by omega)] at h9
      have HO9 := Aside0.mk h9
      clear h9
      go_wp2_with fail
      go_ret
      exact ⟨_, rfl, HO9.out, HB.out⟩
theorem insW_take (s : ByteArray) (a : Int) (l : List DN) (i : Nat) (h : i < l.length) : (l.take (i + 1)).foldl (insW s a) ([], false) = insW s a ((l.take i).foldl (insW s a) ([], false)) (l.getD i zDN) := by
  rw [take_succ_getD l i h, List.foldl_append]
  rfl
theorem gtS_true {a b : ByteArray} (h : gtS a b = true) : Op.bytesLess a.toList b.toList = false ∧ (a.toList == b.toList) = false := by
  unfold gtS at h
  cases h1 : Op.bytesLess a.toList b.toList <;> cases h2 : (a.toList == b.toList) <;> simp [h1, h2] at h ⊢
theorem gtS_false {a b : ByteArray} (h : gtS a b = false) : Op.bytesLess a.toList b.toList = true ∨ Op.bytesLess a.toList b.toList = false ∧ (a.toList == b.toList) = true := by
  unfold gtS at h
  cases h1 : Op.bytesLess a.toList b.toList <;> cases h2 : (a.toList == b.toList) <;> simp [h1, h2] at h ⊢
set_option maxHeartbeats 2000000 in
set_option maxRecDepth 100000 in
theorem rwith_any (A : Option Addr) (n c : Nat) (l0 : List DN) (s : ByteArray) (id : Int) (w : World) (hr : Kd.C kDN w A n l0) (hn : n ≤ 1000000) :
    Calls Try.prog 120 #[.slice A n c, .string s, .int .i64 id] w fun e w' => ∃ v, e = .returned v ∧ Kd.R kDN 156 w' w.heap.size (fun _ => True) v (withL l0 s id) ∧ Below w.heap.size w w' := by
  obtain rfl : l0.length = n := hr.1
  have HR0 := Aside0.mk hr
  clear hr
  go_enter Try.func120, Try.ntmps120
  go_wp2_with (go_at_call 121; refine (rwithout_any A l0.length c l0 s _ HR0.out hn).mono ?_; rintro e w0 ⟨v0, rfl, hv, hb⟩; obtain ⟨A1, c1, rfl, _, hC⟩ := Kd.R_reads hv; have HR := Aside0.mk hC; have HB := Aside0.mk hb; clear hv hb hC)
  have hl0 := withoutL_len l0 s
  have HWD := Aside0.mk (show withL l0 s id = insEnd s id ((withoutL l0 s).foldl (insW s id) ([], false)) by rw [insW_end]; rfl)
  obtain ⟨l, hl⟩ : ∃ l, l = withoutL l0 s := ⟨_, rfl⟩
  rw [← hl] at HR hl0 HWD ⊢
  clear hl
  have HB0 := HB
  clear HB
  go_loopg [7, 8, 9] l.length (fun q v7 v8 v9 wr => ∃ (i : Nat) (out : List DN) (d : Bool), v9 = .int .i64 (i : Int) ∧ v8 = .bool d ∧ i ≤ l.length ∧ Aside0 (q = l.length - i) ∧ Aside0 ((l.take i).foldl (insW s id) ([], false) = (out, d)) ∧ out.length ≤ i + d.toNat ∧ Aside0 (Kd.R kDN 156 wr w0.heap.size (fun _ => True) v7 out) ∧ Aside0 (Below w0.heap.size w0 wr))
  case atStart => exact ⟨0, [], false, rfl, rfl, Nat.zero_le _, ⟨rfl⟩, ⟨rfl⟩, Nat.zero_le _, ⟨Kd.R_nil _ _ _ _ _⟩, ⟨Below.refl _ _⟩⟩
  case round =>
    obtain ⟨i, out, d, rfl, rfl, hi, hq, HF, hol, HO, HB⟩ := hrel
    by_cases hlt : i < l.length
    · obtain ⟨ad, e1, r1, r2⟩ := at_DN HR.out i hlt
      subst e1
      have hgt := insW_take s id l i hlt
      rw [HF.out] at hgt
      obtain ⟨p, hp⟩ : ∃ p, p = l.getD i zDN := ⟨_, rfl⟩
      rw [← hp] at r1 r2 hgt
      have HC1 := Aside0.mk r1
      have HC2 := Aside0.mk r2
      replace r1 := pw_cell_below HB.out r1
      replace r2 := pw_cell_below HB.out r2
      clear hp
      cases d with
      | true =>
        replace hol : out.length ≤ i + 1 := hol
        have HG := Aside0.mk hgt
        clear hgt
        go_wp2_with (at_builtin; refine Kd.R_append kDN (w0 := w0) w0.heap.size rfl (.tmp 36) (.tmp 41) 67 156 (.agg #[(.string ⟨#[]⟩), (.int .i64 0)]) 24 rfl Try.underlying67 infoName rfl (by decide) (by omega) u7 out p [.string (p).1, .int .i64 (p).2] (fun _ => True) (fun _ => False) rfl rfl (kDN_mkM _ _ _ (p)) (fun _ h => h.elim) (fun _ _ => trivial) HO.out HB.out (below_size HB.out) (by first | omega | (rw [List.length_append, List.length_singleton]; omega)) ?_; intro v1 w1 h1 hb1 hg1 _; skip; clear HO HB; have HO := Aside0.mk h1; have HB := Aside0.mk hb1; clear h1 hb1 hg1)
        go_roundg (l.length - (i + 1))
        case measure => have := hq.out; omega
        case rel => exact ⟨i + 1, out ++ [p], true, by go_num, rfl, by omega, ⟨rfl⟩, ⟨by rw [HG.out]; rfl⟩, by rw [List.length_append, List.length_singleton, Bool.toNat_true]; omega, HO, HB⟩
      | false =>
        replace hol : out.length ≤ i := hol
        have hg : gtS p.1 s = true ∨ gtS p.1 s = false := by cases gtS p.1 s <;> simp
        rcases hg with hg | hg
        · obtain ⟨q1, q2⟩ := gtS_true hg
          have HG := Aside0.mk (show (l.take (i + 1)).foldl (insW s id) ([], false) = (out ++ [(s, id)] ++ [p], true) by rw [hgt]; unfold insW; rw [hg]; rfl)
          have T1 := Aside0.mk trivial
          clear hgt hg
          go_wp2_with (first
            | (have gate := T1.out; (at_builtin; refine Kd.R_append kDN (w0 := w0) w0.heap.size rfl (.tmp 30) (.tmp 34) 67 156 (.agg #[(.string ⟨#[]⟩), (.int .i64 0)]) 24 rfl Try.underlying67 infoName rfl (by decide) (by omega) u7 out ((s, id) : DN) [.string (((s, id) : DN)).1, .int .i64 (((s, id) : DN)).2] (fun _ => True) (fun _ => False) rfl rfl (kDN_mkM _ _ _ (((s, id) : DN))) (fun _ h => h.elim) (fun _ _ => trivial) HO.out HB.out (below_size HB.out) (by first | omega | (rw [List.length_append, List.length_singleton]; omega)) ?_; intro v1 w1 h1 hb1 hg1 _; have r1 := pw_cell_below hb1 HC1.out; have r2 := pw_cell_below hb1 HC2.out; clear HO HB; have HO := Aside0.mk h1; have HB := Aside0.mk hb1; clear h1 hb1 hg1); clear T1 gate)
            | (at_builtin; refine Kd.R_append kDN (w0 := w0) w0.heap.size rfl (.tmp 36) (.tmp 41) 67 156 (.agg #[(.string ⟨#[]⟩), (.int .i64 0)]) 24 rfl Try.underlying67 infoName rfl (by decide) (by omega) v1 (out ++ [((s, id) : DN)]) p [.string (p).1, .int .i64 (p).2] (fun _ => True) (fun _ => False) rfl rfl (kDN_mkM _ _ _ (p)) (fun _ h => h.elim) (fun _ _ => trivial) HO.out HB.out (below_size HB.out) (by first | omega | (rw [List.length_append, List.length_singleton]; omega)) ?_; intro v1 w1 h1 hb1 hg1 _; skip; clear HO HB; have HO := Aside0.mk h1; have HB := Aside0.mk hb1; clear h1 hb1 hg1))
          go_roundg (l.length - (i + 1))
          case measure => have := hq.out; omega
          case rel => exact ⟨i + 1, _, true, by go_num, rfl, by omega, ⟨rfl⟩, ⟨HG.out⟩, by simp; omega, HO, HB⟩
        · have HG := Aside0.mk (show (l.take (i + 1)).foldl (insW s id) ([], false) = (out ++ [p], false) by rw [hgt]; unfold insW; rw [hg]; rfl)
          have hgf := gtS_false hg
          clear hgt hg
          rcases hgf with q1 | ⟨q1, q2⟩
          all_goals
            go_wp2_with (at_builtin; refine Kd.R_append kDN (w0 := w0) w0.heap.size rfl (.tmp 36) (.tmp 41) 67 156 (.agg #[(.string ⟨#[]⟩), (.int .i64 0)]) 24 rfl Try.underlying67 infoName rfl (by decide) (by omega) u7 out p [.string (p).1, .int .i64 (p).2] (fun _ => True) (fun _ => False) rfl rfl (kDN_mkM _ _ _ (p)) (fun _ h => h.elim) (fun _ _ => trivial) HO.out HB.out (below_size HB.out) (by first | omega | (rw [List.length_append, List.length_singleton]; omega)) ?_; intro v1 w1 h1 hb1 hg1 _; skip; clear HO HB; have HO := Aside0.mk h1; have HB := Aside0.mk hb1; clear h1 hb1 hg1)
            go_roundg (l.length - (i + 1))
            case measure => have := hq.out; omega
            case rel => exact ⟨i + 1, _, false, by go_num, rfl, by omega, ⟨rfl⟩, ⟨HG.out⟩, by simp; omega, HO, HB⟩
    · have h9 := HF.out
      rw [List.take_of_length_le (by omega)] at h9
      rw [h9] at HWD
      clear h9
      cases d with
      | true =>
        replace hol : out.length ≤ i + 1 := hol
        go_wp2_with fail
        go_ret
        exact ⟨_, rfl, by rw [HWD.out]; exact Kd.R_lower HO.out HB0.out.size, HB0.out.trans (HB.out.mono HB0.out.size)⟩
      | false =>
        replace hol : out.length ≤ i := hol
        go_wp2_with (at_builtin; refine Kd.R_append kDN (w0 := w0) w0.heap.size rfl (.tmp 45) (.tmp 49) 67 156 (.agg #[(.string ⟨#[]⟩), (.int .i64 0)]) 24 rfl Try.underlying67 infoName rfl (by decide) (by omega) u7 out ((s, id) : DN) [.string (((s, id) : DN)).1, .int .i64 (((s, id) : DN)).2] (fun _ => True) (fun _ => False) rfl rfl (kDN_mkM _ _ _ (((s, id) : DN))) (fun _ h => h.elim) (fun _ _ => trivial) HO.out HB.out (below_size HB.out) (by first | omega | (rw [List.length_append, List.length_singleton]; omega)) ?_; intro v1 w1 h1 hb1 hg1 _; skip; clear HO HB; have HO := Aside0.mk h1; have HB := Aside0.mk hb1; clear h1 hb1 hg1)
        go_ret
        exact ⟨_, rfl, by rw [HWD.out]; exact Kd.R_lower HO.out HB0.out.size, HB0.out.trans (HB.out.mono HB0.out.size)⟩
end Go.Proofs.Ytpnbjpkdbiiogaa
