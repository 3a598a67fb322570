/- The limits: who is known. -/
import Derived.Test.YtldiginkmmlojaaRbG
namespace Go.Proofs.Ytldiginkmmlojaa
set_option linter.unusedVariables false
open Go.RowKit Go.Maps Go.Proofs.YtldiginkmmlojaaW.PrintWords
attribute [local go_sem] mx2 mn2 mxTwo mnTwo

theorem infoStr38 : (Try.prog.info? 9).map (fun i => (i.zero, i.size, i.bytes)) = some (some (.string ⟨#[]⟩), 1, 16) := by kernel_rfl
theorem at_bs {w : World} {A : Option Addr} {n : Nat} {xs : List ByteArray} (h : Kd.string.C w A n xs) (i : Nat) (h1 : i < n) : ∃ ad, A = some ad ∧ w.cell? (ad.add i) = some (.string (xs.getD i ⟨#[]⟩)) := by
  obtain ⟨ad, c, e, _, hK, hc0⟩ := Kd.C_get h (⟨#[]⟩ : ByteArray) (i : Int) (by omega) (by omega)
  simp only [Int.toNat_natCast] at hK hc0
  have hK' : c = [.string (xs.getD i ⟨#[]⟩)] := hK
  subst hK'
  exact ⟨ad, e, by have := hc0 0 _ rfl; rwa [show i * Kd.string.sz + 0 = i from Nat.mul_one i] at this⟩
set_option maxHeartbeats 1000000 in
theorem texts38_any (A0 A1 : Option Addr) (n m c0 c1 : Nat) (l : List ByteArray) (w : World) (h0 : Kd.string.C w A0 n l) (h1 : Kd.string.C w A1 m l) :
    Calls Try.prog 30 #[.slice A0 n c0, .slice A1 m c1] w fun e w' => e = .returned (.bool true) ∧ Below w.heap.size w w' := by
  obtain rfl : l.length = n := h0.1
  obtain rfl : l.length = m := h1.1
  have hm := Kd.C_max h0
  have H0 := Aside0.mk h0
  have H1 := Aside0.mk h1
  clear h0 h1
  go_enter Try.func30, Try.ntmps30
  go_wp2
  go_loopg [5] l.length (fun q v5 wr => ∃ i : Nat, v5 = .int .i64 (i : Int) ∧ i ≤ l.length ∧ Aside0 (q = l.length - i) ∧ Aside0 (Below w.heap.size w wr))
  case atStart => exact ⟨0, rfl, Nat.zero_le _, ⟨rfl⟩, ⟨Below.refl _ _⟩⟩
  case round =>
    obtain ⟨i, rfl, hi, hq, HB⟩ := hrel
    by_cases hlt : i < l.length
    · obtain ⟨ad, rfl, r1⟩ := at_bs H0.out i hlt
      obtain ⟨ad2, rfl, r2⟩ := at_bs H1.out i hlt
      obtain ⟨s, hs⟩ : ∃ s, s = l.getD i ⟨#[]⟩ := ⟨_, rfl⟩
      rw [← hs] at r1 r2
      replace r1 := pw_cell_below HB.out r1
      replace r2 := pw_cell_below HB.out r2
      have q1 := bsq_eq s s rfl
      clear hs
      go_wp2_with fail
      go_quiet (fail)
      go_wp2_with fail
      go_roundg (l.length - (i + 1))
      case measure => have := hq.out; omega
      case rel => exact ⟨i + 1, by go_num, by omega, ⟨rfl⟩, ⟨pw_below_drewN HB.out _⟩⟩
    · go_wp2_with fail
      go_ret
      exact ⟨rfl, HB.out⟩
set_option maxHeartbeats 1000000 in
set_option maxRecDepth 100000 in
theorem rput04_any (A : Option Addr) (n c : Nat) (xs : List ByteArray) (s : ByteArray) (w : World) (hr : Kd.string.C w A n xs) (hn : n ≤ 1000000) (hlt : ∀ x ∈ xs, x.data.toList < s.data.toList) :
    Calls Try.prog 87 #[.slice A n c, .string s] w fun e w' => ∃ v, e = .returned v ∧ Kd.R Kd.string 9 w' w.heap.size (fun _ => True) v (xs ++ [s]) ∧ Below w.heap.size w w' := by
  obtain rfl : xs.length = n := hr.1
  have HR := Aside0.mk hr
  have HLT := Aside0.mk hlt
  clear hr hlt
  go_enter Try.func87, Try.ntmps87
  go_wp2
  go_loopg [5, 6, 7] xs.length (fun q v5 v6 v7 wr => ∃ (i : Nat) (A3 : Option Addr) (c3 : Nat), v5 = .slice A3 i c3 ∧ v6 = .bool false ∧ v7 = .int .i64 (i : Int) ∧ i ≤ xs.length ∧ Aside0 (q = xs.length - i) ∧ Aside0 (Kd.R Kd.string 9 wr w.heap.size (fun _ => True) (.slice A3 i c3) (xs.take i)) ∧ Aside0 (Below w.heap.size w wr))
  case atStart => exact ⟨0, none, 0, rfl, rfl, rfl, Nat.zero_le _, ⟨rfl⟩, ⟨Kd.R_nil _ _ _ _ _⟩, ⟨Below.refl _ _⟩⟩
  case round =>
    obtain ⟨i, A3, c3, rfl, rfl, rfl, hi, hq, HO, HB⟩ := hrel
    by_cases hl : i < xs.length
    · obtain ⟨ad, rfl, r1⟩ := at_bs (Kd.C_below HR.out HB.out) i hl
      have hm : xs.getD i ⟨#[]⟩ ∈ xs := List.mem_of_getElem? (show xs[i]? = some (xs.getD i ⟨#[]⟩) by rw [List.getD_eq_getElem?_getD, List.getElem?_eq_getElem hl]; rfl)
      have hls := HLT.out _ hm
      have HT := Aside0.mk (show xs.take (i + 1) = xs.take i ++ [xs.getD i ⟨#[]⟩] by rw [List.take_succ_eq_append_getElem hl]; simp [List.getD_eq_getElem?_getD, hl])
      clear hm
      generalize xs.getD i ⟨#[]⟩ = x at *
      have q1 := bsq_ne x s (fun e => by subst e; exact List.lt_irrefl _ hls)
      have q2 := lss_true hls
      have qg : ∀ W : World, (binOp .gtr 9 (.string x) (.string s)).run Try.prog W = .ok (.bool false) W := fun W => by
        rw [show binOp .gtr 9 (.string x) (.string s) = pure (.bool !(Op.bytesLess x.toList s.toList || x.toList == s.toList)) by simp [binOp, Op.stringOp], q2]
        rfl
      clear hls q2
      have hlen := (Kd.R_reads' HO.out).1
      have hlx : (xs.take i).length = i := by rw [List.length_take]; omega
      have HLX := Aside0.mk hlx
      clear hlen hlx
      go_wp2_with (at_builtin; refine Kd.R_append Kd.string (w0 := w) w.heap.size rfl (.tmp 35) (.tmp 40) 41 9 (.string ⟨#[]⟩) 16 rfl Try.underlying41 infoStr38 rfl (by decide) (by omega) _ (xs.take i) x [.string x] (fun _ => True) (fun _ => False) rfl rfl rfl (fun _ h => h.elim) (fun _ _ => trivial) HO.out HB.out (below_size HB.out) (by first | omega | (simp; omega)) ?_; intro v1 w1 h1 hb1 _ _; obtain ⟨A4, c4, e4⟩ := Kd.R_slice h1; subst e4; have HO2 := Aside0.mk h1; have HB2 := Aside0.mk hb1; clear h1 hb1)
      go_roundg (xs.length - (i + 1))
      case measure => have := hq.out; omega
      case rel =>
        have h2 := HO2.out
        rw [← HT.out] at h2
        refine ⟨i + 1, A4, c4, ?_, rfl, by go_num, by omega, ⟨rfl⟩, ⟨?_⟩, HB2⟩
        · rfl
        · rw [show (xs.take (i + 1)).length = i + 1 by rw [List.length_take]; omega] at h2
          exact h2
    · obtain rfl : i = xs.length := by omega
      have h9 := HO.out
      rw [List.take_length] at h9
      have HO9 := Aside0.mk h9
      clear h9
      go_wp2_with (at_builtin; refine Kd.R_append Kd.string (w0 := w) w.heap.size rfl (.tmp 44) (.tmp 46) 41 9 (.string ⟨#[]⟩) 16 rfl Try.underlying41 infoStr38 rfl (by decide) (by omega) _ (xs) s [.string s] (fun _ => True) (fun _ => False) rfl rfl rfl (fun _ h => h.elim) (fun _ _ => trivial) HO9.out HB.out (below_size HB.out) (by first | omega | (simp; omega)) ?_; intro v1 w1 h1 hb1 _ _; obtain ⟨A4, c4, e4⟩ := Kd.R_slice h1; subst e4; have HO2 := Aside0.mk h1; have HB2 := Aside0.mk hb1; clear h1 hb1)
      go_ret
      have h2 := HO2.out
      rw [List.length_append, List.length_singleton] at h2
      exact ⟨_, rfl, h2, HB2.out⟩
set_option maxHeartbeats 1000000 in
set_option maxRecDepth 100000 in
theorem rknown_any (b g : Nat) (span burst most : Int) (l : List LW) (w : World) (h : RJ w b g span burst most l) (hr : RisW l) (hl : l.length ≤ 1000000) :
    Calls Try.prog 64 #[.pointer (some ⟨g, 0, none⟩)] w fun e w' => ∃ v, e = .returned v ∧ Kd.R Kd.string 9 w' w.heap.size (fun _ => True) v (l.map (·.1)) ∧ Below w.heap.size w w' := by
  obtain ⟨⟨v, hb, hv⟩, hg⟩ := h
  obtain ⟨A1, c1, rfl⟩ := Kd.R_slice hv
  have HB0 := Aside0.mk hb
  have HR0 := Aside0.mk hv
  have HRI := Aside0.mk hr
  clear hb hv hr
  go_enter Try.func64, Try.ntmps64
  go_wp2
  go_loopg [3, 4] l.length (fun q v3 v4 wr => ∃ (i : Nat) (A3 : Option Addr) (c3 : Nat), v3 = .slice A3 i c3 ∧ v4 = .int .i64 (i : Int) ∧ i ≤ l.length ∧ Aside0 (q = l.length - i) ∧ Aside0 (Kd.R Kd.string 9 wr w.heap.size (fun _ => True) (.slice A3 i c3) ((l.take i).map (·.1))) ∧ Aside0 (Below w.heap.size w wr))
  case atStart => exact ⟨0, none, 0, rfl, rfl, Nat.zero_le _, ⟨rfl⟩, ⟨Kd.R_nil _ _ _ _ _⟩, ⟨Below.refl _ _⟩⟩
  case round =>
    obtain ⟨i, A3, c3, rfl, rfl, hi, hq, HO, HB⟩ := hrel
    have s0 := (blk_cell (blk_below HB0.out HB.out) 3).trans (rfl : _ = some (Value.slice A1 l.length c1))
    by_cases hlt : i < l.length
    · obtain ⟨ad, rfl, r1, _, _, _⟩ := at_Rw (C_own (Kd.R_below HR0.out HB.out)) i hlt
      have hli : l[i]? = some (l.getD i zLW) := by rw [List.getD_eq_getElem?_getD, List.getElem?_eq_getElem hlt]; rfl
      have HT := Aside0.mk (show (l.take (i + 1)).map (·.1) = (l.take i).map (·.1) ++ [(l.getD i zLW).1] by
        rw [List.take_succ_eq_append_getElem hlt, List.map_append]
        simp [List.getD_eq_getElem?_getD, hlt])
      have HP := Aside0.mk (rput04_any A3 i c3 ((l.take i).map (·.1)) (l.getD i zLW).1 wr (by
          have h9 := (Kd.R_reads' HO.out)
          have h8 := h9.2.2
          rwa [← h9.1] at h8) (by omega) (fun x hx => by
        obtain ⟨p, hp, rfl⟩ := List.mem_map.1 hx
        obtain ⟨j, hj⟩ := List.mem_iff_getElem?.1 hp
        have hji : j < i := by
          have := (List.getElem?_eq_some_iff.1 hj).1
          rw [List.length_take] at this
          omega
        rw [List.getElem?_take_of_lt hji] at hj
        exact risW_lt HRI.out hj hli hji))
      have HLX := Aside0.mk (show ((l.take i).map (·.1)).length = i by rw [List.length_map, List.length_take]; omega)
      clear hli
      generalize l.getD i zLW = p at *
      go_wp2_with (go_at_call 87; refine HP.out.mono ?_; rintro e w1 ⟨v1, rfl, hv1, hb1⟩; obtain ⟨A4, c4, e4⟩ := Kd.R_slice hv1; subst e4; rw [← HT.out] at hv1 ⊢; have HO2 := Aside0.mk (Kd.R_lower hv1 HB.out.size); have HB2 := Aside0.mk (below_step HB.out hb1); clear hv1 hb1)
      go_roundg (l.length - (i + 1))
      case measure => have := hq.out; omega
      case rel =>
        have e9 : ((l.take (i + 1)).map (·.1)).length = i + 1 := by rw [List.length_map, List.length_take]; omega
        have h2 := HO2.out
        (first | rw [e9] at h2 | rw [show min (i + 1) l.length = i + 1 by omega] at h2)
        exact ⟨i + 1, A4, c4, (by first | rw [e9] | rw [show min (i + 1) l.length = i + 1 by omega]), by go_num, by omega, ⟨rfl⟩, ⟨h2⟩, HB2⟩
    · obtain rfl : i = l.length := by omega
      have h9 := HO.out
      rw [List.take_length] at h9
      have HO9 := Aside0.mk h9
      clear h9
      go_wp2_with fail
      go_ret
      exact ⟨_, rfl, HO9.out, HB.out⟩
theorem allowW_burst {burst : Int} {x : WV} (h : 0 ≤ x.n) : allowW (mx burst 0) x = allowW burst x := by
  unfold allowW mx
  by_cases hb : burst < 0
  · rw [if_pos hb, if_neg (by omega), if_neg (by omega)]
  · rw [if_neg hb]
theorem stepW_burst {span burst most : Int} {l : List LW} {k : Nat} {s : ByteArray} {now : Int} (h : OkL l k) : stepW span (mx burst 0) most l s now = stepW span burst most l s now := by
  unfold stepW
  cases hg : getW l s with
  | none =>
    dsimp only
    rw [allowW_burst (x := ⟨now, 0, 0⟩) (Int.le_refl 0)]
  | some x =>
    obtain ⟨i, hi⟩ := getW_some hg
    have hx := h.ok _ (List.mem_of_getElem? hi)
    have hb : 0 ≤ (begW span now x).n := by
      unfold begW
      split
      · exact Int.le_refl _
      · exact hx.2.2.1.1
    dsimp only
    rw [allowW_burst hb]
end Go.Proofs.Ytldiginkmmlojaa
