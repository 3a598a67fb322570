/- sector.Size, At, Set and Lay: what each call answers. -/
import Derived.Test.YtpnbjpkdbiiogaaSecF
namespace Go.Proofs.Ytpnbjpkdbiiogaa
set_option linter.unusedVariables false
open Go.RowKit Go.Proofs.YtpnbjpkdbiiogaaW.PrintWords
attribute [local go_sem] mx2 mn2 mxTwo mnTwo

section
variable {P : Program} {ops : Array Oper} {rest : List Oper} {o : Oper} {a : Act} {Q : Exit → Act → World → Prop}
/-- An arm ahead of which this stands is tried at that builtin alone. -/
theorem gateB {W : World} {b : Builtin} {xs : Array Operand} {ts : Array TypeId} (_ho : o.op = .call { callee := .builtin b, args := xs, argTypes := ts }) (h : wpList P ops Q (o :: rest) a W) : wpList P ops Q (o :: rest) a W := h
/-- copy onto the whole of a row of numbers of one's own. -/
theorem copy_all {ki : IntKind} {w0 W : World} (base : Nat) (hgd : o.guard = none) (s x : Operand) (t t' e : TypeId)
    (ho : o.op = .call { callee := .builtin .copy, args := #[s, x], argTypes := #[t, t'] }) (ht : P.underlying t = some (.slice e)) (hinfo : (P.info? e).map (·.size) = some 1)
    (v : Value) (xs ys : List Int) (A : Option Addr) (m c : Nat) (ok : Nat → Prop) (hs : a.eval s = v) (hx : a.eval x = .slice A m c)
    (HO : (Kd.int ki).R e W base ok v xs) (HR : (Kd.int ki).C W A m ys) (HB : Below base w0 W) (hbase : base ≤ W.heap.size)
    (h : ∀ w1, (Kd.int ki).R e w1 base ok v (overlay xs 0 ys) → Below base w0 w1 → W.grownBy w1 v.ownBlock → wpList P ops Q rest (a.put o.dst (.int .i64 ((min m xs.length : Nat) : Int))) w1) :
    wpList P ops Q (o :: rest) a W := by
  refine Kd.R_copy (0 : Int) base hgd s x t t' e ho ht hinfo v xs ys A m c ok hs hx HO HR HB hbase ?_
  intro w1 h1 h2 h3
  have hm : ys.length = m := HR.1
  have e1 : ys.take (min m xs.length) ++ xs.drop (min m xs.length) = overlay xs 0 ys := by
    unfold overlay
    simp only [List.take_zero, List.nil_append, Nat.sub_zero, Nat.zero_add, hm]
    by_cases hc : m ≤ xs.length
    · rw [Nat.min_eq_left hc, List.take_of_length_le (by omega), List.take_of_length_le (by omega)]
    · rw [Nat.min_eq_right (by omega), List.drop_of_length_le (by omega), List.drop_of_length_le (by omega)]
  rw [e1] at h1
  exact h w1 h1 h2 h3
/-- copy onto a row of numbers of one's own from a place on. -/
theorem run_copy_at {ki : IntKind} {W : World} (base : Nat) (t t' ty e : TypeId) (ht : P.underlying t = some (.slice e)) (hinfo : (P.info? e).map (·.size) = some 1)
    (g n cap k : Nat) (hk : k ≤ n) (xs ys : List Int) (A A3 : Option Addr) (m c : Nat) (ok : Nat → Prop)
    (hA3 : k < n → A3 = some ⟨g, k, none⟩)
    (HO : (Kd.int ki).R e W base ok (.slice (some ⟨g, 0, none⟩) n cap) xs) (HR : (Kd.int ki).C W A m ys) :
    ∃ w1, (Builtin.copy_ #[t, t'] ty #[.slice A3 (n - k) (cap - k), .slice A m c]).run P W = .ok (goInt ((min m (n - k) : Nat) : Int)) w1 ∧ (Kd.int ki).R e w1 base ok (.slice (some ⟨g, 0, none⟩) n cap) (overlay xs k ys) ∧ W.grownBy w1 (some g) := by
  have hR := Kd.reads_of_C (enc := Value.int ki) (d := (0 : Int)) (h1 := fun _ => rfl) HR
  have hm : ys.length = m := hR.1
  have hn : n = xs.length := (Kd.R_reads' HO).1
  subst hn
  have hown := Kd.own_of_R HO
  have hov : ys.length = 0 ∨ xs.length = k → overlay xs k ys = xs := by
    intro h
    apply List.ext_getElem?
    intro i
    rw [overlay_get hk, if_neg (by omega)]
  by_cases h0 : min m (xs.length - k) = 0
  · refine ⟨W, ?_, by rw [hov (by omega)]; exact HO, World.grownBy.refl W _⟩
    rw [h0]
    exact run_copy_none W t t' ty e A3 A (xs.length - k) (cap - k) m c ht hinfo h0
  · obtain ⟨ad, hA, hc⟩ := hR.2.2 (by omega)
    rw [hA3 (by omega), hA]
    rcases hown.2 with ⟨hv, _⟩ | ⟨g', cap', cur, hv, hb, hh, hnc, hcm, hcs, htake⟩
    · cases hv
    cases hv
    have hsrc : ∀ j u, (encs (Value.int ki) (ys.take (min m (xs.length - k))))[j]? = some u → W.cell? (ad.add j) = some u := by
      intro j u hu
      have hj : j < (ys.take (min m (xs.length - k))).length := by
        rcases Nat.lt_or_ge j (ys.take (min m (xs.length - k))).length with h | h
        · exact h
        · rw [List.getElem?_eq_none (by rw [encs_length]; exact h)] at hu
          cases hu
      have hjm : j < min m (xs.length - k) := by rw [List.length_take] at hj; omega
      rw [encs_get (d := (0 : Int)) _ j hj] at hu
      rw [hc j (by omega), ← hu]
      simp [List.getD_eq_getElem?_getD, hjm]
    have hkl : (encs (Value.int ki) (ys.take (min m (xs.length - k)))).length = min m (xs.length - k) := by rw [encs_length, List.length_take]; omega
    have hcs1 : cur.size = cap := by omega
    have hr := run_copy_cells (P := P) W t t' ty e g k (xs.length - k) (cap - k) ad m c (encs (Value.int ki) (ys.take (min m (xs.length - k)))) ht hinfo (by rw [hkl]) hsrc
      (fun j hj => by rw [cell_of_row W g _ cur e (0, 0) hh]; simp; omega) (fun j _ => blk_frozen hh _) (by intro u hu; simp only [encs, List.mem_map] at hu; obtain ⟨q, _, rfl⟩ := hu; rfl)
    obtain ⟨cur', h3, h4, h5⟩ := setCells_row (encs (Value.int ki) (ys.take (min m (xs.length - k)))) k W cur hh (by rw [hkl]; omega)
    obtain ⟨s1, s2, s3, s4⟩ := setCells_same g (encs (Value.int ki) (ys.take (min m (xs.length - k)))) k W
    refine ⟨_, by rw [hr, hkl], Kd.R_of_own ?_ (fun j hj => HO.1 j hj), ⟨s1, s2, s3, by rw [s4]; exact Nat.le_refl _, fun j _ hj => setCells_far _ _ j (fun he => hj (by rw [he]))⟩⟩
    have hln : (overlay xs k ys).length = xs.length := overlay_length hk
    rw [hln]
    refine ⟨by rw [encs_length, hln, Nat.mul_one], .inr ⟨g, cap, cur', rfl, hb, h3, hnc, hcm, by rw [h4, hcs], ?_⟩⟩
    have htk : cur.toList.take xs.length = encs (Value.int ki) xs := by rw [← htake, Nat.mul_one]
    rw [h5, hkl, Nat.mul_one]
    have hl1 : (cur.toList.take k).length = k := by rw [List.length_take, Array.length_toList]; omega
    apply List.ext_getElem?
    intro j
    have hcur : ∀ i, i < xs.length → cur.toList[i]? = (encs (Value.int ki) xs)[i]? := by
      intro i hi
      rw [← htk, List.getElem?_take, if_pos hi]
    simp only [encs, List.getElem?_map] at hcur ⊢
    rw [overlay_get hk]
    rw [List.getElem?_take]
    by_cases hj : j < xs.length
    · rw [if_pos hj]
      by_cases h6 : j < k
      · rw [if_neg (by omega), List.append_assoc, List.getElem?_append_left (by omega), List.getElem?_take, if_pos h6]
        exact hcur j hj
      · rw [List.append_assoc, List.getElem?_append_right (by omega), hl1]
        by_cases h7 : j - k < min m (xs.length - k)
        · rw [if_pos (by omega), List.getElem?_append_left (by simp; omega), List.getElem?_map, List.getElem?_take, if_pos h7]
        · rw [if_neg (by omega), List.getElem?_append_right (by simp; omega), List.getElem?_drop]
          rw [← hcur j hj]
          congr 1
          simp
          omega
    · rw [if_neg hj, if_neg (by omega), List.getElem?_eq_none (by omega)]
      rfl
end

theorem infoU8s : (Try.prog.info? 5).map (·.size) = some 1 := by kernel_rfl

set_option maxHeartbeats 1000000 in
set_option maxRecDepth 100000 in
/-- sector.Size. -/
theorem size_any (A : Option Addr) (n c : Nat) (l : List Int) (sz : Int) (w : World) (hr : Kd.C (Kd.int .u8) w A n l) (hn : n ≤ 1099511627776) (hs : sz ≤ 1099511627776) :
    Calls Try.prog 21 #[.slice A n c, .int .i64 sz] w fun e w' => ∃ A' c', e = .returned (.slice A' sz.toNat c') ∧ sz.toNat ≤ c' ∧ Kd.R (Kd.int .u8) 5 w' w.heap.size (fun _ => True) (.slice A' sz.toNat c') (sizeL l sz) ∧ Below w.heap.size w w' := by
  have HR := Aside0.mk hr
  clear hr
  obtain ⟨N, hN⟩ : ∃ N : Nat, N = sz.toNat := ⟨_, rfl⟩
  have hmx : (if sz < 0 then (0 : Int) else sz) = (N : Int) := by split <;> omega
  rw [← hN]
  have HN := Aside0.mk hN
  have hNb : N ≤ 1099511627776 := by omega
  clear hN
  go_enter Try.func21, Try.ntmps21
  go_wp2_with (first
    | (at_make; refine Kd.R_make (Kd.int .u8) (w0 := w) w.heap.size 5 rfl (N := 8) rfl 22 (.tmp 7) (.tmp 7) rfl (N : Int) rfl rfl Try.underlying22 (.int .u8 0) 1 infoU8 rfl (by decide) (by omega) (0 : Int) (ok := fun _ => True) (okp := fun _ => False) rfl (fun _ h => h.elim) trivial (by omega) (by simp; omega) (Below.refl _ _) (Nat.le_refl _) ?_; intro v1 w1 h1 hb1 _ _; simp only [Int.toNat_natCast] at h1; have H1 := Aside0.mk h1; have HB1 := Aside0.mk hb1; clear h1 hb1)
    | ((with_reducible refine gateB (b := .copy) (xs := #[.tmp 9, .tmp 10]) rfl ?_); refine copy_all (ki := .u8) (w0 := w) w.heap.size rfl (.tmp 9) (.tmp 10) 22 22 5 rfl Try.underlying22 infoU8s v1 (List.replicate N 0) l A n c (fun _ => True) rfl rfl H1.out (Kd.C_below HR.out HB1.out) HB1.out (below_size HB1.out) ?_; intro w2 h2 hb2 _; have H2 := Aside0.mk h2; have HB2 := Aside0.mk hb2; clear h2 hb2))
  have h3 : Kd.R (Kd.int .u8) 5 w2 w.heap.size (fun _ => True) v1 (sizeL l sz) := by unfold sizeL; rw [← HN.out]; exact H2.out
  obtain ⟨A', c', rfl, hc', _⟩ := Kd.R_reads h3
  rw [sizeL_length, ← HN.out] at hc'
  go_ret
  exact ⟨A', c', by simp [sizeL_length, HN.out], hc', by simpa [sizeL_length, HN.out] using h3, HB2.out⟩

set_option maxHeartbeats 1000000 in
set_option maxRecDepth 100000 in
/-- sector.At. -/
theorem at_any (A : Option Addr) (n c : Nat) (l : List Int) (k : Int) (w : World) (hr : Kd.C (Kd.int .u8) w A n l) (hc : n ≤ c) (hn : n ≤ 1099511627776) :
    Calls Try.prog 23 #[.slice A n c, .int .i64 k] w fun e w' => ∃ A' c', e = .returned (.slice A' 64 c') ∧ 64 ≤ c' ∧ Kd.R (Kd.int .u8) 5 w' w.heap.size (fun _ => True) (.slice A' 64 c') (atL l k) ∧ Below w.heap.size w w' := by
  obtain rfl : l.length = n := hr.1
  have HR := Aside0.mk hr
  clear hr
  obtain ⟨i0, hi, _, hz1, _⟩ := info_parts infoU8
  by_cases hk : 0 ≤ k
  · by_cases hk2 : k < cnt l.length
    · obtain ⟨q, rfl⟩ := Int.eq_ofNat_of_zero_le hk
      have hroom := cnt_room hk hk2
      obtain ⟨A3, hcut0, hA3⟩ := cut_drop (P := Try.prog) (Kd.int .u8) 22 5 .i64 Try.underlying22 hi hz1 A l.length c (q * 64) (by omega) hc
      have hcut : ∀ W : World, (Instr.slice 22 (.slice A l.length c) (some (.int .i64 ((q : Int) * 64))) none none).run Try.prog W = .ok (.slice A3 (l.length - q * 64) (c - q * 64)) W := fun W => by simpa using hcut0 W
      have HA3 := Aside0.mk hA3
      clear hA3 hcut0
      go_enter Try.func23, Try.ntmps23
      go_wp2_with (first
        | (at_make; refine Kd.R_make (Kd.int .u8) (w0 := w) (w).heap.size 5 rfl (N := 6) rfl 22 (.const (.int .i64 64)) (.const (.int .i64 64)) rfl 64 rfl rfl Try.underlying22 (.int .u8 0) 1 infoU8 rfl (by decide) (by omega) (0 : Int) (ok := fun _ => True) (okp := fun _ => False) rfl (fun _ h => h.elim) trivial (by omega) (by decide) (Below.refl _ _) (Nat.le_refl _) ?_; intro v1 w1 h1 hb1 _ _; have h1' : Kd.R (Kd.int .u8) 5 w1 (w).heap.size (fun _ => True) v1 (List.replicate 64 0) := h1; obtain ⟨g1, c1, rfl, _, _, _⟩ := Kd.R_form h1' (by simp); rw [List.length_replicate] at h1'; have H1 := Aside0.mk h1'; have HB1 := Aside0.mk hb1; clear h1 h1' hb1)
        | (go_at_call 18; refine (count_any _ _ (by omega)).mono ?_; rintro e w1 ⟨rfl, rfl⟩)
        | ((with_reducible refine gateB (b := .copy) (xs := #[.tmp 16, .tmp 20]) rfl ?_); refine copy_all (ki := .u8) (w0 := w) w.heap.size rfl (.tmp 16) (.tmp 20) 22 22 5 rfl Try.underlying22 infoU8s (.slice (some ⟨g1, 0, none⟩) 64 c1) (List.replicate 64 0) (l.drop (q * 64)) A3 (l.length - q * 64) (c - q * 64) (fun _ => True) rfl rfl H1.out (Kd.C_below (HA3.out _ _ HR.out) HB1.out) HB1.out (below_size HB1.out) ?_; intro w2 h2 hb2 _; have H2 := Aside0.mk h2; have HB2 := Aside0.mk hb2; clear h2 hb2))
      go_ret
      exact ⟨_, _, rfl, (Kd.R_reads' H2.out).2.1, by unfold atL; rw [if_pos ⟨hk, hk2⟩]; unfold sizeL; rw [show ((q : Int) * 64).toNat = q * 64 by omega]; exact H2.out, HB2.out⟩
    · go_enter Try.func23, Try.ntmps23
      go_wp2_with (first
        | (at_make; refine Kd.R_make (Kd.int .u8) (w0 := w) (w).heap.size 5 rfl (N := 6) rfl 22 (.const (.int .i64 64)) (.const (.int .i64 64)) rfl 64 rfl rfl Try.underlying22 (.int .u8 0) 1 infoU8 rfl (by decide) (by omega) (0 : Int) (ok := fun _ => True) (okp := fun _ => False) rfl (fun _ h => h.elim) trivial (by omega) (by decide) (Below.refl _ _) (Nat.le_refl _) ?_; intro v1 w1 h1 hb1 _ _; have h1' : Kd.R (Kd.int .u8) 5 w1 (w).heap.size (fun _ => True) v1 (List.replicate 64 0) := h1; obtain ⟨g1, c1, rfl, _, _, _⟩ := Kd.R_form h1' (by simp); rw [List.length_replicate] at h1'; have H1 := Aside0.mk h1'; have HB1 := Aside0.mk hb1; clear h1 h1' hb1)
        | (go_at_call 18; refine (count_any _ _ (by omega)).mono ?_; rintro e w1 ⟨rfl, rfl⟩))
      go_ret
      exact ⟨_, _, rfl, (Kd.R_reads' H1.out).2.1, by unfold atL; rw [if_neg (by omega)]; exact H1.out, HB1.out⟩
  · go_enter Try.func23, Try.ntmps23
    go_wp2_with (first
      | (at_make; refine Kd.R_make (Kd.int .u8) (w0 := w) (w).heap.size 5 rfl (N := 6) rfl 22 (.const (.int .i64 64)) (.const (.int .i64 64)) rfl 64 rfl rfl Try.underlying22 (.int .u8 0) 1 infoU8 rfl (by decide) (by omega) (0 : Int) (ok := fun _ => True) (okp := fun _ => False) rfl (fun _ h => h.elim) trivial (by omega) (by decide) (Below.refl _ _) (Nat.le_refl _) ?_; intro v1 w1 h1 hb1 _ _; have h1' : Kd.R (Kd.int .u8) 5 w1 (w).heap.size (fun _ => True) v1 (List.replicate 64 0) := h1; obtain ⟨g1, c1, rfl, _, _, _⟩ := Kd.R_form h1' (by simp); rw [List.length_replicate] at h1'; have H1 := Aside0.mk h1'; have HB1 := Aside0.mk hb1; clear h1 h1' hb1)
      | fail)
    go_ret
    exact ⟨_, _, rfl, (Kd.R_reads' H1.out).2.1, by unfold atL; rw [if_neg (by omega)]; exact H1.out, HB1.out⟩

/-- A cut of a row of one's own from a place on. -/
theorem cut_own {P : Program} (t e : TypeId) (kl : IntKind) {i : TypeInfo} (ht : P.underlying t = some (.slice e)) (hi : P.info? e = some i) (hsz : i.size = 1) (g n c m : Nat) (hm : m ≤ n) (hc : n ≤ c) :
    ∃ A3, (∀ W : World, (Instr.slice t (.slice (some ⟨g, 0, none⟩) n c) (some (.int kl (m : Int))) none none).run P W = .ok (.slice A3 (n - m) (c - m)) W) ∧ (m < n → A3 = some ⟨g, m, none⟩) := by
  refine ⟨_, fun W => by simpa using cut_from (P := P) t e kl ht hi 1 hsz (some ⟨g, 0, none⟩) n c (m : Int) (by omega) (by omega) W, fun h => ?_⟩
  rw [if_neg (by omega)]
  simp [add_plain]
theorem gateS {P : Program} {ops : Array Oper} {o : Oper} {a : Act} {Q : Exit → Act → World → Prop} {Kc : Act → World → Prop} {W : World} {E : Prop} {b : Builtin} {xs : Array Operand} {ts : Array TypeId} (_ho : o.op = .call { callee := .builtin b, args := xs, argTypes := ts })
    (h : if Region.wanted o (yielded ops a.tmps) = true then Oper.wp P o a W Kc Q else E) : if Region.wanted o (yielded ops a.tmps) = true then Oper.wp P o a W Kc Q else E := h
theorem step_copy_at {P : Program} {ops : Array Oper} {o : Oper} {a : Act} {Q : Exit → Act → World → Prop} {Kc : Act → World → Prop} {ki : IntKind} {w0 W : World} (base : Nat) (hw : Region.wanted o (yielded ops a.tmps) = true) (s x : Operand) (t t' e : TypeId)
    (ho : o.op = .call { callee := .builtin .copy, args := #[s, x], argTypes := #[t, t'] }) (ht : P.underlying t = some (.slice e)) (hinfo : (P.info? e).map (·.size) = some 1)
    (g n cap k : Nat) (hk : k ≤ n) (xs ys : List Int) (A A3 : Option Addr) (m c : Nat) (ok : Nat → Prop) (hA3 : k < n → A3 = some ⟨g, k, none⟩)
    (hs : a.eval s = .slice A3 (n - k) (cap - k)) (hx : a.eval x = .slice A m c)
    (HO : (Kd.int ki).R e W base ok (.slice (some ⟨g, 0, none⟩) n cap) xs) (HR : (Kd.int ki).C W A m ys) (HB : Below base w0 W) (hbase : base ≤ W.heap.size)
    (h : ∀ w1, (Kd.int ki).R e w1 base ok (.slice (some ⟨g, 0, none⟩) n cap) (overlay xs k ys) → Below base w0 w1 → W.grownBy w1 (some g) → Kc (a.put o.dst (.int .i64 ((min m (n - k) : Nat) : Int))) w1) :
    if Region.wanted o (yielded ops a.tmps) = true then Oper.wp P o a W Kc Q else Kc (a.put o.dst undef) W := by
  rw [if_pos hw]
  obtain ⟨w1, hr, h1, h2⟩ := run_copy_at (P := P) base t t' o.type e ht hinfo g n cap k hk xs ys A A3 m c ok hA3 HO HR
  unfold Oper.wp execOp
  simp only [ho, resolve, invoke, builtin, Sem.run_bind, Sem.run_pure, Result.andThen_ok, List.map_toArray, List.map_cons, List.map_nil, hs, hx, hr]
  exact h w1 h1 (HB.grown h2 hbase (fun j hj => Kd.R_base HO j (by simpa [Value.ownBlock] using hj))) h2

set_option maxHeartbeats 2000000 in
set_option maxRecDepth 100000 in
/-- sector.Set. -/
theorem set_any (A : Option Addr) (n c : Nat) (l : List Int) (k : Int) (As : Option Addr) (ns cs : Nat) (ls : List Int) (w : World) (hr : Kd.C (Kd.int .u8) w A n l) (hn : n ≤ 1099511627776) (hrs : Kd.C (Kd.int .u8) w As ns ls) (hcs : ns ≤ cs) (hns : ns ≤ 1099511627776) :
    Calls Try.prog 25 #[.slice A n c, .int .i64 k, .slice As ns cs] w fun e w' => ∃ A' c', e = .returned (.slice A' n c') ∧ n ≤ c' ∧ Kd.R (Kd.int .u8) 5 w' w.heap.size (fun _ => True) (.slice A' n c') (setL l k ls) ∧ Below w.heap.size w w' := by
  obtain rfl : l.length = n := hr.1
  have HR := Aside0.mk hr
  have HS := Aside0.mk hrs
  clear hr hrs
  obtain ⟨i0, hi, _, hz1, _⟩ := info_parts infoU8
  by_cases hk : 0 ≤ k
  · by_cases hk2 : k < cnt l.length
    · obtain ⟨q, rfl⟩ := Int.eq_ofNat_of_zero_le hk
      have hroom := cnt_room hk hk2
      obtain ⟨N, hN⟩ : ∃ N, N = min ns 64 := ⟨_, rfl⟩
      have hmn : (if (64 : Int) < (ns : Int) then (64 : Int) else (ns : Int)) = (N : Int) := by split <;> omega
      have hN1 : N ≤ ns := by omega
      have HN := Aside0.mk hN
      clear hN
      have hcut2 : ∀ W : World, (Instr.slice 22 (.slice As ns cs) none (some (.int .i64 (N : Int))) none).run Try.prog W = .ok (.slice As N cs) W := fun W => by simpa using cut_to (P := Try.prog) 22 5 .i64 Try.underlying22 hi As ns cs (N : Int) (by omega) (by omega) hcs W
      go_enter Try.func25, Try.ntmps25
      go_wp2_with (first
        | (go_at_call 86; refine (clone_bytes A l.length c l _ HR.out (by omega)).mono ?_; rintro e w1 ⟨A1, c1, rfl, hc1, hv, hbl⟩; have HV := Aside0.mk hv; have HB1 := Aside0.mk hbl; obtain ⟨g, cc, hE, _, _, _⟩ := Kd.R_form hv (by omega); cases hE; clear hv hbl; obtain ⟨A3, hcut0, hA3⟩ := cut_own (P := Try.prog) 22 5 .i64 Try.underlying22 hi hz1 g l.length c1 (q * 64) (by omega) hc1; have hcut : ∀ W : World, (Instr.slice 22 (.slice (some ⟨g, 0, none⟩) l.length c1) (some (.int .i64 ((q : Int) * 64))) none none).run Try.prog W = .ok (.slice A3 (l.length - q * 64) (c1 - q * 64)) W := fun W => (by simpa using hcut0 W); have HA3 := Aside0.mk hA3; clear hA3 hcut0)
        | (go_at_call 18; refine (count_any _ _ (by omega)).mono ?_; rintro e w1 ⟨rfl, rfl⟩))
      have hwr : IntKind.i64.wrap ((q : Int) * 64) = (q : Int) * 64 := by rw [IntKind.wrap_i64]; omega
      go_region_law (((with_reducible refine gateS (b := .copy) (xs := #[.tmp 22, .tmp 27]) rfl ?_); refine step_copy_at (ki := .u8) (w0 := w) (W := w1.drew) w.heap.size (by rfl) (.tmp 22) (.tmp 27) 22 22 5 (by rfl) Try.underlying22 infoU8s g l.length c1 (q * 64) (by omega) l (ls.take N) As A3 N cs (fun _ => True) HA3.out (by rfl) (by rfl) (Kd.R_drew HV.out) (Kd.C_drew (C_takeN (Kd.C_below HS.out HB1.out) N hN1)) (below_drew1 HB1.out) (below_size (below_drew1 HB1.out)) ?_); intro w2 h2 hb2 _; have H2 := Aside0.mk h2; have HB2 := Aside0.mk hb2; clear h2 hb2)
      all_goals
        go_wp2_with fail
        go_ret
        refine ⟨_, _, rfl, hc1, ?_, HB2.out⟩
        unfold setL
        rw [if_pos ⟨hk, hk2⟩, show ((q : Int) * 64).toNat = q * 64 by omega]
        have e : ls.take 64 = ls.take N := by
          have hl : ls.length = ns := HS.out.1
          rw [HN.out]
          rcases Nat.le_total ns 64 with h | h
          · rw [Nat.min_eq_left h, List.take_of_length_le (by omega), List.take_of_length_le (by omega)]
          · rw [Nat.min_eq_right h]
        rw [e]
        exact H2.out
    · go_enter Try.func25, Try.ntmps25
      go_wp2_with (first
        | (go_at_call 86; refine (clone_bytes A l.length c l _ HR.out (by omega)).mono ?_; rintro e w1 ⟨A1, c1, rfl, hc1, hv, hbl⟩; have HV := Aside0.mk hv; have HB1 := Aside0.mk hbl; clear hv hbl)
        | (go_at_call 18; refine (count_any _ _ (by omega)).mono ?_; rintro e w1 ⟨rfl, rfl⟩))
      go_ret
      exact ⟨_, _, rfl, hc1, by unfold setL; rw [if_neg (by omega)]; exact HV.out, HB1.out⟩
  · go_enter Try.func25, Try.ntmps25
    go_wp2_with (go_at_call 86; refine (clone_bytes A l.length c l _ HR.out (by omega)).mono ?_; rintro e w1 ⟨A1, c1, rfl, hc1, hv, hbl⟩; have HV := Aside0.mk hv; have HB1 := Aside0.mk hbl; clear hv hbl)
    go_ret
    exact ⟨_, _, rfl, hc1, by unfold setL; rw [if_neg (by omega)]; exact HV.out, HB1.out⟩

set_option maxHeartbeats 2000000 in
set_option maxRecDepth 100000 in
/-- sector.Lay. -/
theorem lay_any (A : Option Addr) (n c : Nat) (l : List Int) (s f : Int) (Ad : Option Addr) (nd cd : Nat) (d : List Int) (w : World) (hr : Kd.C (Kd.int .u8) w A n l) (hrd : Kd.C (Kd.int .u8) w Ad nd d) :
    Calls Try.prog 27 #[.slice A n c, .agg #[.int .i64 s, .int .i64 f, .slice Ad nd cd]] w fun e w' => ∃ A' c', e = .returned (.slice A' 64 c') ∧ 64 ≤ c' ∧ Kd.R (Kd.int .u8) 5 w' w.heap.size (fun _ => True) (.slice A' 64 c') (layL l f d) ∧ Below w.heap.size w w' := by
  have HR := Aside0.mk hr
  have HD := Aside0.mk hrd
  clear hr hrd
  obtain ⟨i0, hi, _, hz1, _⟩ := info_parts infoU8
  have hb1' : (w.alloc (.cells #[.int .i64 s, .int .i64 f, .slice Ad nd cd] 30)).cell? ⟨w.heap.size, 1, none⟩ = some (.int .i64 f) := blk_cell (blk_new w _) 1
  have hb2' : (w.alloc (.cells #[.int .i64 s, .int .i64 f, .slice Ad nd cd] 30)).cell? ⟨w.heap.size, 2, none⟩ = some (.slice Ad nd cd) := blk_cell (blk_new w _) 2
  have hb1'' : w.cell? ⟨w.heap.size, 1, none⟩ = none := by simp [World.cell?]
  by_cases hf : 0 ≤ f
  · by_cases hf2 : f ≤ 64
    · obtain ⟨q, rfl⟩ := Int.eq_ofNat_of_zero_le hf
      have hq : q ≤ 64 := by omega
      go_enter Try.func27, Try.ntmps27
      go_wp2_with (first
        | (at_make; refine Kd.R_make (Kd.int .u8) (w0 := (w.alloc (.cells #[.int .i64 s, .int .i64 (q : Int), .slice Ad nd cd] 30))) ((w.alloc (.cells #[.int .i64 s, .int .i64 (q : Int), .slice Ad nd cd] 30))).heap.size 5 rfl (N := 6) rfl 22 (.const (.int .i64 64)) (.const (.int .i64 64)) rfl 64 rfl rfl Try.underlying22 (.int .u8 0) 1 infoU8 rfl (by decide) (by omega) (0 : Int) (ok := fun _ => True) (okp := fun _ => False) rfl (fun _ h => h.elim) trivial (by omega) (by decide) (Below.refl _ _) (Nat.le_refl _) ?_; intro v1 w1 h1 hb1 _ _; have h1' : Kd.R (Kd.int .u8) 5 w1 ((w.alloc (.cells #[.int .i64 s, .int .i64 (q : Int), .slice Ad nd cd] 30))).heap.size (fun _ => True) v1 (List.replicate 64 0) := h1; obtain ⟨g1, c1, rfl, _, _, _⟩ := Kd.R_form h1' (by simp); rw [List.length_replicate] at h1'; have H1 := Aside0.mk h1'; have HB1 := Aside0.mk hb1; clear h1 h1' hb1)
        | ((with_reducible refine gateB (b := .copy) (xs := #[.tmp 7, .tmp 8]) rfl ?_); refine copy_all (ki := .u8) (w0 := (w.alloc (.cells #[.int .i64 s, .int .i64 (q : Int), .slice Ad nd cd] 30))) (w.alloc (.cells #[.int .i64 s, .int .i64 (q : Int), .slice Ad nd cd] 30)).heap.size rfl (.tmp 7) (.tmp 8) 22 22 5 rfl Try.underlying22 infoU8s (.slice (some ⟨g1, 0, none⟩) 64 c1) (List.replicate 64 0) l A n c (fun _ => True) rfl rfl H1.out (Kd.C_below (Kd.C_alloc HR.out _) HB1.out) HB1.out (below_size HB1.out) ?_; intro w2 h2 hb2 _; have hx1 := pw_cell_below hb2 hb1'; have hx2 := pw_cell_below hb2 hb2'; have h2' : Kd.R (Kd.int .u8) 5 w2 (w.alloc (.cells #[.int .i64 s, .int .i64 (q : Int), .slice Ad nd cd] 30)).heap.size (fun _ => True) (.slice (some ⟨g1, 0, none⟩) 64 c1) (sizeL l 64) := h2; have H2 := Aside0.mk h2'; have HB2 := Aside0.mk hb2; clear h2 hb2 h2'))
      have hc64 : 64 ≤ c1 := (Kd.R_reads' H2.out).2.1
      obtain ⟨A3, hcut0, hA3⟩ := cut_own (P := Try.prog) 22 5 .i64 Try.underlying22 hi hz1 g1 64 c1 q hq hc64
      have HA3 := Aside0.mk hA3
      clear hA3
      go_region_law (((with_reducible refine gateS (b := .copy) (xs := #[.tmp 21, .tmp 23]) rfl ?_); refine step_copy_at (ki := .u8) (w0 := (w.alloc (.cells #[.int .i64 s, .int .i64 (q : Int), .slice Ad nd cd] 30))) (W := w2.drew) (w.alloc (.cells #[.int .i64 s, .int .i64 (q : Int), .slice Ad nd cd] 30)).heap.size (by rfl) (.tmp 21) (.tmp 23) 22 22 5 (by rfl) Try.underlying22 infoU8s g1 64 c1 q hq (sizeL l 64) d Ad A3 nd cd (fun _ => True) HA3.out (by rfl) (by rfl) (Kd.R_drew H2.out) (Kd.C_drew (Kd.C_below (Kd.C_alloc HD.out _) HB2.out)) (below_drew1 HB2.out) (below_size (below_drew1 HB2.out)) ?_); intro w3 h3 hb3 _; have H3 := Aside0.mk h3; have HB3 := Aside0.mk hb3; clear h3 hb3)
      all_goals
        go_wp2_with fail
        go_ret
        exact ⟨_, _, rfl, hc64, by unfold layL; rw [if_pos ⟨hf, hf2⟩]; exact Kd.R_lower H3.out (by simp), (below_alloc (Below.refl _ _) _).trans (HB3.out.mono (by simp))⟩
    · skip
      go_enter Try.func27, Try.ntmps27
      go_wp2_with (first
        | (at_make; refine Kd.R_make (Kd.int .u8) (w0 := (w.alloc (.cells #[.int .i64 s, .int .i64 f, .slice Ad nd cd] 30))) ((w.alloc (.cells #[.int .i64 s, .int .i64 f, .slice Ad nd cd] 30))).heap.size 5 rfl (N := 6) rfl 22 (.const (.int .i64 64)) (.const (.int .i64 64)) rfl 64 rfl rfl Try.underlying22 (.int .u8 0) 1 infoU8 rfl (by decide) (by omega) (0 : Int) (ok := fun _ => True) (okp := fun _ => False) rfl (fun _ h => h.elim) trivial (by omega) (by decide) (Below.refl _ _) (Nat.le_refl _) ?_; intro v1 w1 h1 hb1 _ _; have h1' : Kd.R (Kd.int .u8) 5 w1 ((w.alloc (.cells #[.int .i64 s, .int .i64 f, .slice Ad nd cd] 30))).heap.size (fun _ => True) v1 (List.replicate 64 0) := h1; obtain ⟨g1, c1, rfl, _, _, _⟩ := Kd.R_form h1' (by simp); rw [List.length_replicate] at h1'; have H1 := Aside0.mk h1'; have HB1 := Aside0.mk hb1; clear h1 h1' hb1)
        | ((with_reducible refine gateB (b := .copy) (xs := #[.tmp 7, .tmp 8]) rfl ?_); refine copy_all (ki := .u8) (w0 := (w.alloc (.cells #[.int .i64 s, .int .i64 f, .slice Ad nd cd] 30))) (w.alloc (.cells #[.int .i64 s, .int .i64 f, .slice Ad nd cd] 30)).heap.size rfl (.tmp 7) (.tmp 8) 22 22 5 rfl Try.underlying22 infoU8s (.slice (some ⟨g1, 0, none⟩) 64 c1) (List.replicate 64 0) l A n c (fun _ => True) rfl rfl H1.out (Kd.C_below (Kd.C_alloc HR.out _) HB1.out) HB1.out (below_size HB1.out) ?_; intro w2 h2 hb2 _; have hx1 := pw_cell_below hb2 hb1'; have hx2 := pw_cell_below hb2 hb2'; have h2' : Kd.R (Kd.int .u8) 5 w2 (w.alloc (.cells #[.int .i64 s, .int .i64 f, .slice Ad nd cd] 30)).heap.size (fun _ => True) (.slice (some ⟨g1, 0, none⟩) 64 c1) (sizeL l 64) := h2; have H2 := Aside0.mk h2'; have HB2 := Aside0.mk hb2; clear h2 hb2 h2'))
      go_ret
      exact ⟨_, _, rfl, (Kd.R_reads' H2.out).2.1, by unfold layL; rw [if_neg (by omega)]; exact Kd.R_lower H2.out (by simp), (below_alloc (Below.refl _ _) _).trans (HB2.out.mono (by simp))⟩
  · skip
    go_enter Try.func27, Try.ntmps27
    go_wp2_with (first
      | (at_make; refine Kd.R_make (Kd.int .u8) (w0 := (w.alloc (.cells #[.int .i64 s, .int .i64 f, .slice Ad nd cd] 30))) ((w.alloc (.cells #[.int .i64 s, .int .i64 f, .slice Ad nd cd] 30))).heap.size 5 rfl (N := 6) rfl 22 (.const (.int .i64 64)) (.const (.int .i64 64)) rfl 64 rfl rfl Try.underlying22 (.int .u8 0) 1 infoU8 rfl (by decide) (by omega) (0 : Int) (ok := fun _ => True) (okp := fun _ => False) rfl (fun _ h => h.elim) trivial (by omega) (by decide) (Below.refl _ _) (Nat.le_refl _) ?_; intro v1 w1 h1 hb1 _ _; have h1' : Kd.R (Kd.int .u8) 5 w1 ((w.alloc (.cells #[.int .i64 s, .int .i64 f, .slice Ad nd cd] 30))).heap.size (fun _ => True) v1 (List.replicate 64 0) := h1; obtain ⟨g1, c1, rfl, _, _, _⟩ := Kd.R_form h1' (by simp); rw [List.length_replicate] at h1'; have H1 := Aside0.mk h1'; have HB1 := Aside0.mk hb1; clear h1 h1' hb1)
      | ((with_reducible refine gateB (b := .copy) (xs := #[.tmp 7, .tmp 8]) rfl ?_); refine copy_all (ki := .u8) (w0 := (w.alloc (.cells #[.int .i64 s, .int .i64 f, .slice Ad nd cd] 30))) (w.alloc (.cells #[.int .i64 s, .int .i64 f, .slice Ad nd cd] 30)).heap.size rfl (.tmp 7) (.tmp 8) 22 22 5 rfl Try.underlying22 infoU8s (.slice (some ⟨g1, 0, none⟩) 64 c1) (List.replicate 64 0) l A n c (fun _ => True) rfl rfl H1.out (Kd.C_below (Kd.C_alloc HR.out _) HB1.out) HB1.out (below_size HB1.out) ?_; intro w2 h2 hb2 _; have hx1 := pw_cell_below hb2 hb1'; have hx2 := pw_cell_below hb2 hb2'; have h2' : Kd.R (Kd.int .u8) 5 w2 (w.alloc (.cells #[.int .i64 s, .int .i64 f, .slice Ad nd cd] 30)).heap.size (fun _ => True) (.slice (some ⟨g1, 0, none⟩) 64 c1) (sizeL l 64) := h2; have H2 := Aside0.mk h2'; have HB2 := Aside0.mk hb2; clear h2 hb2 h2'))
    go_ret
    exact ⟨_, _, rfl, (Kd.R_reads' H2.out).2.1, by unfold layL; rw [if_neg (by omega)]; exact Kd.R_lower H2.out (by simp), (below_alloc (Below.refl _ _) _).trans (HB2.out.mono (by simp))⟩
end Go.Proofs.Ytpnbjpkdbiiogaa
