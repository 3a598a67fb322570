/- The reference's spans. -/
import Derived.Test.YtldiginkmmlojaaHiE
namespace Go.Proofs.Ytldiginkmmlojaa
set_option linter.unusedVariables false
set_option linter.unusedSimpArgs false
open Go.RowKit Go.Proofs.YtldiginkmmlojaaW.PrintWords

/-- Where an entry's span begins. -/
def frW (sp : Int) (x : RecW) : Int := x.1.real - x.1.real % sp
theorem infoBr : (Try.prog.info? 105).map (fun i => (i.zero, i.size, i.bytes)) = some (some (.agg #[.int .u64 0, .int .i64 0]), 2, 16) := by kernel_rfl
theorem cBk_of {w : World} {base : Nat} {ok : Nat → Prop} {x : Int × Int} {c : List Value} (h : kBk.M w base ok x c) : c = [.int .u64 x.1, .int .i64 x.2] := by
  obtain ⟨_, _, rfl, rfl, rfl⟩ := h
  rfl
section
variable {W : World} {b gr m c e : Nat} {ok : Nat → Prop} {l : List (Int × Int)}
theorem bk_cells (h : Kd.R kBk e W b ok (.slice (some ⟨gr, 0, none⟩) m c) l) {i : Nat} (hi : i < m) :
    W.cell? ⟨gr, i * 2, none⟩ = some (.int .u64 (l.getD i zHB).1) ∧ W.cell? ⟨gr, i * 2 + 1, none⟩ = some (.int .i64 (l.getD i zHB).2) ∧ W.frozen? ⟨gr, i * 2 + 1, none⟩ = false := by
  obtain ⟨cs, _, hM, hc, hf⟩ := Kd.R_elem h zHB (i : Int) (by omega) (by omega)
  have e := cBk_of hM
  subst e
  simp only [Int.toNat_natCast] at hc hf
  exact ⟨hc 0 _ rfl, hc 1 _ rfl, hf 1⟩
theorem bk_set (h : Kd.R kBk e W b ok (.slice (some ⟨gr, 0, none⟩) m c) l) {i : Nat} (hi : i < m) (p : Int) : Kd.R kBk e (W.setCell ⟨gr, i * 2 + 1, none⟩ (.int .i64 p)) b ok (.slice (some ⟨gr, 0, none⟩) m c) (l.set i ((l.getD i zHB).1, p)) := by
  obtain ⟨cs, hcl, hM, hc, hf⟩ := Kd.R_elem h zHB (i : Int) (by omega) (by omega)
  have e := cBk_of hM
  subst e
  have h1 := (Kd.R_seg (okp := fun k => ok k ∧ k ≠ gr) h (i : Int) (by omega) (by omega) (seg := [.int .i64 p]) (j := 1) hcl hc (by show 1 + 1 ≤ 2; omega) (x' := ((l.getD i zHB).1, p)) (by
    rw [Int.toNat_natCast]
    exact kBk_mkM _ _ _ ((l.getD i zHB).1, p)) (fun k hk => hk)).1
  rw [Int.toNat_natCast] at h1
  exact h1
end
theorem lit_bk (W : World) (b : Nat) (x : Int × Int) (hb : b ≤ W.heap.size) (e : Nat) : Kd.R kBk e (W.alloc (.cells #[.int .u64 x.1, .int .i64 x.2] e)) b (fun _ => True) (.slice (some ⟨W.heap.size, 0, none⟩) 1 1) [x] := by
  refine ⟨fun _ _ => trivial, [.int .u64 x.1, .int .i64 x.2], World.ownsRow_lit (base := b) (e := e) (size := 2) W #[.int .u64 x.1, .int .i64 x.2] 1 hb (by unfold maxLen; omega) (by simp), rfl, fun j p hj => ?_⟩
  obtain ⟨h1, h2⟩ := List.getElem?_eq_some_iff.1 hj
  have h0 : j = 0 := by simp at h1; exact h1
  subst h0
  simp at h2
  subst h2
  exact kBk_mkM _ _ _ x
theorem R_reokBk {e : Nat} {w : World} {base : Nat} {ok ok' : Nat → Prop} {v : Value} {xs : List (Int × Int)} (h : Kd.R kBk e w base ok v xs) (h' : ∀ k, v.ownBlock = some k → ok' k) : Kd.R kBk e w base ok' v xs := ⟨h', h.2⟩
theorem histF_cnt (ks : List Int) : ∀ p ∈ histF ks, 0 ≤ p.2 ∧ p.2 ≤ ks.length := fun p hp => by
  rw [(histF_HI ks).cnt p hp]
  have := List.count_le_length (a := p.1) (l := ks)
  omega
theorem atH_at (o : List (Int × Int)) (x : Int) (m n : Nat) (hl : o.length = m) (hn : n ≤ m) (h1 : ∀ j, j < n → (o.getD j zHB).1 < x) (h2 : n = m ∨ ¬ (o.getD n zHB).1 < x) : atH o x = n := atH_is o x n (by omega) h1 (by rw [hl]; exact h2)
theorem hitH_yes (o : List (Int × Int)) (x : Int) (m n : Nat) (hl : o.length = m) (hn : n < m) (h1 : ∀ j, j < n → (o.getD j zHB).1 < x) (h2 : (o.getD n zHB).1 = x) : hitH o x = o.set n ((o.getD n zHB).1, (o.getD n zHB).2 + 1) := by
  unfold hitH
  rw [atH_at o x m n hl (by omega) h1 (.inr (by omega)), if_pos ⟨by omega, h2⟩, h2]
theorem hitH_no (o : List (Int × Int)) (x : Int) (m n : Nat) (hl : o.length = m) (hn : n ≤ m) (h1 : ∀ j, j < n → (o.getD j zHB).1 < x) (h2 : n = m ∨ x < (o.getD n zHB).1) : hitH o x = (o.take n ++ [(x, 1)]) ++ o.drop n := by
  unfold hitH
  rw [atH_at o x m n hl hn h1 (h2.imp_right (fun h => by omega)), if_neg]
  rintro ⟨g1, g2⟩
  omega
set_option maxRecDepth 100000 in
set_option maxHeartbeats 4000000 in
theorem rhist_any (A : Option Addr) (c : Nat) (zs : List RecW) (span : Int) (w : World) (hr : Kd.C kRec w A zs.length zs) (hn : zs.length ≤ 1000) (hre : ∀ x ∈ zs, (Lit.int .u64 x.1.real).wf = true) (hspan : 0 ≤ span ∧ span < 18446744073709551616) :
    Calls Try.prog 55 #[.slice A zs.length c, .int .u64 span] w fun e w' => ∃ A' c', e = .returned (.slice A' (histF (zs.map (frW (max span 1)))).length c') ∧ Kd.R kBk 105 w' w.heap.size (fun _ => True) (.slice A' (histF (zs.map (frW (max span 1)))).length c') (histF (zs.map (frW (max span 1)))) ∧ Below w.heap.size w w' := by
  have HR := Aside0.mk hr
  obtain ⟨sp, hsp⟩ : ∃ sp, sp = max span 1 := ⟨_, rfl⟩
  have hsp1 : 0 < sp := by omega
  have hsp2 : sp < 18446744073709551616 := by omega
  rw [← hsp]
  obtain ⟨kk, hkk⟩ : ∃ kk, kk = zs.map (frW sp) := ⟨_, rfl⟩
  rw [← hkk]
  have HRE := Aside0.mk (show ∀ i, i < zs.length → 0 ≤ (zs.getD i zRecW).1.real ∧ (zs.getD i zRecW).1.real ≤ 18446744073709551615 from fun i hi => (Lit.wf_int_iff .u64 _).1 (hre _ (List.mem_of_getElem? (show zs[i]? = some (zs.getD i zRecW) by rw [List.getD_eq_getElem?_getD, List.getElem?_eq_getElem hi]; rfl))))
  have HKK := Aside0.mk (show ∀ i, i < zs.length → kk.take (i + 1) = kk.take i ++ [(zs.getD i zRecW).1.real - (zs.getD i zRecW).1.real % sp] from fun i hi => by
    rw [List.take_succ_eq_append_getElem (by rw [hkk, List.length_map]; exact hi)]
    subst hkk
    rw [List.getElem_map, List.getD_eq_getElem?_getD, List.getElem?_eq_getElem hi]
    rfl)
  have HKL := Aside0.mk (show kk.take zs.length = kk from List.take_of_length_le (by rw [hkk, List.length_map]; exact Nat.le_refl _))
  clear hr hre hkk
  have hlen : (0 : Int) ≤ zs.length := by omega
  go_enter Try.func55, Try.ntmps55
  by_cases hz : span = 0
  · subst hz
    have hs1 : sp = 1 := by omega
    clear hsp
    have H1 := Aside0.mk hs1
    clear hs1
    go_wp2_with fail
    rw [show Value.int IntKind.u64 1 = Value.int IntKind.u64 sp from by rw [H1.out]]
    clear H1
    go_loopg [5, 6] zs.length (fun q v5 v6 wr => ∃ (i m c5 : Nat) (A5 : Option Addr) (o : List (Int × Int)), v5 = .slice A5 m c5 ∧ v6 = .int .i64 (i : Int) ∧ i ≤ zs.length ∧ m ≤ i ∧ Aside0 (o.length = m) ∧ Aside0 (o = histF (kk.take i)) ∧ Aside0 (q = zs.length - i) ∧ Aside0 (Kd.R kBk 105 wr w.heap.size (fun _ => True) (.slice A5 m c5) o) ∧ Aside0 (Below w.heap.size w wr))
    case atStart => exact ⟨0, 0, 0, none, [], rfl, rfl, Nat.zero_le _, Nat.le_refl _, ⟨rfl⟩, ⟨rfl⟩, ⟨rfl⟩, ⟨Kd.R_nil _ _ _ _ _⟩, ⟨Below.refl _ _⟩⟩
    case round =>
      obtain ⟨i, m, c5, A5, o, rfl, rfl, hi, hmi, HOL, HO, hq, HA, HB⟩ := hrel
      by_cases hlt : i < zs.length
      · obtain ⟨ad, rfl, _, s0, _⟩ := at_Rec (Kd.C_below HR.out HB.out) i hlt
        obtain ⟨a0, a1⟩ := HRE.out i hlt
        have hk := HKK.out i hlt
        generalize (zs.getD i zRecW).1.real = re at *
        obtain ⟨x, hx⟩ : ∃ x, x = re - re % sp := ⟨_, rfl⟩
        have hm0 : 0 ≤ re % sp := Int.emod_nonneg _ (by omega)
        have hdm := Int.mul_ediv_add_emod re sp
        have hm1 : 0 ≤ sp * (re / sp) := Int.mul_nonneg (by omega) (Int.ediv_nonneg a0 (by omega))
        obtain ⟨qq, hqq⟩ : ∃ qq, qq = re / sp := ⟨_, rfl⟩
        have hq0 : 0 ≤ re / sp := Int.ediv_nonneg a0 (by omega)
        have hq1 : re / sp ≤ re := Int.ediv_le_self _ a0
        have hwd : IntKind.u64.wrap (re / sp) = qq := by
          rw [IntKind.wrap_u64]
          omega
        have hwq : IntKind.u64.wrap (qq * sp) = x := by
          rw [hqq, Int.mul_comm, IntKind.wrap_u64]
          omega
        have htd : re.tdiv sp = re / sp := Int.tdiv_eq_ediv_of_nonneg a0
        have hspz : ¬ sp = 0 := by omega
        rw [← hx] at hk
        have HSN := Aside0.mk (show histF (kk.take (i + 1)) = hitH o x by rw [hk, histF_snoc, HO.out])
        have HCN := Aside0.mk (show ∀ j, j < m → 0 ≤ (o.getD j zHB).2 ∧ (o.getD j zHB).2 ≤ i from fun j hj => by
          have h1 := histF_cnt (kk.take i) (o.getD j zHB) (by rw [← HO.out]; exact List.mem_of_getElem? (show o[j]? = some (o.getD j zHB) by rw [List.getD_eq_getElem?_getD, List.getElem?_eq_getElem (by rw [HOL.out]; exact hj)]; rfl))
          have h2 : (kk.take i).length ≤ i := List.length_take_le ..
          omega)
        clear hx hm0 hdm hm1 hk hqq hq0 hq1
        go_wp2_with fail
        go_loopg [8] (m + 1) (fun q v8 wr2 => ∃ (n : Nat), v8 = .int .i64 (n : Int) ∧ n ≤ m ∧ Aside0 (q = m + 1 - n) ∧ Aside0 (∀ j, j < n → (o.getD j zHB).1 < x) ∧ Aside0 (Kd.R kBk 105 wr2 w.heap.size (fun _ => True) (.slice A5 m c5) o) ∧ Aside0 (Below w.heap.size w wr2))
        case atStart => exact ⟨0, rfl, Nat.zero_le _, ⟨rfl⟩, ⟨fun j hj => absurd hj (Nat.not_lt_zero _)⟩, HA, HB⟩
        case round =>
          clear HA HB s0
          obtain ⟨n, rfl, hn, hq2, HLT, HA, HB⟩ := hrel
          by_cases hnm : n < m
          · obtain ⟨gr, c9, he, _⟩ := Kd.R_form HA.out (by rw [HOL.out]; omega)
            obtain rfl : A5 = some ⟨gr, 0, none⟩ := by injection he
            clear he
            obtain ⟨q0, q1, y1⟩ := bk_cells HA.out hnm
            obtain ⟨g0, g1⟩ := HCN.out n hnm
            have HST := Aside0.mk (bk_set HA.out hnm ((o.getD n zHB).2 + 1))
            have HIT := Aside0.mk (hitH_yes o x m n HOL.out hnm HLT.out)
            have HNO := Aside0.mk (fun h => hitH_no o x m n HOL.out hn HLT.out (.inr h))
            have HLT2 := Aside0.mk (fun (h : (o.getD n zHB).1 < x) j (hj : j < n + 1) => show (o.getD j zHB).1 < x from (Nat.lt_succ_iff_lt_or_eq.1 hj).elim (HLT.out j) (fun e => by rw [e]; exact h))
            generalize (o.getD n zHB).1 = p at *
            generalize (o.getD n zHB).2 = y at *
            have hn0 : (0 : Int) ≤ (n : Int) := by omega
            have hn1 : (n : Int) < (m : Int) := by omega
            by_cases hbg : p < x
            · have d2 : decide (p < x) = true := decide_eq_true hbg
              have HBG := Aside0.mk hbg
              clear hbg
              go_wp2_with fail
              go_roundg (m + 1 - (n + 1))
              case measure => have h1 := hq2.out; omega
              case rel => exact ⟨n + 1, by go_num, by omega, ⟨rfl⟩, ⟨HLT2.out HBG.out⟩, HA, HB⟩
            · have d2 : decide (p < x) = false := decide_eq_false hbg
              by_cases he : p = x
              · have HIT2 := Aside0.mk (HIT.out he)
                have hwy : IntKind.i64.wrap (y + 1) = y + 1 := by rw [IntKind.wrap_i64]; omega
                have d3 : (p == x) = true := by rw [he]; exact beq_self_eq_true _
                have d4 : decide (p = x) = true := decide_eq_true he
                clear he hbg
                go_wp2_with fail
                go_roundg (zs.length - (i + 1))
                case measure => have := hq.out; omega
                case rel => exact ⟨i + 1, m, c5, _, _, rfl, by go_num, by omega, by omega, ⟨by rw [List.length_set]; exact HOL.out⟩, ⟨by rw [HSN.out, HIT2.out]⟩, ⟨rfl⟩, ⟨HST.out⟩, ⟨HB.out.setCell (p := ⟨gr, n * 2 + 1, none⟩) (Kd.R_base HA.out gr rfl) _⟩⟩
              · have HPN := Aside0.mk (HNO.out (by omega))
                have d3 : (p == x) = false := beq_eq_false_iff_ne.mpr he
                have d4 : decide (p = x) = false := decide_eq_false he
                clear he hbg
                generalize hWq : wr = wq at *
                clear hWq
                have HA2 := HA
                have HB2 := HB
                clear HA HB
                have hc5 := (Kd.R_reads' HA2.out).2.1
                obtain ⟨i0, hi0, hz0, hz1, hz2⟩ := info_parts infoBr
                have cutA : ∀ W : World, (Instr.slice 99 (.slice (some (⟨gr, 0, none⟩ : Addr)) m c5) none (some (.int .i64 (n : Int))) none).run Try.prog W = .ok (.slice (some (⟨gr, 0, none⟩ : Addr)) n c5) W := fun W => by
                  have := cut_to (P := Try.prog) 99 105 .i64 Try.underlying99 hi0 (some (⟨gr, 0, none⟩ : Addr)) m c5 (n : Int) (by omega) (by omega) hc5 W
                  simpa using this
                obtain ⟨A9, hA9⟩ : ∃ A9 : Option Addr, A9 = (if c5 = n then (some (⟨gr, 0, none⟩ : Addr)) else (some (⟨gr, 0, none⟩ : Addr)).map (·.add (n * 2))) := ⟨_, rfl⟩
                have cutB : ∀ W : World, (Instr.slice 99 (.slice (some (⟨gr, 0, none⟩ : Addr)) m c5) (some (.int .i64 (n : Int))) none none).run Try.prog W = .ok (.slice A9 (m - n) (c5 - n)) W := fun W => by
                  have := cut_from (P := Try.prog) 99 105 .i64 Try.underlying99 hi0 2 hz1 (some (⟨gr, 0, none⟩ : Addr)) m c5 (n : Int) (by omega) (by omega) W
                  rw [hA9]
                  simpa using this
                have HTL := Aside0.mk (show (o.take n).length = n by rw [List.length_take, HOL.out]; omega)
                have HTL2 := Aside0.mk (show (o.take n ++ [(x, 1)]).length = n + 1 by rw [List.length_append, HTL.out]; rfl)
                have HDL := Aside0.mk (show (o.drop n).length = m - n by rw [List.length_drop, HOL.out])
                have HIL := Aside0.mk (show (hitH o x).length = m + 1 by rw [HPN.out, List.length_append, HTL2.out, HDL.out]; omega)
                have HCO := Aside0.mk (show kBk.C wq (some (⟨gr, 0, none⟩ : Addr)) o.length o by rw [HOL.out]; exact C_own HA2.out)
                have HCA := Aside0.mk (show kBk.C wq (some (⟨gr, 0, none⟩ : Addr)) n (o.take n) by have := Kd.C_take (m := n) HCO.out (by rw [HOL.out]; exact hn); rwa [HTL.out] at this)
                have HCB := Aside0.mk (show kBk.C wq A9 (m - n) (o.drop n) by have := Kd.C_drop (m := n) HCO.out (by rw [HOL.out]; exact hn) (by rw [HOL.out]; exact hc5); rwa [HDL.out, show kBk.sz = 2 from rfl, ← hA9] at this)
                have hbd : Below wq.heap.size wq wq.drew := below_drew1 (Below.refl _ _)
                have HBa := Aside0.mk (show Below wq.heap.size wq (wq.drew.alloc (.cells #[] 105)) from hbd.alloc (Nat.le_refl _) _)
                have HBb := Aside0.mk (show Below wq.heap.size wq ((wq.drew.alloc (.cells #[] 105)).alloc (.cells #[.int .u64 x, .int .i64 1] 105)) from HBa.out.alloc (by simp) _)
                have HBc := Aside0.mk (show Below wq.heap.size wq ((wq.drew.alloc (.cells #[.int .u64 x, .int .i64 1] 105)).alloc (.cells #[] 105)) from (hbd.alloc (Nat.le_refl _) _).alloc (by simp) _)
                have HEa := Aside0.mk (show Kd.R kBk 105 (wq.drew.alloc (.cells #[] 105)) wq.heap.size (fun _ => True) (.slice (some ⟨wq.heap.size, 0, none⟩) 0 0) [] from R_empty _ _ wq.drew wq.heap.size _ trivial (Nat.le_refl _))
                have HEb := Aside0.mk (Kd.R_alloc HEa.out (.cells #[.int .u64 x, .int .i64 1] 105))
                have HEc := Aside0.mk (show Kd.R kBk 105 ((wq.drew.alloc (.cells #[.int .u64 x, .int .i64 1] 105)).alloc (.cells #[] 105)) wq.heap.size (fun _ => True) (.slice (some ⟨wq.heap.size + 1, 0, none⟩) 0 0) [] by
                  have := R_empty kBk 105 (wq.drew.alloc (.cells #[.int .u64 x, .int .i64 1] 105)) wq.heap.size (fun _ => True) trivial (by simp)
                  rw [World.size_alloc] at this
                  exact this)
                have HLb := Aside0.mk (show Kd.R kBk 105 ((wq.drew.alloc (.cells #[] 105)).alloc (.cells #[.int .u64 x, .int .i64 1] 105)) wq.heap.size (fun q => some q ≠ (Value.slice (some ⟨wq.heap.size, 0, none⟩) 0 0).ownBlock) (.slice (some ⟨wq.heap.size + 1, 0, none⟩) 1 1) [(x, 1)] by
                  have := lit_bk (wq.drew.alloc (.cells #[] 105)) wq.heap.size (x, 1) (by simp) 105
                  rw [World.size_alloc] at this
                  exact R_reokBk this (fun q hq e => by simp [Value.ownBlock] at hq e; omega))
                have HLc := Aside0.mk (show Kd.R kBk 105 ((wq.drew.alloc (.cells #[.int .u64 x, .int .i64 1] 105)).alloc (.cells #[] 105)) wq.heap.size (fun q => some q ≠ (Value.slice (some ⟨wq.heap.size + 1, 0, none⟩) 0 0).ownBlock) (.slice (some ⟨wq.heap.size, 0, none⟩) 1 1) [(x, 1)] by
                  have := lit_bk wq.drew wq.heap.size (x, 1) (Nat.le_refl _) 105
                  exact R_reokBk (Kd.R_alloc this _) (fun q hq e => by simp [Value.ownBlock] at hq e; have h9 : wq.drew.heap.size = wq.heap.size := rfl; omega))
                have hsq := HB2.out.size
                have hn0 : (0 : Int) ≤ (n : Int) := by omega
                have hni : (n : Int) ≤ (m : Int) := by omega
                clear hi0 hz0 hz1 hz2 hA9 hbd hc5
                go_wp2_with fail
                go_region_law (first
                  | (refine Kd.R_append_rows_step kBk (Rr := kBk.K (wq.drew.alloc (.cells #[] 105))) (w0 := wq) wq.heap.size (by rfl) (.tmp 62) (.tmp 65) 99 105 (.agg #[.int .u64 0, .int .i64 0]) 16 rfl Try.underlying99 infoBr rfl (by decide) (by omega) (.slice (some ⟨wq.heap.size, 0, none⟩) 0 0) [] (o.take n) (some (⟨gr, 0, none⟩ : Addr)) n c5 (fun _ => True) (fun _ => False) (by rfl) (by rfl) HEa.out (Kd.C_below HCA.out HBa.out) (fun _ _ h => h) (fun _ h => h.elim) (fun _ _ => trivial) HBa.out HBa.out.size (by simp; omega) ?_; intro v1 w1 h1 hb1 hg1 _; rw [List.nil_append] at h1; obtain ⟨A6, c6, rfl, hc6, _⟩ := Kd.R_reads h1; rw [HTL.out] at h1 hc6 ⊢; have HR1 := Aside0.mk h1; have HBR := Aside0.mk hb1; (have HLT := Aside0.mk (show kBk.C (w1.alloc (.cells #[.int .u64 x, .int .i64 1] 105)) (some ⟨w1.heap.size, 0, none⟩) 1 [(x, 1)] from C_own (lit_bk w1 w1.heap.size (x, 1) (Nat.le_refl _) 105)); have HR1a := Aside0.mk (Kd.R_alloc HR1.out (.cells #[.int .u64 x, .int .i64 1] 105)); have HBRa := Aside0.mk (hb1.alloc hb1.size (.cells #[.int .u64 x, .int .i64 1] 105))); clear h1 hb1 hg1 hc6)
                  | (refine Kd.R_append_rows_step kBk (Rr := kBk.K ((wq.drew.alloc (.cells #[] 105)).alloc (.cells #[.int .u64 x, .int .i64 1] 105))) (w0 := wq) wq.heap.size (by rfl) (.tmp 62) (.tmp 65) 99 105 (.agg #[.int .u64 0, .int .i64 0]) 16 rfl Try.underlying99 infoBr rfl (by decide) (by omega) (.slice (some ⟨wq.heap.size, 0, none⟩) 0 0) [] (o.take n) (some (⟨gr, 0, none⟩ : Addr)) n c5 (fun _ => True) (fun _ => False) (by rfl) (by rfl) HEb.out (Kd.C_below HCA.out HBb.out) (fun _ _ h => h) (fun _ h => h.elim) (fun _ _ => trivial) HBb.out HBb.out.size (by simp; omega) ?_; intro v1 w1 h1 hb1 hg1 _; rw [List.nil_append] at h1; obtain ⟨A6, c6, rfl, hc6, _⟩ := Kd.R_reads h1; rw [HTL.out] at h1 hc6 ⊢; have HR1 := Aside0.mk h1; have HBR := Aside0.mk hb1; (have HL1 := Aside0.mk (Kd.R_grown HLb.out hg1 (fun k hk => hk))); clear h1 hb1 hg1 hc6)
                  | (refine Kd.R_append_rows_step kBk (Rr := kBk.K ((wq.drew.alloc (.cells #[.int .u64 x, .int .i64 1] 105)).alloc (.cells #[] 105))) (w0 := wq) wq.heap.size (by rfl) (.tmp 62) (.tmp 65) 99 105 (.agg #[.int .u64 0, .int .i64 0]) 16 rfl Try.underlying99 infoBr rfl (by decide) (by omega) (.slice (some ⟨wq.heap.size + 1, 0, none⟩) 0 0) [] (o.take n) (some (⟨gr, 0, none⟩ : Addr)) n c5 (fun _ => True) (fun _ => False) (by rfl) (by rfl) HEc.out (Kd.C_below HCA.out HBc.out) (fun _ _ h => h) (fun _ h => h.elim) (fun _ _ => trivial) HBc.out HBc.out.size (by simp; omega) ?_; intro v1 w1 h1 hb1 hg1 _; rw [List.nil_append] at h1; obtain ⟨A6, c6, rfl, hc6, _⟩ := Kd.R_reads h1; rw [HTL.out] at h1 hc6 ⊢; have HR1 := Aside0.mk h1; have HBR := Aside0.mk hb1; (have HL1 := Aside0.mk (Kd.R_grown HLc.out hg1 (fun k hk => hk))); clear h1 hb1 hg1 hc6)
                  | (refine Kd.R_append_rows_step kBk (Rr := kBk.K (w1.alloc (.cells #[.int .u64 x, .int .i64 1] 105))) (w0 := wq) wq.heap.size (by rfl) (.tmp 66) (.tmp 69) 99 105 (.agg #[.int .u64 0, .int .i64 0]) 16 rfl Try.underlying99 infoBr rfl (by decide) (by omega) (.slice A6 n c6) (o.take n) [(x, 1)] (some ⟨w1.heap.size, 0, none⟩) 1 1 (fun _ => True) (fun _ => False) (by rfl) (by rfl) HR1a.out HLT.out (fun _ _ h => h) (fun _ h => h.elim) (fun _ _ => trivial) HBRa.out HBRa.out.size (by rw [HTL.out]; (try simp); omega) ?_; intro v2 w2 h2 hb2 _ _; obtain ⟨A7, c7, rfl, hc7, _⟩ := Kd.R_reads h2; rw [HTL2.out] at h2 hc7 ⊢; have HR2 := Aside0.mk h2; have HBR2 := Aside0.mk hb2; clear h2 hb2 hc7)
                  | (refine Kd.R_append_rows_step kBk (Rr := kBk.K (w1)) (w0 := wq) wq.heap.size (by rfl) (.tmp 66) (.tmp 69) 99 105 (.agg #[.int .u64 0, .int .i64 0]) 16 rfl Try.underlying99 infoBr rfl (by decide) (by omega) (.slice A6 n c6) (o.take n) [(x, 1)] (some ⟨wq.heap.size + 1, 0, none⟩) 1 1 (fun _ => True) (fun _ => False) (by rfl) (by rfl) HR1.out (C_own HL1.out) (fun _ _ h => h) (fun _ h => h.elim) (fun _ _ => trivial) HBR.out HBR.out.size (by rw [HTL.out]; (try simp); omega) ?_; intro v2 w2 h2 hb2 _ _; obtain ⟨A7, c7, rfl, hc7, _⟩ := Kd.R_reads h2; rw [HTL2.out] at h2 hc7 ⊢; have HR2 := Aside0.mk h2; have HBR2 := Aside0.mk hb2; clear h2 hb2 hc7)
                  | (refine Kd.R_append_rows_step kBk (Rr := kBk.K (w1)) (w0 := wq) wq.heap.size (by rfl) (.tmp 66) (.tmp 69) 99 105 (.agg #[.int .u64 0, .int .i64 0]) 16 rfl Try.underlying99 infoBr rfl (by decide) (by omega) (.slice A6 n c6) (o.take n) [(x, 1)] (some ⟨wq.heap.size, 0, none⟩) 1 1 (fun _ => True) (fun _ => False) (by rfl) (by rfl) HR1.out (C_own HL1.out) (fun _ _ h => h) (fun _ h => h.elim) (fun _ _ => trivial) HBR.out HBR.out.size (by rw [HTL.out]; (try simp); omega) ?_; intro v2 w2 h2 hb2 _ _; obtain ⟨A7, c7, rfl, hc7, _⟩ := Kd.R_reads h2; rw [HTL2.out] at h2 hc7 ⊢; have HR2 := Aside0.mk h2; have HBR2 := Aside0.mk hb2; clear h2 hb2 hc7)
                  | (refine Kd.R_append_rows_step kBk (Rr := kBk.K w2) (w0 := wq) wq.heap.size (by rfl) (.tmp 70) (.tmp 73) 99 105 (.agg #[.int .u64 0, .int .i64 0]) 16 rfl Try.underlying99 infoBr rfl (by decide) (by omega) (.slice A7 (n + 1) c7) (o.take n ++ [(x, 1)]) (o.drop n) A9 (m - n) (c5 - n) (fun _ => True) (fun _ => False) (by rfl) (by rfl) HR2.out (Kd.C_below HCB.out HBR2.out) (fun _ _ h => h) (fun _ h => h.elim) (fun _ _ => trivial) HBR2.out HBR2.out.size (by rw [HTL2.out]; (try rw [HDL.out]); omega) ?_; intro v5 w5 h5 hb5 _ _; rw [← HPN.out] at h5; obtain ⟨A8, c8, rfl, hc8, _⟩ := Kd.R_reads h5; rw [HIL.out] at h5 ⊢; have HR5 := Aside0.mk h5; have HBR5 := Aside0.mk hb5; clear h5 hb5 hc8))
                all_goals
                  go_wp2_with fail
                  go_roundg (zs.length - (i + 1))
                  case measure => have := hq.out; omega
                  case rel => exact ⟨i + 1, m + 1, c8, A8, _, rfl, by go_num, by omega, by omega, HIL, ⟨HSN.out.symm⟩, ⟨rfl⟩, ⟨Kd.R_lower HR5.out hsq⟩, ⟨below_step HB2.out HBR5.out⟩⟩
          · have HPN := Aside0.mk (hitH_no o x m n HOL.out hn HLT.out (.inl (by omega)))
            have d3 : decide (n < m) = false := decide_eq_false hnm
            generalize hWq : wr = wq at *
            clear hWq
            have HA2 := HA
            have HB2 := HB
            clear HA HB
            have hc5 := (Kd.R_reads' HA2.out).2.1
            obtain ⟨i0, hi0, hz0, hz1, hz2⟩ := info_parts infoBr
            have cutA : ∀ W : World, (Instr.slice 99 (.slice A5 m c5) none (some (.int .i64 (n : Int))) none).run Try.prog W = .ok (.slice A5 n c5) W := fun W => by
              have := cut_to (P := Try.prog) 99 105 .i64 Try.underlying99 hi0 A5 m c5 (n : Int) (by omega) (by omega) hc5 W
              simpa using this
            obtain ⟨A9, hA9⟩ : ∃ A9 : Option Addr, A9 = (if c5 = n then A5 else A5.map (·.add (n * 2))) := ⟨_, rfl⟩
            have cutB : ∀ W : World, (Instr.slice 99 (.slice A5 m c5) (some (.int .i64 (n : Int))) none none).run Try.prog W = .ok (.slice A9 (m - n) (c5 - n)) W := fun W => by
              have := cut_from (P := Try.prog) 99 105 .i64 Try.underlying99 hi0 2 hz1 A5 m c5 (n : Int) (by omega) (by omega) W
              rw [hA9]
              simpa using this
            have HTL := Aside0.mk (show (o.take n).length = n by rw [List.length_take, HOL.out]; omega)
            have HTL2 := Aside0.mk (show (o.take n ++ [(x, 1)]).length = n + 1 by rw [List.length_append, HTL.out]; rfl)
            have HDL := Aside0.mk (show (o.drop n).length = m - n by rw [List.length_drop, HOL.out])
            have HIL := Aside0.mk (show (hitH o x).length = m + 1 by rw [HPN.out, List.length_append, HTL2.out, HDL.out]; omega)
            have HCO := Aside0.mk (show kBk.C wq A5 o.length o by rw [HOL.out]; exact C_own HA2.out)
            have HCA := Aside0.mk (show kBk.C wq A5 n (o.take n) by have := Kd.C_take (m := n) HCO.out (by rw [HOL.out]; exact hn); rwa [HTL.out] at this)
            have HCB := Aside0.mk (show kBk.C wq A9 (m - n) (o.drop n) by have := Kd.C_drop (m := n) HCO.out (by rw [HOL.out]; exact hn) (by rw [HOL.out]; exact hc5); rwa [HDL.out, show kBk.sz = 2 from rfl, ← hA9] at this)
            have hbd : Below wq.heap.size wq wq.drew := below_drew1 (Below.refl _ _)
            have HBa := Aside0.mk (show Below wq.heap.size wq (wq.drew.alloc (.cells #[] 105)) from hbd.alloc (Nat.le_refl _) _)
            have HBb := Aside0.mk (show Below wq.heap.size wq ((wq.drew.alloc (.cells #[] 105)).alloc (.cells #[.int .u64 x, .int .i64 1] 105)) from HBa.out.alloc (by simp) _)
            have HBc := Aside0.mk (show Below wq.heap.size wq ((wq.drew.alloc (.cells #[.int .u64 x, .int .i64 1] 105)).alloc (.cells #[] 105)) from (hbd.alloc (Nat.le_refl _) _).alloc (by simp) _)
            have HEa := Aside0.mk (show Kd.R kBk 105 (wq.drew.alloc (.cells #[] 105)) wq.heap.size (fun _ => True) (.slice (some ⟨wq.heap.size, 0, none⟩) 0 0) [] from R_empty _ _ wq.drew wq.heap.size _ trivial (Nat.le_refl _))
            have HEb := Aside0.mk (Kd.R_alloc HEa.out (.cells #[.int .u64 x, .int .i64 1] 105))
            have HEc := Aside0.mk (show Kd.R kBk 105 ((wq.drew.alloc (.cells #[.int .u64 x, .int .i64 1] 105)).alloc (.cells #[] 105)) wq.heap.size (fun _ => True) (.slice (some ⟨wq.heap.size + 1, 0, none⟩) 0 0) [] by
              have := R_empty kBk 105 (wq.drew.alloc (.cells #[.int .u64 x, .int .i64 1] 105)) wq.heap.size (fun _ => True) trivial (by simp)
              rw [World.size_alloc] at this
              exact this)
            have HLb := Aside0.mk (show Kd.R kBk 105 ((wq.drew.alloc (.cells #[] 105)).alloc (.cells #[.int .u64 x, .int .i64 1] 105)) wq.heap.size (fun q => some q ≠ (Value.slice (some ⟨wq.heap.size, 0, none⟩) 0 0).ownBlock) (.slice (some ⟨wq.heap.size + 1, 0, none⟩) 1 1) [(x, 1)] by
              have := lit_bk (wq.drew.alloc (.cells #[] 105)) wq.heap.size (x, 1) (by simp) 105
              rw [World.size_alloc] at this
              exact R_reokBk this (fun q hq e => by simp [Value.ownBlock] at hq e; omega))
            have HLc := Aside0.mk (show Kd.R kBk 105 ((wq.drew.alloc (.cells #[.int .u64 x, .int .i64 1] 105)).alloc (.cells #[] 105)) wq.heap.size (fun q => some q ≠ (Value.slice (some ⟨wq.heap.size + 1, 0, none⟩) 0 0).ownBlock) (.slice (some ⟨wq.heap.size, 0, none⟩) 1 1) [(x, 1)] by
              have := lit_bk wq.drew wq.heap.size (x, 1) (Nat.le_refl _) 105
              exact R_reokBk (Kd.R_alloc this _) (fun q hq e => by simp [Value.ownBlock] at hq e; have h9 : wq.drew.heap.size = wq.heap.size := rfl; omega))
            have hsq := HB2.out.size
            have hn0 : (0 : Int) ≤ (n : Int) := by omega
            have hni : (n : Int) ≤ (m : Int) := by omega
            clear hi0 hz0 hz1 hz2 hA9 hbd hc5
            go_wp2_with fail
            go_region_law (first
              | (refine Kd.R_append_rows_step kBk (Rr := kBk.K (wq.drew.alloc (.cells #[] 105))) (w0 := wq) wq.heap.size (by rfl) (.tmp 62) (.tmp 65) 99 105 (.agg #[.int .u64 0, .int .i64 0]) 16 rfl Try.underlying99 infoBr rfl (by decide) (by omega) (.slice (some ⟨wq.heap.size, 0, none⟩) 0 0) [] (o.take n) A5 n c5 (fun _ => True) (fun _ => False) (by rfl) (by rfl) HEa.out (Kd.C_below HCA.out HBa.out) (fun _ _ h => h) (fun _ h => h.elim) (fun _ _ => trivial) HBa.out HBa.out.size (by simp; omega) ?_; intro v1 w1 h1 hb1 hg1 _; rw [List.nil_append] at h1; obtain ⟨A6, c6, rfl, hc6, _⟩ := Kd.R_reads h1; rw [HTL.out] at h1 hc6 ⊢; have HR1 := Aside0.mk h1; have HBR := Aside0.mk hb1; (have HLT := Aside0.mk (show kBk.C (w1.alloc (.cells #[.int .u64 x, .int .i64 1] 105)) (some ⟨w1.heap.size, 0, none⟩) 1 [(x, 1)] from C_own (lit_bk w1 w1.heap.size (x, 1) (Nat.le_refl _) 105)); have HR1a := Aside0.mk (Kd.R_alloc HR1.out (.cells #[.int .u64 x, .int .i64 1] 105)); have HBRa := Aside0.mk (hb1.alloc hb1.size (.cells #[.int .u64 x, .int .i64 1] 105))); clear h1 hb1 hg1 hc6)
              | (refine Kd.R_append_rows_step kBk (Rr := kBk.K ((wq.drew.alloc (.cells #[] 105)).alloc (.cells #[.int .u64 x, .int .i64 1] 105))) (w0 := wq) wq.heap.size (by rfl) (.tmp 62) (.tmp 65) 99 105 (.agg #[.int .u64 0, .int .i64 0]) 16 rfl Try.underlying99 infoBr rfl (by decide) (by omega) (.slice (some ⟨wq.heap.size, 0, none⟩) 0 0) [] (o.take n) A5 n c5 (fun _ => True) (fun _ => False) (by rfl) (by rfl) HEb.out (Kd.C_below HCA.out HBb.out) (fun _ _ h => h) (fun _ h => h.elim) (fun _ _ => trivial) HBb.out HBb.out.size (by simp; omega) ?_; intro v1 w1 h1 hb1 hg1 _; rw [List.nil_append] at h1; obtain ⟨A6, c6, rfl, hc6, _⟩ := Kd.R_reads h1; rw [HTL.out] at h1 hc6 ⊢; have HR1 := Aside0.mk h1; have HBR := Aside0.mk hb1; (have HL1 := Aside0.mk (Kd.R_grown HLb.out hg1 (fun k hk => hk))); clear h1 hb1 hg1 hc6)
              | (refine Kd.R_append_rows_step kBk (Rr := kBk.K ((wq.drew.alloc (.cells #[.int .u64 x, .int .i64 1] 105)).alloc (.cells #[] 105))) (w0 := wq) wq.heap.size (by rfl) (.tmp 62) (.tmp 65) 99 105 (.agg #[.int .u64 0, .int .i64 0]) 16 rfl Try.underlying99 infoBr rfl (by decide) (by omega) (.slice (some ⟨wq.heap.size + 1, 0, none⟩) 0 0) [] (o.take n) A5 n c5 (fun _ => True) (fun _ => False) (by rfl) (by rfl) HEc.out (Kd.C_below HCA.out HBc.out) (fun _ _ h => h) (fun _ h => h.elim) (fun _ _ => trivial) HBc.out HBc.out.size (by simp; omega) ?_; intro v1 w1 h1 hb1 hg1 _; rw [List.nil_append] at h1; obtain ⟨A6, c6, rfl, hc6, _⟩ := Kd.R_reads h1; rw [HTL.out] at h1 hc6 ⊢; have HR1 := Aside0.mk h1; have HBR := Aside0.mk hb1; (have HL1 := Aside0.mk (Kd.R_grown HLc.out hg1 (fun k hk => hk))); clear h1 hb1 hg1 hc6)
              | (refine Kd.R_append_rows_step kBk (Rr := kBk.K (w1.alloc (.cells #[.int .u64 x, .int .i64 1] 105))) (w0 := wq) wq.heap.size (by rfl) (.tmp 66) (.tmp 69) 99 105 (.agg #[.int .u64 0, .int .i64 0]) 16 rfl Try.underlying99 infoBr rfl (by decide) (by omega) (.slice A6 n c6) (o.take n) [(x, 1)] (some ⟨w1.heap.size, 0, none⟩) 1 1 (fun _ => True) (fun _ => False) (by rfl) (by rfl) HR1a.out HLT.out (fun _ _ h => h) (fun _ h => h.elim) (fun _ _ => trivial) HBRa.out HBRa.out.size (by rw [HTL.out]; (try simp); omega) ?_; intro v2 w2 h2 hb2 _ _; obtain ⟨A7, c7, rfl, hc7, _⟩ := Kd.R_reads h2; rw [HTL2.out] at h2 hc7 ⊢; have HR2 := Aside0.mk h2; have HBR2 := Aside0.mk hb2; clear h2 hb2 hc7)
              | (refine Kd.R_append_rows_step kBk (Rr := kBk.K (w1)) (w0 := wq) wq.heap.size (by rfl) (.tmp 66) (.tmp 69) 99 105 (.agg #[.int .u64 0, .int .i64 0]) 16 rfl Try.underlying99 infoBr rfl (by decide) (by omega) (.slice A6 n c6) (o.take n) [(x, 1)] (some ⟨wq.heap.size + 1, 0, none⟩) 1 1 (fun _ => True) (fun _ => False) (by rfl) (by rfl) HR1.out (C_own HL1.out) (fun _ _ h => h) (fun _ h => h.elim) (fun _ _ => trivial) HBR.out HBR.out.size (by rw [HTL.out]; (try simp); omega) ?_; intro v2 w2 h2 hb2 _ _; obtain ⟨A7, c7, rfl, hc7, _⟩ := Kd.R_reads h2; rw [HTL2.out] at h2 hc7 ⊢; have HR2 := Aside0.mk h2; have HBR2 := Aside0.mk hb2; clear h2 hb2 hc7)
              | (refine Kd.R_append_rows_step kBk (Rr := kBk.K (w1)) (w0 := wq) wq.heap.size (by rfl) (.tmp 66) (.tmp 69) 99 105 (.agg #[.int .u64 0, .int .i64 0]) 16 rfl Try.underlying99 infoBr rfl (by decide) (by omega) (.slice A6 n c6) (o.take n) [(x, 1)] (some ⟨wq.heap.size, 0, none⟩) 1 1 (fun _ => True) (fun _ => False) (by rfl) (by rfl) HR1.out (C_own HL1.out) (fun _ _ h => h) (fun _ h => h.elim) (fun _ _ => trivial) HBR.out HBR.out.size (by rw [HTL.out]; (try simp); omega) ?_; intro v2 w2 h2 hb2 _ _; obtain ⟨A7, c7, rfl, hc7, _⟩ := Kd.R_reads h2; rw [HTL2.out] at h2 hc7 ⊢; have HR2 := Aside0.mk h2; have HBR2 := Aside0.mk hb2; clear h2 hb2 hc7)
              | (refine Kd.R_append_rows_step kBk (Rr := kBk.K w2) (w0 := wq) wq.heap.size (by rfl) (.tmp 70) (.tmp 73) 99 105 (.agg #[.int .u64 0, .int .i64 0]) 16 rfl Try.underlying99 infoBr rfl (by decide) (by omega) (.slice A7 (n + 1) c7) (o.take n ++ [(x, 1)]) (o.drop n) A9 (m - n) (c5 - n) (fun _ => True) (fun _ => False) (by rfl) (by rfl) HR2.out (Kd.C_below HCB.out HBR2.out) (fun _ _ h => h) (fun _ h => h.elim) (fun _ _ => trivial) HBR2.out HBR2.out.size (by rw [HTL2.out]; (try rw [HDL.out]); omega) ?_; intro v5 w5 h5 hb5 _ _; rw [← HPN.out] at h5; obtain ⟨A8, c8, rfl, hc8, _⟩ := Kd.R_reads h5; rw [HIL.out] at h5 ⊢; have HR5 := Aside0.mk h5; have HBR5 := Aside0.mk hb5; clear h5 hb5 hc8))
            all_goals
              go_wp2_with fail
              go_roundg (zs.length - (i + 1))
              case measure => have := hq.out; omega
              case rel => exact ⟨i + 1, m + 1, c8, A8, _, rfl, by go_num, by omega, by omega, HIL, ⟨HSN.out.symm⟩, ⟨rfl⟩, ⟨Kd.R_lower HR5.out hsq⟩, ⟨below_step HB2.out HBR5.out⟩⟩
      · obtain rfl : i = zs.length := by omega
        have HE := Aside0.mk (show o = histF kk by rw [HO.out, HKL.out])
        go_wp2_with fail
        go_ret
        exact ⟨A5, c5, by rw [← HE.out, HOL.out]; rfl, by rw [← HE.out, HOL.out]; exact HA.out, HB.out⟩
  · obtain rfl : sp = span := by omega
    clear hsp
    have hd : (sp == 0) = false := beq_eq_false_iff_ne.mpr hz
    go_wp2_with fail
    go_loopg [5, 6] zs.length (fun q v5 v6 wr => ∃ (i m c5 : Nat) (A5 : Option Addr) (o : List (Int × Int)), v5 = .slice A5 m c5 ∧ v6 = .int .i64 (i : Int) ∧ i ≤ zs.length ∧ m ≤ i ∧ Aside0 (o.length = m) ∧ Aside0 (o = histF (kk.take i)) ∧ Aside0 (q = zs.length - i) ∧ Aside0 (Kd.R kBk 105 wr w.heap.size (fun _ => True) (.slice A5 m c5) o) ∧ Aside0 (Below w.heap.size w wr))
    case atStart => exact ⟨0, 0, 0, none, [], rfl, rfl, Nat.zero_le _, Nat.le_refl _, ⟨rfl⟩, ⟨rfl⟩, ⟨rfl⟩, ⟨Kd.R_nil _ _ _ _ _⟩, ⟨Below.refl _ _⟩⟩
    case round =>
      obtain ⟨i, m, c5, A5, o, rfl, rfl, hi, hmi, HOL, HO, hq, HA, HB⟩ := hrel
      by_cases hlt : i < zs.length
      · obtain ⟨ad, rfl, _, s0, _⟩ := at_Rec (Kd.C_below HR.out HB.out) i hlt
        obtain ⟨a0, a1⟩ := HRE.out i hlt
        have hk := HKK.out i hlt
        generalize (zs.getD i zRecW).1.real = re at *
        obtain ⟨x, hx⟩ : ∃ x, x = re - re % sp := ⟨_, rfl⟩
        have hm0 : 0 ≤ re % sp := Int.emod_nonneg _ (by omega)
        have hdm := Int.mul_ediv_add_emod re sp
        have hm1 : 0 ≤ sp * (re / sp) := Int.mul_nonneg (by omega) (Int.ediv_nonneg a0 (by omega))
        obtain ⟨qq, hqq⟩ : ∃ qq, qq = re / sp := ⟨_, rfl⟩
        have hq0 : 0 ≤ re / sp := Int.ediv_nonneg a0 (by omega)
        have hq1 : re / sp ≤ re := Int.ediv_le_self _ a0
        have hwd : IntKind.u64.wrap (re / sp) = qq := by
          rw [IntKind.wrap_u64]
          omega
        have hwq : IntKind.u64.wrap (qq * sp) = x := by
          rw [hqq, Int.mul_comm, IntKind.wrap_u64]
          omega
        have htd : re.tdiv sp = re / sp := Int.tdiv_eq_ediv_of_nonneg a0
        have hspz : ¬ sp = 0 := by omega
        rw [← hx] at hk
        have HSN := Aside0.mk (show histF (kk.take (i + 1)) = hitH o x by rw [hk, histF_snoc, HO.out])
        have HCN := Aside0.mk (show ∀ j, j < m → 0 ≤ (o.getD j zHB).2 ∧ (o.getD j zHB).2 ≤ i from fun j hj => by
          have h1 := histF_cnt (kk.take i) (o.getD j zHB) (by rw [← HO.out]; exact List.mem_of_getElem? (show o[j]? = some (o.getD j zHB) by rw [List.getD_eq_getElem?_getD, List.getElem?_eq_getElem (by rw [HOL.out]; exact hj)]; rfl))
          have h2 : (kk.take i).length ≤ i := List.length_take_le ..
          omega)
        clear hx hm0 hdm hm1 hk hqq hq0 hq1
        go_wp2_with fail
        go_loopg [8] (m + 1) (fun q v8 wr2 => ∃ (n : Nat), v8 = .int .i64 (n : Int) ∧ n ≤ m ∧ Aside0 (q = m + 1 - n) ∧ Aside0 (∀ j, j < n → (o.getD j zHB).1 < x) ∧ Aside0 (Kd.R kBk 105 wr2 w.heap.size (fun _ => True) (.slice A5 m c5) o) ∧ Aside0 (Below w.heap.size w wr2))
        case atStart => exact ⟨0, rfl, Nat.zero_le _, ⟨rfl⟩, ⟨fun j hj => absurd hj (Nat.not_lt_zero _)⟩, HA, HB⟩
        case round =>
          clear HA HB s0
          obtain ⟨n, rfl, hn, hq2, HLT, HA, HB⟩ := hrel
          by_cases hnm : n < m
          · obtain ⟨gr, c9, he, _⟩ := Kd.R_form HA.out (by rw [HOL.out]; omega)
            obtain rfl : A5 = some ⟨gr, 0, none⟩ := by injection he
            clear he
            obtain ⟨q0, q1, y1⟩ := bk_cells HA.out hnm
            obtain ⟨g0, g1⟩ := HCN.out n hnm
            have HST := Aside0.mk (bk_set HA.out hnm ((o.getD n zHB).2 + 1))
            have HIT := Aside0.mk (hitH_yes o x m n HOL.out hnm HLT.out)
            have HNO := Aside0.mk (fun h => hitH_no o x m n HOL.out hn HLT.out (.inr h))
            have HLT2 := Aside0.mk (fun (h : (o.getD n zHB).1 < x) j (hj : j < n + 1) => show (o.getD j zHB).1 < x from (Nat.lt_succ_iff_lt_or_eq.1 hj).elim (HLT.out j) (fun e => by rw [e]; exact h))
            generalize (o.getD n zHB).1 = p at *
            generalize (o.getD n zHB).2 = y at *
            have hn0 : (0 : Int) ≤ (n : Int) := by omega
            have hn1 : (n : Int) < (m : Int) := by omega
            by_cases hbg : p < x
            · have d2 : decide (p < x) = true := decide_eq_true hbg
              have HBG := Aside0.mk hbg
              clear hbg
              go_wp2_with fail
              go_roundg (m + 1 - (n + 1))
              case measure => have h1 := hq2.out; omega
              case rel => exact ⟨n + 1, by go_num, by omega, ⟨rfl⟩, ⟨HLT2.out HBG.out⟩, HA, HB⟩
            · have d2 : decide (p < x) = false := decide_eq_false hbg
              by_cases he : p = x
              · have HIT2 := Aside0.mk (HIT.out he)
                have hwy : IntKind.i64.wrap (y + 1) = y + 1 := by rw [IntKind.wrap_i64]; omega
                have d3 : (p == x) = true := by rw [he]; exact beq_self_eq_true _
                have d4 : decide (p = x) = true := decide_eq_true he
                clear he hbg
                go_wp2_with fail
                go_roundg (zs.length - (i + 1))
                case measure => have := hq.out; omega
                case rel => exact ⟨i + 1, m, c5, _, _, rfl, by go_num, by omega, by omega, ⟨by rw [List.length_set]; exact HOL.out⟩, ⟨by rw [HSN.out, HIT2.out]⟩, ⟨rfl⟩, ⟨HST.out⟩, ⟨HB.out.setCell (p := ⟨gr, n * 2 + 1, none⟩) (Kd.R_base HA.out gr rfl) _⟩⟩
              · have HPN := Aside0.mk (HNO.out (by omega))
                have d3 : (p == x) = false := beq_eq_false_iff_ne.mpr he
                have d4 : decide (p = x) = false := decide_eq_false he
                clear he hbg
                generalize hWq : wr = wq at *
                clear hWq
                have HA2 := HA
                have HB2 := HB
                clear HA HB
                have hc5 := (Kd.R_reads' HA2.out).2.1
                obtain ⟨i0, hi0, hz0, hz1, hz2⟩ := info_parts infoBr
                have cutA : ∀ W : World, (Instr.slice 99 (.slice (some (⟨gr, 0, none⟩ : Addr)) m c5) none (some (.int .i64 (n : Int))) none).run Try.prog W = .ok (.slice (some (⟨gr, 0, none⟩ : Addr)) n c5) W := fun W => by
                  have := cut_to (P := Try.prog) 99 105 .i64 Try.underlying99 hi0 (some (⟨gr, 0, none⟩ : Addr)) m c5 (n : Int) (by omega) (by omega) hc5 W
                  simpa using this
                obtain ⟨A9, hA9⟩ : ∃ A9 : Option Addr, A9 = (if c5 = n then (some (⟨gr, 0, none⟩ : Addr)) else (some (⟨gr, 0, none⟩ : Addr)).map (·.add (n * 2))) := ⟨_, rfl⟩
                have cutB : ∀ W : World, (Instr.slice 99 (.slice (some (⟨gr, 0, none⟩ : Addr)) m c5) (some (.int .i64 (n : Int))) none none).run Try.prog W = .ok (.slice A9 (m - n) (c5 - n)) W := fun W => by
                  have := cut_from (P := Try.prog) 99 105 .i64 Try.underlying99 hi0 2 hz1 (some (⟨gr, 0, none⟩ : Addr)) m c5 (n : Int) (by omega) (by omega) W
                  rw [hA9]
                  simpa using this
                have HTL := Aside0.mk (show (o.take n).length = n by rw [List.length_take, HOL.out]; omega)
                have HTL2 := Aside0.mk (show (o.take n ++ [(x, 1)]).length = n + 1 by rw [List.length_append, HTL.out]; rfl)
                have HDL := Aside0.mk (show (o.drop n).length = m - n by rw [List.length_drop, HOL.out])
                have HIL := Aside0.mk (show (hitH o x).length = m + 1 by rw [HPN.out, List.length_append, HTL2.out, HDL.out]; omega)
                have HCO := Aside0.mk (show kBk.C wq (some (⟨gr, 0, none⟩ : Addr)) o.length o by rw [HOL.out]; exact C_own HA2.out)
                have HCA := Aside0.mk (show kBk.C wq (some (⟨gr, 0, none⟩ : Addr)) n (o.take n) by have := Kd.C_take (m := n) HCO.out (by rw [HOL.out]; exact hn); rwa [HTL.out] at this)
                have HCB := Aside0.mk (show kBk.C wq A9 (m - n) (o.drop n) by have := Kd.C_drop (m := n) HCO.out (by rw [HOL.out]; exact hn) (by rw [HOL.out]; exact hc5); rwa [HDL.out, show kBk.sz = 2 from rfl, ← hA9] at this)
                have hbd : Below wq.heap.size wq wq.drew := below_drew1 (Below.refl _ _)
                have HBa := Aside0.mk (show Below wq.heap.size wq (wq.drew.alloc (.cells #[] 105)) from hbd.alloc (Nat.le_refl _) _)
                have HBb := Aside0.mk (show Below wq.heap.size wq ((wq.drew.alloc (.cells #[] 105)).alloc (.cells #[.int .u64 x, .int .i64 1] 105)) from HBa.out.alloc (by simp) _)
                have HBc := Aside0.mk (show Below wq.heap.size wq ((wq.drew.alloc (.cells #[.int .u64 x, .int .i64 1] 105)).alloc (.cells #[] 105)) from (hbd.alloc (Nat.le_refl _) _).alloc (by simp) _)
                have HEa := Aside0.mk (show Kd.R kBk 105 (wq.drew.alloc (.cells #[] 105)) wq.heap.size (fun _ => True) (.slice (some ⟨wq.heap.size, 0, none⟩) 0 0) [] from R_empty _ _ wq.drew wq.heap.size _ trivial (Nat.le_refl _))
                have HEb := Aside0.mk (Kd.R_alloc HEa.out (.cells #[.int .u64 x, .int .i64 1] 105))
                have HEc := Aside0.mk (show Kd.R kBk 105 ((wq.drew.alloc (.cells #[.int .u64 x, .int .i64 1] 105)).alloc (.cells #[] 105)) wq.heap.size (fun _ => True) (.slice (some ⟨wq.heap.size + 1, 0, none⟩) 0 0) [] by
                  have := R_empty kBk 105 (wq.drew.alloc (.cells #[.int .u64 x, .int .i64 1] 105)) wq.heap.size (fun _ => True) trivial (by simp)
                  rw [World.size_alloc] at this
                  exact this)
                have HLb := Aside0.mk (show Kd.R kBk 105 ((wq.drew.alloc (.cells #[] 105)).alloc (.cells #[.int .u64 x, .int .i64 1] 105)) wq.heap.size (fun q => some q ≠ (Value.slice (some ⟨wq.heap.size, 0, none⟩) 0 0).ownBlock) (.slice (some ⟨wq.heap.size + 1, 0, none⟩) 1 1) [(x, 1)] by
                  have := lit_bk (wq.drew.alloc (.cells #[] 105)) wq.heap.size (x, 1) (by simp) 105
                  rw [World.size_alloc] at this
                  exact R_reokBk this (fun q hq e => by simp [Value.ownBlock] at hq e; omega))
                have HLc := Aside0.mk (show Kd.R kBk 105 ((wq.drew.alloc (.cells #[.int .u64 x, .int .i64 1] 105)).alloc (.cells #[] 105)) wq.heap.size (fun q => some q ≠ (Value.slice (some ⟨wq.heap.size + 1, 0, none⟩) 0 0).ownBlock) (.slice (some ⟨wq.heap.size, 0, none⟩) 1 1) [(x, 1)] by
                  have := lit_bk wq.drew wq.heap.size (x, 1) (Nat.le_refl _) 105
                  exact R_reokBk (Kd.R_alloc this _) (fun q hq e => by simp [Value.ownBlock] at hq e; have h9 : wq.drew.heap.size = wq.heap.size := rfl; omega))
                have hsq := HB2.out.size
                have hn0 : (0 : Int) ≤ (n : Int) := by omega
                have hni : (n : Int) ≤ (m : Int) := by omega
                clear hi0 hz0 hz1 hz2 hA9 hbd hc5
                go_wp2_with fail
                go_region_law (first
                  | (refine Kd.R_append_rows_step kBk (Rr := kBk.K (wq.drew.alloc (.cells #[] 105))) (w0 := wq) wq.heap.size (by rfl) (.tmp 62) (.tmp 65) 99 105 (.agg #[.int .u64 0, .int .i64 0]) 16 rfl Try.underlying99 infoBr rfl (by decide) (by omega) (.slice (some ⟨wq.heap.size, 0, none⟩) 0 0) [] (o.take n) (some (⟨gr, 0, none⟩ : Addr)) n c5 (fun _ => True) (fun _ => False) (by rfl) (by rfl) HEa.out (Kd.C_below HCA.out HBa.out) (fun _ _ h => h) (fun _ h => h.elim) (fun _ _ => trivial) HBa.out HBa.out.size (by simp; omega) ?_; intro v1 w1 h1 hb1 hg1 _; rw [List.nil_append] at h1; obtain ⟨A6, c6, rfl, hc6, _⟩ := Kd.R_reads h1; rw [HTL.out] at h1 hc6 ⊢; have HR1 := Aside0.mk h1; have HBR := Aside0.mk hb1; (have HLT := Aside0.mk (show kBk.C (w1.alloc (.cells #[.int .u64 x, .int .i64 1] 105)) (some ⟨w1.heap.size, 0, none⟩) 1 [(x, 1)] from C_own (lit_bk w1 w1.heap.size (x, 1) (Nat.le_refl _) 105)); have HR1a := Aside0.mk (Kd.R_alloc HR1.out (.cells #[.int .u64 x, .int .i64 1] 105)); have HBRa := Aside0.mk (hb1.alloc hb1.size (.cells #[.int .u64 x, .int .i64 1] 105))); clear h1 hb1 hg1 hc6)
                  | (refine Kd.R_append_rows_step kBk (Rr := kBk.K ((wq.drew.alloc (.cells #[] 105)).alloc (.cells #[.int .u64 x, .int .i64 1] 105))) (w0 := wq) wq.heap.size (by rfl) (.tmp 62) (.tmp 65) 99 105 (.agg #[.int .u64 0, .int .i64 0]) 16 rfl Try.underlying99 infoBr rfl (by decide) (by omega) (.slice (some ⟨wq.heap.size, 0, none⟩) 0 0) [] (o.take n) (some (⟨gr, 0, none⟩ : Addr)) n c5 (fun _ => True) (fun _ => False) (by rfl) (by rfl) HEb.out (Kd.C_below HCA.out HBb.out) (fun _ _ h => h) (fun _ h => h.elim) (fun _ _ => trivial) HBb.out HBb.out.size (by simp; omega) ?_; intro v1 w1 h1 hb1 hg1 _; rw [List.nil_append] at h1; obtain ⟨A6, c6, rfl, hc6, _⟩ := Kd.R_reads h1; rw [HTL.out] at h1 hc6 ⊢; have HR1 := Aside0.mk h1; have HBR := Aside0.mk hb1; (have HL1 := Aside0.mk (Kd.R_grown HLb.out hg1 (fun k hk => hk))); clear h1 hb1 hg1 hc6)
                  | (refine Kd.R_append_rows_step kBk (Rr := kBk.K ((wq.drew.alloc (.cells #[.int .u64 x, .int .i64 1] 105)).alloc (.cells #[] 105))) (w0 := wq) wq.heap.size (by rfl) (.tmp 62) (.tmp 65) 99 105 (.agg #[.int .u64 0, .int .i64 0]) 16 rfl Try.underlying99 infoBr rfl (by decide) (by omega) (.slice (some ⟨wq.heap.size + 1, 0, none⟩) 0 0) [] (o.take n) (some (⟨gr, 0, none⟩ : Addr)) n c5 (fun _ => True) (fun _ => False) (by rfl) (by rfl) HEc.out (Kd.C_below HCA.out HBc.out) (fun _ _ h => h) (fun _ h => h.elim) (fun _ _ => trivial) HBc.out HBc.out.size (by simp; omega) ?_; intro v1 w1 h1 hb1 hg1 _; rw [List.nil_append] at h1; obtain ⟨A6, c6, rfl, hc6, _⟩ := Kd.R_reads h1; rw [HTL.out] at h1 hc6 ⊢; have HR1 := Aside0.mk h1; have HBR := Aside0.mk hb1; (have HL1 := Aside0.mk (Kd.R_grown HLc.out hg1 (fun k hk => hk))); clear h1 hb1 hg1 hc6)
                  | (refine Kd.R_append_rows_step kBk (Rr := kBk.K (w1.alloc (.cells #[.int .u64 x, .int .i64 1] 105))) (w0 := wq) wq.heap.size (by rfl) (.tmp 66) (.tmp 69) 99 105 (.agg #[.int .u64 0, .int .i64 0]) 16 rfl Try.underlying99 infoBr rfl (by decide) (by omega) (.slice A6 n c6) (o.take n) [(x, 1)] (some ⟨w1.heap.size, 0, none⟩) 1 1 (fun _ => True) (fun _ => False) (by rfl) (by rfl) HR1a.out HLT.out (fun _ _ h => h) (fun _ h => h.elim) (fun _ _ => trivial) HBRa.out HBRa.out.size (by rw [HTL.out]; (try simp); omega) ?_; intro v2 w2 h2 hb2 _ _; obtain ⟨A7, c7, rfl, hc7, _⟩ := Kd.R_reads h2; rw [HTL2.out] at h2 hc7 ⊢; have HR2 := Aside0.mk h2; have HBR2 := Aside0.mk hb2; clear h2 hb2 hc7)
                  | (refine Kd.R_append_rows_step kBk (Rr := kBk.K (w1)) (w0 := wq) wq.heap.size (by rfl) (.tmp 66) (.tmp 69) 99 105 (.agg #[.int .u64 0, .int .i64 0]) 16 rfl Try.underlying99 infoBr rfl (by decide) (by omega) (.slice A6 n c6) (o.take n) [(x, 1)] (some ⟨wq.heap.size + 1, 0, none⟩) 1 1 (fun _ => True) (fun _ => False) (by rfl) (by rfl) HR1.out (C_own HL1.out) (fun _ _ h => h) (fun _ h => h.elim) (fun _ _ => trivial) HBR.out HBR.out.size (by rw [HTL.out]; (try simp); omega) ?_; intro v2 w2 h2 hb2 _ _; obtain ⟨A7, c7, rfl, hc7, _⟩ := Kd.R_reads h2; rw [HTL2.out] at h2 hc7 ⊢; have HR2 := Aside0.mk h2; have HBR2 := Aside0.mk hb2; clear h2 hb2 hc7)
                  | (refine Kd.R_append_rows_step kBk (Rr := kBk.K (w1)) (w0 := wq) wq.heap.size (by rfl) (.tmp 66) (.tmp 69) 99 105 (.agg #[.int .u64 0, .int .i64 0]) 16 rfl Try.underlying99 infoBr rfl (by decide) (by omega) (.slice A6 n c6) (o.take n) [(x, 1)] (some ⟨wq.heap.size, 0, none⟩) 1 1 (fun _ => True) (fun _ => False) (by rfl) (by rfl) HR1.out (C_own HL1.out) (fun _ _ h => h) (fun _ h => h.elim) (fun _ _ => trivial) HBR.out HBR.out.size (by rw [HTL.out]; (try simp); omega) ?_; intro v2 w2 h2 hb2 _ _; obtain ⟨A7, c7, rfl, hc7, _⟩ := Kd.R_reads h2; rw [HTL2.out] at h2 hc7 ⊢; have HR2 := Aside0.mk h2; have HBR2 := Aside0.mk hb2; clear h2 hb2 hc7)
                  | (refine Kd.R_append_rows_step kBk (Rr := kBk.K w2) (w0 := wq) wq.heap.size (by rfl) (.tmp 70) (.tmp 73) 99 105 (.agg #[.int .u64 0, .int .i64 0]) 16 rfl Try.underlying99 infoBr rfl (by decide) (by omega) (.slice A7 (n + 1) c7) (o.take n ++ [(x, 1)]) (o.drop n) A9 (m - n) (c5 - n) (fun _ => True) (fun _ => False) (by rfl) (by rfl) HR2.out (Kd.C_below HCB.out HBR2.out) (fun _ _ h => h) (fun _ h => h.elim) (fun _ _ => trivial) HBR2.out HBR2.out.size (by rw [HTL2.out]; (try rw [HDL.out]); omega) ?_; intro v5 w5 h5 hb5 _ _; rw [← HPN.out] at h5; obtain ⟨A8, c8, rfl, hc8, _⟩ := Kd.R_reads h5; rw [HIL.out] at h5 ⊢; have HR5 := Aside0.mk h5; have HBR5 := Aside0.mk hb5; clear h5 hb5 hc8))
                all_goals
                  go_wp2_with fail
                  go_roundg (zs.length - (i + 1))
                  case measure => have := hq.out; omega
                  case rel => exact ⟨i + 1, m + 1, c8, A8, _, rfl, by go_num, by omega, by omega, HIL, ⟨HSN.out.symm⟩, ⟨rfl⟩, ⟨Kd.R_lower HR5.out hsq⟩, ⟨below_step HB2.out HBR5.out⟩⟩
          · have HPN := Aside0.mk (hitH_no o x m n HOL.out hn HLT.out (.inl (by omega)))
            have d3 : decide (n < m) = false := decide_eq_false hnm
            generalize hWq : wr = wq at *
            clear hWq
            have HA2 := HA
            have HB2 := HB
            clear HA HB
            have hc5 := (Kd.R_reads' HA2.out).2.1
            obtain ⟨i0, hi0, hz0, hz1, hz2⟩ := info_parts infoBr
            have cutA : ∀ W : World, (Instr.slice 99 (.slice A5 m c5) none (some (.int .i64 (n : Int))) none).run Try.prog W = .ok (.slice A5 n c5) W := fun W => by
              have := cut_to (P := Try.prog) 99 105 .i64 Try.underlying99 hi0 A5 m c5 (n : Int) (by omega) (by omega) hc5 W
              simpa using this
            obtain ⟨A9, hA9⟩ : ∃ A9 : Option Addr, A9 = (if c5 = n then A5 else A5.map (·.add (n * 2))) := ⟨_, rfl⟩
            have cutB : ∀ W : World, (Instr.slice 99 (.slice A5 m c5) (some (.int .i64 (n : Int))) none none).run Try.prog W = .ok (.slice A9 (m - n) (c5 - n)) W := fun W => by
              have := cut_from (P := Try.prog) 99 105 .i64 Try.underlying99 hi0 2 hz1 A5 m c5 (n : Int) (by omega) (by omega) W
              rw [hA9]
              simpa using this
            have HTL := Aside0.mk (show (o.take n).length = n by rw [List.length_take, HOL.out]; omega)
            have HTL2 := Aside0.mk (show (o.take n ++ [(x, 1)]).length = n + 1 by rw [List.length_append, HTL.out]; rfl)
            have HDL := Aside0.mk (show (o.drop n).length = m - n by rw [List.length_drop, HOL.out])
            have HIL := Aside0.mk (show (hitH o x).length = m + 1 by rw [HPN.out, List.length_append, HTL2.out, HDL.out]; omega)
            have HCO := Aside0.mk (show kBk.C wq A5 o.length o by rw [HOL.out]; exact C_own HA2.out)
            have HCA := Aside0.mk (show kBk.C wq A5 n (o.take n) by have := Kd.C_take (m := n) HCO.out (by rw [HOL.out]; exact hn); rwa [HTL.out] at this)
            have HCB := Aside0.mk (show kBk.C wq A9 (m - n) (o.drop n) by have := Kd.C_drop (m := n) HCO.out (by rw [HOL.out]; exact hn) (by rw [HOL.out]; exact hc5); rwa [HDL.out, show kBk.sz = 2 from rfl, ← hA9] at this)
            have hbd : Below wq.heap.size wq wq.drew := below_drew1 (Below.refl _ _)
            have HBa := Aside0.mk (show Below wq.heap.size wq (wq.drew.alloc (.cells #[] 105)) from hbd.alloc (Nat.le_refl _) _)
            have HBb := Aside0.mk (show Below wq.heap.size wq ((wq.drew.alloc (.cells #[] 105)).alloc (.cells #[.int .u64 x, .int .i64 1] 105)) from HBa.out.alloc (by simp) _)
            have HBc := Aside0.mk (show Below wq.heap.size wq ((wq.drew.alloc (.cells #[.int .u64 x, .int .i64 1] 105)).alloc (.cells #[] 105)) from (hbd.alloc (Nat.le_refl _) _).alloc (by simp) _)
            have HEa := Aside0.mk (show Kd.R kBk 105 (wq.drew.alloc (.cells #[] 105)) wq.heap.size (fun _ => True) (.slice (some ⟨wq.heap.size, 0, none⟩) 0 0) [] from R_empty _ _ wq.drew wq.heap.size _ trivial (Nat.le_refl _))
            have HEb := Aside0.mk (Kd.R_alloc HEa.out (.cells #[.int .u64 x, .int .i64 1] 105))
            have HEc := Aside0.mk (show Kd.R kBk 105 ((wq.drew.alloc (.cells #[.int .u64 x, .int .i64 1] 105)).alloc (.cells #[] 105)) wq.heap.size (fun _ => True) (.slice (some ⟨wq.heap.size + 1, 0, none⟩) 0 0) [] by
              have := R_empty kBk 105 (wq.drew.alloc (.cells #[.int .u64 x, .int .i64 1] 105)) wq.heap.size (fun _ => True) trivial (by simp)
              rw [World.size_alloc] at this
              exact this)
            have HLb := Aside0.mk (show Kd.R kBk 105 ((wq.drew.alloc (.cells #[] 105)).alloc (.cells #[.int .u64 x, .int .i64 1] 105)) wq.heap.size (fun q => some q ≠ (Value.slice (some ⟨wq.heap.size, 0, none⟩) 0 0).ownBlock) (.slice (some ⟨wq.heap.size + 1, 0, none⟩) 1 1) [(x, 1)] by
              have := lit_bk (wq.drew.alloc (.cells #[] 105)) wq.heap.size (x, 1) (by simp) 105
              rw [World.size_alloc] at this
              exact R_reokBk this (fun q hq e => by simp [Value.ownBlock] at hq e; omega))
            have HLc := Aside0.mk (show Kd.R kBk 105 ((wq.drew.alloc (.cells #[.int .u64 x, .int .i64 1] 105)).alloc (.cells #[] 105)) wq.heap.size (fun q => some q ≠ (Value.slice (some ⟨wq.heap.size + 1, 0, none⟩) 0 0).ownBlock) (.slice (some ⟨wq.heap.size, 0, none⟩) 1 1) [(x, 1)] by
              have := lit_bk wq.drew wq.heap.size (x, 1) (Nat.le_refl _) 105
              exact R_reokBk (Kd.R_alloc this _) (fun q hq e => by simp [Value.ownBlock] at hq e; have h9 : wq.drew.heap.size = wq.heap.size := rfl; omega))
            have hsq := HB2.out.size
            have hn0 : (0 : Int) ≤ (n : Int) := by omega
            have hni : (n : Int) ≤ (m : Int) := by omega
            clear hi0 hz0 hz1 hz2 hA9 hbd hc5
            go_wp2_with fail
            go_region_law (first
              | (refine Kd.R_append_rows_step kBk (Rr := kBk.K (wq.drew.alloc (.cells #[] 105))) (w0 := wq) wq.heap.size (by rfl) (.tmp 62) (.tmp 65) 99 105 (.agg #[.int .u64 0, .int .i64 0]) 16 rfl Try.underlying99 infoBr rfl (by decide) (by omega) (.slice (some ⟨wq.heap.size, 0, none⟩) 0 0) [] (o.take n) A5 n c5 (fun _ => True) (fun _ => False) (by rfl) (by rfl) HEa.out (Kd.C_below HCA.out HBa.out) (fun _ _ h => h) (fun _ h => h.elim) (fun _ _ => trivial) HBa.out HBa.out.size (by simp; omega) ?_; intro v1 w1 h1 hb1 hg1 _; rw [List.nil_append] at h1; obtain ⟨A6, c6, rfl, hc6, _⟩ := Kd.R_reads h1; rw [HTL.out] at h1 hc6 ⊢; have HR1 := Aside0.mk h1; have HBR := Aside0.mk hb1; (have HLT := Aside0.mk (show kBk.C (w1.alloc (.cells #[.int .u64 x, .int .i64 1] 105)) (some ⟨w1.heap.size, 0, none⟩) 1 [(x, 1)] from C_own (lit_bk w1 w1.heap.size (x, 1) (Nat.le_refl _) 105)); have HR1a := Aside0.mk (Kd.R_alloc HR1.out (.cells #[.int .u64 x, .int .i64 1] 105)); have HBRa := Aside0.mk (hb1.alloc hb1.size (.cells #[.int .u64 x, .int .i64 1] 105))); clear h1 hb1 hg1 hc6)
              | (refine Kd.R_append_rows_step kBk (Rr := kBk.K ((wq.drew.alloc (.cells #[] 105)).alloc (.cells #[.int .u64 x, .int .i64 1] 105))) (w0 := wq) wq.heap.size (by rfl) (.tmp 62) (.tmp 65) 99 105 (.agg #[.int .u64 0, .int .i64 0]) 16 rfl Try.underlying99 infoBr rfl (by decide) (by omega) (.slice (some ⟨wq.heap.size, 0, none⟩) 0 0) [] (o.take n) A5 n c5 (fun _ => True) (fun _ => False) (by rfl) (by rfl) HEb.out (Kd.C_below HCA.out HBb.out) (fun _ _ h => h) (fun _ h => h.elim) (fun _ _ => trivial) HBb.out HBb.out.size (by simp; omega) ?_; intro v1 w1 h1 hb1 hg1 _; rw [List.nil_append] at h1; obtain ⟨A6, c6, rfl, hc6, _⟩ := Kd.R_reads h1; rw [HTL.out] at h1 hc6 ⊢; have HR1 := Aside0.mk h1; have HBR := Aside0.mk hb1; (have HL1 := Aside0.mk (Kd.R_grown HLb.out hg1 (fun k hk => hk))); clear h1 hb1 hg1 hc6)
              | (refine Kd.R_append_rows_step kBk (Rr := kBk.K ((wq.drew.alloc (.cells #[.int .u64 x, .int .i64 1] 105)).alloc (.cells #[] 105))) (w0 := wq) wq.heap.size (by rfl) (.tmp 62) (.tmp 65) 99 105 (.agg #[.int .u64 0, .int .i64 0]) 16 rfl Try.underlying99 infoBr rfl (by decide) (by omega) (.slice (some ⟨wq.heap.size + 1, 0, none⟩) 0 0) [] (o.take n) A5 n c5 (fun _ => True) (fun _ => False) (by rfl) (by rfl) HEc.out (Kd.C_below HCA.out HBc.out) (fun _ _ h => h) (fun _ h => h.elim) (fun _ _ => trivial) HBc.out HBc.out.size (by simp; omega) ?_; intro v1 w1 h1 hb1 hg1 _; rw [List.nil_append] at h1; obtain ⟨A6, c6, rfl, hc6, _⟩ := Kd.R_reads h1; rw [HTL.out] at h1 hc6 ⊢; have HR1 := Aside0.mk h1; have HBR := Aside0.mk hb1; (have HL1 := Aside0.mk (Kd.R_grown HLc.out hg1 (fun k hk => hk))); clear h1 hb1 hg1 hc6)
              | (refine Kd.R_append_rows_step kBk (Rr := kBk.K (w1.alloc (.cells #[.int .u64 x, .int .i64 1] 105))) (w0 := wq) wq.heap.size (by rfl) (.tmp 66) (.tmp 69) 99 105 (.agg #[.int .u64 0, .int .i64 0]) 16 rfl Try.underlying99 infoBr rfl (by decide) (by omega) (.slice A6 n c6) (o.take n) [(x, 1)] (some ⟨w1.heap.size, 0, none⟩) 1 1 (fun _ => True) (fun _ => False) (by rfl) (by rfl) HR1a.out HLT.out (fun _ _ h => h) (fun _ h => h.elim) (fun _ _ => trivial) HBRa.out HBRa.out.size (by rw [HTL.out]; (try simp); omega) ?_; intro v2 w2 h2 hb2 _ _; obtain ⟨A7, c7, rfl, hc7, _⟩ := Kd.R_reads h2; rw [HTL2.out] at h2 hc7 ⊢; have HR2 := Aside0.mk h2; have HBR2 := Aside0.mk hb2; clear h2 hb2 hc7)
              | (refine Kd.R_append_rows_step kBk (Rr := kBk.K (w1)) (w0 := wq) wq.heap.size (by rfl) (.tmp 66) (.tmp 69) 99 105 (.agg #[.int .u64 0, .int .i64 0]) 16 rfl Try.underlying99 infoBr rfl (by decide) (by omega) (.slice A6 n c6) (o.take n) [(x, 1)] (some ⟨wq.heap.size + 1, 0, none⟩) 1 1 (fun _ => True) (fun _ => False) (by rfl) (by rfl) HR1.out (C_own HL1.out) (fun _ _ h => h) (fun _ h => h.elim) (fun _ _ => trivial) HBR.out HBR.out.size (by rw [HTL.out]; (try simp); omega) ?_; intro v2 w2 h2 hb2 _ _; obtain ⟨A7, c7, rfl, hc7, _⟩ := Kd.R_reads h2; rw [HTL2.out] at h2 hc7 ⊢; have HR2 := Aside0.mk h2; have HBR2 := Aside0.mk hb2; clear h2 hb2 hc7)
              | (refine Kd.R_append_rows_step kBk (Rr := kBk.K (w1)) (w0 := wq) wq.heap.size (by rfl) (.tmp 66) (.tmp 69) 99 105 (.agg #[.int .u64 0, .int .i64 0]) 16 rfl Try.underlying99 infoBr rfl (by decide) (by omega) (.slice A6 n c6) (o.take n) [(x, 1)] (some ⟨wq.heap.size, 0, none⟩) 1 1 (fun _ => True) (fun _ => False) (by rfl) (by rfl) HR1.out (C_own HL1.out) (fun _ _ h => h) (fun _ h => h.elim) (fun _ _ => trivial) HBR.out HBR.out.size (by rw [HTL.out]; (try simp); omega) ?_; intro v2 w2 h2 hb2 _ _; obtain ⟨A7, c7, rfl, hc7, _⟩ := Kd.R_reads h2; rw [HTL2.out] at h2 hc7 ⊢; have HR2 := Aside0.mk h2; have HBR2 := Aside0.mk hb2; clear h2 hb2 hc7)
              | (refine Kd.R_append_rows_step kBk (Rr := kBk.K w2) (w0 := wq) wq.heap.size (by rfl) (.tmp 70) (.tmp 73) 99 105 (.agg #[.int .u64 0, .int .i64 0]) 16 rfl Try.underlying99 infoBr rfl (by decide) (by omega) (.slice A7 (n + 1) c7) (o.take n ++ [(x, 1)]) (o.drop n) A9 (m - n) (c5 - n) (fun _ => True) (fun _ => False) (by rfl) (by rfl) HR2.out (Kd.C_below HCB.out HBR2.out) (fun _ _ h => h) (fun _ h => h.elim) (fun _ _ => trivial) HBR2.out HBR2.out.size (by rw [HTL2.out]; (try rw [HDL.out]); omega) ?_; intro v5 w5 h5 hb5 _ _; rw [← HPN.out] at h5; obtain ⟨A8, c8, rfl, hc8, _⟩ := Kd.R_reads h5; rw [HIL.out] at h5 ⊢; have HR5 := Aside0.mk h5; have HBR5 := Aside0.mk hb5; clear h5 hb5 hc8))
            all_goals
              go_wp2_with fail
              go_roundg (zs.length - (i + 1))
              case measure => have := hq.out; omega
              case rel => exact ⟨i + 1, m + 1, c8, A8, _, rfl, by go_num, by omega, by omega, HIL, ⟨HSN.out.symm⟩, ⟨rfl⟩, ⟨Kd.R_lower HR5.out hsq⟩, ⟨below_step HB2.out HBR5.out⟩⟩
      · obtain rfl : i = zs.length := by omega
        have HE := Aside0.mk (show o = histF kk by rw [HO.out, HKL.out])
        go_wp2_with fail
        go_ret
        exact ⟨A5, c5, by rw [← HE.out, HOL.out]; rfl, by rw [← HE.out, HOL.out]; exact HA.out, HB.out⟩
end Go.Proofs.Ytldiginkmmlojaa
