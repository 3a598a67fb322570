/- The reference's Pieces (at a place not below 0): what the call answers, byte by byte. -/
import Derived.Test.YtpnbjpkdbiiogaaSecA
namespace Go.Proofs.Ytpnbjpkdbiiogaa
set_option linter.unusedVariables false
open Go.RowKit Go.Proofs.YtpnbjpkdbiiogaaW.PrintWords
attribute [local go_sem] mx2 mn2 mxTwo mnTwo
theorem infoRPc : (Try.prog.info? 31).map (fun i => (i.zero, i.size, i.bytes)) = some (some (.agg #[(.int .i64 0), (.int .i64 0), (.slice none 0 0)]), 3, 40) := by kernel_rfl

theorem kPc_openM {w : World} {base : Nat} {ok : Nat → Prop} {x : Pc} {cs : List Value} (h : kPc.M w base ok x cs) : ∃ v2, cs = [.int .i64 x.s, .int .i64 x.f, v2] ∧ (Kd.int .u8).R 5 w base ok v2 x.d := by
  obtain ⟨_, _, rfl, rfl, ⟨_, _, rfl, rfl, ⟨v2, rfl, g2⟩⟩⟩ := h
  exact ⟨v2, rfl, g2⟩
theorem at_nat {k : IntKind} {w : World} {A : Option Addr} {n : Nat} {xs : List Int} (h : (Kd.int k).C w A n xs) (i : Nat) (h1 : i < n) : ∃ ad, A = some ad ∧ w.cell? (ad.add i) = some (.int k (rd xs (i : Int))) := by
  obtain ⟨ad, e, hc⟩ := Kd.at_int h (i : Int) (by omega) (by omega)
  exact ⟨ad, e, by simpa using hc⟩
def zPc : Pc := ⟨0, 0, []⟩

/-- One byte more, at a sector and a place in it. -/
def addB (out : List Pc) (s f x : Int) : List Pc :=
  if 0 < out.length ∧ (out.getD (out.length - 1) zPc).s = s then out.set (out.length - 1) ⟨(out.getD (out.length - 1) zPc).s, (out.getD (out.length - 1) zPc).f, (out.getD (out.length - 1) zPc).d ++ [x]⟩
  else out ++ [⟨s, f, [x]⟩]

/-- The reference's loop from a place on. -/
def rpcs (out : List Pc) (a : Nat) : List Int → List Pc
  | [] => out
  | x :: l => rpcs (addB out ((a : Int) / 64) ((a : Int) % 64) x) (a + 1) l

theorem rd_drop (l : List Int) (k : Nat) (h : k < l.length) : l.drop k = rd l (k : Int) :: l.drop (k + 1) := by
  rw [List.drop_eq_getElem_cons h]
  simp [rd, List.getD_eq_getElem?_getD, h]
theorem rpcs_step (out : List Pc) (a : Nat) (l : List Int) (k : Nat) (h : k < l.length) : rpcs out (a + k) (l.drop k) = rpcs (addB out (((a : Int) + k) / 64) (((a : Int) + k) % 64) (rd l (k : Int))) (a + (k + 1)) (l.drop (k + 1)) := by
  rw [rd_drop l k h, rpcs]
  simp only [Int.natCast_add, Nat.add_assoc]

/-- A byte is appended to the data of the piece at m: the row then. -/
theorem rp_back {e : Nat} {out : List Pc} {m n cap g : Nat} {W w5 : World} {base : Nat} {oki : Nat → Prop} {p : Pc} {A2 : Option Addr} {n2 c2 g5 n5 c5 : Nat} {x : Int}
    (HH : Kd.H kPc e W base (fun _ => True) (.slice (some ⟨g, 0, none⟩) n cap) out (m : Int) oki [.int .i64 p.s, .int .i64 p.f, .slice A2 n2 c2]) (hm : m < n)
    (hrow : ∀ k, (Value.slice A2 n2 c2).ownBlock = some k → oki k) (hg5 : W.grownBy w5 (Value.slice A2 n2 c2).ownBlock)
    (ho5 : (Kd.int .u8).R 5 w5 base oki (.slice (some ⟨g5, 0, none⟩) n5 c5) (p.d ++ [x])) (hne : ∀ k, oki k → k ≠ g) :
    Kd.S kPc e (w5.setCell ⟨g, m * 3 + 2, none⟩ (.slice (some ⟨g5, 0, none⟩) n5 c5)) base (fun _ => True) (.slice (some ⟨g, 0, none⟩) n cap) (out.set m ⟨p.s, p.f, p.d ++ [x]⟩) := by
  have h1 := Kd.H_grown HH hg5 hrow
  have h2 := (Kd.H_seg h1 (by omega) (by omega) (seg := [.slice (some ⟨g5, 0, none⟩) n5 c5]) (j := 2) (Nat.le_refl 3) (by intro q hq; rw [List.mem_singleton.1 hq]; rfl)).1
  have h3 : Kd.H kPc e (w5.setCell ⟨g, m * 3 + 2, none⟩ (.slice (some ⟨g5, 0, none⟩) n5 c5)) base (fun _ => True) (.slice (some ⟨g, 0, none⟩) n cap) out (m : Int) oki [.int .i64 p.s, .int .i64 p.f, .slice (some ⟨g5, 0, none⟩) n5 c5] := h2
  have h4 := Kd.H_back h3 (x' := ⟨p.s, p.f, p.d ++ [x]⟩) (okp := oki) (kPc_mkM _ _ _ ⟨p.s, p.f, p.d ++ [x]⟩ (Kd.R_far ho5 (p := ⟨g, m * 3 + 2, none⟩) hne _)) (fun _ h => h)
  simpa using h4

theorem getD_mem (l : List Pc) (m : Nat) (h : m < l.length) : l.getD m zPc ∈ l := by
  rw [List.getD_eq_getElem?_getD, List.getElem?_eq_getElem h]
  exact List.getElem_mem h
theorem set_bound {l : List Pc} {m k : Nat} {q : Pc} (h : ∀ p ∈ l, p.d.length ≤ k) (hq : q.d.length ≤ k + 1) : ∀ p ∈ l.set m q, p.d.length ≤ k + 1 := by
  intro p hp
  rcases List.mem_or_eq_of_mem_set hp with hp | hp
  · have := h p hp; omega
  · rw [hp]; exact hq
theorem addB_new (out : List Pc) (s f x : Int) (h : ¬ (0 < out.length ∧ (out.getD (out.length - 1) zPc).s = s)) : addB out s f x = (out ++ [Pc.mk s f []]).set out.length ⟨((out ++ [Pc.mk s f []]).getD out.length zPc).s, ((out ++ [Pc.mk s f []]).getD out.length zPc).f, ((out ++ [Pc.mk s f []]).getD out.length zPc).d ++ [x]⟩ := by
  unfold addB
  rw [if_neg h]
  simp [List.getD_eq_getElem?_getD]


set_option maxHeartbeats 4000000 in
set_option maxRecDepth 100000 in
theorem rpieces_any (a : Nat) (A : Option Addr) (c : Nat) (l : List Int) (w : World) (hr : Kd.C (Kd.int .u8) w A l.length l) (hc : l.length ≤ c) (hl : l.length ≤ 1099511627776) (ha : a ≤ 2305843009213693952) :
    Calls Try.prog 17 #[.int .i64 (a : Int), .slice A l.length c] w fun e w' => ∃ v : Value, e = .returned v ∧ Kd.S kPc 31 w' w.heap.size (fun _ => True) v (rpcs [] a l) ∧ Below w.heap.size w w' := by
  have HR := Aside0.mk hr
  clear hr
  go_enter Try.func17, Try.ntmps17
  go_wp2
  go_loopg [5, 6] l.length (fun g v5 v6 wr => ∃ (k : Nat) (out : List Pc), v6 = .int .i64 (k : Int) ∧ k ≤ l.length ∧ g = l.length - k ∧ out.length ≤ k ∧ Aside0 (Kd.S kPc 31 wr w.heap.size (fun _ => True) v5 out) ∧ Aside0 (Below w.heap.size w wr) ∧ Aside0 (rpcs [] a l = rpcs out (a + k) (l.drop k)) ∧ Aside0 (∀ p ∈ out, p.d.length ≤ k))
  case atStart => exact ⟨0, [], rfl, Nat.zero_le _, rfl, Nat.le_refl _, ⟨Kd.S_nil _ _ _ _ _⟩, ⟨Below.refl _ _⟩, ⟨rfl⟩, ⟨by simp⟩⟩
  case round =>
    obtain ⟨k, out, rfl, hk, hg, ho, HO, HB, HP, HD⟩ := hrel
    have HG := Aside0.mk hg
    clear hg
    by_cases hlt : k < l.length
    · obtain ⟨ad, rfl, hx⟩ := at_nat HR.out k (by omega)
      have hxw := pw_cell_below HB.out hx
      obtain ⟨A5, c5, hv5, hc5, _⟩ := Kd.S_reads HO.out
      subst hv5
      by_cases h0 : 0 < out.length
      · obtain ⟨g3, c3, ha3, hg3, hgl3, _⟩ := Kd.S_form HO.out h0
        cases ha3
        obtain ⟨P1, hP1⟩ : ∃ P1 : Pc, P1 = out.getD (out.length - 1) zPc := ⟨_, rfl⟩
        obtain ⟨oki1, cs1, hcl1, hM1, hcc1, _, _, _⟩ := Kd.S_elem HO.out zPc ((out.length - 1 : Nat) : Int) (by omega) (by omega)
        obtain ⟨v1, rfl, _⟩ := kPc_openM hM1
        have hcell1 : wr.cell? ⟨g3, (out.length - 1) * 3, none⟩ = some (.int .i64 P1.s) := by rw [hP1]; simpa [kPc, Kd.iso, Kd.pair, Kd.int, Kd.scalar, Kd.slice] using hcc1 0 _ rfl
        clear hcc1 hM1 hcl1
        have HP1 := Aside0.mk hP1
        clear hP1
        by_cases hs : P1.s = ((a : Int) + k) / 64
        · have hsb : (P1.s != ((a : Int) + k) / 64) = false := by simp [hs]
          have HADD : Aside0 (addB out (((a : Int) + k) / 64) (((a : Int) + k) % 64) (rd l (k : Int)) = out.set (out.length - 1) ⟨(out.getD (out.length - 1) zPc).s, (out.getD (out.length - 1) zPc).f, (out.getD (out.length - 1) zPc).d ++ [rd l (k : Int)]⟩) := ⟨by unfold addB; rw [if_pos ⟨h0, by rw [← HP1.out]; exact hs⟩]⟩
          clear hs
          go_wp2_with fail
          have HDO := HD
          obtain ⟨p, hp⟩ : ∃ p : Pc, p = (out).getD (out.length - 1) zPc := ⟨_, rfl⟩
          obtain ⟨oki, cs, hcl, hM0, hcc, hfr, hoki, hH⟩ := Kd.S_elem HO.out zPc ((out.length - 1 : Nat) : Int) (by omega) (by first | omega | (simp; done) | (simp; omega))
          have hM : kPc.M wr w.heap.size oki p cs := by rw [hp]; simpa using hM0
          obtain ⟨v2, rfl, hv2⟩ := kPc_openM hM
          obtain ⟨A2, c2, rfl, hc2, _⟩ := Kd.R_reads hv2
          have hx3 := pw_cell_below HB.out hx
          have hcell : (wr).cell? ⟨g3, (out.length - 1) * 3 + 2, none⟩ = some (.slice A2 p.d.length c2) := by simpa [kPc, Kd.iso, Kd.pair, Kd.int, Kd.scalar, Kd.slice] using hcc 2 _ rfl
          have hfroz : (wr).frozen? ⟨g3, (out.length - 1) * 3 + 2, none⟩ = false := by simpa [kPc, Kd.iso, Kd.pair, Kd.int, Kd.scalar, Kd.slice] using hfr 2
          clear hcc hfr hM0
          have hne3 : ∀ k, (oki k ∨ True ∧ (wr).heap.size ≤ k) → k ≠ g3 := fun k hk he => by
            rcases hk with hk | hk
            · exact (hoki k hk).2 he
            · have := hk.2; omega
          have HH := Aside0.mk (Kd.H_widen hH)
          have HV := Aside0.mk (Kd.R_mono hv2 (fun k hk => (Or.inl hk : oki k ∨ True ∧ (wr).heap.size ≤ k)))
          have hpl : p.d.length ≤ k := by rw [hp]; exact HDO.out _ (getD_mem (out) (out.length - 1) (by first | omega | (simp; done) | (simp; omega)))
          have HPP := Aside0.mk hp
          clear hH hv2 hM hoki hcl hp
          go_region_law ((refine Kd.R_append_step (Kd.int .u8) (W := (wr).drew) (w0 := w) w.heap.size (by rfl) (.tmp 52) (.tmp 57) 22 5 (.int .u8 0) 1 rfl Try.underlying22 infoU8 rfl (by decide) (by omega) (.slice A2 p.d.length c2) p.d (rd l (k : Int)) [.int .u8 (rd l (k : Int))] (fun k => oki k ∨ True ∧ (wr).heap.size ≤ k) (fun _ => False) (by rfl) (by rfl) rfl (fun _ h => h.elim) (fun k hk => .inr ⟨trivial, hk⟩) (Kd.R_drew HV.out) (below_drew1 HB.out) (below_size (below_drew1 HB.out)) (by omega) ?_); intro v5 w5 ho5 hb5 hg5 _; obtain ⟨g5, c5', rfl, _, _, _⟩ := Kd.R_form ho5 (by simp); have hcell5 := hg5.cell (a := ⟨g3, (out.length - 1) * 3 + 2, none⟩) hcell (Kd.R_away HV.out hne3); have hfroz5 : w5.frozen? ⟨g3, (out.length - 1) * 3 + 2, none⟩ = false := (World.frozen?_of_block (hg5.block g3 hgl3 (Kd.R_away HV.out hne3))).trans hfroz; have HO5 := Aside0.mk ho5; have HB5 := Aside0.mk hb5; have HG5 := Aside0.mk hg5; clear ho5 hb5 hg5)
          all_goals
            go_wp2_with fail
            go_roundg (l.length - (k + 1))
            case measure => have := HG.out; omega
            case rel =>
              have h7 := rp_back (m := out.length - 1) (Kd.H_drew HH.out) (by first | omega | (simp; done) | (simp; omega)) HV.out.1 HG5.out HO5.out hne3
              refine ⟨k + 1, (out).set (out.length - 1) ⟨p.s, p.f, p.d ++ [rd l (k : Int)]⟩, by go_num, by omega, rfl, ?_, ⟨by simpa using h7⟩, ⟨HB5.out.setCell (p := ⟨g3, (out.length - 1) * 3 + 2, none⟩) hg3 _⟩, ⟨?_⟩, ⟨set_bound HDO.out (by simp; omega)⟩⟩
              · simp; try omega
              · rw [HP.out, rpcs_step out a l k hlt, HADD.out, HPP.out]
        · have hsb : (P1.s != ((a : Int) + k) / 64) = true := by simp [hs]
          obtain ⟨P0, hP0⟩ : ∃ P0 : Pc, P0 = ⟨((a : Int) + k) / 64, ((a : Int) + k) % 64, []⟩ := ⟨_, rfl⟩
          have HADD : Aside0 (addB out (((a : Int) + k) / 64) (((a : Int) + k) % 64) (rd l (k : Int)) = (out ++ [P0]).set out.length ⟨((out ++ [P0]).getD out.length zPc).s, ((out ++ [P0]).getD out.length zPc).f, ((out ++ [P0]).getD out.length zPc).d ++ [rd l (k : Int)]⟩) := ⟨by rw [hP0]; exact addB_new out _ _ _ (by rw [← HP1.out]; exact fun h => hs h.2)⟩
          have HDO : Aside0 (∀ p ∈ out ++ [P0], p.d.length ≤ k) := ⟨by
            intro q hq
            rcases List.mem_append.1 hq with hq | hq
            · exact HD.out q hq
            · rw [List.mem_singleton.1 hq, hP0]; exact Nat.zero_le _⟩
          have HP0 := Aside0.mk hP0
          clear hP0 hs
          go_wp2_with (first
            | (at_builtin; refine Kd.S_append kPc (w0 := w) w.heap.size rfl (.tmp 35) (.tmp 42) 26 31 (.agg #[(.int .i64 0), (.int .i64 0), (.slice none 0 0)]) 40 rfl Try.underlying26 infoRPc rfl (by decide) (by omega) _ out P0 [.int .i64 (((a : Int) + k) / 64), .int .i64 (((a : Int) + k) % 64), .slice none 0 0] (fun _ => True) (fun _ => False) rfl rfl (by rw [HP0.out]; exact kPc_mkM _ _ _ ⟨((a : Int) + k) / 64, ((a : Int) + k) % 64, []⟩ (Kd.R_nil _ _ _ _ _)) (fun _ h => h.elim) (fun _ _ => trivial) (Kd.S_mono HO.out (fun _ _ => ⟨trivial, id⟩)) HB.out (below_size HB.out) (by omega) ?_; intro v3 w3 ho3 hb3 _ _; have HO3 := Aside0.mk ho3; have HB3 := Aside0.mk hb3; clear ho3 hb3; clear hg3 hgl3 hcell1; obtain ⟨g4, c4, rfl, hg3, hgl3, _⟩ := Kd.S_form HO3.out (by simp)))
          have hlt2 : (out.length : Int) < (out.length : Int) + 1 := by omega
          obtain ⟨p, hp⟩ : ∃ p : Pc, p = (out ++ [P0]).getD (out.length) zPc := ⟨_, rfl⟩
          obtain ⟨oki, cs, hcl, hM0, hcc, hfr, hoki, hH⟩ := Kd.S_elem HO3.out zPc ((out.length : Nat) : Int) (by omega) (by first | omega | (simp; done) | (simp; omega))
          have hM : kPc.M w3 w.heap.size oki p cs := by rw [hp]; simpa using hM0
          obtain ⟨v2, rfl, hv2⟩ := kPc_openM hM
          obtain ⟨A2, c2, rfl, hc2, _⟩ := Kd.R_reads hv2
          have hx3 := pw_cell_below HB3.out hx
          have hcell : (w3).cell? ⟨g4, out.length * 3 + 2, none⟩ = some (.slice A2 p.d.length c2) := by simpa [kPc, Kd.iso, Kd.pair, Kd.int, Kd.scalar, Kd.slice] using hcc 2 _ rfl
          have hfroz : (w3).frozen? ⟨g4, out.length * 3 + 2, none⟩ = false := by simpa [kPc, Kd.iso, Kd.pair, Kd.int, Kd.scalar, Kd.slice] using hfr 2
          clear hcc hfr hM0
          have hne3 : ∀ k, (oki k ∨ True ∧ (w3).heap.size ≤ k) → k ≠ g4 := fun k hk he => by
            rcases hk with hk | hk
            · exact (hoki k hk).2 he
            · have := hk.2; omega
          have HH := Aside0.mk (Kd.H_widen hH)
          have HV := Aside0.mk (Kd.R_mono hv2 (fun k hk => (Or.inl hk : oki k ∨ True ∧ (w3).heap.size ≤ k)))
          have hpl : p.d.length ≤ k := by rw [hp]; exact HDO.out _ (getD_mem (out ++ [P0]) (out.length) (by first | omega | (simp; done) | (simp; omega)))
          have HPP := Aside0.mk hp
          clear hH hv2 hM hoki hcl hp
          go_region_law ((refine Kd.R_append_step (Kd.int .u8) (W := (w3).drew) (w0 := w) w.heap.size (by rfl) (.tmp 52) (.tmp 57) 22 5 (.int .u8 0) 1 rfl Try.underlying22 infoU8 rfl (by decide) (by omega) (.slice A2 p.d.length c2) p.d (rd l (k : Int)) [.int .u8 (rd l (k : Int))] (fun k => oki k ∨ True ∧ (w3).heap.size ≤ k) (fun _ => False) (by rfl) (by rfl) rfl (fun _ h => h.elim) (fun k hk => .inr ⟨trivial, hk⟩) (Kd.R_drew HV.out) (below_drew1 HB3.out) (below_size (below_drew1 HB3.out)) (by omega) ?_); intro v5 w5 ho5 hb5 hg5 _; obtain ⟨g5, c5', rfl, _, _, _⟩ := Kd.R_form ho5 (by simp); have hcell5 := hg5.cell (a := ⟨g4, out.length * 3 + 2, none⟩) hcell (Kd.R_away HV.out hne3); have hfroz5 : w5.frozen? ⟨g4, out.length * 3 + 2, none⟩ = false := (World.frozen?_of_block (hg5.block g4 hgl3 (Kd.R_away HV.out hne3))).trans hfroz; have HO5 := Aside0.mk ho5; have HB5 := Aside0.mk hb5; have HG5 := Aside0.mk hg5; clear ho5 hb5 hg5)
          all_goals
            go_wp2_with fail
            go_roundg (l.length - (k + 1))
            case measure => have := HG.out; omega
            case rel =>
              have h7 := rp_back (m := out.length) (Kd.H_drew HH.out) (by first | omega | (simp; done) | (simp; omega)) HV.out.1 HG5.out HO5.out hne3
              refine ⟨k + 1, (out ++ [P0]).set (out.length) ⟨p.s, p.f, p.d ++ [rd l (k : Int)]⟩, by go_num, by omega, rfl, ?_, ⟨by simpa using h7⟩, ⟨HB5.out.setCell (p := ⟨g4, out.length * 3 + 2, none⟩) hg3 _⟩, ⟨?_⟩, ⟨set_bound HDO.out (by simp; omega)⟩⟩
              · simp; try omega
              · rw [HP.out, rpcs_step out a l k hlt, HADD.out, HPP.out]
      · obtain rfl : out = [] := List.eq_nil_of_length_eq_zero (by omega)
        obtain ⟨P0, hP0⟩ : ∃ P0 : Pc, P0 = ⟨((a : Int) + k) / 64, ((a : Int) + k) % 64, []⟩ := ⟨_, rfl⟩
        have HP0 := Aside0.mk hP0
        clear hP0
        go_wp2_with (first
          | (at_builtin; refine Kd.S_append kPc (w0 := w) w.heap.size rfl (.tmp 35) (.tmp 42) 26 31 (.agg #[(.int .i64 0), (.int .i64 0), (.slice none 0 0)]) 40 rfl Try.underlying26 infoRPc rfl (by decide) (by omega) _ [] P0 [.int .i64 (((a : Int) + k) / 64), .int .i64 (((a : Int) + k) % 64), .slice none 0 0] (fun _ => True) (fun _ => False) rfl rfl (by rw [HP0.out]; exact kPc_mkM _ _ _ ⟨((a : Int) + k) / 64, ((a : Int) + k) % 64, []⟩ (Kd.R_nil _ _ _ _ _)) (fun _ h => h.elim) (fun _ _ => trivial) (Kd.S_mono HO.out (fun _ _ => ⟨trivial, id⟩)) HB.out (below_size HB.out) (by simp) ?_; intro v3 w3 ho3 hb3 _ _; rw [List.nil_append] at ho3; have HO3 := Aside0.mk ho3; have HB3 := Aside0.mk hb3; clear ho3 hb3; obtain ⟨g3, c3, rfl, hg3, hgl3, _⟩ := Kd.S_form HO3.out (by simp)))
        have HADD : Aside0 (addB [] (((a : Int) + k) / 64) (((a : Int) + k) % 64) (rd l (k : Int)) = [P0].set 0 ⟨([P0].getD 0 zPc).s, ([P0].getD 0 zPc).f, ([P0].getD 0 zPc).d ++ [rd l (k : Int)]⟩) := ⟨by rw [HP0.out]; exact addB_new [] _ _ _ (by simp)⟩
        have HDO : Aside0 (∀ p ∈ [P0], p.d.length ≤ k) := ⟨by intro q hq; rw [List.mem_singleton.1 hq, HP0.out]; exact Nat.zero_le _⟩
        obtain ⟨p, hp⟩ : ∃ p : Pc, p = ([P0]).getD (0) zPc := ⟨_, rfl⟩
        obtain ⟨oki, cs, hcl, hM0, hcc, hfr, hoki, hH⟩ := Kd.S_elem HO3.out zPc ((0 : Nat) : Int) (by omega) (by first | omega | (simp; done) | (simp; omega))
        have hM : kPc.M w3 w.heap.size oki p cs := by rw [hp]; simpa using hM0
        obtain ⟨v2, rfl, hv2⟩ := kPc_openM hM
        obtain ⟨A2, c2, rfl, hc2, _⟩ := Kd.R_reads hv2
        have hx3 := pw_cell_below HB3.out hx
        have hcell : (w3).cell? ⟨g3, 2, none⟩ = some (.slice A2 p.d.length c2) := by simpa [kPc, Kd.iso, Kd.pair, Kd.int, Kd.scalar, Kd.slice] using hcc 2 _ rfl
        have hfroz : (w3).frozen? ⟨g3, 2, none⟩ = false := by simpa [kPc, Kd.iso, Kd.pair, Kd.int, Kd.scalar, Kd.slice] using hfr 2
        clear hcc hfr hM0
        have hne3 : ∀ k, (oki k ∨ True ∧ (w3).heap.size ≤ k) → k ≠ g3 := fun k hk he => by
          rcases hk with hk | hk
          · exact (hoki k hk).2 he
          · have := hk.2; omega
        have HH := Aside0.mk (Kd.H_widen hH)
        have HV := Aside0.mk (Kd.R_mono hv2 (fun k hk => (Or.inl hk : oki k ∨ True ∧ (w3).heap.size ≤ k)))
        have hpl : p.d.length ≤ k := by rw [hp]; exact HDO.out _ (getD_mem ([P0]) (0) (by first | omega | (simp; done) | (simp; omega)))
        have HPP := Aside0.mk hp
        clear hH hv2 hM hoki hcl hp
        go_region_law ((refine Kd.R_append_step (Kd.int .u8) (W := (w3).drew) (w0 := w) w.heap.size (by rfl) (.tmp 52) (.tmp 57) 22 5 (.int .u8 0) 1 rfl Try.underlying22 infoU8 rfl (by decide) (by omega) (.slice A2 p.d.length c2) p.d (rd l (k : Int)) [.int .u8 (rd l (k : Int))] (fun k => oki k ∨ True ∧ (w3).heap.size ≤ k) (fun _ => False) (by rfl) (by rfl) rfl (fun _ h => h.elim) (fun k hk => .inr ⟨trivial, hk⟩) (Kd.R_drew HV.out) (below_drew1 HB3.out) (below_size (below_drew1 HB3.out)) (by omega) ?_); intro v5 w5 ho5 hb5 hg5 _; obtain ⟨g5, c5', rfl, _, _, _⟩ := Kd.R_form ho5 (by simp); have hcell5 := hg5.cell (a := ⟨g3, 2, none⟩) hcell (Kd.R_away HV.out hne3); have hfroz5 : w5.frozen? ⟨g3, 2, none⟩ = false := (World.frozen?_of_block (hg5.block g3 hgl3 (Kd.R_away HV.out hne3))).trans hfroz; have HO5 := Aside0.mk ho5; have HB5 := Aside0.mk hb5; have HG5 := Aside0.mk hg5; clear ho5 hb5 hg5)
        all_goals
          go_wp2_with fail
          go_roundg (l.length - (k + 1))
          case measure => have := HG.out; omega
          case rel =>
            have h7 := rp_back (m := 0) (Kd.H_drew HH.out) (by first | omega | (simp; done) | (simp; omega)) HV.out.1 HG5.out HO5.out hne3
            refine ⟨k + 1, ([P0]).set (0) ⟨p.s, p.f, p.d ++ [rd l (k : Int)]⟩, by go_num, by omega, rfl, ?_, ⟨by simpa using h7⟩, ⟨HB5.out.setCell (p := ⟨g3, 2, none⟩) hg3 _⟩, ⟨?_⟩, ⟨set_bound HDO.out (by simp; omega)⟩⟩
            · simp; try omega
            · rw [HP.out, rpcs_step [] a l k hlt, HADD.out, HPP.out]
    · go_wp2_with fail
      go_ret
      have : l.drop k = [] := List.drop_of_length_le (by omega)
      exact ⟨_, rfl, by rw [HP.out, this]; exact HO.out, HB.out⟩
end Go.Proofs.Ytpnbjpkdbiiogaa
