/- The cache: the disk's Write beside it; a file that is none. -/
import Derived.Test.YtpnbjpkdbiiogaaTi
namespace Go.Proofs.Ytpnbjpkdbiiogaa
set_option linter.unusedVariables false
open Go.RowKit Go.Maps Go.Proofs.YtpnbjpkdbiiogaaW.PrintWords
attribute [local go_sem] mx2 mn2 mxTwo mnTwo

/-- Cells of other types stay, and maps. -/
structure KM (W W' : World) : Prop where
  size : W.heap.size ≤ W'.heap.size
  keep : ∀ (k : Nat) (cs : Array Value) (T : TypeId), W.heap[k]? = some (Obj.cells cs T (0, 0)) → T ∉ kTypes → W'.heap[k]? = W.heap[k]?
  maps : ∀ (k : Nat) (es : Array MapEntry) (ck : Nat), W.heap[k]? = some (Obj.map es ck) → W'.heap[k]? = W.heap[k]?
theorem KM.refl (W : World) : KM W W := ⟨Nat.le_refl _, fun _ _ _ _ _ => rfl, fun _ _ _ _ => rfl⟩
theorem KM.trans {W W1 W2 : World} (h : KM W W1) (k : KM W1 W2) : KM W W2 := ⟨Nat.le_trans h.size k.size, fun i cs T hi hT => (k.keep i cs T ((h.keep i cs T hi hT).trans hi) hT).trans (h.keep i cs T hi hT), fun i es ck hi => (k.maps i es ck ((h.maps i es ck hi).trans hi)).trans (h.maps i es ck hi)⟩
theorem KM.of_below {W W1 : World} (h : Below W.heap.size W W1) : KM W W1 := ⟨h.size, fun k cs T hk _ => h.block k (blk_lt hk), fun k es ck hk => h.block k (Array.getElem?_eq_some_iff.1 hk).1⟩
theorem KM.kt {W W1 : World} (h : KM W W1) : KT W W1 := ⟨h.size, h.keep⟩
section
variable {W W1 : World} {b g gd mn ms N mf M : Nat} {y : Nat → Prop} {vo : Value} {now safe : List DN} {ops : List DOp} {fl : List FR} {next room fuse : Int} {armed dead : Bool}
theorem KM.own (h : DK W b y g gd mn ms vo N now safe ops mf M fl next room fuse armed dead) (hs : W.heap.size ≤ W1.heap.size) (hk : ∀ k, k ≠ g → W1.heap[k]? = W.heap[k]?) : KM W W1 :=
  ⟨hs, (KT.own h hs hk).keep, fun k es ck hkk => hk k (fun e => by rw [e, h.hb] at hkk; cases hkk)⟩
theorem KM.file (h : DK W b y g gd mn ms vo N now safe ops mf M fl next room fuse armed dead) {p : FR} (hp : p ∈ fl) (hk : KeepBut W W1 p.g p.vo.ownBlock) : KM W W1 := by
  refine ⟨hk.1, (KT.file h hp hk).keep, fun k es ck hkk => hk.2 k (Array.getElem?_eq_some_iff.1 hkk).1 (fun e => by rw [e, (h.hf.hf p hp).hb] at hkk; cases hkk) (fun e => ?_)⟩
  obtain ⟨c2, hc2⟩ := fvo_typed h.hf hp k e.symm
  rw [hkk] at hc2
  cases hc2
end
section
variable {W W1 : World} {b c d mp N mostN : Nat} {x : Nat → Prop} {most : Int} {l : List Nd} {hits misses : Int} {s : WSt}
theorem R_km {α : Type} {dd : Kd α} {e : Nat} {x : Nat → Prop} {v : Value} {xs : List α} (h : dd.R e W b x v xs) (hk : KM W W1) (hT : ∀ t ∈ e :: dd.E, t ∉ kTypes) : dd.R e W1 b x v xs := by
  refine Kd.R_mono (Kd.R_move (Kd.R_bound h) (fun k hk' => ?_)) (fun k hk => hk.1)
  obtain ⟨h1, h2, h3, q, h4, cs, h5⟩ := hk'
  exact hk.keep k cs q h5 (hT q h4)
theorem RU_km {x : Nat → Prop} {v : Value} {xs : List Int} (h : Kd.R (Kd.int .u8) 5 W b x v xs) (hk : KM W W1) : Kd.R (Kd.int .u8) 5 W1 b x v xs := R_km h hk (fun t ht => by
  have : (Kd.int .u8).E = [] := rfl
  rw [this] at ht
  rw [List.mem_singleton.1 ht]
  decide)
theorem CI.km (h : CI W b x c d most mp N l hits misses) (hk : KM W W1) : CI W1 b x c d most mp N l hits misses := by
  obtain ⟨es, ck, ho⟩ := h.hm.obj
  exact ⟨(hk.keep c _ _ h.hb (by decide)).trans h.hb, h.hr.move (fun p hp => by
    obtain ⟨cs, hc⟩ := h.hr.typed hp
    exact hk.keep p.g cs _ hc (by decide)), h.hm.move (hk.maps mp es ck ho), fun q hq => RU_km (h.hy q hq) hk, h.bc, h.bm, h.bg, fun k hkk => h.hx k (Nat.le_trans hk.size hkk)⟩
theorem CS.km (h : CS W b x c d mostN mp N s) (hk : KM W W1) : CS W1 b x c d mostN mp N s := by
  obtain ⟨l, h1, h2⟩ := h
  exact ⟨l, h1.km hk, h2⟩
end
theorem change_km (b : Nat) (y : Nat → Prop) (g gd mn ms : Nat) (vo : Value) (N : Nat) (now safe : List DN) (ops : List DOp) (mf M : Nat) (fl : List FR) (next room fuse : Int) (armed dead : Bool) (w : World) (h : DK w b y g gd mn ms vo N now safe ops mf M fl next room fuse armed dead) (h0 : 0 ≤ fuse) (h1 : fuse ≤ 9223372036854775807) : Calls Try.prog 103 #[.pointer (some ⟨g, 0, none⟩)] w fun e w' => e = .returned (.int .i64 (chg fuse armed dead).1) ∧ DK w' b y g gd mn ms vo N now safe ops mf M fl next room (chg fuse armed dead).2.1 armed (chg fuse armed dead).2.2 ∧ KM w w' ∧ Below b w w' := by
  refine (change_any b y g gd mn ms vo N now safe ops mf M fl next room fuse armed dead w h h0 h1).mono ?_
  rintro e w' ⟨rfl, hd, hk, hb⟩
  exact ⟨rfl, hd, KM.own h hb.size hk, hb⟩
set_option maxHeartbeats 1000000 in
theorem kwrite_kept (b : Nat) (y : Nat → Prop) (g gd mn ms : Nat) (vo : Value) (N : Nat) (now safe : List DN) (ops : List DOp) (mf M : Nat) (fl : List FR) (next room fuse : Int) (armed dead : Bool) (w : World) (h : DK w b y g gd mn ms vo N now safe ops mf M fl next room fuse armed dead) (h0 : 0 ≤ fuse) (h1 : fuse ≤ 9223372036854775807) (hc : (chg fuse armed dead).1 = 0) (s : ByteArray) (hs : s.size ≤ maxLen) (id : Int) (hi0 : 0 ≤ id) (hi1 : id ≤ 1000000) (p : FR) (hn : getN now s = some id) (hp : fileAt fl id = some p) (hk : KG now fl) (hr : Rising now) (hN : N ≤ 1000000) (hln : now.length ≤ 100000) (hsz : ∀ p ∈ now, p.1.size ≤ maxLen) (hro : 0 ≤ room) (k : Nat) (A : Option Addr) (n c : Nat) (hk1 : k ≤ 1048576) (hk2 : n + k ≤ 1048576) (l : List Int) (hll : l.length = n) (hnc : n ≤ c) (hst : ∀ W', Below b w W' → Kd.C (Kd.int .u8) W' A n l) (hh : n = 0 ∨ hasF fl now room p.now.length ((k + n : Nat) : Int) = true) : Calls Try.prog 68 #[.pointer (some ⟨g, 0, none⟩), .string s, .int .i64 (k : Int), .slice A n c] w fun e w' => e = .returned (.int .i64 0) ∧ (∃ vn' vo', DK w' b y g gd mn ms vo N now safe ops mf M (setFile fl ⟨p.id, p.g, vn', p.vs, vo', (writeF (p.now, p.ops) k l).1, p.safe, (writeF (p.now, p.ops) k l).2⟩) next room (chg fuse armed dead).2.1 armed (chg fuse armed dead).2.2) ∧ KM w w' ∧ Below b w w' := by
  have HST := Aside0.mk hst
  clear hst
  have hpm0 := (fileAt_mem hp).1
  obtain ⟨hpl, hpo⟩ := hk.len p hpm0
  have HHAS := Aside0.mk (fun W (fuse : Int) (armed dead : Bool) (hW : DK W b y g gd mn ms vo N now safe ops mf M fl next room fuse armed dead) => has_any b y g gd mn ms vo N now safe ops mf M fl next room fuse armed dead W hW hk hr hN hln hsz p hpm0)
  clear hk hr hsz hpm0
  have hpm := (fileAt_mem hp).1
  have HPM := Aside0.mk hpm
  have HOF := Aside0.mk (fun W (fuse : Int) (armed dead : Bool) (hW : DK W b y g gd mn ms vo N now safe ops mf M fl next room fuse armed dead) => of_some b y g gd mn ms vo N now safe ops mf M fl next room fuse armed dead W hW s hs id hi0 hi1 p hn hp)
  obtain ⟨cd, hcd⟩ : ∃ x, x = (chg fuse armed dead).1 := ⟨_, rfl⟩
  obtain ⟨fu, hfu⟩ : ∃ x, x = (chg fuse armed dead).2.1 := ⟨_, rfl⟩
  obtain ⟨de, hde⟩ : ∃ x, x = (chg fuse armed dead).2.2 := ⟨_, rfl⟩
  have HCH := Aside0.mk (change_km b y g gd mn ms vo N now safe ops mf M fl next room fuse armed dead w h h0 h1)
  rw [← hcd, ← hfu, ← hde] at HCH
  rw [← hfu, ← hde]
  rw [← hcd] at hc
  clear hcd hfu hde
  subst hc
  have hbw : b ≤ w.heap.size := Nat.le_trans h.hg (Nat.le_of_lt (blk_lt h.hb))
  clear h hn hp hpm
  by_cases hn0 : n = 0
  · clear hh
    subst hn0
    go_enter Try.func68, Try.ntmps68
    go_wp2_with (first | (go_at_call 103; refine HCH.out.mono ?_; rintro e w1 ⟨rfl, hk1, ht1, hl1⟩; have H := Aside0.mk hk1; have HT := Aside0.mk ht1; have HL := Aside0.mk hl1; have s0 := (blk_cell hk1.hb 0).trans (rfl : _ = some (Value.pointer (some ⟨gd, 0, none⟩))); clear hk1 ht1 hl1 HCH) | (go_at_call 105; refine (HOF.out _ _ _ _ H.out).mono ?_; rintro e w2 ⟨rfl, rfl⟩; clear HOF) | (go_at_call 41; refine (fwrite_any b p.g (apx y fl p) p.vn p.vs p.vo p.now p.safe p.ops k A _ c l _ (H.out.hf.hf p HPM.out) (apx_fresh H.out.hf) hll hnc (fun W' _ hb' => HST.out W' (HL.out.trans hb')) hk1 hk2 hpl hpo).mono ?_; rintro e w5 ⟨rfl, vn', vo', hf5, hv5, hk5, hl5⟩; have hfin := H.out.file HPM.out hk5 hf5 (by first | exact .inr (.inl rfl) | (rcases hv5 with e | ⟨j, e, hj⟩; exact .inl e; exact .inr (.inr ⟨j, e, hj⟩))); have HF := Aside0.mk hfin; have HTF := Aside0.mk (HT.out.trans (KM.file H.out HPM.out hk5)); have HLF := Aside0.mk (HL.out.trans hl5); clear hfin hf5 hv5 hk5 hl5))
    go_ret
    exact ⟨rfl, ⟨_, _, HF.out⟩, HTF.out, HLF.out⟩
  · have HH := Aside0.mk (hh.resolve_left hn0)
    have hnp : 0 < n := by omega
    clear hh
    go_enter Try.func68, Try.ntmps68
    go_wp2_with (first | (go_at_call 103; refine HCH.out.mono ?_; rintro e w1 ⟨rfl, hk1, ht1, hl1⟩; have H := Aside0.mk hk1; have HT := Aside0.mk ht1; have HL := Aside0.mk hl1; have s0 := (blk_cell hk1.hb 0).trans (rfl : _ = some (Value.pointer (some ⟨gd, 0, none⟩))); clear hk1 ht1 hl1 HCH) | (go_at_call 105; refine (HOF.out _ _ _ _ H.out).mono ?_; rintro e w2 ⟨rfl, rfl⟩; clear HOF) | (go_at_call 106; refine (HHAS.out _ _ _ _ H.out (((k + n : Nat) : Int)) (by omega) hro).mono ?_; rw [HH.out]; rintro e w3 ⟨rfl, hb⟩; have h3 := H.out.below hb; have ht3 := HT.out.trans (KM.of_below hb); have hl3 := HL.out.trans (hb.mono (Nat.le_trans hbw HL.out.size)); clear H HL HT; have H := Aside0.mk h3; have HL := Aside0.mk hl3; have HT := Aside0.mk ht3; clear h3 hl3 ht3 hb) | (go_at_call 41; refine (fwrite_any b p.g (apx y fl p) p.vn p.vs p.vo p.now p.safe p.ops k A _ c l _ (H.out.hf.hf p HPM.out) (apx_fresh H.out.hf) hll hnc (fun W' _ hb' => HST.out W' (HL.out.trans hb')) hk1 hk2 hpl hpo).mono ?_; rintro e w5 ⟨rfl, vn', vo', hf5, hv5, hk5, hl5⟩; have hfin := H.out.file HPM.out hk5 hf5 (by first | exact .inr (.inl rfl) | (rcases hv5 with e | ⟨j, e, hj⟩; exact .inl e; exact .inr (.inr ⟨j, e, hj⟩))); have HF := Aside0.mk hfin; have HTF := Aside0.mk (HT.out.trans (KM.file H.out HPM.out hk5)); have HLF := Aside0.mk (HL.out.trans hl5); clear hfin hf5 hv5 hk5 hl5))
    go_ret
    exact ⟨rfl, ⟨_, _, HF.out⟩, HTF.out, HLF.out⟩
end Go.Proofs.Ytpnbjpkdbiiogaa
/- The reference's cache: what holds of it; a file's bytes read into a row of their own. -/
namespace Go.Proofs.Ytpnbjpkdbiiogaa
set_option linter.unusedVariables false
open Go.RowKit Go.Maps Go.Proofs.YtpnbjpkdbiiogaaW.PrintWords
attribute [local go_sem] mx2 mn2 mxTwo mnTwo

set_option maxHeartbeats 1000000 in
set_option maxRecDepth 100000 in
theorem rread_own (g : Nat) (A : Option Addr) (c : Nat) (now : List Int) (k n : Int) (w : World) (hc0 : w.cell? ⟨g, 0, none⟩ = some (.slice A now.length c)) (hC : Kd.C (Kd.int .u8) w A now.length now) (hl : now.length ≤ 1099511627776) : Calls Try.prog 91 #[.pointer (some ⟨g, 0, none⟩), .int .i64 k, .int .i64 n] w fun e w' => ∃ v, e = .returned v ∧ Kd.R (Kd.int .u8) 5 w' w.heap.size (fun _ => True) v (readL now k n) ∧ Below w.heap.size w w' := by
  have HC := Aside0.mk hC
  have HC0 := Aside0.mk hc0
  clear hC
  by_cases h3 : n ≤ 0
  · skip
    have HE := Aside0.mk (show readL now k n = [] by unfold readL; rw [if_pos (by omega)])
    rw [HE.out]
    go_enter Try.func91, Try.ntmps91
    go_wp2
    refine wp_loop_rounds 1 ?_
    rw [rounds_succ]
    go_wp2_with fail
    all_goals
      go_ret
      exact ⟨_, rfl, Kd.R_nil _ _ _ _ _, Below.refl _ _⟩
  · by_cases h1 : k < 0
    · skip
      have HE := Aside0.mk (show readL now k n = [] by unfold readL; rw [if_pos (by omega)])
      rw [HE.out]
      go_enter Try.func91, Try.ntmps91
      go_wp2
      refine wp_loop_rounds 1 ?_
      rw [rounds_succ]
      go_wp2_with fail
      all_goals
        go_ret
        exact ⟨_, rfl, Kd.R_nil _ _ _ _ _, Below.refl _ _⟩
    · by_cases h2 : (now.length : Int) ≤ k
      · skip
        have HE := Aside0.mk (show readL now k n = [] by unfold readL; rw [if_pos (by omega)])
        rw [HE.out]
        go_enter Try.func91, Try.ntmps91
        go_wp2
        refine wp_loop_rounds 1 ?_
        rw [rounds_succ]
        go_wp2_with fail
        all_goals
          go_ret
          exact ⟨_, rfl, Kd.R_nil _ _ _ _ _, Below.refl _ _⟩
      · obtain ⟨q, rfl⟩ := Int.eq_ofNat_of_zero_le (show 0 ≤ k by omega)
        have HE := Aside0.mk (show readL now (q : Int) n = (now.drop q).take n.toNat by unfold readL; rw [if_neg (by omega), Int.toNat_natCast])
        go_enter Try.func91, Try.ntmps91
        go_wp2
        go_loopg [7, 8] now.length (fun z v7 v8 wr => ∃ i : Nat, v8 = .int .i64 (i : Int) ∧ (i : Int) ≤ n ∧ q + i ≤ now.length ∧ Aside0 (z = now.length - i) ∧ Aside0 (Kd.R (Kd.int .u8) 5 wr w.heap.size (fun _ => True) v7 ((now.drop q).take i)) ∧ Aside0 (Below w.heap.size w wr))
        case atStart => exact ⟨0, rfl, by omega, by omega, ⟨rfl⟩, ⟨Kd.R_nil _ _ _ _ _⟩, ⟨Below.refl _ _⟩⟩
        case round =>
          obtain ⟨i, rfl, hi, hqi, hz, HO, HB⟩ := hrel
          have hs0 := pw_cell_below HB.out HC0.out
          by_cases ha : (i : Int) < n
          · by_cases hb : q + i < now.length
            · have hb2 : (q : Int) < (now.length : Int) - (i : Int) := by omega
              obtain ⟨ad, rfl, hx⟩ := at_nat HC.out (q + i) hb
              have hxw := pw_cell_below HB.out hx
              have HKE := Aside0.mk (show (now.drop q).take (i + 1) = (now.drop q).take i ++ [rd now ((q + i : Nat) : Int)] by
                rw [take_snoc_rd _ i (by rw [List.length_drop]; omega)]
                unfold rd
                rw [Int.toNat_natCast, Int.toNat_natCast, List.getD_eq_getElem?_getD, List.getD_eq_getElem?_getD, List.getElem?_drop])
              obtain ⟨x, hxE⟩ : ∃ x, x = rd now ((q + i : Nat) : Int) := ⟨_, rfl⟩
              rw [← hxE] at hxw HKE
              have HLE := Aside0.mk (show ((now.drop q).take i).length = i by rw [List.length_take, List.length_drop]; omega)
              clear hxE hx
              go_wp2_with (at_builtin; refine Kd.R_append (Kd.int .u8) (w0 := w) w.heap.size rfl (.tmp 29) (.tmp 39) 22 5 (.int .u8 0) 1 rfl Try.underlying22 infoU8 rfl (by decide) (by omega) u7 _ x [.int .u8 x] (fun _ => True) (fun _ => False) rfl rfl rfl (fun _ h => h.elim) (fun _ _ => trivial) HO.out HB.out (below_size HB.out) (by rw [HLE.out]; omega) ?_; intro v1 w1 h1 hb1 _ _; rw [← HKE.out] at h1; have H1 := Aside0.mk h1; have HB1 := Aside0.mk hb1; clear h1 hb1)
              go_roundg (now.length - (i + 1))
              case measure => have := hz.out; omega
              case rel => exact ⟨i + 1, by go_num, by omega, by omega, ⟨rfl⟩, H1, HB1⟩
            · have hb2 : ¬ (q : Int) < (now.length : Int) - (i : Int) := by omega
              go_wp2_with fail
              have hO' := HO.out
              have e : (now.drop q).take i = readL now (q : Int) n := by rw [HE.out, List.take_of_length_le (by rw [List.length_drop]; omega), List.take_of_length_le (by rw [List.length_drop]; omega)]
              rw [e] at hO'
              have HO9 := Aside0.mk hO'
              clear hO'
              go_ret
              exact ⟨_, rfl, HO9.out, HB.out⟩
          · have hin : i = n.toNat := by omega
            go_wp2_with fail
            all_goals
              have hO' := HO.out
              have e : (now.drop q).take i = readL now (q : Int) n := by rw [HE.out, hin]
              rw [e] at hO'
              have HO9 := Aside0.mk hO'
              clear hO'
              go_ret
              exact ⟨_, rfl, HO9.out, HB.out⟩

/-! ### the row of pieces -/
def kPv : Kd PcV := Kd.iso (Kd.pair Kd.string (Kd.pair (Kd.int .i64) (Kd.slice 5 (Kd.int .u8)))) (fun x : PcV => (x.nm, x.n, x.b))
theorem kPv_mkM (w : World) (base : Nat) (ok : Nat → Prop) (x : PcV) {v2 : Value} (g2 : (Kd.int .u8).R 5 w base ok v2 x.b) : kPv.M w base ok x [.string x.nm, .int .i64 x.n, v2] :=
  ⟨[.string x.nm], [.int .i64 x.n, v2], rfl, rfl, ⟨[.int .i64 x.n], [v2], rfl, rfl, ⟨v2, rfl, g2⟩⟩⟩
theorem infoPv : (Try.prog.info? 168).map (fun i => (i.zero, i.size, i.bytes)) = some (some (.agg #[(.string ⟨#[]⟩), (.int .i64 0), (.slice none 0 0)]), 3, 48) := by kernel_rfl
theorem pvE (t : Nat) (h1 : 168 ≠ t) (ht : 5 ≠ t) : ∀ q, q ∈ 168 :: kPv.E → q ≠ t := by
  intro q hq
  have : kPv.E = [5] := rfl
  rw [this] at hq
  simp at hq
  omega
/-- A row that is only read: its elements as they were made. -/
theorem Q_rows {α : Type} {d : Kd α} {e : Nat} {w : World} {base : Nat} {ok : Nat → Prop} {A : Option Addr} {n c : Nat} {xs : List α} (h : d.Q e w base ok (.slice A n c) xs) : n = xs.length ∧ n ≤ c ∧ ReadsRow (d.M w base (fun k => ok k ∧ some k ≠ (Value.slice A n c).ownBlock)) d.sz w A n xs := by
  obtain ⟨h0, inner, ho, hr⟩ := h
  obtain ⟨A', c', he, hl⟩ := q_slice ho
  injection he with h1 h2 h3
  subst h1; subst h2; subst h3
  refine ⟨rfl, hl, rfl, q_max ho, fun hp => ?_⟩
  obtain ⟨ad, ha, hc⟩ := q_cells ho hp
  refine ⟨ad, ha, fun j p hj => ⟨(inner.drop (j * d.sz)).take d.sz, ?_, hr.2 j p hj, fun i u hu => ?_⟩⟩
  · have hjl := (List.getElem?_eq_some_iff.1 hj).1
    have h1 : j * d.sz + d.sz ≤ inner.length := by rw [hr.1, ← Nat.succ_mul]; exact Nat.mul_le_mul_right _ hjl
    rw [List.length_take, List.length_drop]
    omega
  · refine hc _ u ?_
    rw [List.getElem?_take] at hu
    split at hu
    · rw [List.getElem?_drop] at hu
      exact hu
    · cases hu
/-- Rows of pieces to be put behind others, in a later world. -/
theorem pv_rows {w W : World} {b : Nat} {x : Nat → Prop} {A : Option Addr} {n c : Nat} {xs : List PcV} (h : kPv.Q 168 w b x (.slice A n c) xs) (hb : Below w.heap.size w W) : ReadsRow (kPv.M W b (fun k => x k ∧ k < w.heap.size)) 3 W A n xs :=
  ReadsRow.imp_ (Q_rows h).2.2 hb (fun y cs hy => Kd.M_below (kPv.M_mono (fun k hk => ⟨hk.1.1, hk.2.2.1⟩) (kPv.M_bound hy)) hb)
/-- A piece in memory. -/
theorem at_Pv {w : World} {b : Nat} {x : Nat → Prop} {A : Option Addr} {n c : Nat} {xs : List PcV} (h : kPv.Q 168 w b x (.slice A n c) xs) (i : Nat) (h1 : i < n) : ∃ ad A2 c2, A = some ad ∧ w.cell? (ad.add (i * 3)) = some (.string (xs.getD i zPv).nm) ∧ w.cell? ⟨(ad.add (i * 3)).block, (ad.add (i * 3)).off + 1, none⟩ = some (.int .i64 (xs.getD i zPv).n) ∧ w.cell? ⟨(ad.add (i * 3)).block, (ad.add (i * 3)).off + 2, none⟩ = some (.slice A2 (xs.getD i zPv).b.length c2) ∧ (Kd.int .u8).R 5 w b x (.slice A2 (xs.getD i zPv).b.length c2) (xs.getD i zPv).b := by
  obtain ⟨hn, _, hr⟩ := Q_rows h
  obtain ⟨ad, e, hc⟩ := hr.2.2 (by omega)
  have hj : xs[i]? = some (xs.getD i zPv) := by
    rw [List.getD_eq_getElem?_getD, List.getElem?_eq_getElem (by omega)]
    rfl
  obtain ⟨cs, hl, hM, hc0⟩ := hc i _ hj
  have hc : ∀ j u, cs[j]? = some u → w.cell? (ad.add (i * 3 + j)) = some u := hc0
  obtain ⟨_, _, rfl, rfl, ⟨_, _, rfl, rfl, ⟨v2, rfl, g2⟩⟩⟩ := hM
  obtain ⟨A2, c2, rfl⟩ := Kd.R_slice g2
  exact ⟨ad, A2, c2, e, hc 0 _ rfl, by rw [← add_field _ _ 1 (by omega)]; exact hc 1 _ rfl, by rw [← add_field _ _ 2 (by omega)]; exact hc 2 _ rfl, Kd.R_mono g2 (fun k hk => hk.1)⟩
/-- One piece, alone. -/
theorem pv_lit {W : World} {b : Nat} {x : Nat → Prop} (hbw : b ≤ W.heap.size) (hx : x W.heap.size) (p : PcV) {A2 : Option Addr} {c2 : Nat} (hv : (Kd.int .u8).R 5 W b x (.slice A2 p.b.length c2) p.b) : kPv.R 168 (W.alloc (.cells #[.string p.nm, .int .i64 p.n, .slice A2 p.b.length c2] 168)) b x (.slice (some ⟨W.heap.size, 0, none⟩) 1 1) [p] := by
  refine ⟨fun k hk => ?_, [.string p.nm, .int .i64 p.n, .slice A2 p.b.length c2], ?_, ?_⟩
  · have : W.heap.size = k := by simpa [Value.ownBlock] using hk
    subst this
    exact hx
  · have h2 := World.ownsRow_lit (base := b) (e := 168) (size := 3) W #[.string p.nm, .int .i64 p.n, .slice A2 p.b.length c2] 1 hbw (by simp [maxLen]) (by simp)
    exact h2
  · refine ⟨rfl, fun j q hj => ?_⟩
    have hj0 : j = 0 := by
      have := (List.getElem?_eq_some_iff.1 hj).1
      simpa using this
    subst hj0
    have hq : p = q := by simpa using hj
    subst hq
    refine kPv_mkM _ _ _ p (Kd.R_mono (Kd.R_below (Kd.R_bound hv) (below_alloc (Below.refl _ _) _)) (fun k hk => ⟨hk.1, fun e => ?_⟩))
    have h3 : k = W.heap.size := by simpa [Value.ownBlock] using e
    have := hk.2.2.1
    omega
/-- The reference's cache in memory. -/
structure RC (W : World) (b : Nat) (x : Nat → Prop) (g : Nat) (mostN : Nat) (s : WSt) : Prop where
  ex : ∃ vL, W.heap[g]? = some (.cells #[vL, .int .i64 (mostN : Int), .int .i64 s.hits, .int .i64 s.misses] 103 (0, 0)) ∧ kPv.Q 168 W b x vL s.L
  hg : b ≤ g
  hx : ∀ k, W.heap.size ≤ k → x k
section
variable {W W1 : World} {b g mostN : Nat} {x x' : Nat → Prop} {s : WSt}
theorem RC.below (h : RC W b x g mostN s) (hb : Below W.heap.size W W1) : RC W1 b x g mostN s := by
  obtain ⟨⟨vL, h1, h2⟩, h3, h4⟩ := h
  exact ⟨⟨vL, blk_below h1 hb, Kd.Q_below h2 hb⟩, h3, fun k hk => h4 k (Nat.le_trans hb.size hk)⟩
theorem RC.reX (h : RC W b x g mostN s) (hx : ∀ k, x k → x' k) : RC W b x' g mostN s := by
  obtain ⟨⟨vL, h1, h2⟩, h3, h4⟩ := h
  exact ⟨⟨vL, h1, Kd.Q_mono h2 hx⟩, h3, fun k hk => hx k (h4 k hk)⟩
/-- The cache's own block is turned. -/
theorem RC.put {vL : Value} {L : List PcV} {m hi mi : Int} (hb : W.heap[g]? = some (.cells #[vL, .int .i64 m, .int .i64 hi, .int .i64 mi] 103 (0, 0))) (hq : kPv.Q 168 W b x vL L) (hg : b ≤ g) (hx : ∀ k, W.heap.size ≤ k → x k) (hm : m = (mostN : Int)) : RC W b x g mostN ⟨L, hi, mi⟩ := ⟨⟨vL, by rw [← hm]; exact hb, hq⟩, hg, hx⟩
theorem Q_setC {v u : Value} {L : List PcV} {cs : Array Value} {i : Nat} (hq : kPv.Q 168 W b x v L) (hb : W.heap[g]? = some (.cells cs 103 (0, 0))) : kPv.Q 168 (W.setCell ⟨g, i, none⟩ u) b x v L := Kd.Q_set hq hb (pvE _ (by decide) (by decide)) i u
theorem R_setC {v u : Value} {l : List Int} {cs : Array Value} {i : Nat} (hq : Kd.R (Kd.int .u8) 5 W b x v l) (hb : W.heap[g]? = some (.cells cs 103 (0, 0))) : Kd.R (Kd.int .u8) 5 (W.setCell ⟨g, i, none⟩ u) b x v l := 
  Kd.R_mono (Kd.R_far (Kd.R_types hq hb (u8E _ (by decide))) (p := ⟨g, i, none⟩) (fun k hk => hk.2) u) (fun k hk => hk.1)
end
end Go.Proofs.Ytpnbjpkdbiiogaa
/- The reference's cache: a piece that is kept. -/
namespace Go.Proofs.Ytpnbjpkdbiiogaa
set_option linter.unusedVariables false
open Go.RowKit Go.Maps Go.Proofs.YtpnbjpkdbiiogaaW.PrintWords
attribute [local go_sem] mx2 mn2 mxTwo mnTwo

theorem find_before {L : List PcV} {nm : ByteArray} {k : Int} {i : Nat} (h : L.findIdx? (isP nm k) = some i) : ∀ j, j < i → ¬ ((L.getD j zPv).nm = nm ∧ (L.getD j zPv).n = k) := fun j hj => by
  obtain ⟨hi, _, h2⟩ := List.findIdx?_eq_some_iff_getElem.1 h
  have h3 := h2 j hj
  have e : L.getD j zPv = L[j] := by rw [List.getD_eq_getElem?_getD, List.getElem?_eq_getElem (by omega)]; rfl
  rw [e]
  exact isP_false (by simpa using h3)
set_option maxHeartbeats 2000000 in
set_option maxRecDepth 100000 in
theorem rget_hit (x : Nat → Prop) (b g mostN : Nat) (s : WSt) (w : World) (h : RC w b x g mostN s) (hl : s.L.length ≤ 1000000) (nm : ByteArray) (k : Int) (hk0 : 0 ≤ k) (hk1 : k ≤ 100000) (An : Option Addr) (n cn : Nat) (hh0 : 0 ≤ s.hits) (hh1 : s.hits ≤ 1000000) (i : Nat) (hf : s.L.findIdx? (isP nm k) = some i) :
    Calls Try.prog 108 #[.pointer (some ⟨g, 0, none⟩), .string nm, .int .i64 k, .slice An n cn] w fun e w' => ∃ A' c', e = .returned (.slice A' (s.L.getD i zPv).b.length c') ∧ Kd.R (Kd.int .u8) 5 w' b x (.slice A' (s.L.getD i zPv).b.length c') (s.L.getD i zPv).b ∧ RC w' b x g mostN ⟨s.L.getD i zPv :: s.L.eraseIdx i, s.hits + 1, s.misses⟩ ∧ KeepBut w w' g none ∧ Below b w w' := by
  obtain ⟨⟨vL, hb, hq⟩, hg, hx⟩ := h
  obtain ⟨A1, c1, rfl, hlc⟩ := Kd.Q_slice hq
  obtain ⟨hi, e1, e2, _⟩ := find_some hf
  have HBE := Aside0.mk (find_before hf)
  have HB0 := Aside0.mk hb
  have HQ := Aside0.mk hq
  have HX := Aside0.mk hx
  have s0 := (blk_cell hb 0).trans (rfl : _ = some (Value.slice A1 s.L.length c1))
  have hbw : b ≤ w.heap.size := Nat.le_trans hg (Nat.le_of_lt (blk_lt hb))
  clear hb hq hf
  go_enter Try.func108, Try.ntmps108
  go_wp2_with fail
  go_loopg [9] s.L.length (fun z v9 wr => ∃ j : Nat, v9 = .int .i64 (j : Int) ∧ j ≤ i ∧ Aside0 (z = s.L.length - j) ∧ wr = w)
  case atStart => exact ⟨0, rfl, Nat.zero_le _, ⟨rfl⟩, rfl⟩
  case round =>
    obtain ⟨j, rfl, hj, hz, rfl⟩ := hrel
    obtain ⟨ad, A2, c2, rfl, r1, r2, r3, r4⟩ := at_Pv HQ.out j (by omega)
    have R4 := Aside0.mk r4
    clear r4
    by_cases hlt : j < i
    · have hno := HBE.out j hlt
      have HNO := Aside0.mk hno
      by_cases hs : (s.L.getD j zPv).nm = nm
      · have hs2 : ¬ (s.L.getD j zPv).n = k := fun e => HNO.out ⟨hs, e⟩
        have e1 := bs_eq _ _ hs
        have e2 : ((s.L.getD j zPv).n == k) = false := beq_eq_false_iff_ne.mpr hs2
        clear hs hs2
        generalize s.L.getD j zPv = pj at *
        go_wp2_with fail
        go_roundg (s.L.length - (j + 1))
        case measure => have := hz.out; omega
        case rel => exact ⟨j + 1, by go_num, by omega, ⟨rfl⟩, rfl⟩
      · have e1 := bs_ne _ _ hs
        clear hs
        generalize s.L.getD j zPv = pj at *
        go_wp2_with fail
        go_roundg (s.L.length - (j + 1))
        case measure => have := hz.out; omega
        case rel => exact ⟨j + 1, by go_num, by omega, ⟨rfl⟩, rfl⟩
    · obtain rfl : j = i := by omega
      have q1 := bs_eq _ _ e1
      have q2 : ((s.L.getD j zPv).n == k) = true := beq_iff_eq.mpr e2
      generalize hP : s.L.getD j zPv = P at *
      have HP := Aside0.mk hP
      obtain ⟨i0, hi0, hz0, hz1, hz2⟩ := info_parts infoPv
      have cutA : ∀ W : World, (Instr.slice 101 (.slice (some ad) s.L.length c1) none (some (.int .i64 (j : Int))) none).run Try.prog W = .ok (.slice (some ad) j c1) W := fun W => by
        have := cut_to (P := Try.prog) 101 168 .i64 Try.underlying101 hi0 (some ad) s.L.length c1 (j : Int) (by omega) (by omega) hlc W
        simpa using this
      have hwr : IntKind.i64.wrap ((j : Int) + 1) = (j : Int) + 1 := by rw [IntKind.wrap_i64]; omega
      obtain ⟨A9, hA9⟩ : ∃ A9, A9 = (if c1 = j + 1 then some ad else (some ad).map (·.add ((j + 1) * 3))) := ⟨_, rfl⟩
      have cutB : ∀ W : World, (Instr.slice 101 (.slice (some ad) s.L.length c1) (some (.int .i64 ((j : Int) + 1))) none none).run Try.prog W = .ok (.slice A9 (s.L.length - (j + 1)) (c1 - (j + 1))) W := fun W => by
        have := cut_from (P := Try.prog) 101 168 .i64 Try.underlying101 hi0 3 hz1 (some ad) s.L.length c1 ((j : Int) + 1) (by omega) (by omega) W
        rw [hA9]
        have e9 : ((j : Int) + 1).toNat = j + 1 := by omega
        rw [e9] at this
        exact this
      have HQA := Aside0.mk (Kd.Q_take HQ.out (m := j) (by omega))
      have HQB := Aside0.mk (show kPv.Q 168 wr b x (.slice A9 (s.L.length - (j + 1)) (c1 - (j + 1))) (s.L.drop (j + 1)) by rw [hA9]; exact Kd.Q_drop HQ.out (k := j + 1) (by omega))
      have HTL := Aside0.mk (show (s.L.take j).length = j by rw [List.length_take]; omega)
      obtain ⟨rs, hrs⟩ : ∃ rs, rs = s.L.take j ++ s.L.drop (j + 1) := ⟨_, rfl⟩
      have hrl : rs.length ≤ 1000000 := by rw [hrs, List.length_append, List.length_take, List.length_drop]; omega
      have HRS := Aside0.mk hrs
      clear e1 e2 hP hrs hA9 hi0 hz0 hz1 hz2
      go_wp2_with fail
      obtain ⟨W1, hW1⟩ : ∃ W1, W1 = wr.alloc (.cells #[.string P.nm, .int .i64 P.n, .slice A2 P.b.length c2] 168) := ⟨_, rfl⟩
      have hnb : W1.heap[wr.heap.size]? = some (.cells #[.string P.nm, .int .i64 P.n, .slice A2 P.b.length c2] 168 (0, 0)) := by rw [hW1]; exact blk_new _ _
      have hb1 : Below wr.heap.size wr W1 := by rw [hW1]; exact below_alloc (Below.refl _ _) _
      rw [← hW1]
      obtain ⟨pb, hpb⟩ : ∃ pb, pb = wr.heap.size := ⟨_, rfl⟩
      rw [← hpb] at hnb ⊢
      have HB1 := Aside0.mk hb1
      have HNB := Aside0.mk hnb
      have s0w := s0
      replace s0 := pw_cell_below hb1 s0
      have hpg : pb ≠ g := by have := blk_lt HB0.out; omega
      have hgp : g ≠ pb := hpg.symm
      have hwh : IntKind.i64.wrap (s.hits + 1) = s.hits + 1 := by rw [IntKind.wrap_i64]; omega
      clear hb1 hnb hpb hW1 r1 r2 r3
      have S00 := Aside0.mk s0w
      clear s0w
      have HBA := Aside0.mk (below_drew1 (below_step HB1.out (below_alloc (Below.refl W1.heap.size W1) (.cells #[] 168))))
      have HWS := Aside0.mk (show (W1.alloc (.cells #[] 168)).drew.heap.size = W1.heap.size + 1 by rw [World.size_drew, World.size_alloc])
      have HNW := Aside0.mk HB1.out.size
      go_region_held3 (fun w' => w'.cell? ⟨g, 0, none⟩ = some (.slice (some ad) s.L.length c1)) (first | with_reducible exact s0 | exact s0 | exact cell_al _ s0) (first
        | (refine Kd.R_append_rows_step kPv (Rr := kPv.M (W1.alloc (.cells #[] 168)).drew b (fun k => x k ∧ k < wr.heap.size)) (w0 := wr) b (by rfl) (.tmp 52) (.tmp 58) 101 168 (.agg #[(.string ⟨#[]⟩), (.int .i64 0), (.slice none 0 0)]) 48 rfl Try.underlying101 infoPv rfl (by decide) (by omega) (.slice (some ⟨W1.heap.size, 0, none⟩) 0 0) [] (s.L.take j) (some ad) j c1 x (fun k => x k ∧ k < wr.heap.size) (by rfl) (by rfl) (Kd.R_drew (R_empty _ _ _ _ _ (HX.out _ HNW.out) (Nat.le_trans hbw HNW.out))) (pv_rows HQA.out HBA.out) (fun _ _ h => h) (fun k hk => ⟨hk.1, fun e => by have h9 := HNW.out; simp [Value.ownBlock] at e; omega⟩) (fun k hk => HX.out k (by have h9 := HNW.out; have h8 := HWS.out; omega)) (HBA.out.mono hbw) (Nat.le_trans hbw HBA.out.size) (by simp; omega) ?_; intro v1 w1 h1 hb1 hg1 hat1; rw [List.nil_append] at h1; obtain ⟨A3, c3, rfl, hc3, _⟩ := Kd.R_reads h1; rw [HTL.out] at h1 hat1 hc3 ⊢; have hbr : Below wr.heap.size wr w1 := ⟨hb1.os, hb1.tape, hb1.output, hb1.size, fun q hq => (hg1.block q (Nat.lt_of_lt_of_le hq HBA.out.size) (fun e => by have h9 := HNW.out; simp [Value.ownBlock] at e; omega)).trans (HBA.out.block q hq)⟩; have hnb1 := (hg1.block pb (by have := blk_lt HNB.out; have := HWS.out; omega) (fun e => by have := blk_lt HNB.out; simp [Value.ownBlock] at e; omega)).trans (blk_alloc HNB.out _); have HV1 := Aside0.mk (show ∀ q, q < W1.heap.size → some q ≠ (Value.slice A3 j c3).ownBlock from fun q hq e => by (rcases hat1 with h | ⟨r, h, hr⟩ <;> rw [← e] at h <;> simp [Value.ownBlock] at h <;> (have h8 := HWS.out; omega))); have HR1 := Aside0.mk h1; have HBR := Aside0.mk hbr; have HNB1 := Aside0.mk hnb1; replace s0 := pw_cell_below hbr S00.out; clear h1 hb1 hg1 hat1 hbr hnb1)
        | (refine Kd.R_append_rows_step kPv (Rr := kPv.M w1 b (fun k => x k ∧ k < wr.heap.size)) (w0 := wr) b (by rfl) (.tmp 59) (.tmp 66) 101 168 (.agg #[(.string ⟨#[]⟩), (.int .i64 0), (.slice none 0 0)]) 48 rfl Try.underlying101 infoPv rfl (by decide) (by omega) (.slice A3 j c3) (s.L.take j) (s.L.drop (j + 1)) A9 (s.L.length - (j + 1)) (c1 - (j + 1)) x (fun k => x k ∧ k < wr.heap.size) (by rfl) (by rfl) HR1.out (pv_rows HQB.out HBR.out) (fun _ _ h => h) (fun k hk => ⟨hk.1, HV1.out k (Nat.lt_of_lt_of_le hk.2 HNW.out)⟩) (fun k hk => HX.out k (Nat.le_trans HBR.out.size hk)) (HBR.out.mono hbw) (Nat.le_trans hbw HBR.out.size) (by rw [HTL.out]; omega) ?_; intro v5 w5 h5 hb5 hg5 hat5; rw [← HRS.out] at h5; obtain ⟨A5, c5, rfl, hc5, _⟩ := Kd.R_reads h5; have hbr5 : Below wr.heap.size wr w5 := ⟨hb5.os, hb5.tape, hb5.output, hb5.size, fun q hq => (hg5.block q (Nat.lt_of_lt_of_le hq HBR.out.size) (HV1.out q (Nat.lt_of_lt_of_le hq HNW.out))).trans (HBR.out.block q hq)⟩; have hnb5 := (hg5.block pb (blk_lt HNB1.out) (HV1.out pb (blk_lt HNB.out))).trans HNB1.out; have HR5 := Aside0.mk h5; have HBR5 := Aside0.mk hbr5; have HNB5 := Aside0.mk hnb5; replace s0 := pw_cell_below hbr5 S00.out; clear h5 hb5 hg5 hat5 hbr5 hnb5 HR1 HBR HNB1 HV1))
      all_goals
        have t0 := (blk_cell HNB5.out 0).trans (rfl : _ = some (Value.string P.nm))
        have t1 := (blk_cell HNB5.out 1).trans (rfl : _ = some (Value.int .i64 P.n))
        have t2 := (blk_cell HNB5.out 2).trans (rfl : _ = some (Value.slice A2 P.b.length c2))
        clear cutA cutB HBA HWS
        go_wp2_with (at_builtin; refine Kd.R_append_rows kPv (Rr := kPv.M (w5.alloc (.cells #[.string P.nm, .int .i64 P.n, .slice A2 P.b.length c2] 168)) b (fun k => x k ∧ k < w5.heap.size)) (w0 := wr) b rfl (.tmp 70) (.tmp 71) 101 168 (.agg #[(.string ⟨#[]⟩), (.int .i64 0), (.slice none 0 0)]) 48 rfl Try.underlying101 infoPv rfl (by decide) (by omega) (.slice (some ⟨w5.heap.size, 0, none⟩) 1 1) [P] rs A5 rs.length c5 x (fun k => x k ∧ k < w5.heap.size) rfl rfl (pv_lit (Nat.le_trans hbw HBR5.out.size) (HX.out _ HBR5.out.size) P (Kd.R_below R4.out HBR5.out)) (pv_rows (Kd.Q_of_R HR5.out) (below_alloc (Below.refl _ _) _)) (fun _ _ h => h) (fun k hk => ⟨hk.1, fun e => by simp [Value.ownBlock] at e; omega⟩) (fun k hk => HX.out k (Nat.le_trans HBR5.out.size (Nat.le_trans (below_alloc (Below.refl w5.heap.size w5) _).size hk))) ((below_step HBR5.out (below_alloc (Below.refl _ _) _)).mono hbw) (Nat.le_trans hbw (below_step HBR5.out (below_alloc (Below.refl _ _) _)).size) (by simp; omega) ?_; intro v7 w7 h7 hb7 hg7 hat7; obtain ⟨A7, c7, rfl, hc7, _⟩ := Kd.R_reads h7; have hbr7 : Below wr.heap.size wr w7 := ⟨hb7.os, hb7.tape, hb7.output, hb7.size, fun q hq => (hg7.block q (Nat.lt_of_lt_of_le hq (below_step HBR5.out (below_alloc (Below.refl _ _) _)).size) (fun e => by have h9 := HBR5.out.size; simp [Value.ownBlock] at e; omega)).trans ((below_step HBR5.out (below_alloc (Below.refl _ _) _)).block q hq)⟩; have hnb7 := (hg7.block pb (blk_lt (blk_alloc HNB5.out _)) (fun e => by have h9 := blk_lt HNB5.out; simp [Value.ownBlock] at e; omega)).trans (blk_alloc HNB5.out _); replace t2 := (blk_cell hnb7 2).trans (rfl : _ = some (Value.slice A2 P.b.length c2)); have hgb7 := blk_below HB0.out hbr7; have k0 := (blk_cell hgb7 0).trans (rfl : _ = some (Value.slice (some ad) s.L.length c1)); have k2 := (blk_cell hgb7 2).trans (rfl : _ = some (Value.int .i64 s.hits)); have f0 := blk_frozen hgb7 0; have f2 := blk_frozen hgb7 2; have HG7 := Aside0.mk hgb7; have HR7 := Aside0.mk h7; have HBR7 := Aside0.mk hbr7; clear h7 hb7 hg7 hat7 hbr7 hnb7 hgb7 s0 t0 t1)
        go_ret
        have hg0 := fun v => blk_put HG7.out 0 v rfl
        rw [HP.out]
        refine ⟨_, _, rfl, R_setC (R_setC (Kd.R_below R4.out HBR7.out) HG7.out) (hg0 _), ?_, ((KeepBut.of_below HBR7.out g none).set_ 0 _).set_ 2 _, ((HBR7.out.mono hbw).setCell (p := ⟨g, 0, none⟩) hg _).setCell (p := ⟨g, 2, none⟩) hg _⟩
        rw [List.eraseIdx_eq_take_drop_succ, ← HRS.out]
        exact RC.put (blk_put (hg0 _) 2 _ rfl) (Q_setC (Q_setC (Kd.Q_of_R HR7.out) HG7.out) (hg0 _)) hg (fun q hq => HX.out q (by rw [setsz, setsz] at hq; exact Nat.le_trans HBR7.out.size hq)) rfl
end Go.Proofs.Ytpnbjpkdbiiogaa
/- The reference's cache: a piece that is read. -/
namespace Go.Proofs.Ytpnbjpkdbiiogaa
set_option linter.unusedVariables false
open Go.RowKit Go.Maps Go.Proofs.YtpnbjpkdbiiogaaW.PrintWords
attribute [local go_sem] mx2 mn2 mxTwo mnTwo

theorem find_never {L : List PcV} {nm : ByteArray} {k : Int} (h : L.findIdx? (isP nm k) = none) : ∀ j, j < L.length → ¬ ((L.getD j zPv).nm = nm ∧ (L.getD j zPv).n = k) := fun j hj => by
  have e : L.getD j zPv = L[j] := by rw [List.getD_eq_getElem?_getD, List.getElem?_eq_getElem (by omega)]; rfl
  rw [e]
  exact find_none h _ (List.getElem_mem _)
set_option maxHeartbeats 2000000 in
set_option maxRecDepth 100000 in
theorem rget_miss (x : Nat → Prop) (b g mostN : Nat) (s : WSt) (w : World) (h : RC w b x g mostN s) (hl : s.L.length ≤ 1000000) (nm : ByteArray) (k : Int) (hk0 : 0 ≤ k) (hk1 : k ≤ 100000) (An : Option Addr) (cn : Nat) (now : List Int) (hnl : now.length ≤ 1048576) (hnow : ∀ W, KeepBut w W g none → Kd.C (Kd.int .u8) W An now.length now) (hm0 : 0 ≤ s.misses) (hm1 : s.misses ≤ 1000000) (hml : s.L.length ≤ mostN) (hm9 : 1 ≤ mostN) (hf : s.L.findIdx? (isP nm k) = none) (bs : List Int) (hbs : bs = readL now (256 * k) 256) :
    Calls Try.prog 108 #[.pointer (some ⟨g, 0, none⟩), .string nm, .int .i64 k, .slice An now.length cn] w fun e w' => ∃ A' c', e = .returned (.slice A' bs.length c') ∧ Kd.R (Kd.int .u8) 5 w' b x (.slice A' bs.length c') bs ∧ RC w' b x g mostN ⟨((⟨nm, k, bs⟩ : PcV) :: s.L).take mostN, s.hits, s.misses + 1⟩ ∧ KeepBut w w' g none ∧ Below b w w' := by
  obtain ⟨⟨vL, hb, hq⟩, hg, hx⟩ := h
  obtain ⟨A1, c1, rfl, hlc⟩ := Kd.Q_slice hq
  have HBE := Aside0.mk (find_never hf)
  have HB0 := Aside0.mk hb
  have HQ := Aside0.mk hq
  have HX := Aside0.mk hx
  have HNOW := Aside0.mk hnow
  have HBS := Aside0.mk hbs
  have s0 := (blk_cell hb 0).trans (rfl : _ = some (Value.slice A1 s.L.length c1))
  have s3 := (blk_cell hb 3).trans (rfl : _ = some (Value.int .i64 s.misses))
  have f3 := blk_frozen hb 3
  have hbw : b ≤ w.heap.size := Nat.le_trans hg (Nat.le_of_lt (blk_lt hb))
  have hwm : IntKind.i64.wrap (s.misses + 1) = s.misses + 1 := by rw [IntKind.wrap_i64]; omega
  have hwk : IntKind.i64.wrap (256 * k) = 256 * k := by rw [IntKind.wrap_i64]; omega
  clear hb hq hf hnow hbs
  go_enter Try.func108, Try.ntmps108
  go_wp2_with fail
  go_loopg [9] s.L.length (fun z v9 wr => ∃ j : Nat, v9 = .int .i64 (j : Int) ∧ j ≤ s.L.length ∧ Aside0 (z = s.L.length - j) ∧ wr = w)
  case atStart => exact ⟨0, rfl, Nat.zero_le _, ⟨rfl⟩, rfl⟩
  case round =>
    obtain ⟨j, rfl, hj, hz, rfl⟩ := hrel
    by_cases hlt : j < s.L.length
    · obtain ⟨ad, A2, c2, rfl, r1, r2, r3, r4⟩ := at_Pv HQ.out j (by omega)
      clear r3 r4
      have hno := HBE.out j hlt
      have HNO := Aside0.mk hno
      by_cases hs : (s.L.getD j zPv).nm = nm
      · have hs2 : ¬ (s.L.getD j zPv).n = k := fun e => HNO.out ⟨hs, e⟩
        have e1 := bs_eq _ _ hs
        have e2 : ((s.L.getD j zPv).n == k) = false := beq_eq_false_iff_ne.mpr hs2
        clear hs hs2
        generalize s.L.getD j zPv = pj at *
        go_wp2_with fail
        go_roundg (s.L.length - (j + 1))
        case measure => have := hz.out; omega
        case rel => exact ⟨j + 1, by go_num, by omega, ⟨rfl⟩, rfl⟩
      · have e1 := bs_ne _ _ hs
        clear hs
        generalize s.L.getD j zPv = pj at *
        go_wp2_with fail
        go_roundg (s.L.length - (j + 1))
        case measure => have := hz.out; omega
        case rel => exact ⟨j + 1, by go_num, by omega, ⟨rfl⟩, rfl⟩
    · obtain rfl : j = s.L.length := by omega
      have HG3 := Aside0.mk (blk_put HB0.out 3 (.int .i64 (s.misses + 1)) rfl)
      have HQ3 := Aside0.mk (Q_setC (i := 3) (u := .int .i64 (s.misses + 1)) HQ.out HB0.out)
      clear HBE
      obtain ⟨W3, hW3⟩ : ∃ W3, W3 = (wr.setCell ⟨g, 3, none⟩ (.int .i64 (s.misses + 1))).alloc (.cells #[.slice An now.length cn, .slice none 0 0, .slice none 0 0] 46) := ⟨_, rfl⟩
      have HK3 := Aside0.mk (show KeepBut wr W3 g none by rw [hW3]; exact keep_alloc ((KeepBut.refl _ _ _).set_ 3 _) _)
      have HL3 := Aside0.mk (show Below b wr W3 by rw [hW3]; exact ((Below.refl b wr).setCell (p := ⟨g, 3, none⟩) hg _).alloc (by rw [setsz]; exact hbw) _)
      have HS3 := Aside0.mk (show wr.heap.size ≤ W3.heap.size from HK3.out.1)
      have HF3 := Aside0.mk (show W3.cell? ⟨wr.heap.size, 0, none⟩ = some (.slice An now.length cn) by
        have h := blk_new (wr.setCell ⟨g, 3, none⟩ (.int .i64 (s.misses + 1))) (.cells #[.slice An now.length cn, .slice none 0 0, .slice none 0 0] 46)
        rw [setsz, ← hW3] at h
        exact (blk_cell h 0).trans rfl)
      have HG4 := Aside0.mk (show W3.heap[g]? = some (.cells #[.slice A1 s.L.length c1, .int .i64 (mostN : Int), .int .i64 s.hits, .int .i64 (s.misses + 1)] 103 (0, 0)) by rw [hW3]; exact blk_alloc HG3.out _)
      have HQ4 := Aside0.mk (show kPv.Q 168 W3 b x (.slice A1 s.L.length c1) s.L by rw [hW3]; exact Kd.Q_alloc HQ3.out _)
      have HW3 := Aside0.mk hW3
      clear hW3 HG3 HQ3 HB0 HQ
      go_wp2_with (go_at_call 91; rw [← HW3.out]; refine (rread_own wr.heap.size An cn now (256 * k) 256 _ HF3.out (HNOW.out _ HK3.out) (by omega)).mono ?_; rw [← HBS.out]; rintro e w4 ⟨v4, rfl, hv, hb4⟩; obtain ⟨A4, c4, rfl⟩ := Kd.R_slice hv; have HG5 := Aside0.mk (blk_below HG4.out hb4); have HQ5 := Aside0.mk (Kd.Q_below HQ4.out hb4); have HK4 := Aside0.mk (HK3.out.trans (KeepBut.of_below hb4 g none) (.inl rfl)); have HL4 := Aside0.mk (HL3.out.trans (hb4.mono (Nat.le_trans hbw HS3.out))); have HV4 := Aside0.mk (freshU (x := x) hv (Nat.le_trans hbw HS3.out) (fun q hq => HX.out q (Nat.le_trans HS3.out hq))); have HS4 := Aside0.mk (Nat.le_trans HS3.out hb4.size); clear hv hb4 s0 s3 f3)
      obtain ⟨W5, hW5⟩ : ∃ W5, W5 = w4.alloc (.cells #[.string nm, .int .i64 k, .slice A4 bs.length c4] 168) := ⟨_, rfl⟩
      have hnb : W5.heap[w4.heap.size]? = some (.cells #[.string nm, .int .i64 k, .slice A4 bs.length c4] 168 (0, 0)) := by rw [hW5]; exact blk_new _ _
      have hb5 : Below w4.heap.size w4 W5 := by rw [hW5]; exact below_alloc (Below.refl _ _) _
      rw [← hW5]
      obtain ⟨pb, hpb⟩ : ∃ pb, pb = w4.heap.size := ⟨_, rfl⟩
      rw [← hpb] at hnb ⊢
      have hpg : pb ≠ g := by have := blk_lt HG5.out; omega
      have hgp : g ≠ pb := hpg.symm
      have HB5 := Aside0.mk hb5
      have HNB := Aside0.mk hnb
      have s0 := (blk_cell (blk_below HG5.out hb5) 0).trans (rfl : _ = some (Value.slice A1 s.L.length c1))
      have t0 := (blk_cell hnb 0).trans (rfl : _ = some (Value.string nm))
      have t1 := (blk_cell hnb 1).trans (rfl : _ = some (Value.int .i64 k))
      have t2 := (blk_cell hnb 2).trans (rfl : _ = some (Value.slice A4 bs.length c4))
      have HLA := Aside0.mk (show Below b wr (W5.alloc (.cells #[.string nm, .int .i64 k, .slice A4 bs.length c4] 168)).drew from below_drew1 ((HL4.out.trans (hb5.mono (Nat.le_trans hbw HS4.out))).alloc (Nat.le_trans hbw (Nat.le_trans HS4.out hb5.size)) _))
      have HAF := Aside0.mk (show ∀ w7, Below b wr w7 → World.grownBy (W5.alloc (.cells #[.string nm, .int .i64 k, .slice A4 bs.length c4] 168)).drew w7 (Value.slice (some ⟨W5.heap.size, 0, none⟩) 1 1).ownBlock → Below W5.heap.size W5 w7 from fun w7 h7 hg7 => by
        have ha := below_drew1 (below_alloc (Below.refl W5.heap.size W5) (.cells #[.string nm, .int .i64 k, .slice A4 bs.length c4] 168))
        have hL := HL4.out.trans (hb5.mono (Nat.le_trans hbw HS4.out))
        exact ⟨h7.os.trans hL.os.symm, h7.tape.trans hL.tape.symm, h7.output.trans hL.output.symm, Nat.le_trans ha.size hg7.size, fun q hq => (hg7.block q (Nat.lt_of_lt_of_le hq ha.size) (fun e => by simp [Value.ownBlock] at e; omega)).trans (ha.block q hq)⟩)
      have s0a := cell_al (.cells #[.string nm, .int .i64 k, .slice A4 bs.length c4] 168) s0
      clear hW5 hpb hnb hb5 HG4 HQ4 HF3 HW3
      go_region_law (refine Kd.R_append_rows_step kPv (Rr := kPv.M (W5.alloc (.cells #[.string nm, .int .i64 k, .slice A4 bs.length c4] 168)).drew b (fun k => x k ∧ k < W5.heap.size)) (w0 := wr) b (by rfl) (.tmp 103) (.tmp 107) 101 168 (.agg #[(.string ⟨#[]⟩), (.int .i64 0), (.slice none 0 0)]) 48 rfl Try.underlying101 infoPv rfl (by decide) (by omega) (.slice (some ⟨W5.heap.size, 0, none⟩) 1 1) [(⟨nm, k, bs⟩ : PcV)] s.L A1 s.L.length c1 x (fun k => x k ∧ k < W5.heap.size) (by rfl) (by rfl) (Kd.R_drew (pv_lit (Nat.le_trans hbw (Nat.le_trans HS4.out HB5.out.size)) (HX.out _ (Nat.le_trans HS4.out HB5.out.size)) (⟨nm, k, bs⟩ : PcV) (Kd.R_below HV4.out HB5.out))) (pv_rows (Kd.Q_below HQ5.out HB5.out) (below_drew1 (below_alloc (Below.refl _ _) _))) (fun _ _ h => h) (fun k hk => ⟨hk.1, fun e => by simp [Value.ownBlock] at e; omega⟩) (fun k hk => HX.out k (Nat.le_trans (Nat.le_trans HS4.out HB5.out.size) (Nat.le_trans (below_drew1 (below_alloc (Below.refl W5.heap.size W5) _)).size hk))) (HLA.out) (Nat.le_trans hbw (Nat.le_trans (Nat.le_trans HS4.out HB5.out.size) (below_drew1 (below_alloc (Below.refl W5.heap.size W5) _)).size)) (by simp; omega) ?_; intro v7 w7 h7 hb7 hg7 hat7; obtain ⟨A7, c7, rfl, hc7, _⟩ := Kd.R_reads h7; have hb57 : Below W5.heap.size W5 w7 := HAF.out w7 hb7 hg7; have hgb7 := blk_below HG5.out (below_step HB5.out hb57); have hnb7 := blk_below HNB.out hb57; replace s0 := (blk_cell hgb7 0).trans (rfl : _ = some (Value.slice A1 s.L.length c1)); have f0 := blk_frozen hgb7 0; replace t0 := pw_cell_below hb57 t0; replace t1 := pw_cell_below hb57 t1; replace t2 := pw_cell_below hb57 t2; have HG7 := Aside0.mk hgb7; have HR7 := Aside0.mk h7; have HB7 := Aside0.mk (below_step HB5.out hb57); have HL7 := Aside0.mk hb7; clear h7 hb7 hg7 hat7 hb57 hgb7 hnb7 HLA HAF s0a)
      all_goals
        go_wp2_with fail
        have hg8 := blk_put HG7.out 0 (Value.slice A7 (s.L.length + 1) c7) rfl
        have HQ8 := Aside0.mk (Q_setC (i := 0) (u := Value.slice A7 (s.L.length + 1) c7) (Kd.Q_of_R HR7.out) HG7.out)
        have HV8 := Aside0.mk (R_setC (i := 0) (u := Value.slice A7 (s.L.length + 1) c7) (Kd.R_below HV4.out HB7.out) HG7.out)
        have HK8 := Aside0.mk ((HK4.out.trans (KeepBut.of_below HB7.out g none) (.inl rfl)).set_ 0 (Value.slice A7 (s.L.length + 1) c7))
        have HL8 := Aside0.mk (HL7.out.setCell (p := ⟨g, 0, none⟩) hg (Value.slice A7 (s.L.length + 1) c7))
        have t2' := (cell_far (p := ⟨g, 0, none⟩) (a := ⟨pb, 2, none⟩) hpg (Value.slice A7 (s.L.length + 1) c7)).trans t2
        generalize World.setCell w7 ⟨g, 0, none⟩ (Value.slice A7 (s.L.length + 1) c7) = W8 at *
        have k0 := (blk_cell hg8 0).trans (rfl : _ = some (Value.slice A7 (s.L.length + 1) c7))
        have k1 := (blk_cell hg8 1).trans (rfl : _ = some (Value.int .i64 (mostN : Int)))
        have f8 := blk_frozen hg8 0
        have HG8 := Aside0.mk hg8
        clear hg8 t0 t1 t2 s0 f0 HG7 HR7 HB7 HL7 HQ5 HG5 HB5 HNB HV4 HNOW
        have hc7' : s.L.length + 1 ≤ c7 := by simpa using hc7
        have HS8 := Aside0.mk HK8.out.1
        by_cases hev : mostN < s.L.length + 1
        · have cutM : ∀ W : World, (Instr.slice 101 (.slice A7 (s.L.length + 1) c7) none (some (.int .i64 (mostN : Int))) none).run Try.prog W = .ok (.slice A7 mostN c7) W := fun W => by
            obtain ⟨i0, hi0, hz0, hz1, hz2⟩ := info_parts infoPv
            have := cut_to (P := Try.prog) 101 168 .i64 Try.underlying101 hi0 A7 (s.L.length + 1) c7 (mostN : Int) (by omega) (by omega) hc7' W
            simpa using this
          go_quiet (fail)
          go_wp2_with fail
          generalize hW9 : World.drewN _ _ = W9
          have hb9 : Below W8.heap.size W8 W9 := by rw [← hW9]; exact pw_below_drewN (Below.refl _ _) _
          replace k0 := pw_cell_below hb9 k0
          replace k1 := pw_cell_below hb9 k1
          have t29 := pw_cell_below hb9 t2'
          have f9 := blk_frozen (blk_below HG8.out hb9) 0
          have HB9 := Aside0.mk hb9
          clear hW9 hb9 t2' f8
          go_region
          all_goals
            go_wp2_with fail
            go_ret
            have hg9 := blk_below HG8.out HB9.out
            refine ⟨_, _, rfl, R_setC (Kd.R_below HV8.out HB9.out) hg9, ?_, (HK8.out.trans (KeepBut.of_below HB9.out g none) (.inl rfl)).set_ 0 _, by first | exact (HL8.out.trans (HB9.out.mono (Nat.le_trans hbw HS8.out))).setCell (p := ⟨g, 0, none⟩) hg _ | exact below_drew1 ((HL8.out.trans (HB9.out.mono (Nat.le_trans hbw HS8.out))).setCell (p := ⟨g, 0, none⟩) hg _)⟩
            exact RC.put (blk_put hg9 0 _ rfl) (Q_setC (Kd.Q_take (Kd.Q_below HQ8.out HB9.out) (m := mostN) (by simp; omega)) hg9) hg (fun q hq => HX.out q (by (first | rw [World.size_drew, setsz] at hq | rw [setsz] at hq); exact Nat.le_trans HS8.out (Nat.le_trans HB9.out.size hq))) rfl
        · go_quiet (fail)
          go_wp2_with fail
          go_ret
          have hb9 : Below W8.heap.size W8 (W8.drewN nq) := pw_below_drewN (Below.refl _ _) _
          refine ⟨_, _, rfl, Kd.R_below HV8.out hb9, ?_, HK8.out.trans (KeepBut.of_below hb9 g none) (.inl rfl), HL8.out.trans (hb9.mono (Nat.le_trans hbw HS8.out))⟩
          rw [List.take_of_length_le (by simp; omega)]
          exact RC.put (blk_below HG8.out hb9) (Kd.Q_below HQ8.out hb9) hg (fun q hq => HX.out q (Nat.le_trans HS8.out (Nat.le_trans hb9.size hq))) rfl
end Go.Proofs.Ytpnbjpkdbiiogaa
/- The reference's cache: get, whatever is kept; Read. -/
namespace Go.Proofs.Ytpnbjpkdbiiogaa
set_option linter.unusedVariables false
open Go.RowKit Go.Maps Go.Proofs.YtpnbjpkdbiiogaaW.PrintWords
attribute [local go_sem] mx2 mn2 mxTwo mnTwo

theorem rcget_any (x : Nat → Prop) (b g mostN G : Nat) (s : WSt) (w : World) (h : RC w b x g mostN s) (ok : OkW mostN s G) (hG : G ≤ 1000000) (nm : ByteArray) (k : Int) (hk0 : 0 ≤ k) (hk1 : k ≤ 100000) (An : Option Addr) (cn : Nat) (now : List Int) (hnl : now.length ≤ 1048576) (hnow : ∀ W, KeepBut w W g none → Kd.C (Kd.int .u8) W An now.length now) (r : List Int) (s' : WSt) (hr : getS mostN now nm s k = (s', r)) :
    Calls Try.prog 108 #[.pointer (some ⟨g, 0, none⟩), .string nm, .int .i64 k, .slice An now.length cn] w fun e w' => ∃ A' c', e = .returned (.slice A' r.length c') ∧ Kd.R (Kd.int .u8) 5 w' b x (.slice A' r.length c') r ∧ RC w' b x g mostN s' ∧ KeepBut w w' g none ∧ Below b w w' := by
  have hh := ok.h
  have hm := ok.m
  have hc := ok.cnt
  have hl := ok.len
  unfold getS at hr
  cases hf : s.L.findIdx? (isP nm k) with
  | some i =>
    rw [hf] at hr
    simp only [Prod.mk.injEq] at hr
    obtain ⟨rfl, rfl⟩ := hr
    exact rget_hit x b g mostN s w h (by omega) nm k hk0 hk1 An now.length cn hh.1 (by have := hh.2; omega) i hf
  | none =>
    rw [hf] at hr
    simp only [Prod.mk.injEq] at hr
    obtain ⟨rfl, rfl⟩ := hr
    exact rget_miss x b g mostN s w h (by omega) nm k hk0 hk1 An cn now hnl hnow hm.1 (by have := hm.2; omega) hl ok.one hf _ rfl
section
variable {W W1 w : World} {b g mostN : Nat} {s : WSt}
/-- What is read is put behind what was. -/
theorem RC.grown {v v1 : Value} {b0 : Nat} {xs : List Int} {ok : Nat → Prop} (h : RC W b (xo v) g mostN s) (hg : W.grownBy W1 v.ownBlock) (hv : Kd.R (Kd.int .u8) 5 W b0 ok v xs) (hat : v1.ownBlock = v.ownBlock ∨ ∃ k, v1.ownBlock = some k ∧ W.heap.size ≤ k) (hlt : ∀ k, v1.ownBlock = some k → k < W1.heap.size) : RC W1 b (xo v1) g mostN s := by
  obtain ⟨⟨vL, hb, hq⟩, h3, h4⟩ := h
  have hty : ∀ k, v.ownBlock = some k → ∃ cells, W.heap[k]? = some (.cells cells 5 (0, 0)) := fun k hk => own_typed hv.2.choose_spec.1 k hk
  refine ⟨⟨vL, (hg.block g (blk_lt hb) (fun e => ?_)).trans hb, ?_⟩, h3, fun k hk e => ?_⟩
  · obtain ⟨cs2, hc2⟩ := hty g e.symm
    exact blk_ne hb hc2 (by decide) rfl
  · refine Kd.Q_mono (Kd.Q_grown (ok := fun k => some k ≠ v.ownBlock ∧ some k ≠ v1.ownBlock) (Kd.Q_mono (Kd.Q_bound hq) (fun k hk => ⟨hk.1, fun e => ?_⟩)) hg (fun k hk => hk.1)) (fun k hk => hk.2)
    rcases hat with e1 | ⟨j, e1, hj⟩
    · exact hk.1 (e.trans e1)
    · rw [e1] at e
      injection e with e
      have := hk.2.2.1
      omega
  · have := hlt k e.symm
    omega
theorem RU_grown {v v1 u : Value} {ys : List Int} (h : Kd.R (Kd.int .u8) 5 W b (xo v) u ys) (hg : W.grownBy W1 v.ownBlock) (hat : v1.ownBlock = v.ownBlock ∨ ∃ k, v1.ownBlock = some k ∧ W.heap.size ≤ k) : Kd.R (Kd.int .u8) 5 W1 b (xo v1) u ys := by
  refine Kd.R_mono (Kd.R_grown (ok := fun k => some k ≠ v.ownBlock ∧ some k ≠ v1.ownBlock) (Kd.R_mono (Kd.R_bound h) (fun k hk => ⟨hk.1, fun e => ?_⟩)) hg (fun k hk => hk.1)) (fun k hk => hk.2)
  rcases hat with e1 | ⟨j, e1, hj⟩
  · exact hk.1 (e.trans e1)
  · rw [e1] at e
    injection e with e
    have := hk.2.2.1
    omega
theorem RU_keep {x : Nat → Prop} {v : Value} {ys : List Int} {cs : Array Value} (h : Kd.R (Kd.int .u8) 5 W b x v ys) (hb : W.heap[g]? = some (.cells cs 103 (0, 0))) (hk : KeepBut W W1 g none) : Kd.R (Kd.int .u8) 5 W1 b x v ys :=
  Kd.R_mono (Kd.R_keep (Kd.R_types h hb (u8E _ (by decide))) hk (fun k hk => hk.2)) (fun k hk => hk.1)
theorem RC.blk {x : Nat → Prop} (h : RC W b x g mostN s) : ∃ cs, W.heap[g]? = some (.cells cs 103 (0, 0)) := by
  obtain ⟨⟨vL, hb, _⟩, _, _⟩ := h
  exact ⟨_, hb⟩
theorem RU_rc {b' : Nat} {x x' : Nat → Prop} {v : Value} {ys : List Int} (h : Kd.R (Kd.int .u8) 5 W b' x v ys) (hr : RC W b x' g mostN s) (hk : KeepBut W W1 g none) : Kd.R (Kd.int .u8) 5 W1 b' x v ys := by
  obtain ⟨cs, hb⟩ := hr.blk
  exact RU_keep h hb hk
end
theorem rd_getD (l : List Int) (o : Nat) : rd l (o : Int) = l.getD o 0 := by unfold rd; rw [Int.toNat_natCast]

/-- Between pieces, or in one. -/
def modeB (mostN : Nat) (now : List Int) (nm : ByteArray) (i a m : Nat) (s1 : WSt) (r acc : List Int) (R1 : WSt) (R2 : List Int) : Prop :=
  ((i = 0 ∨ a % 256 = 0) ∧ (R1, R2) = ((readN mostN now nm s1 a m).1, acc ++ (readN mostN now nm s1 a m).2)) ∨
  (0 < i ∧ ¬ a % 256 = 0 ∧ a % 256 < r.length ∧ r.length ≤ 256 ∧ (R1, R2) = ((midN mostN now nm s1 r a m).1, acc ++ (midN mostN now nm s1 r a m).2))
set_option maxHeartbeats 4000000 in
set_option maxRecDepth 100000 in
theorem rcread_any (b g mostN G : Nat) (s : WSt) (w : World) (h : RC w b (fun _ => True) g mostN s) (ok : OkW mostN s G) (nm : ByteArray) (hnm : nm.size ≤ maxLen) (at_ n : Nat) (hat : at_ ≤ 1048576) (hn : n ≤ 1048576) (hG : G + n ≤ 1000000) (An : Option Addr) (cn : Nat) (now : List Int) (hnl : now.length ≤ 1048576) (hnow : ∀ W, KeepBut w W g none → Kd.C (Kd.int .u8) W An now.length now) (R1 : WSt) (R2 : List Int) (hR : readN mostN now nm s at_ n = (R1, R2)) :
    Calls Try.prog 71 #[.pointer (some ⟨g, 0, none⟩), .string nm, .int .i64 (at_ : Int), .int .i64 (n : Int), .slice An now.length cn] w fun e w' => ∃ A' c', e = .returned (.slice A' R2.length c') ∧ Kd.C (Kd.int .u8) w' A' R2.length R2 ∧ RC w' b (fun _ => True) g mostN R1 ∧ KeepBut w w' g none ∧ Below b w w' := by
  have hbw : b ≤ w.heap.size := by
    obtain ⟨cs, hb⟩ := h.blk
    exact Nat.le_trans h.hg (Nat.le_of_lt (blk_lt hb))
  have HS := Aside0.mk (RC.reX (x' := xo (.slice none 0 0)) h (fun k _ => by show some k ≠ none; simp))
  have HOK := Aside0.mk ok
  have HNOW := Aside0.mk hnow
  have HR := Aside0.mk hR
  clear h ok hnow hR
  go_enter Try.func71, Try.ntmps71
  go_wp2_with fail
  go_loopg [11, 12, 13] n (fun z v11 v12 v13 wr => ∃ (i a m : Nat) (A : Option Addr) (oc cc : Nat) (acc : List Int) (s1 : WSt) (A4 : Option Addr) (c4 : Nat) (r : List Int), v13 = .int .i64 (i : Int) ∧ v11 = .slice A oc cc ∧ v12 = .slice A4 r.length c4 ∧ m + i = n ∧ acc.length ≤ i ∧ Aside0 (a = at_ + i) ∧ Aside0 (z = m) ∧ Aside0 (modeB mostN now nm i a m s1 r acc R1 R2) ∧ Aside0 (OkW mostN s1 (G + i)) ∧ Aside0 (RC wr b (xo (.slice A oc cc)) g mostN s1) ∧ Aside0 (Kd.R (Kd.int .u8) 5 wr b (xo (.slice A oc cc)) (.slice A4 r.length c4) r) ∧ Aside0 (KeepBut w wr g none) ∧ Aside0 (Kd.R (Kd.int .u8) 5 wr w.heap.size (fun _ => True) (.slice A oc cc) acc) ∧ Aside0 (Below b w wr))
  case atStart => exact ⟨0, at_, n, none, 0, 0, [], s, none, 0, [], rfl, rfl, rfl, rfl, Nat.le_refl _, ⟨rfl⟩, ⟨rfl⟩, ⟨.inl ⟨.inl rfl, by rw [HR.out]; rfl⟩⟩, HOK, HS, ⟨Kd.R_nil _ _ _ _ _⟩, ⟨KeepBut.refl _ _ _⟩, ⟨Kd.R_nil _ _ _ _ _⟩, ⟨Below.refl _ _⟩⟩
  case round =>
    clear HS HOK HR
    obtain ⟨i, a, m, A, oc, cc, acc, s1, A4, c4, r, rfl, rfl, rfl, hmi, hal, HA, hz, HM, HOK, HS, HV, HK, HO, HB⟩ := hrel
    by_cases hm0 : 0 < m
    · have hlt : (i : Int) < (n : Int) := by omega
      obtain ⟨kk, hkk⟩ : ∃ kk, kk = a / 256 := ⟨_, rfl⟩
      obtain ⟨o, ho⟩ : ∃ o, o = a % 256 := ⟨_, rfl⟩
      have hq1 : (a : Int) / 256 = (kk : Int) := by omega
      have hq2 : (a : Int) % 256 = (o : Int) := by omega
      have hwa : IntKind.i64.wrap ((at_ : Int) + (i : Int)) = (a : Int) := by have := HA.out; rw [IntKind.wrap_i64]; omega
      have hal1 : a ≤ 2097152 := by have := HA.out; omega
      have HOA := Aside0.mk ho
      rcases HM.out with ⟨hbd, hrn⟩ | ⟨hi0, hne, hor, hrl, hmid⟩
      · clear HV HM
        obtain ⟨r, s2, hg⟩ : ∃ r s2, getS mostN now nm s1 (kk : Int) = (s2, r) := ⟨_, _, rfl⟩
        have hok2 := getS_ok (now := now) HOK.out hnm (k := (kk : Int)) (by omega)
        rw [hg] at hok2
        have hrl := hok2.2
        simp only at hrl
        have hstep := readN_step mostN now nm s1 a m hm0
        rw [← hkk, ← ho, hg] at hstep
        simp only at hstep
        have hgo := rcget_any (xo (.slice A oc cc)) b g mostN (G + i) s1 wr HS.out HOK.out (by omega) nm (kk : Int) (by omega) (by omega) An cn now hnl (fun W hW => HNOW.out W (HK.out.trans hW (.inl rfl))) r s2 hg
        have HGO := Aside0.mk hgo
        have HST := Aside0.mk hstep
        have HOK2 := Aside0.mk hok2.1
        have HRN := Aside0.mk hrn
        clear hkk hg hok2 hstep hgo hrn
        rcases Nat.eq_zero_or_pos i with hi0 | hi0
        · have q3 : ((i : Int) == 0) = true := beq_iff_eq.mpr (by omega)
          have q3' : (i == 0) = true := beq_iff_eq.mpr hi0
          clear hbd ho hi0
          by_cases hro : r.length ≤ o
          · have HR2 := Aside0.mk (show R1 = s2 ∧ R2 = acc by
              have e := HRN.out
              rw [HST.out, if_pos hro] at e
              simp only [Prod.mk.injEq, List.append_nil] at e
              exact e)
            have dro : decide ((r.length : Int) ≤ (o : Int)) = true := decide_eq_true (by omega)
            have dro' : decide (r.length ≤ o) = true := decide_eq_true hro
            clear hro
            go_wp2_with (go_at_call 108; refine (HGO.out).mono ?_; rintro e w4 ⟨A4, c4, rfl, hv4, hs4, hk4, hb4⟩; have HS4 := Aside0.mk hs4; have HK4 := Aside0.mk (HK.out.trans hk4 (.inl rfl)); have HO4 := Aside0.mk (RU_rc HO.out HS.out hk4); have HB4 := Aside0.mk (HB.out.trans hb4); clear hv4 hs4 hk4 hb4)
            obtain ⟨A9, c9, e9, _, hC9⟩ := Kd.R_reads HO4.out
            cases e9
            go_ret
            rw [HR2.out.1, HR2.out.2]
            first | exact ⟨_, _, rfl, hC9, HS4.out.reX (fun _ _ => trivial), HK4.out, HB4.out⟩ | exact ⟨_, ⟨_, rfl⟩, hC9, HS4.out.reX (fun _ _ => trivial), HK4.out, HB4.out⟩
          · have dro : decide ((r.length : Int) ≤ (o : Int)) = false := decide_eq_false (by omega)
            have dro' : decide (r.length ≤ o) = false := decide_eq_false hro
            have HMID := Aside0.mk (show (R1, R2) = ((midN mostN now nm s2 r a m).1, acc ++ (midN mostN now nm s2 r a m).2) by
              have e := HRN.out
              rw [HST.out, if_neg hro] at e
              exact e)
            have hwl : IntKind.i64.wrap ((r.length : Int) - 1) = (r.length : Int) - 1 := by rw [IntKind.wrap_i64]; omega
            clear HST
            rcases Nat.lt_or_ge (o + 1) r.length with hin | hend
            · have q1 : ((o : Int) == (r.length : Int) - 1) = false := beq_eq_false_iff_ne.mpr (by omega)
              have HMD := Aside0.mk (show (R1, R2) = ((midN mostN now nm s2 r (a + 1) (m - 1)).1, (acc ++ [rd r (o : Int)]) ++ (midN mostN now nm s2 r (a + 1) (m - 1)).2) by
                have e := HMID.out
                rw [midN_more mostN now nm s2 r a m (by omega) (by rw [← HOA.out]; exact hin) hrl, ← HOA.out] at e
                rw [e, rd_getD, List.append_assoc]
                rfl)
              have HI1 := Aside0.mk (show ¬ (a + 1) % 256 = 0 by have := HOA.out; omega)
              have HI2 := Aside0.mk (show (a + 1) % 256 < r.length by have := HOA.out; omega)
              go_wp2_with (first | (go_at_call 108; refine (HGO.out).mono ?_; rintro e w4 ⟨A4, c4, rfl, hv4, hs4, hk4, hb4⟩; obtain ⟨ad4, rfl, hx4⟩ := at_nat (Kd.R_reads' hv4).2.2 o (by omega); have HS4 := Aside0.mk hs4; have HK4 := Aside0.mk (HK.out.trans hk4 (.inl rfl)); have HO4 := Aside0.mk (RU_rc HO.out HS.out hk4); have HB4 := Aside0.mk (HB.out.trans hb4); have HV4 := Aside0.mk hv4; clear hv4 hs4 hk4 hb4) | (at_builtin; refine Kd.R_append (Kd.int .u8) (w0 := _) w.heap.size rfl (.tmp 44) (.tmp 52) 22 5 (.int .u8 0) 1 rfl Try.underlying22 infoU8 rfl (by decide) (by omega) (.slice A oc cc) acc (rd r (o : Int)) [.int .u8 (rd r (o : Int))] (fun _ => True) (fun _ => False) rfl rfl rfl (fun _ h => h.elim) (fun _ _ => trivial) HO4.out (Below.refl _ _) HK4.out.1 (by omega) ?_; intro v5 w5 h5 hb5 hg5 hat5; obtain ⟨A5, c5, rfl, hc5, _⟩ := Kd.R_reads h5; rw [show (acc ++ [rd r (o : Int)]).length = acc.length + 1 from by simp] at h5 hat5 ⊢; have hlt5 := R_lt h5; have HS5 := Aside0.mk (HS4.out.grown hg5 HO4.out hat5 hlt5); have HV5 := Aside0.mk (RU_grown HV4.out hg5 hat5); have HK5 := Aside0.mk (HK4.out.trans (KeepBut.of_grown hg5 g) (Kd.R_base2 HO4.out)); have HO5 := Aside0.mk h5; have HB5 := Aside0.mk (HB4.out.trans (hb5.mono hbw)); clear h5 hb5 hg5 hat5 hlt5))
              go_roundg (m - 1)
              case measure => have := hz.out; omega
              case rel => exact ⟨i + 1, a + 1, m - 1, A5, _, c5, acc ++ [rd r (o : Int)], s2, _, _, r, by go_num, rfl, rfl, by omega, by simp; omega, ⟨by have := HA.out; omega⟩, ⟨rfl⟩, ⟨.inr ⟨by omega, HI1.out, HI2.out, hrl, HMD.out⟩⟩, ⟨HOK2.out.up (by omega)⟩, HS5, HV5, HK5, HO5, HB5⟩
            · have hoe : o + 1 = r.length := by omega
              have HOE := Aside0.mk hoe
              have q1 : ((o : Int) == (r.length : Int) - 1) = true := beq_iff_eq.mpr (by omega)
              have HLA := Aside0.mk (show (R1, R2) = if r.length < 256 then (s2, acc ++ [rd r (o : Int)]) else ((readN mostN now nm s2 (a + 1) (m - 1)).1, (acc ++ [rd r (o : Int)]) ++ (readN mostN now nm s2 (a + 1) (m - 1)).2) by
                have e := HMID.out
                rw [midN_last mostN now nm s2 r a m (by omega) (by rw [← HOA.out]; exact hoe), ← HOA.out] at e
                rw [e, rd_getD]
                split
                · rfl
                · rw [List.append_assoc]
                  rfl)
              clear hoe
              rcases Nat.lt_or_ge r.length 256 with h256 | h256
              · have HEND := Aside0.mk (show R1 = s2 ∧ R2 = acc ++ [rd r (o : Int)] by
                  have e := HLA.out
                  rw [if_pos h256] at e
                  simpa using e)
                have d5 : decide ((r.length : Int) < 256) = true := decide_eq_true (by omega)
                have d5' : decide (r.length < 256) = true := decide_eq_true h256
                go_wp2_with (first | (go_at_call 108; refine (HGO.out).mono ?_; rintro e w4 ⟨A4, c4, rfl, hv4, hs4, hk4, hb4⟩; obtain ⟨ad4, rfl, hx4⟩ := at_nat (Kd.R_reads' hv4).2.2 o (by omega); have HS4 := Aside0.mk hs4; have HK4 := Aside0.mk (HK.out.trans hk4 (.inl rfl)); have HO4 := Aside0.mk (RU_rc HO.out HS.out hk4); have HB4 := Aside0.mk (HB.out.trans hb4); have HV4 := Aside0.mk hv4; clear hv4 hs4 hk4 hb4) | (at_builtin; refine Kd.R_append (Kd.int .u8) (w0 := _) w.heap.size rfl (.tmp 44) (.tmp 52) 22 5 (.int .u8 0) 1 rfl Try.underlying22 infoU8 rfl (by decide) (by omega) (.slice A oc cc) acc (rd r (o : Int)) [.int .u8 (rd r (o : Int))] (fun _ => True) (fun _ => False) rfl rfl rfl (fun _ h => h.elim) (fun _ _ => trivial) HO4.out (Below.refl _ _) HK4.out.1 (by omega) ?_; intro v5 w5 h5 hb5 hg5 hat5; obtain ⟨A5, c5, rfl, hc5, _⟩ := Kd.R_reads h5; rw [show (acc ++ [rd r (o : Int)]).length = acc.length + 1 from by simp] at h5 hat5 ⊢; have hlt5 := R_lt h5; have HS5 := Aside0.mk (HS4.out.grown hg5 HO4.out hat5 hlt5); have HV5 := Aside0.mk (RU_grown HV4.out hg5 hat5); have HK5 := Aside0.mk (HK4.out.trans (KeepBut.of_grown hg5 g) (Kd.R_base2 HO4.out)); have HO5 := Aside0.mk h5; have HB5 := Aside0.mk (HB4.out.trans (hb5.mono hbw)); clear h5 hb5 hg5 hat5 hlt5))
                obtain ⟨_, _, hC9⟩ := Kd.R_reads' HO5.out
                go_ret
                rw [HEND.out.1, HEND.out.2]
                rw [show (acc ++ [rd r (o : Int)]).length = acc.length + 1 from by simp] at hC9 ⊢
                first | exact ⟨_, _, rfl, hC9, HS5.out.reX (fun _ _ => trivial), HK5.out, HB5.out⟩ | exact ⟨_, ⟨_, rfl⟩, hC9, HS5.out.reX (fun _ _ => trivial), HK5.out, HB5.out⟩
              · have HEND := Aside0.mk (show (R1, R2) = ((readN mostN now nm s2 (a + 1) (m - 1)).1, (acc ++ [rd r (o : Int)]) ++ (readN mostN now nm s2 (a + 1) (m - 1)).2) by
                  have e := HLA.out
                  rw [if_neg (by omega)] at e
                  exact e)
                have HI1 := Aside0.mk (show (a + 1) % 256 = 0 by have := HOA.out; have := HOE.out; omega)
                have d5 : decide ((r.length : Int) < 256) = false := decide_eq_false (by omega)
                have d5' : decide (r.length < 256) = false := decide_eq_false (by omega)
                go_wp2_with (first | (go_at_call 108; refine (HGO.out).mono ?_; rintro e w4 ⟨A4, c4, rfl, hv4, hs4, hk4, hb4⟩; obtain ⟨ad4, rfl, hx4⟩ := at_nat (Kd.R_reads' hv4).2.2 o (by omega); have HS4 := Aside0.mk hs4; have HK4 := Aside0.mk (HK.out.trans hk4 (.inl rfl)); have HO4 := Aside0.mk (RU_rc HO.out HS.out hk4); have HB4 := Aside0.mk (HB.out.trans hb4); have HV4 := Aside0.mk hv4; clear hv4 hs4 hk4 hb4) | (at_builtin; refine Kd.R_append (Kd.int .u8) (w0 := _) w.heap.size rfl (.tmp 44) (.tmp 52) 22 5 (.int .u8 0) 1 rfl Try.underlying22 infoU8 rfl (by decide) (by omega) (.slice A oc cc) acc (rd r (o : Int)) [.int .u8 (rd r (o : Int))] (fun _ => True) (fun _ => False) rfl rfl rfl (fun _ h => h.elim) (fun _ _ => trivial) HO4.out (Below.refl _ _) HK4.out.1 (by omega) ?_; intro v5 w5 h5 hb5 hg5 hat5; obtain ⟨A5, c5, rfl, hc5, _⟩ := Kd.R_reads h5; rw [show (acc ++ [rd r (o : Int)]).length = acc.length + 1 from by simp] at h5 hat5 ⊢; have hlt5 := R_lt h5; have HS5 := Aside0.mk (HS4.out.grown hg5 HO4.out hat5 hlt5); have HV5 := Aside0.mk (RU_grown HV4.out hg5 hat5); have HK5 := Aside0.mk (HK4.out.trans (KeepBut.of_grown hg5 g) (Kd.R_base2 HO4.out)); have HO5 := Aside0.mk h5; have HB5 := Aside0.mk (HB4.out.trans (hb5.mono hbw)); clear h5 hb5 hg5 hat5 hlt5))
                go_roundg (m - 1)
                case measure => have := hz.out; omega
                case rel => exact ⟨i + 1, a + 1, m - 1, A5, _, c5, acc ++ [rd r (o : Int)], s2, _, _, r, by go_num, rfl, rfl, by omega, by simp; omega, ⟨by have := HA.out; omega⟩, ⟨rfl⟩, ⟨.inl ⟨.inr HI1.out, HEND.out⟩⟩, ⟨HOK2.out.up (by omega)⟩, HS5, HV5, HK5, HO5, HB5⟩
        · have ho0 : o = 0 := by omega
          have q3 : ((i : Int) == 0) = false := beq_eq_false_iff_ne.mpr (by omega)
          have q3' : (i == 0) = false := beq_eq_false_iff_ne.mpr (by omega)
          have q4 : ((o : Int) == 0) = true := beq_iff_eq.mpr (by omega)
          have q4' : (o == 0) = true := beq_iff_eq.mpr ho0
          clear hbd ho ho0
          by_cases hro : r.length ≤ o
          · have HR2 := Aside0.mk (show R1 = s2 ∧ R2 = acc by
              have e := HRN.out
              rw [HST.out, if_pos hro] at e
              simp only [Prod.mk.injEq, List.append_nil] at e
              exact e)
            have dro : decide ((r.length : Int) ≤ (o : Int)) = true := decide_eq_true (by omega)
            have dro' : decide (r.length ≤ o) = true := decide_eq_true hro
            clear hro
            go_wp2_with (go_at_call 108; refine (HGO.out).mono ?_; rintro e w4 ⟨A4, c4, rfl, hv4, hs4, hk4, hb4⟩; have HS4 := Aside0.mk hs4; have HK4 := Aside0.mk (HK.out.trans hk4 (.inl rfl)); have HO4 := Aside0.mk (RU_rc HO.out HS.out hk4); have HB4 := Aside0.mk (HB.out.trans hb4); clear hv4 hs4 hk4 hb4)
            obtain ⟨A9, c9, e9, _, hC9⟩ := Kd.R_reads HO4.out
            cases e9
            go_ret
            rw [HR2.out.1, HR2.out.2]
            first | exact ⟨_, _, rfl, hC9, HS4.out.reX (fun _ _ => trivial), HK4.out, HB4.out⟩ | exact ⟨_, ⟨_, rfl⟩, hC9, HS4.out.reX (fun _ _ => trivial), HK4.out, HB4.out⟩
          · have dro : decide ((r.length : Int) ≤ (o : Int)) = false := decide_eq_false (by omega)
            have dro' : decide (r.length ≤ o) = false := decide_eq_false hro
            have HMID := Aside0.mk (show (R1, R2) = ((midN mostN now nm s2 r a m).1, acc ++ (midN mostN now nm s2 r a m).2) by
              have e := HRN.out
              rw [HST.out, if_neg hro] at e
              exact e)
            have hwl : IntKind.i64.wrap ((r.length : Int) - 1) = (r.length : Int) - 1 := by rw [IntKind.wrap_i64]; omega
            clear HST
            rcases Nat.lt_or_ge (o + 1) r.length with hin | hend
            · have q1 : ((o : Int) == (r.length : Int) - 1) = false := beq_eq_false_iff_ne.mpr (by omega)
              have HMD := Aside0.mk (show (R1, R2) = ((midN mostN now nm s2 r (a + 1) (m - 1)).1, (acc ++ [rd r (o : Int)]) ++ (midN mostN now nm s2 r (a + 1) (m - 1)).2) by
                have e := HMID.out
                rw [midN_more mostN now nm s2 r a m (by omega) (by rw [← HOA.out]; exact hin) hrl, ← HOA.out] at e
                rw [e, rd_getD, List.append_assoc]
                rfl)
              have HI1 := Aside0.mk (show ¬ (a + 1) % 256 = 0 by have := HOA.out; omega)
              have HI2 := Aside0.mk (show (a + 1) % 256 < r.length by have := HOA.out; omega)
              go_wp2_with (first | (go_at_call 108; refine (HGO.out).mono ?_; rintro e w4 ⟨A4, c4, rfl, hv4, hs4, hk4, hb4⟩; obtain ⟨ad4, rfl, hx4⟩ := at_nat (Kd.R_reads' hv4).2.2 o (by omega); have HS4 := Aside0.mk hs4; have HK4 := Aside0.mk (HK.out.trans hk4 (.inl rfl)); have HO4 := Aside0.mk (RU_rc HO.out HS.out hk4); have HB4 := Aside0.mk (HB.out.trans hb4); have HV4 := Aside0.mk hv4; clear hv4 hs4 hk4 hb4) | (at_builtin; refine Kd.R_append (Kd.int .u8) (w0 := _) w.heap.size rfl (.tmp 44) (.tmp 52) 22 5 (.int .u8 0) 1 rfl Try.underlying22 infoU8 rfl (by decide) (by omega) (.slice A oc cc) acc (rd r (o : Int)) [.int .u8 (rd r (o : Int))] (fun _ => True) (fun _ => False) rfl rfl rfl (fun _ h => h.elim) (fun _ _ => trivial) HO4.out (Below.refl _ _) HK4.out.1 (by omega) ?_; intro v5 w5 h5 hb5 hg5 hat5; obtain ⟨A5, c5, rfl, hc5, _⟩ := Kd.R_reads h5; rw [show (acc ++ [rd r (o : Int)]).length = acc.length + 1 from by simp] at h5 hat5 ⊢; have hlt5 := R_lt h5; have HS5 := Aside0.mk (HS4.out.grown hg5 HO4.out hat5 hlt5); have HV5 := Aside0.mk (RU_grown HV4.out hg5 hat5); have HK5 := Aside0.mk (HK4.out.trans (KeepBut.of_grown hg5 g) (Kd.R_base2 HO4.out)); have HO5 := Aside0.mk h5; have HB5 := Aside0.mk (HB4.out.trans (hb5.mono hbw)); clear h5 hb5 hg5 hat5 hlt5))
              go_roundg (m - 1)
              case measure => have := hz.out; omega
              case rel => exact ⟨i + 1, a + 1, m - 1, A5, _, c5, acc ++ [rd r (o : Int)], s2, _, _, r, by go_num, rfl, rfl, by omega, by simp; omega, ⟨by have := HA.out; omega⟩, ⟨rfl⟩, ⟨.inr ⟨by omega, HI1.out, HI2.out, hrl, HMD.out⟩⟩, ⟨HOK2.out.up (by omega)⟩, HS5, HV5, HK5, HO5, HB5⟩
            · have hoe : o + 1 = r.length := by omega
              have HOE := Aside0.mk hoe
              have q1 : ((o : Int) == (r.length : Int) - 1) = true := beq_iff_eq.mpr (by omega)
              have HLA := Aside0.mk (show (R1, R2) = if r.length < 256 then (s2, acc ++ [rd r (o : Int)]) else ((readN mostN now nm s2 (a + 1) (m - 1)).1, (acc ++ [rd r (o : Int)]) ++ (readN mostN now nm s2 (a + 1) (m - 1)).2) by
                have e := HMID.out
                rw [midN_last mostN now nm s2 r a m (by omega) (by rw [← HOA.out]; exact hoe), ← HOA.out] at e
                rw [e, rd_getD]
                split
                · rfl
                · rw [List.append_assoc]
                  rfl)
              clear hoe
              rcases Nat.lt_or_ge r.length 256 with h256 | h256
              · have HEND := Aside0.mk (show R1 = s2 ∧ R2 = acc ++ [rd r (o : Int)] by
                  have e := HLA.out
                  rw [if_pos h256] at e
                  simpa using e)
                have d5 : decide ((r.length : Int) < 256) = true := decide_eq_true (by omega)
                have d5' : decide (r.length < 256) = true := decide_eq_true h256
                go_wp2_with (first | (go_at_call 108; refine (HGO.out).mono ?_; rintro e w4 ⟨A4, c4, rfl, hv4, hs4, hk4, hb4⟩; obtain ⟨ad4, rfl, hx4⟩ := at_nat (Kd.R_reads' hv4).2.2 o (by omega); have HS4 := Aside0.mk hs4; have HK4 := Aside0.mk (HK.out.trans hk4 (.inl rfl)); have HO4 := Aside0.mk (RU_rc HO.out HS.out hk4); have HB4 := Aside0.mk (HB.out.trans hb4); have HV4 := Aside0.mk hv4; clear hv4 hs4 hk4 hb4) | (at_builtin; refine Kd.R_append (Kd.int .u8) (w0 := _) w.heap.size rfl (.tmp 44) (.tmp 52) 22 5 (.int .u8 0) 1 rfl Try.underlying22 infoU8 rfl (by decide) (by omega) (.slice A oc cc) acc (rd r (o : Int)) [.int .u8 (rd r (o : Int))] (fun _ => True) (fun _ => False) rfl rfl rfl (fun _ h => h.elim) (fun _ _ => trivial) HO4.out (Below.refl _ _) HK4.out.1 (by omega) ?_; intro v5 w5 h5 hb5 hg5 hat5; obtain ⟨A5, c5, rfl, hc5, _⟩ := Kd.R_reads h5; rw [show (acc ++ [rd r (o : Int)]).length = acc.length + 1 from by simp] at h5 hat5 ⊢; have hlt5 := R_lt h5; have HS5 := Aside0.mk (HS4.out.grown hg5 HO4.out hat5 hlt5); have HV5 := Aside0.mk (RU_grown HV4.out hg5 hat5); have HK5 := Aside0.mk (HK4.out.trans (KeepBut.of_grown hg5 g) (Kd.R_base2 HO4.out)); have HO5 := Aside0.mk h5; have HB5 := Aside0.mk (HB4.out.trans (hb5.mono hbw)); clear h5 hb5 hg5 hat5 hlt5))
                obtain ⟨_, _, hC9⟩ := Kd.R_reads' HO5.out
                go_ret
                rw [HEND.out.1, HEND.out.2]
                rw [show (acc ++ [rd r (o : Int)]).length = acc.length + 1 from by simp] at hC9 ⊢
                first | exact ⟨_, _, rfl, hC9, HS5.out.reX (fun _ _ => trivial), HK5.out, HB5.out⟩ | exact ⟨_, ⟨_, rfl⟩, hC9, HS5.out.reX (fun _ _ => trivial), HK5.out, HB5.out⟩
              · have HEND := Aside0.mk (show (R1, R2) = ((readN mostN now nm s2 (a + 1) (m - 1)).1, (acc ++ [rd r (o : Int)]) ++ (readN mostN now nm s2 (a + 1) (m - 1)).2) by
                  have e := HLA.out
                  rw [if_neg (by omega)] at e
                  exact e)
                have HI1 := Aside0.mk (show (a + 1) % 256 = 0 by have := HOA.out; have := HOE.out; omega)
                have d5 : decide ((r.length : Int) < 256) = false := decide_eq_false (by omega)
                have d5' : decide (r.length < 256) = false := decide_eq_false (by omega)
                go_wp2_with (first | (go_at_call 108; refine (HGO.out).mono ?_; rintro e w4 ⟨A4, c4, rfl, hv4, hs4, hk4, hb4⟩; obtain ⟨ad4, rfl, hx4⟩ := at_nat (Kd.R_reads' hv4).2.2 o (by omega); have HS4 := Aside0.mk hs4; have HK4 := Aside0.mk (HK.out.trans hk4 (.inl rfl)); have HO4 := Aside0.mk (RU_rc HO.out HS.out hk4); have HB4 := Aside0.mk (HB.out.trans hb4); have HV4 := Aside0.mk hv4; clear hv4 hs4 hk4 hb4) | (at_builtin; refine Kd.R_append (Kd.int .u8) (w0 := _) w.heap.size rfl (.tmp 44) (.tmp 52) 22 5 (.int .u8 0) 1 rfl Try.underlying22 infoU8 rfl (by decide) (by omega) (.slice A oc cc) acc (rd r (o : Int)) [.int .u8 (rd r (o : Int))] (fun _ => True) (fun _ => False) rfl rfl rfl (fun _ h => h.elim) (fun _ _ => trivial) HO4.out (Below.refl _ _) HK4.out.1 (by omega) ?_; intro v5 w5 h5 hb5 hg5 hat5; obtain ⟨A5, c5, rfl, hc5, _⟩ := Kd.R_reads h5; rw [show (acc ++ [rd r (o : Int)]).length = acc.length + 1 from by simp] at h5 hat5 ⊢; have hlt5 := R_lt h5; have HS5 := Aside0.mk (HS4.out.grown hg5 HO4.out hat5 hlt5); have HV5 := Aside0.mk (RU_grown HV4.out hg5 hat5); have HK5 := Aside0.mk (HK4.out.trans (KeepBut.of_grown hg5 g) (Kd.R_base2 HO4.out)); have HO5 := Aside0.mk h5; have HB5 := Aside0.mk (HB4.out.trans (hb5.mono hbw)); clear h5 hb5 hg5 hat5 hlt5))
                go_roundg (m - 1)
                case measure => have := hz.out; omega
                case rel => exact ⟨i + 1, a + 1, m - 1, A5, _, c5, acc ++ [rd r (o : Int)], s2, _, _, r, by go_num, rfl, rfl, by omega, by simp; omega, ⟨by have := HA.out; omega⟩, ⟨rfl⟩, ⟨.inl ⟨.inr HI1.out, HEND.out⟩⟩, ⟨HOK2.out.up (by omega)⟩, HS5, HV5, HK5, HO5, HB5⟩
      · have q3 : ((i : Int) == 0) = false := beq_eq_false_iff_ne.mpr (by omega)
        have q3' : (i == 0) = false := beq_eq_false_iff_ne.mpr (by omega)
        have q4 : ((o : Int) == 0) = false := beq_eq_false_iff_ne.mpr (by omega)
        have q4' : (o == 0) = false := beq_eq_false_iff_ne.mpr (by omega)
        have hro : ¬ r.length ≤ o := by omega
        have dro : decide ((r.length : Int) ≤ (o : Int)) = false := decide_eq_false (by omega)
        have dro' : decide (r.length ≤ o) = false := decide_eq_false hro
        have hwl : IntKind.i64.wrap ((r.length : Int) - 1) = (r.length : Int) - 1 := by rw [IntKind.wrap_i64]; omega
        obtain ⟨ad4, rfl, hx4⟩ := at_nat (Kd.R_reads' HV.out).2.2 o (by omega)
        obtain ⟨s2, hs2⟩ : ∃ s2, s2 = s1 := ⟨_, rfl⟩
        rw [← hs2] at hmid
        have HMID := Aside0.mk hmid
        have HS4 := HS
        have HK4 := HK
        have HO4 := HO
        have HB4 := HB
        have HV4 := HV
        have HOK2 := HOK
        rw [← hs2] at HS4 HOK2
        clear hs2 ho hkk hne hor hmid HM
        rcases Nat.lt_or_ge (o + 1) r.length with hin | hend
        · have q1 : ((o : Int) == (r.length : Int) - 1) = false := beq_eq_false_iff_ne.mpr (by omega)
          have HMD := Aside0.mk (show (R1, R2) = ((midN mostN now nm s2 r (a + 1) (m - 1)).1, (acc ++ [rd r (o : Int)]) ++ (midN mostN now nm s2 r (a + 1) (m - 1)).2) by
            have e := HMID.out
            rw [midN_more mostN now nm s2 r a m (by omega) (by rw [← HOA.out]; exact hin) hrl, ← HOA.out] at e
            rw [e, rd_getD, List.append_assoc]
            rfl)
          have HI1 := Aside0.mk (show ¬ (a + 1) % 256 = 0 by have := HOA.out; omega)
          have HI2 := Aside0.mk (show (a + 1) % 256 < r.length by have := HOA.out; omega)
          go_wp2_with (first | fail | (at_builtin; refine Kd.R_append (Kd.int .u8) (w0 := _) w.heap.size rfl (.tmp 44) (.tmp 52) 22 5 (.int .u8 0) 1 rfl Try.underlying22 infoU8 rfl (by decide) (by omega) (.slice A oc cc) acc (rd r (o : Int)) [.int .u8 (rd r (o : Int))] (fun _ => True) (fun _ => False) rfl rfl rfl (fun _ h => h.elim) (fun _ _ => trivial) HO4.out (Below.refl _ _) HK4.out.1 (by omega) ?_; intro v5 w5 h5 hb5 hg5 hat5; obtain ⟨A5, c5, rfl, hc5, _⟩ := Kd.R_reads h5; rw [show (acc ++ [rd r (o : Int)]).length = acc.length + 1 from by simp] at h5 hat5 ⊢; have hlt5 := R_lt h5; have HS5 := Aside0.mk (HS4.out.grown hg5 HO4.out hat5 hlt5); have HV5 := Aside0.mk (RU_grown HV4.out hg5 hat5); have HK5 := Aside0.mk (HK4.out.trans (KeepBut.of_grown hg5 g) (Kd.R_base2 HO4.out)); have HO5 := Aside0.mk h5; have HB5 := Aside0.mk (HB4.out.trans (hb5.mono hbw)); clear h5 hb5 hg5 hat5 hlt5))
          go_roundg (m - 1)
          case measure => have := hz.out; omega
          case rel => exact ⟨i + 1, a + 1, m - 1, A5, _, c5, acc ++ [rd r (o : Int)], s2, _, _, r, by go_num, rfl, rfl, by omega, by simp; omega, ⟨by have := HA.out; omega⟩, ⟨rfl⟩, ⟨.inr ⟨by omega, HI1.out, HI2.out, hrl, HMD.out⟩⟩, ⟨HOK2.out.up (by omega)⟩, HS5, HV5, HK5, HO5, HB5⟩
        · have hoe : o + 1 = r.length := by omega
          have HOE := Aside0.mk hoe
          have q1 : ((o : Int) == (r.length : Int) - 1) = true := beq_iff_eq.mpr (by omega)
          have HLA := Aside0.mk (show (R1, R2) = if r.length < 256 then (s2, acc ++ [rd r (o : Int)]) else ((readN mostN now nm s2 (a + 1) (m - 1)).1, (acc ++ [rd r (o : Int)]) ++ (readN mostN now nm s2 (a + 1) (m - 1)).2) by
            have e := HMID.out
            rw [midN_last mostN now nm s2 r a m (by omega) (by rw [← HOA.out]; exact hoe), ← HOA.out] at e
            rw [e, rd_getD]
            split
            · rfl
            · rw [List.append_assoc]
              rfl)
          clear hoe
          rcases Nat.lt_or_ge r.length 256 with h256 | h256
          · have HEND := Aside0.mk (show R1 = s2 ∧ R2 = acc ++ [rd r (o : Int)] by
              have e := HLA.out
              rw [if_pos h256] at e
              simpa using e)
            have d5 : decide ((r.length : Int) < 256) = true := decide_eq_true (by omega)
            have d5' : decide (r.length < 256) = true := decide_eq_true h256
            go_wp2_with (first | fail | (at_builtin; refine Kd.R_append (Kd.int .u8) (w0 := _) w.heap.size rfl (.tmp 44) (.tmp 52) 22 5 (.int .u8 0) 1 rfl Try.underlying22 infoU8 rfl (by decide) (by omega) (.slice A oc cc) acc (rd r (o : Int)) [.int .u8 (rd r (o : Int))] (fun _ => True) (fun _ => False) rfl rfl rfl (fun _ h => h.elim) (fun _ _ => trivial) HO4.out (Below.refl _ _) HK4.out.1 (by omega) ?_; intro v5 w5 h5 hb5 hg5 hat5; obtain ⟨A5, c5, rfl, hc5, _⟩ := Kd.R_reads h5; rw [show (acc ++ [rd r (o : Int)]).length = acc.length + 1 from by simp] at h5 hat5 ⊢; have hlt5 := R_lt h5; have HS5 := Aside0.mk (HS4.out.grown hg5 HO4.out hat5 hlt5); have HV5 := Aside0.mk (RU_grown HV4.out hg5 hat5); have HK5 := Aside0.mk (HK4.out.trans (KeepBut.of_grown hg5 g) (Kd.R_base2 HO4.out)); have HO5 := Aside0.mk h5; have HB5 := Aside0.mk (HB4.out.trans (hb5.mono hbw)); clear h5 hb5 hg5 hat5 hlt5))
            obtain ⟨_, _, hC9⟩ := Kd.R_reads' HO5.out
            go_ret
            rw [HEND.out.1, HEND.out.2]
            rw [show (acc ++ [rd r (o : Int)]).length = acc.length + 1 from by simp] at hC9 ⊢
            first | exact ⟨_, _, rfl, hC9, HS5.out.reX (fun _ _ => trivial), HK5.out, HB5.out⟩ | exact ⟨_, ⟨_, rfl⟩, hC9, HS5.out.reX (fun _ _ => trivial), HK5.out, HB5.out⟩
          · have HEND := Aside0.mk (show (R1, R2) = ((readN mostN now nm s2 (a + 1) (m - 1)).1, (acc ++ [rd r (o : Int)]) ++ (readN mostN now nm s2 (a + 1) (m - 1)).2) by
              have e := HLA.out
              rw [if_neg (by omega)] at e
              exact e)
            have HI1 := Aside0.mk (show (a + 1) % 256 = 0 by have := HOA.out; have := HOE.out; omega)
            have d5 : decide ((r.length : Int) < 256) = false := decide_eq_false (by omega)
            have d5' : decide (r.length < 256) = false := decide_eq_false (by omega)
            go_wp2_with (first | fail | (at_builtin; refine Kd.R_append (Kd.int .u8) (w0 := _) w.heap.size rfl (.tmp 44) (.tmp 52) 22 5 (.int .u8 0) 1 rfl Try.underlying22 infoU8 rfl (by decide) (by omega) (.slice A oc cc) acc (rd r (o : Int)) [.int .u8 (rd r (o : Int))] (fun _ => True) (fun _ => False) rfl rfl rfl (fun _ h => h.elim) (fun _ _ => trivial) HO4.out (Below.refl _ _) HK4.out.1 (by omega) ?_; intro v5 w5 h5 hb5 hg5 hat5; obtain ⟨A5, c5, rfl, hc5, _⟩ := Kd.R_reads h5; rw [show (acc ++ [rd r (o : Int)]).length = acc.length + 1 from by simp] at h5 hat5 ⊢; have hlt5 := R_lt h5; have HS5 := Aside0.mk (HS4.out.grown hg5 HO4.out hat5 hlt5); have HV5 := Aside0.mk (RU_grown HV4.out hg5 hat5); have HK5 := Aside0.mk (HK4.out.trans (KeepBut.of_grown hg5 g) (Kd.R_base2 HO4.out)); have HO5 := Aside0.mk h5; have HB5 := Aside0.mk (HB4.out.trans (hb5.mono hbw)); clear h5 hb5 hg5 hat5 hlt5))
            go_roundg (m - 1)
            case measure => have := hz.out; omega
            case rel => exact ⟨i + 1, a + 1, m - 1, A5, _, c5, acc ++ [rd r (o : Int)], s2, _, _, r, by go_num, rfl, rfl, by omega, by simp; omega, ⟨by have := HA.out; omega⟩, ⟨rfl⟩, ⟨.inl ⟨.inr HI1.out, HEND.out⟩⟩, ⟨HOK2.out.up (by omega)⟩, HS5, HV5, HK5, HO5, HB5⟩
    · have hm00 : m = 0 := by omega
      have d9 : ¬ (i : Int) < (n : Int) := by omega
      have HEND := Aside0.mk (show R1 = s1 ∧ R2 = acc by
        rcases HM.out with ⟨_, e⟩ | ⟨_, _, _, _, e⟩
        · rw [hm00, readN_zero] at e
          simp only [Prod.mk.injEq, List.append_nil] at e
          exact e
        · rw [hm00, midN_zero] at e
          simp only [Prod.mk.injEq, List.append_nil] at e
          exact e)
      clear hm00
      go_wp2_with fail
      obtain ⟨A9, c9, e9, _, hC9⟩ := Kd.R_reads HO.out
      cases e9
      go_ret
      rw [HEND.out.1, HEND.out.2]
      first | exact ⟨_, _, rfl, hC9, HS.out.reX (fun _ _ => trivial), HK.out, HB.out⟩ | exact ⟨_, ⟨_, rfl⟩, hC9, HS.out.reX (fun _ _ => trivial), HK.out, HB.out⟩
end Go.Proofs.Ytpnbjpkdbiiogaa
