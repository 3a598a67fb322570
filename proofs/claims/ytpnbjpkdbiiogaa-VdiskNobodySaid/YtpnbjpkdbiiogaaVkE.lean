/- The disk: Write. -/
import Derived.Test.YtpnbjpkdbiiogaaVkD
namespace Go.Proofs.Ytpnbjpkdbiiogaa
set_option linter.unusedVariables false
open Go.RowKit Go.Maps Go.Proofs.YtpnbjpkdbiiogaaW.PrintWords
attribute [local go_sem] mx2 mn2 mxTwo mnTwo

theorem fl_uniq : ∀ {fl : List FR}, fl.Pairwise (fun p q => p.id ≠ q.id ∧ p.g ≠ q.g) → ∀ {p q : FR}, p ∈ fl → q ∈ fl → (p.id = q.id ∨ p.g = q.g) → p = q
  | [], _, p, q, hp, _, _ => by simp at hp
  | a :: t, h, p, q, hp, hq, he => by
    rw [List.pairwise_cons] at h
    rcases List.mem_cons.1 hp with e1 | hp'
    · rcases List.mem_cons.1 hq with e2 | hq'
      · rw [e1, e2]
      · have := h.1 q hq'
        rw [← e1] at this
        rcases he with he | he
        · exact absurd he this.1
        · exact absurd he this.2
    · rcases List.mem_cons.1 hq with e2 | hq'
      · have := h.1 p hp'
        rw [← e2] at this
        rcases he with he | he
        · exact absurd he.symm this.1
        · exact absurd he.symm this.2
      · exact fl_uniq h.2 hp' hq' he
theorem mem_set {fl : List FR} {p' q' : FR} (h : q' ∈ setFile fl p') : q' = p' ∨ (q' ∈ fl ∧ q'.id ≠ p'.id) := by
  unfold setFile at h
  obtain ⟨q, hq, rfl⟩ := List.mem_map.1 h
  by_cases e : q.id = p'.id
  · rw [if_pos e]
    exact .inl rfl
  · rw [if_neg e]
    exact .inr ⟨hq, e⟩
section
variable {W W1 : World} {b g gd mn ms N mf M : Nat} {vo : Value} {now safe : List DN} {ops : List DOp} {fl : List FR} {next room fuse : Int} {armed dead : Bool}
theorem fvo_typed (h : FsI W b fl) {p : FR} (hp : p ∈ fl) : ∀ k, p.vo.ownBlock = some k → ∃ cells, W.heap[k]? = some (.cells cells 141 (0, 0)) := fun k hk => own_typed (h.hf p hp).ho.2.choose_spec.1 k hk
theorem apx_fresh (h : FsI W b fl) {p : FR} : ∀ k, W.heap.size ≤ k → apx fl p k := fun k hk q hq _ e => by
  obtain ⟨cs, hc⟩ := fvo_typed h hq k e.symm
  have := blk_lt hc
  omega
/-- A file is turned. -/
theorem DK.file (h : DK W b g gd mn ms vo N now safe ops mf M fl next room fuse armed dead) {p : FR} (hp : p ∈ fl) (hk : KeepBut W W1 p.g p.vo.ownBlock) {vn' vs' vo' : Value} {now' safe' : List Int} {ops' : List FOp} (hfi : FI W1 b p.g (apx fl p) vn' vs' vo' now' safe' ops') (hv : vo'.ownBlock = p.vo.ownBlock ∨ vo'.ownBlock = none ∨ ∃ k, vo'.ownBlock = some k ∧ W.heap.size ≤ k) :
    DK W1 b g gd mn ms vo N now safe ops mf M (setFile fl ⟨p.id, p.g, vn', vs', vo', now', safe', ops'⟩) next room fuse armed dead := by
  have hpf := h.hf.hf p hp
  have hty : ∀ (k : Nat) (cs : Array Value) (T : TypeId), T ≠ 137 → T ≠ 141 → W.heap[k]? = some (.cells cs T (0, 0)) → W1.heap[k]? = W.heap[k]? := fun k cs T h1 h2 hkk =>
    hk.2 k (blk_lt hkk) (blk_ne hkk hpf.hb h1) (fun e => by
      obtain ⟨c2, hc2⟩ := fvo_typed h.hf hp k e.symm
      rw [hkk] at hc2
      injection hc2 with hc2
      injection hc2 with _ hc3
      exact h2 hc3)
  have hmp : ∀ {P : Program} {kt : TypeId} {m n : Nat} {f : Lit → Option Value}, MV W P kt m n f → W1.heap[m]? = W.heap[m]? := fun {P kt m n f} hm => hk.2 m hm.lt (hm.ne hpf.hb) (fun e => by
    obtain ⟨c2, hc2⟩ := fvo_typed h.hf hp m e.symm
    exact hm.ne hc2 rfl)
  have hid : ∀ q ∈ fl, q.id = p.id → q.g = p.g := fun q hq e => by rw [fl_uniq h.hf.ap hq hp (.inl e)]
  refine ⟨(hty g _ _ (by decide) (by decide) h.hb).trans h.hb, h.hd.move (hty gd _ _ (by decide) (by decide) h.hd.hb) (hmp h.hd.hn) (hmp h.hd.hs) (fun k _ ⟨cs, hc⟩ => hty k cs _ (by decide) (by decide) hc), ?_, ⟨fun q' hq' => ?_, ?_⟩, h.hg, h.hmf, h.n1, h.n2⟩
  · rw [filesF_set fl ⟨p.id, p.g, vn', vs', vo', now', safe', ops'⟩ hid]
    exact h.hm.move (hmp h.hm)
  · rcases mem_set hq' with rfl | ⟨hq, hne⟩
    · refine hfi.move rfl (fun k hx _ _ => ⟨rfl, fun q'' hq'' hg'' => ?_⟩)
      rcases mem_set hq'' with rfl | ⟨hq2, _⟩
      · exact absurd rfl hg''
      · exact hx q'' hq2 hg''
    · have hqg : q'.g ≠ p.g := fun e => hne (by rw [fl_uniq h.hf.ap hq hp (.inr e)])
      have hqf := h.hf.hf q' hq
      refine hqf.move (hk.2 q'.g (blk_lt hqf.hb) hqg (fun e => ?_)) (fun k hx hlt ⟨cs, T, hT, hc⟩ => ⟨hk.2 k hlt (blk_ne hc hpf.hb (by rcases hT with rfl | rfl <;> decide)) (hx p hp (Ne.symm hqg)), fun q'' hq'' hg'' => ?_⟩)
      · obtain ⟨c2, hc2⟩ := fvo_typed h.hf hp q'.g e.symm
        have h3 := hqf.hb.symm.trans hc2
        simp at h3
      · rcases mem_set hq'' with rfl | ⟨hq2, _⟩
        · rcases hv with e | e | ⟨j, e, hj⟩
          · show some k ≠ vo'.ownBlock
            rw [e]
            exact hx p hp (Ne.symm hqg)
          · show some k ≠ vo'.ownBlock
            rw [e]
            simp
          · show some k ≠ vo'.ownBlock
            rw [e]
            intro e2
            injection e2 with e2
            omega
        · exact hx q'' hq2 hg''
  · unfold setFile
    rw [List.pairwise_map]
    refine h.hf.ap.imp_of_mem (fun {a c} ha hc hac => ?_)
    have e1 : ∀ q ∈ fl, (if q.id = p.id then (⟨p.id, p.g, vn', vs', vo', now', safe', ops'⟩ : FR) else q).id = q.id ∧ (if q.id = p.id then (⟨p.id, p.g, vn', vs', vo', now', safe', ops'⟩ : FR) else q).g = q.g := fun q hq => by
      by_cases e : q.id = p.id
      · rw [if_pos e]
        exact ⟨e.symm, (hid q hq e).symm⟩
      · rw [if_neg e]
        exact ⟨rfl, rfl⟩
    obtain ⟨a1, a2⟩ := e1 a ha
    obtain ⟨c1, c2⟩ := e1 c hc
    exact ⟨by rw [a1, c1]; exact hac.1, by rw [a2, c2]; exact hac.2⟩
end
set_option maxHeartbeats 1000000 in
set_option maxRecDepth 100000 in
theorem kwrite_space (b g gd mn ms : Nat) (vo : Value) (N : Nat) (now safe : List DN) (ops : List DOp) (mf M : Nat) (fl : List FR) (next room fuse : Int) (armed dead : Bool) (w : World) (h : DK w b g gd mn ms vo N now safe ops mf M fl next room fuse armed dead) (hk : KG now fl) (hr : Rising now) (hN : N ≤ 1000000) (hln : now.length ≤ 100000) (hsz : ∀ p ∈ now, p.1.size ≤ maxLen) (h0 : 0 ≤ fuse) (h1 : fuse ≤ 1099511627776) (hro : 0 ≤ room) (hc : (chg fuse armed dead).1 = 0) (s : ByteArray) (hs : s.size ≤ maxLen) (id : Int) (p : FR) (hn : getN now s = some id) (hp : fileAt fl id = some p) (k : Nat) (A : Option Addr) (n c : Nat) (hk1 : k ≤ 1048576) (hk2 : n + k ≤ 1048576) (hn0 : 0 < n) (hh : hasF fl now room p.now.length ((k + n : Nat) : Int) = false) :
    Calls Try.prog 68 #[.pointer (some ⟨g, 0, none⟩), .string s, .int .i64 (k : Int), .slice A n c] w fun e w' => e = .returned (.int .i64 20) ∧ DK w' b g gd mn ms vo N now safe ops mf M fl next room (chg fuse armed dead).2.1 armed (chg fuse armed dead).2.2 ∧ Below b w w' := by
  have HH := Aside0.mk hh
  clear hh
  obtain ⟨hi0, hi1, _⟩ := hk.id _ (getN_mem hn)
  have hpm := (fileAt_mem hp).1
  obtain ⟨hpl, hpo⟩ := hk.len p hpm
  obtain ⟨fu, hfu⟩ : ∃ x, x = (chg fuse armed dead).2.1 := ⟨_, rfl⟩
  obtain ⟨de, hde⟩ : ∃ x, x = (chg fuse armed dead).2.2 := ⟨_, rfl⟩
  have HCH := Aside0.mk (change_any b g gd mn ms vo N now safe ops mf M fl next room fuse armed dead w h h0 h1)
  rw [hc, ← hfu, ← hde] at HCH
  rw [← hfu, ← hde]
  have HOF := Aside0.mk (fun W (hW : DK W b g gd mn ms vo N now safe ops mf M fl next room fu armed de) => of_some b g gd mn ms vo N now safe ops mf M fl next room fu armed de W hW s hs id hi0 hi1 p hn hp)
  have HHAS := Aside0.mk (fun W (hW : DK W b g gd mn ms vo N now safe ops mf M fl next room fu armed de) => has_any b g gd mn ms vo N now safe ops mf M fl next room fu armed de W hW hk hr hN hln hsz p hpm)
  have HPM := Aside0.mk hpm
  have hbw : b ≤ w.heap.size := Nat.le_trans h.hg (Nat.le_of_lt (blk_lt h.hb))
  clear h hk hr hsz hn hp hpm hfu hde hc
  go_enter Try.func68, Try.ntmps68
  go_wp2_with (first | (go_at_call 103; refine HCH.out.mono ?_; rintro e w1 ⟨rfl, hk1', hb1, hl1⟩; have H := Aside0.mk hk1'; have HL := Aside0.mk hl1; have HKG := Aside0.mk (show ∀ j, j < w.heap.size → j ≠ g → w1.heap[j]? = w.heap[j]? from fun j _ hj => hb1 j hj); clear hk1' hb1 hl1 HCH) | (go_at_call 105; refine (HOF.out _ H.out).mono ?_; rintro e w2 ⟨rfl, rfl⟩; clear HOF) | (go_at_call 106; refine (HHAS.out _ H.out ((k + n : Nat) : Int) (by omega) hro).mono ?_; rw [HH.out]; rintro e w3 ⟨rfl, hb⟩; have h3 := H.out.below hb; have hl3 := HL.out.trans (hb.mono (Nat.le_trans hbw HL.out.size)); clear H HL; have H := Aside0.mk h3; have HL := Aside0.mk hl3; clear h3 hl3 hb))
  go_ret
  exact ⟨rfl, H.out, HL.out⟩
set_option maxHeartbeats 1000000 in
set_option maxRecDepth 100000 in
theorem kwrite_ok (b g gd mn ms : Nat) (vo : Value) (N : Nat) (now safe : List DN) (ops : List DOp) (mf M : Nat) (fl : List FR) (next room fuse : Int) (armed dead : Bool) (w : World) (h : DK w b g gd mn ms vo N now safe ops mf M fl next room fuse armed dead) (hk : KG now fl) (hr : Rising now) (hN : N ≤ 1000000) (hln : now.length ≤ 100000) (hsz : ∀ p ∈ now, p.1.size ≤ maxLen) (h0 : 0 ≤ fuse) (h1 : fuse ≤ 1099511627776) (hro : 0 ≤ room) (hc : (chg fuse armed dead).1 = 0) (s : ByteArray) (hs : s.size ≤ maxLen) (id : Int) (p : FR) (hn : getN now s = some id) (hp : fileAt fl id = some p) (k : Nat) (A : Option Addr) (n c : Nat) (hk1 : k ≤ 1048576) (hk2 : n + k ≤ 1048576) (l : List Int) (hll : l.length = n) (hnc : n ≤ c) (hst : ∀ W', (∀ j, j < w.heap.size → j ≠ g → j ≠ p.g → some j ≠ p.vo.ownBlock → W'.heap[j]? = w.heap[j]?) → Below b w W' → Kd.C (Kd.int .u8) W' A n l) (hh : n = 0 ∨ hasF fl now room p.now.length ((k + n : Nat) : Int) = true) :
    Calls Try.prog 68 #[.pointer (some ⟨g, 0, none⟩), .string s, .int .i64 (k : Int), .slice A n c] w fun e w' => e = .returned (.int .i64 0) ∧ ∃ vn' vo', DK w' b g gd mn ms vo N now safe ops mf M (setFile fl ⟨p.id, p.g, vn', p.vs, vo', (writeF (p.now, p.ops) k l).1, p.safe, (writeF (p.now, p.ops) k l).2⟩) next room (chg fuse armed dead).2.1 armed (chg fuse armed dead).2.2 ∧ (∀ j, j < w.heap.size → j ≠ g → j ≠ p.g → some j ≠ p.vo.ownBlock → w'.heap[j]? = w.heap[j]?) ∧ Below b w w' := by
  have HST := Aside0.mk hst
  clear hst
  by_cases hn0 : n = 0
  · clear hh
    obtain ⟨hi0, hi1, _⟩ := hk.id _ (getN_mem hn)
    have hpm := (fileAt_mem hp).1
    obtain ⟨hpl, hpo⟩ := hk.len p hpm
    obtain ⟨fu, hfu⟩ : ∃ x, x = (chg fuse armed dead).2.1 := ⟨_, rfl⟩
    obtain ⟨de, hde⟩ : ∃ x, x = (chg fuse armed dead).2.2 := ⟨_, rfl⟩
    have HCH := Aside0.mk (change_any b g gd mn ms vo N now safe ops mf M fl next room fuse armed dead w h h0 h1)
    rw [hc, ← hfu, ← hde] at HCH
    rw [← hfu, ← hde]
    have HOF := Aside0.mk (fun W (hW : DK W b g gd mn ms vo N now safe ops mf M fl next room fu armed de) => of_some b g gd mn ms vo N now safe ops mf M fl next room fu armed de W hW s hs id hi0 hi1 p hn hp)
    have HHAS := Aside0.mk (fun W (hW : DK W b g gd mn ms vo N now safe ops mf M fl next room fu armed de) => has_any b g gd mn ms vo N now safe ops mf M fl next room fu armed de W hW hk hr hN hln hsz p hpm)
    have HPM := Aside0.mk hpm
    have hbw : b ≤ w.heap.size := Nat.le_trans h.hg (Nat.le_of_lt (blk_lt h.hb))
    clear h hk hr hsz hn hp hpm hfu hde hc
    go_enter Try.func68, Try.ntmps68
    subst hn0
    go_wp2_with (first | (go_at_call 103; refine HCH.out.mono ?_; rintro e w1 ⟨rfl, hk1', hb1, hl1⟩; have H := Aside0.mk hk1'; have HL := Aside0.mk hl1; have HKG := Aside0.mk (show ∀ j, j < w.heap.size → j ≠ g → w1.heap[j]? = w.heap[j]? from fun j _ hj => hb1 j hj); clear hk1' hb1 hl1 HCH) | (go_at_call 105; refine (HOF.out _ H.out).mono ?_; rintro e w2 ⟨rfl, rfl⟩; clear HOF) | (go_at_call 41; refine (fwrite_any b p.g (apx fl p) p.vn p.vs p.vo p.now p.safe p.ops k A _ c l _ (H.out.hf.hf p HPM.out) (apx_fresh H.out.hf) hll hnc (fun W' hk' hb' => HST.out W' (fun j hj hjg hjp hjv => (hk'.2 j (Nat.lt_of_lt_of_le hj HL.out.size) hjp hjv).trans (HKG.out j hj hjg)) (HL.out.trans hb')) hk1 hk2 hpl hpo).mono ?_; rintro e w5 ⟨rfl, vn', vo', hf5, hv5, hk5, hl5⟩; have hfin := H.out.file HPM.out hk5 hf5 (by rcases hv5 with e | ⟨j, e, hj⟩; exact .inl e; exact .inr (.inr ⟨j, e, hj⟩)); have HF := Aside0.mk hfin; have HKF := Aside0.mk hk5; have HLF := Aside0.mk hl5; clear hfin hf5 hv5 hk5 hl5))
    go_ret
    exact ⟨rfl, _, _, HF.out, fun j hj hjg hjp hjv => (HKF.out.2 j (Nat.lt_of_lt_of_le hj HL.out.size) hjp hjv).trans (HKG.out j hj hjg), HL.out.trans HLF.out⟩
  · have HH := Aside0.mk (hh.resolve_left hn0)
    clear hh
    have hnp : 0 < n := by omega
    obtain ⟨hi0, hi1, _⟩ := hk.id _ (getN_mem hn)
    have hpm := (fileAt_mem hp).1
    obtain ⟨hpl, hpo⟩ := hk.len p hpm
    obtain ⟨fu, hfu⟩ : ∃ x, x = (chg fuse armed dead).2.1 := ⟨_, rfl⟩
    obtain ⟨de, hde⟩ : ∃ x, x = (chg fuse armed dead).2.2 := ⟨_, rfl⟩
    have HCH := Aside0.mk (change_any b g gd mn ms vo N now safe ops mf M fl next room fuse armed dead w h h0 h1)
    rw [hc, ← hfu, ← hde] at HCH
    rw [← hfu, ← hde]
    have HOF := Aside0.mk (fun W (hW : DK W b g gd mn ms vo N now safe ops mf M fl next room fu armed de) => of_some b g gd mn ms vo N now safe ops mf M fl next room fu armed de W hW s hs id hi0 hi1 p hn hp)
    have HHAS := Aside0.mk (fun W (hW : DK W b g gd mn ms vo N now safe ops mf M fl next room fu armed de) => has_any b g gd mn ms vo N now safe ops mf M fl next room fu armed de W hW hk hr hN hln hsz p hpm)
    have HPM := Aside0.mk hpm
    have hbw : b ≤ w.heap.size := Nat.le_trans h.hg (Nat.le_of_lt (blk_lt h.hb))
    clear h hk hr hsz hn hp hpm hfu hde hc
    go_enter Try.func68, Try.ntmps68
    go_wp2_with (first | (go_at_call 103; refine HCH.out.mono ?_; rintro e w1 ⟨rfl, hk1', hb1, hl1⟩; have H := Aside0.mk hk1'; have HL := Aside0.mk hl1; have HKG := Aside0.mk (show ∀ j, j < w.heap.size → j ≠ g → w1.heap[j]? = w.heap[j]? from fun j _ hj => hb1 j hj); clear hk1' hb1 hl1 HCH) | (go_at_call 105; refine (HOF.out _ H.out).mono ?_; rintro e w2 ⟨rfl, rfl⟩; clear HOF) | (go_at_call 106; refine (HHAS.out _ H.out ((k + n : Nat) : Int) (by omega) hro).mono ?_; rw [HH.out]; rintro e w3 ⟨rfl, hb⟩; have h3 := H.out.below hb; have hl3 := HL.out.trans (hb.mono (Nat.le_trans hbw HL.out.size)); have hkg : ∀ j, j < w.heap.size → j ≠ g → w3.heap[j]? = w.heap[j]? := (fun j hj hjg => (hb.block j (Nat.lt_of_lt_of_le hj HL.out.size)).trans (HKG.out j hj hjg)); clear H HL HKG; have H := Aside0.mk h3; have HL := Aside0.mk hl3; have HKG := Aside0.mk hkg; clear h3 hl3 hb hkg) | (go_at_call 41; refine (fwrite_any b p.g (apx fl p) p.vn p.vs p.vo p.now p.safe p.ops k A _ c l _ (H.out.hf.hf p HPM.out) (apx_fresh H.out.hf) hll hnc (fun W' hk' hb' => HST.out W' (fun j hj hjg hjp hjv => (hk'.2 j (Nat.lt_of_lt_of_le hj HL.out.size) hjp hjv).trans (HKG.out j hj hjg)) (HL.out.trans hb')) hk1 hk2 hpl hpo).mono ?_; rintro e w5 ⟨rfl, vn', vo', hf5, hv5, hk5, hl5⟩; have hfin := H.out.file HPM.out hk5 hf5 (by rcases hv5 with e | ⟨j, e, hj⟩; exact .inl e; exact .inr (.inr ⟨j, e, hj⟩)); have HF := Aside0.mk hfin; have HKF := Aside0.mk hk5; have HLF := Aside0.mk hl5; clear hfin hf5 hv5 hk5 hl5))
    go_ret
    exact ⟨rfl, _, _, HF.out, fun j hj hjg hjp hjv => (HKF.out.2 j (Nat.lt_of_lt_of_le hj HL.out.size) hjp hjv).trans (HKG.out j hj hjg), HL.out.trans HLF.out⟩
end Go.Proofs.Ytpnbjpkdbiiogaa
