/- Directories: shows; the chapter's example. -/
import Derived.Test.YtpnbjpkdbiiogaaDiN
namespace Go.Proofs.Ytpnbjpkdbiiogaa
set_option linter.unusedVariables false
open Go.RowKit Go.Maps Go.Sort Go.Proofs.YtpnbjpkdbiiogaaW.PrintWords
attribute [local go_sem] mx2 mn2 mxTwo mnTwo

/-- Names that are not too long for any machine. -/
def Szd (l : List DN) : Prop := ∀ p ∈ l, p.1.size ≤ maxLen
theorem szd_insL (s : ByteArray) (a : Int) (hs : s.size ≤ maxLen) : ∀ l, Szd l → Szd (insL s a l)
  | [], _ => fun p hp => by rw [List.mem_singleton.1 hp]; exact hs
  | q :: t, h => by
    unfold insL
    split
    · intro p hp
      rcases List.mem_cons.1 hp with e | hp
      · rw [e]; exact hs
      · exact h p hp
    · intro p hp
      rcases List.mem_cons.1 hp with e | hp
      · exact h p (e ▸ List.mem_cons_self ..)
      · exact szd_insL s a hs t (fun x hx => h x (List.mem_cons_of_mem _ hx)) p hp
theorem szd_without (l : List DN) (s : ByteArray) (h : Szd l) : Szd (withoutL l s) := fun p hp => h p (List.mem_filter.1 hp).1
theorem szd_with (l : List DN) (s : ByteArray) (a : Int) (hs : s.size ≤ maxLen) (h : Szd l) : Szd (withL l s a) := szd_insL s a hs _ (szd_without l s h)
theorem szd_did (l : List DN) (o : DOp) (ha : o.a.size ≤ maxLen ∧ o.b.size ≤ maxLen) (h : Szd l) : Szd (didL l o) := by
  unfold didL
  split
  · exact szd_with _ _ _ ha.1 h
  · split
    · exact h
    · split
      · exact szd_with _ _ _ ha.2 (szd_without _ _ h)
      · exact szd_without _ _ h
theorem szd_crash (safe : List DN) (ops : List DOp) (kl : List Bool) (h : Szd safe) (ho : ∀ o ∈ ops, o.a.size ≤ maxLen ∧ o.b.size ≤ maxLen) : ∀ i, i ≤ ops.length → Szd (crashD safe ops kl i)
  | 0, _ => h
  | i + 1, hi => by
    have ih := szd_crash safe ops kl h ho i (by omega)
    have hm : (ops.getD i zDop) ∈ ops := by
      rw [List.getD_eq_getElem?_getD, List.getElem?_eq_getElem (by omega)]
      exact List.getElem_mem _
    unfold crashD
    split
    · exact szd_did _ _ (ho _ hm) ih
    · exact ih
/-- Its names are not too long. -/
def BdZ (s : DSt) : Prop := Szd s.now ∧ Szd s.safe
theorem stepD_bz (s : DSt) (a : DAct) (N k : Nat) (hb : BdD s N k) (h : BdZ s) (ha : a.a.size ≤ maxLen ∧ a.b.size ≤ maxLen) : BdZ (stepD s a) := by
  unfold stepD
  split
  · refine ⟨?_, h.2⟩
    show Szd (doNow s.now _)
    unfold doNow
    split
    · exact szd_did _ _ ha h.1
    · exact h.1
  · split
    · exact ⟨h.1, h.1⟩
    · have := szd_crash s.safe s.ops a.keep h.2 hb.op s.ops.length (Nat.le_refl _)
      exact ⟨this, this⟩
theorem find_rising : ∀ (l : List DN), Rising l → ∀ i, i < l.length → getN l (l.getD i zDN).1 = some (l.getD i zDN).2
  | [], _, i, hi => absurd hi (Nat.not_lt_zero _)
  | p :: t, h, 0, _ => by rw [getN_cons]; simp
  | p :: t, h, i + 1, hi => by
    obtain ⟨h1, h2⟩ := rising_cons.1 h
    rw [getN_cons]
    simp only [List.getD_cons_succ, List.length_cons] at hi ⊢
    have hm : t.getD i zDN ∈ t := by
      rw [List.getD_eq_getElem?_getD, List.getElem?_eq_getElem (by omega)]
      exact List.getElem_mem _
    have hne : ¬ p.1 = (t.getD i zDN).1 := fun e => by have := h1 _ hm; rw [e] at this; exact List.lt_irrefl _ this
    rw [if_neg hne]
    exact find_rising t h2 i (by omega)
theorem dget_is (b g mn ms N : Nat) (vo : Value) (now safe : List DN) (ops : List DOp) (s : ByteArray) (w : World) (y : Int) (bo : Bool) (hg : (getN now s).getD 0 = y ∧ (getN now s).isSome = bo) (h : DI w b g mn ms vo N now safe ops) (hs : s.size ≤ maxLen) : Calls Try.prog 59 #[.pointer (some ⟨g, 0, none⟩), .string s] w fun e w' => e = .returned (.tuple #[.int .i64 y, .bool bo]) ∧ w = w' := by
  refine (dget_any b g mn ms N vo now safe ops s w h hs).mono ?_
  rintro e w' ⟨rfl, h⟩
  exact ⟨by rw [hg.1, hg.2], h⟩
set_option maxHeartbeats 2000000 in
set_option maxRecDepth 100000 in
theorem dshows_any (b g mn ms N r : Nat) (vo rn rs ro : Value) (s : DSt) (k : Nat) (name : ByteArray) (w : World) (h : DS w b g mn ms vo N r rn rs ro s) (hb : BdD s N k) (hz : BdZ s) (hk : k ≤ 50) (hs : name.size ≤ maxLen) :
    Calls Try.prog 53 #[.pointer (some ⟨g, 0, none⟩), .pointer (some ⟨r, 0, none⟩), .string name] w fun e w' => e = .returned (.bool true) ∧ Below w.heap.size w w' := by
  obtain ⟨A1, c1, hrn, _, hC1⟩ := Kd.R_reads h.r.hn
  obtain ⟨A2, c2, hro⟩ := Kd.R_slice h.r.ho
  subst hrn
  subst hro
  have s0 := (blk_cell h.r.hb 0).trans (rfl : _ = some (Value.slice A1 s.now.length c1))
  have s2 := (blk_cell h.r.hb 2).trans (rfl : _ = some (Value.slice A2 s.ops.length c2))
  have HS := Aside0.mk h
  have HC1 := Aside0.mk hC1
  have hm := Kd.C_max hC1
  have HB := Aside0.mk (Below.refl w.heap.size w)
  have HN := Aside0.mk hs
  have HBD := Aside0.mk hb
  have HZ := Aside0.mk hz
  have hnl := hb.now
  have hNl := hb.n
  have HF := Aside0.mk (find_rising s.now hb.rn)
  obtain ⟨y, hy⟩ : ∃ y, (getN s.now name).getD 0 = y := ⟨_, rfl⟩
  obtain ⟨bo, hbo⟩ : ∃ bo, (getN s.now name).isSome = bo := ⟨_, rfl⟩
  have HY := Aside0.mk (And.intro hy hbo)
  clear h hC1 hs hb hz hy hbo
  go_enter Try.func53, Try.ntmps53
  go_wp2_with (first
    | (go_at_call 59; refine (dget_is b g mn ms N vo s.now s.safe (s.ops.map nrm) name _ y bo HY.out HS.out.d HN.out).mono ?_; rintro e w1 ⟨rfl, hw1⟩; subst hw1)
    | (go_at_call 101; refine (rget_is A1 _ c1 s.now name _ y bo HY.out HC1.out).mono ?_; rintro e w1 ⟨rfl, hw1⟩; subst hw1))
  go_loopg [11, 12, 13] s.now.length (fun q v11 v12 v13 wr => ∃ i : Nat, v11 = .int .i64 (i : Int) ∧ i ≤ s.now.length ∧ Aside0 (q = s.now.length - i) ∧ wr = w)
  case atStart => exact ⟨0, rfl, Nat.zero_le _, ⟨rfl⟩, rfl⟩
  case round =>
    obtain ⟨i, rfl, hi, hq, rfl⟩ := hrel
    by_cases hlt : i < s.now.length
    · obtain ⟨ad, e1, r1, r2⟩ := at_DN HC1.out i hlt
      subst e1
      have HP := Aside0.mk (And.intro (HF.out i hlt) (HZ.out.1 (s.now.getD i zDN) (by rw [List.getD_eq_getElem?_getD, List.getElem?_eq_getElem hlt]; exact List.getElem_mem _)))
      obtain ⟨p, hp⟩ : ∃ p, p = s.now.getD i zDN := ⟨_, rfl⟩
      rw [← hp] at r1 r2 HP
      clear hp
      go_wp2_with (go_at_call 59; refine (dget_is b g mn ms N vo s.now s.safe (s.ops.map nrm) p.1 _ p.2 true (by rw [HP.out.1]; exact ⟨rfl, rfl⟩) HS.out.d HP.out.2).mono ?_; rintro e w1 ⟨rfl, hw1⟩; subst hw1)
      go_roundg (s.now.length - (i + 1))
      case measure => have := hq.out; omega
      case rel => exact ⟨i + 1, by go_num, by omega, ⟨rfl⟩, rfl⟩
    · go_wp2_with fail
      go_region_held3 (fun w' => w'.cell? ⟨r, 0, none⟩ = some (.slice A1 s.now.length c1) ∧ w'.cell? ⟨r, 2, none⟩ = some (.slice A2 s.ops.length c2)) (first | with_reducible exact ⟨s0, s2⟩ | exact ⟨s0, s2⟩) (first
        | (go_at_call 50; refine (dnames_any b g mn ms N vo s.now s.safe (s.ops.map nrm) _ (HS.out.below (below_drew1 (Below.refl _ _))).d HBD.out.rn (by omega)).mono ?_; rintro e w2 ⟨v3, rfl, hv3, hb⟩; obtain ⟨A3, c3, rfl, _, hc3⟩ := Kd.R_reads hv3; rw [List.length_map] at hc3; rw [List.length_map]; replace s0 := pw_cell_below hb s0; replace s2 := pw_cell_below hb s2; have hs := (HS.out.below (below_drew1 (Below.refl _ _))).below hb; have h1 := Kd.C_below (Kd.C_drew HC1.out) hb; have hbn := below_step (below_drew1 HB.out) hb; clear HS HC1 HB; have HS := Aside0.mk hs; have HC1 := Aside0.mk h1; have HB := Aside0.mk hbn; have HX := Aside0.mk hc3; clear hs h1 hbn hc3 hb hv3)
        | (go_at_call 51; refine (rnames_any A1 _ c1 s.now _ HC1.out (by omega)).mono ?_; rintro e w3 ⟨v4, rfl, hv4, hb⟩; obtain ⟨A4, c4, rfl, _, hc4⟩ := Kd.R_reads hv4; rw [List.length_map] at hc4; rw [List.length_map]; replace s0 := pw_cell_below hb s0; replace s2 := pw_cell_below hb s2; have hs := HS.out.below hb; have hbn := below_step HB.out hb; have hx := Kd.C_below HX.out hb; clear HS HB HX; have HS := Aside0.mk hs; have HB := Aside0.mk hbn; have HX := Aside0.mk hx; have HY4 := Aside0.mk hc4; clear hs hbn hx hc4 hb hv4)
        | (go_at_call 49; refine (texts_any A3 A4 _ _ c3 c4 _ _ HX.out HY4.out).mono ?_; rintro e w4 ⟨rfl, hb⟩; replace s0 := pw_cell_below hb s0; replace s2 := pw_cell_below hb s2; have hs := HS.out.below hb; have hbn := below_step HB.out hb; clear HS HB HX HY4; have HS := Aside0.mk hs; have HB := Aside0.mk hbn; clear hs hbn hb)
        | (go_at_call 52; refine (dpending_any b g mn ms N vo s.now s.safe (s.ops.map nrm) _ HS.out.d).mono ?_; rw [List.length_map]; rintro e w5 ⟨rfl, hw5⟩; subst hw5))
      all_goals
        go_wp2_with fail
        go_ret
        exact ⟨rfl, HB.out⟩
end Go.Proofs.Ytpnbjpkdbiiogaa
