/- Disks: what both make of a call on a file; of a crash. -/
import Derived.Test.YtpnbjpkdbiiogaaGreatJj
namespace Go.Proofs.YtpnbjpkdbiiogaaGreat
set_option linter.unusedVariables false
open Go.RowKit Go.Maps Go.Proofs.YtpnbjpkdbiiogaaGreatW.PrintWords

section
variable {w : World} {b g r N M : Nat} {s : VSt} {k : Nat}
theorem callV_none (s : VSt) (a : VAct) (hkd : a.kd = 1 ∨ a.kd = 2 ∨ a.kd = 3) (hn : getN s.now a.a = none) : callV s a = s := by
  unfold callV
  rw [if_neg (by omega), if_neg (by omega), if_neg (by omega), if_neg (by omega), hn]
theorem callV_some (s : VSt) (a : VAct) (hkd : a.kd = 1 ∨ a.kd = 2 ∨ a.kd = 3) (i : Nat) (v : RV) (hn : getN s.now a.a = some (i : Int)) (hv : s.fs[i]? = some (v, true)) : callV s a = fileV s a i v := by
  unfold callV
  rw [if_neg (by omega), if_neg (by omega), if_neg (by omega), if_neg (by omega), hn]
  show (match s.fs[(i : Int).toNat]? with | none => s | some x => fileV s a (i : Int).toNat x.1) = _
  rw [Int.toNat_natCast, hv]
theorem step_call (s : VSt) (a : VAct) (hkd : a.kd = 1 ∨ a.kd = 2 ∨ a.kd = 3) (hc : (chg s.fuse s.armed s.dead).1 = 0) : stepV s a = callV (cntV s) a := by
  unfold stepV
  rw [if_pos (by omega), if_pos hc]
/-- A name's file, in both. -/
theorem both_file {gd mn ms mf rd : Nat} {vo dn ds dv vF : Value} {fl : List FR} {rl : List RR} (h : KS w b g gd mn ms vo N mf M fl r rd dn ds dv vF rl s) (hb : BdV s N M k) {nm : ByteArray} {id : Int} (hn : getN s.now nm = some id) :
    ∃ (i : Nat) (v : RV) (f : FR) (q : RR), id = (i : Int) ∧ i < s.fs.length ∧ s.fs[i]? = some (v, true) ∧ fileAt fl (i : Int) = some f ∧ f ∈ fl ∧ f.id = (i : Int) ∧ f.now = v.now ∧ f.safe = v.safe ∧ f.ops = v.ops ∧ rl[i]? = some q ∧ q ∈ rl ∧ q.now = v.now ∧ q.safe = v.safe ∧ q.ops = v.ops ∧ FB v k := by
  obtain ⟨i, e, v, hv⟩ := (hb.dn _ (getN_mem hn)).2
  obtain ⟨f, hf, e1, e2, e3, e4⟩ := fl_at h.mf hv
  obtain ⟨q, hq, e5, e6, e7⟩ := rl_at h.mr hv
  exact ⟨i, v, f, q, e, (List.getElem?_eq_some_iff.1 hv).1, hv, hf, (fileAt_mem hf).1, e1, e2, e3, e4, hq, List.mem_of_getElem? hq, e5, e6, e7, hb.fb _ (List.mem_of_getElem? hv)⟩
/-- A file that both have turned. -/
theorem file_fin {W W1 : World} {gd mn ms mf rd : Nat} {vo dn ds dv vF : Value} {fl : List FR} {rl : List RR} (h : KS w b g gd mn ms vo N mf M fl r rd dn ds dv vF rl s) {i : Nat} {v v' : RV} (hv : s.fs[i]? = some (v, true)) {f : FR} (hfi : f.id = (i : Int)) {q : RR} (hq : rl[i]? = some q)
    {p' : FR} {q' : RR}
    (hd : DK W b (fun k => ¬ rS rl k) g gd mn ms vo N s.now s.safe (s.ops.map nrm) mf M (setFile fl p') (s.fs.length : Int) s.room (chg s.fuse s.armed s.dead).2.1 s.armed (chg s.fuse s.armed s.dead).2.2)
    (hr : RK W b r rd dn ds dv s.now s.safe s.ops vF rl s.room s.fuse s.armed s.dead) (ht : RT W W1 (rS rl) (rS (setR rl q')))
    (hr' : RK W1 b r rd dn ds dv s.now s.safe s.ops vF (setR rl q') s.room (chg s.fuse s.armed s.dead).2.1 s.armed (chg s.fuse s.armed s.dead).2.2) (hp1 : p'.id = f.id) (hp2 : (⟨p'.now, p'.safe, p'.ops⟩ : RV) = v') (hq1 : q'.g = q.g) (hq2 : q'.rv = v') : KX W1 b g r N M (putV (cntV s) i v') := by
  have e1 : (setFile fl p').map FR.pv = present 0 (s.fs.set i (v', true)) := by rw [set_fl h.mf hv p' (hp1.trans hfi), hp2]
  have e2 : (setR rl q').map RR.rv = (s.fs.set i (v', true)).map (·.1) := by rw [set_rl h.mr h.r.ap hq q' hq1, hq2]
  have hd' : DK W b (fun k => ¬ rS rl k) g gd mn ms vo N s.now s.safe (s.ops.map nrm) mf M (setFile fl p') (((s.fs.set i (v', true)).length : Nat) : Int) s.room (chg s.fuse s.armed s.dead).2.1 s.armed (chg s.fuse s.armed s.dead).2.2 := by
    rw [List.length_set]
    exact hd
  exact KX.fin (s' := putV (cntV s) i v') hd' hr ht hr' e1 e2
theorem both_sync (h : KX w b g r N M s) (hb : BdV s N M k) (hk : k ≤ 49) (a : VAct) (hkd : a.kd = 3) (hsa : a.a.size ≤ maxLen) : Both 12 31 #[.pointer (some ⟨g, 0, none⟩), .string a.a] #[.pointer (some ⟨r, 0, none⟩), .string a.a, .bool false] b w (fun w' => ∃ N' M', KX w' b g r N' M' (stepV s a) ∧ BdV (stepV s a) N' M' (k + 1)) := by
  obtain ⟨gd, mn, ms, vo, mf, fl, rd, dn, ds, dv, vF, rl, h⟩ := h
  have hbn := hb.now
  have hbs := hb.safe
  have hbo := hb.ops
  have hbN := hb.n
  have hbM := hb.m
  have hbf := hb.fs
  have hol : (s.ops.map nrm).length ≤ 100000 := by rw [List.length_map]; omega
  have hrl := rl_len h.mr
  have hkg := h.kg hb hk
  have hrg := h.rg hb hk
  have hsz : ∀ p ∈ s.now, p.1.size ≤ maxLen := fun p hp => (hb.dn p hp).1
  by_cases hc : (chg s.fuse s.armed s.dead).1 = 0
  · cases hn : getN s.now a.a with
    | none =>
      skip
      have hs : stepV s a = cntV s := (by rw [step_call s a (by omega) hc, callV_none _ _ (by omega) (show getN (cntV s).now a.a = none from hn)])
      rw [hs]
      refine both_same h 6 _ (fun W hW hd => ?_) (fun W hr => ?_) (fun w' N' hN' hx => ⟨N', M, hx, hb.cnt.up hk (by omega) (by omega)⟩)
      · refine (ksync_none b (fun k => ¬ rS rl k) g gd mn ms vo N s.now s.safe (s.ops.map nrm) mf M fl (s.fs.length : Int) s.room s.fuse s.armed s.dead W hd hb.fuse.1 hb.fuse.2 hc a.a hsa hn).mono ?_
        rintro e w' ⟨he, hd', hkt, hbl⟩
        exact ⟨he, ⟨vo, N, by omega, hd'⟩, hkt, hbl⟩
      · refine (rksync_none b r rd dn ds dv s.now s.safe s.ops vF rl s.room s.fuse s.armed s.dead W hr hb.fuse.1 hb.fuse.2 hc a.a hn).mono ?_
        rintro e w' ⟨he, hr', hrt, hbl⟩
        exact ⟨he, ⟨_, _, hr'⟩, hrt, hbl⟩
    | some id =>
      obtain ⟨i, v, f, q, rfl, hil, hv, hf, hfm, hfi, ef1, ef2, ef3, hq, hqm, eq1, eq2, eq3, hfb⟩ := both_file h hb hn
      have hs : stepV s a = putV (cntV s) i ⟨v.now, v.now, []⟩ := by
        rw [step_call s a (by omega) hc, callV_some _ _ (by omega) i v (show getN (cntV s).now a.a = some (i : Int) from hn) (show (cntV s).fs[i]? = some (v, true) from hv)]
        unfold fileV
        rw [if_neg (by omega), if_neg (by omega)]
      rw [hs]
      have hl1 := hfb.now
      refine both_mk h 0 (fun w' => ∃ vs', DK w' b (fun k => ¬ rS rl k) g gd mn ms vo N s.now s.safe (s.ops.map nrm) mf M (setFile fl ⟨f.id, f.g, f.vn, vs', .slice none 0 0, f.now, f.now, []⟩) (s.fs.length : Int) s.room (chg s.fuse s.armed s.dead).2.1 s.armed (chg s.fuse s.armed s.dead).2.2) _ (fun W hW hd => ?_) (fun W hd hr => ?_)
      · refine (ksync_ok b (fun k => ¬ rS rl k) g gd mn ms vo N s.now s.safe (s.ops.map nrm) mf M fl (s.fs.length : Int) s.room s.fuse s.armed s.dead W hd hb.fuse.1 hb.fuse.2 hc a.a hsa (i : Int) (by omega) (by omega) f hn hf (by rw [ef1]; exact hl1)).mono ?_
        rintro e w' ⟨he, hd', hkt, hbl⟩
        exact ⟨he, hd', hkt, hbl⟩
      · obtain ⟨vs', hd⟩ := hd
        refine (rksync_ok b r rd dn ds dv s.now s.safe s.ops vF rl s.room s.fuse s.armed s.dead W hr hb.fuse.1 hb.fuse.2 hc a.a i q hn hq (by omega) (by rw [eq1]; exact hl1)).mono ?_
        rintro e w' ⟨he, ⟨vs2, hr', hrt⟩, hbl⟩
        exact ⟨he, ⟨N, M, file_fin h hv hfi hq (v' := ⟨v.now, v.now, []⟩) hd hr hrt hr' rfl (by show (⟨f.now, f.now, []⟩ : RV) = _; rw [ef1]) rfl (by show (⟨q.now, q.now, []⟩ : RV) = _; rw [eq1]), BdV.put (s := cntV s) hb.cnt hk (by omega) (by omega) i _ hfb.sync⟩, AK.rt hrt hr.rS_typed, hbl⟩
  · skip
    have hs : stepV s a = cntV s := by unfold stepV; rw [if_pos (by omega), if_neg hc]
    rw [hs]
    refine both_same h 26 _ (fun W hW hd => ?_) (fun W hr => ?_) (fun w' N' hN' hx => ⟨N', M, hx, hb.cnt.up hk (by omega) (by omega)⟩)
    · refine (ksync_dead b (fun k => ¬ rS rl k) g gd mn ms vo N s.now s.safe (s.ops.map nrm) mf M fl (s.fs.length : Int) s.room s.fuse s.armed s.dead W hd hb.fuse.1 hb.fuse.2 hc a.a).mono ?_
      rintro e w' ⟨he, hd', hkt, hbl⟩
      exact ⟨by rw [he, chg26 hc], ⟨vo, N, by omega, hd'⟩, hkt, hbl⟩
    · refine (rksync_dead b r rd dn ds dv s.now s.safe s.ops vF rl s.room s.fuse s.armed s.dead W hr hb.fuse.1 hb.fuse.2 hc a.a false).mono ?_
      rintro e w' ⟨he, hr', hrt, hbl⟩
      exact ⟨he, ⟨_, _, hr'⟩, hrt, hbl⟩
theorem both_trunc (h : KX w b g r N M s) (hb : BdV s N M k) (hk : k ≤ 49) (a : VAct) (hkd : a.kd = 2) (hsa : a.a.size ≤ maxLen) : Both 29 30 #[.pointer (some ⟨g, 0, none⟩), .string a.a, .int .i64 a.at_] #[.pointer (some ⟨r, 0, none⟩), .string a.a, .int .i64 a.at_] b w (fun w' => ∃ N' M', KX w' b g r N' M' (stepV s a) ∧ BdV (stepV s a) N' M' (k + 1)) := by
  obtain ⟨gd, mn, ms, vo, mf, fl, rd, dn, ds, dv, vF, rl, h⟩ := h
  have hbn := hb.now
  have hbs := hb.safe
  have hbo := hb.ops
  have hbN := hb.n
  have hbM := hb.m
  have hbf := hb.fs
  have hol : (s.ops.map nrm).length ≤ 100000 := by rw [List.length_map]; omega
  have hrl := rl_len h.mr
  have hkg := h.kg hb hk
  have hrg := h.rg hb hk
  have hsz : ∀ p ∈ s.now, p.1.size ≤ maxLen := fun p hp => (hb.dn p hp).1
  by_cases hc : (chg s.fuse s.armed s.dead).1 = 0
  · cases hn : getN s.now a.a with
    | none =>
      skip
      have hs : stepV s a = cntV s := (by rw [step_call s a (by omega) hc, callV_none _ _ (by omega) (show getN (cntV s).now a.a = none from hn)])
      rw [hs]
      refine both_same h 6 _ (fun W hW hd => ?_) (fun W hr => ?_) (fun w' N' hN' hx => ⟨N', M, hx, hb.cnt.up hk (by omega) (by omega)⟩)
      · refine (ktrunc_none b (fun k => ¬ rS rl k) g gd mn ms vo N s.now s.safe (s.ops.map nrm) mf M fl (s.fs.length : Int) s.room s.fuse s.armed s.dead W hd hb.fuse.1 hb.fuse.2 hc a.a hsa hn a.at_).mono ?_
        rintro e w' ⟨he, hd', hkt, hbl⟩
        exact ⟨he, ⟨vo, N, by omega, hd'⟩, hkt, hbl⟩
      · refine (rktrunc_none b r rd dn ds dv s.now s.safe s.ops vF rl s.room s.fuse s.armed s.dead W hr hb.fuse.1 hb.fuse.2 hc a.a a.at_ hn).mono ?_
        rintro e w' ⟨he, hr', hrt, hbl⟩
        exact ⟨he, ⟨_, _, hr'⟩, hrt, hbl⟩
    | some id =>
      obtain ⟨i, v, f, q, rfl, hil, hv, hf, hfm, hfi, ef1, ef2, ef3, hq, hqm, eq1, eq2, eq3, hfb⟩ := both_file h hb hn
      have hs0 : stepV s a = fileV (cntV s) a i v := by rw [step_call s a (by omega) hc, callV_some _ _ (by omega) i v (show getN (cntV s).now a.a = some (i : Int) from hn) (show (cntV s).fs[i]? = some (v, true) from hv)]
      by_cases hok : 0 ≤ a.at_ ∧ a.at_ ≤ 1048576
      · obtain ⟨n, hn2⟩ := Int.eq_ofNat_of_zero_le hok.1
        have hn3 : n ≤ 1048576 := by omega
        rw [hn2]
        cases hh : hasV s.fs s.now s.room v.now.length (n : Int) with
        | false =>
          skip
          have hs : stepV s a = cntV s := (by rw [hs0]; unfold fileV; rw [if_neg (by omega), if_pos hkd, if_pos hok, hn2]; exact if_neg (by show ¬ hasV s.fs s.now s.room v.now.length (n : Int) = true; rw [hh]; simp))
          rw [hs]
          refine both_same h 20 _ (fun W hW hd => ?_) (fun W hr => ?_) (fun w' N' hN' hx => ⟨N', M, hx, hb.cnt.up hk (by omega) (by omega)⟩)
          · refine (ktrunc_space b (fun k => ¬ rS rl k) g gd mn ms vo N s.now s.safe (s.ops.map nrm) mf M fl (s.fs.length : Int) s.room s.fuse s.armed s.dead W hd hb.fuse.1 hb.fuse.2 hc a.a hsa (i : Int) (by omega) (by omega) f hn hf hkg hb.rn (by omega) (by omega) hsz hb.room n hn3 (by rw [ef1, hasF_eq h hb]; exact hh)).mono ?_
            rintro e w' ⟨he, hd', hkt, hbl⟩
            exact ⟨he, ⟨vo, N, by omega, hd'⟩, hkt, hbl⟩
          · refine (rktrunc_space b r rd dn ds dv s.now s.safe s.ops vF rl s.room s.fuse s.armed s.dead W hr hb.fuse.1 hb.fuse.2 hc a.a i q hn hq (by omega) hrg (by omega) n hn3 (by rw [eq1, hasR_eq h]; exact hh)).mono ?_
            rintro e w' ⟨he, hr', hrt, hbl⟩
            exact ⟨he, ⟨_, _, hr'⟩, hrt, hbl⟩
        | true =>
          have hs : stepV s a = putV (cntV s) i (truncV v n) := by
            rw [hs0]
            unfold fileV
            rw [if_neg (by omega), if_pos hkd, if_pos hok, hn2, Int.toNat_natCast]
            exact if_pos hh
          rw [hs]
          have hl1 := hfb.now
          refine both_mk h 0 (fun w' => ∃ vn' vo', DK w' b (fun k => ¬ rS rl k) g gd mn ms vo N s.now s.safe (s.ops.map nrm) mf M (setFile fl ⟨f.id, f.g, vn', f.vs, vo', (sizeF (f.now, f.ops) (n : Int)).1, f.safe, (sizeF (f.now, f.ops) (n : Int)).2⟩) (s.fs.length : Int) s.room (chg s.fuse s.armed s.dead).2.1 s.armed (chg s.fuse s.armed s.dead).2.2) _ (fun W hW hd => ?_) (fun W hd hr => ?_)
          · refine (ktrunc_ok b (fun k => ¬ rS rl k) g gd mn ms vo N s.now s.safe (s.ops.map nrm) mf M fl (s.fs.length : Int) s.room s.fuse s.armed s.dead W hd hb.fuse.1 hb.fuse.2 hc a.a hsa (i : Int) (by omega) (by omega) f hn hf hkg hb.rn (by omega) (by omega) hsz hb.room n hn3 (by rw [ef1, hasF_eq h hb]; exact hh)).mono ?_
            rintro e w' ⟨he, hd', hkt, hbl⟩
            exact ⟨he, hd', hkt, hbl⟩
          · obtain ⟨vn', vo', hd⟩ := hd
            refine (rktrunc_ok b r rd dn ds dv s.now s.safe s.ops vF rl s.room s.fuse s.armed s.dead W hr hb.fuse.1 hb.fuse.2 hc a.a i q hn hq (by omega) hrg (by omega) n hn3 (by rw [eq1, hasR_eq h]; exact hh)).mono ?_
            rintro e w' ⟨he, ⟨vn2, vo2, hr', hrt⟩, hbl⟩
            exact ⟨he, ⟨N, M, file_fin h hv hfi hq (v' := truncV v n) hd hr hrt hr' rfl (by show (⟨(sizeF (f.now, f.ops) (n : Int)).1, f.safe, (sizeF (f.now, f.ops) (n : Int)).2⟩ : RV) = _; rw [ef1, ef2, ef3]; rfl) rfl (by show (⟨(sizeF (q.now, q.ops) (n : Int)).1, q.safe, (sizeF (q.now, q.ops) (n : Int)).2⟩ : RV) = _; rw [eq1, eq2, eq3]; rfl), BdV.put (s := cntV s) hb.cnt hk (by omega) (by omega) i _ (hfb.trunc n hn3)⟩, AK.rt hrt hr.rS_typed, hbl⟩
      · have hbad : a.at_ < 0 ∨ 0 ≤ a.at_ ∧ 1048576 < a.at_ := by omega
        have hs : stepV s a = cntV s := (by rw [hs0]; unfold fileV; rw [if_neg (by omega), if_pos hkd, if_neg hok])
        rw [hs]
        refine both_same h 1 _ (fun W hW hd => ?_) (fun W hr => ?_) (fun w' N' hN' hx => ⟨N', M, hx, hb.cnt.up hk (by omega) (by omega)⟩)
        · refine (ktrunc_bad b (fun k => ¬ rS rl k) g gd mn ms vo N s.now s.safe (s.ops.map nrm) mf M fl (s.fs.length : Int) s.room s.fuse s.armed s.dead W hd hb.fuse.1 hb.fuse.2 hc a.a hsa (i : Int) (by omega) (by omega) f hn hf a.at_ hbad).mono ?_
          rintro e w' ⟨he, hd', hkt, hbl⟩
          exact ⟨he, ⟨vo, N, by omega, hd'⟩, hkt, hbl⟩
        · refine (rktrunc_bad b r rd dn ds dv s.now s.safe s.ops vF rl s.room s.fuse s.armed s.dead W hr hb.fuse.1 hb.fuse.2 hc a.a i q hn hq (by omega) a.at_ hbad).mono ?_
          rintro e w' ⟨he, hr', hrt, hbl⟩
          exact ⟨he, ⟨_, _, hr'⟩, hrt, hbl⟩
  · skip
    have hs : stepV s a = cntV s := by unfold stepV; rw [if_pos (by omega), if_neg hc]
    rw [hs]
    refine both_same h 26 _ (fun W hW hd => ?_) (fun W hr => ?_) (fun w' N' hN' hx => ⟨N', M, hx, hb.cnt.up hk (by omega) (by omega)⟩)
    · refine (ktrunc_dead b (fun k => ¬ rS rl k) g gd mn ms vo N s.now s.safe (s.ops.map nrm) mf M fl (s.fs.length : Int) s.room s.fuse s.armed s.dead W hd hb.fuse.1 hb.fuse.2 hc a.a a.at_).mono ?_
      rintro e w' ⟨he, hd', hkt, hbl⟩
      exact ⟨by rw [he, chg26 hc], ⟨vo, N, by omega, hd'⟩, hkt, hbl⟩
    · refine (rktrunc_dead b r rd dn ds dv s.now s.safe s.ops vF rl s.room s.fuse s.armed s.dead W hr hb.fuse.1 hb.fuse.2 hc a.a a.at_).mono ?_
      rintro e w' ⟨he, hr', hrt, hbl⟩
      exact ⟨he, ⟨_, _, hr'⟩, hrt, hbl⟩
theorem both_write (h : KX w b g r N M s) (hb : BdV s N M k) (hk : k ≤ 49) (a : VAct) (hkd : a.kd = 1) (hsa : a.a.size ≤ maxLen) (A : Option Addr) (c : Nat) (hdl : a.data.length ≤ 400) (hnc : a.data.length ≤ c) (hst : ∀ W', Below b w W' → Kd.C (Kd.int .u8) W' A a.data.length a.data) : Both 25 28 #[.pointer (some ⟨g, 0, none⟩), .string a.a, .int .i64 a.at_, .slice A a.data.length c] #[.pointer (some ⟨r, 0, none⟩), .string a.a, .int .i64 a.at_, .slice A a.data.length c] b w (fun w' => ∃ N' M', KX w' b g r N' M' (stepV s a) ∧ BdV (stepV s a) N' M' (k + 1)) := by
  obtain ⟨gd, mn, ms, vo, mf, fl, rd, dn, ds, dv, vF, rl, h⟩ := h
  have hbn := hb.now
  have hbs := hb.safe
  have hbo := hb.ops
  have hbN := hb.n
  have hbM := hb.m
  have hbf := hb.fs
  have hol : (s.ops.map nrm).length ≤ 100000 := by rw [List.length_map]; omega
  have hrl := rl_len h.mr
  have hkg := h.kg hb hk
  have hrg := h.rg hb hk
  have hsz : ∀ p ∈ s.now, p.1.size ≤ maxLen := fun p hp => (hb.dn p hp).1
  have hbw : b ≤ w.heap.size := Nat.le_trans h.d.hg (Nat.le_of_lt (blk_lt h.d.hb))
  by_cases hc : (chg s.fuse s.armed s.dead).1 = 0
  · cases hn : getN s.now a.a with
    | none =>
      skip
      have hs : stepV s a = cntV s := (by rw [step_call s a (by omega) hc, callV_none _ _ (by omega) (show getN (cntV s).now a.a = none from hn)])
      rw [hs]
      refine both_same h 6 _ (fun W hW hd => ?_) (fun W hr => ?_) (fun w' N' hN' hx => ⟨N', M, hx, hb.cnt.up hk (by omega) (by omega)⟩)
      · refine (kwrite_none b (fun k => ¬ rS rl k) g gd mn ms vo N s.now s.safe (s.ops.map nrm) mf M fl (s.fs.length : Int) s.room s.fuse s.armed s.dead W hd hb.fuse.1 hb.fuse.2 hc a.a hsa hn a.at_ A _ c).mono ?_
        rintro e w' ⟨he, hd', hkt, hbl⟩
        exact ⟨he, ⟨vo, N, by omega, hd'⟩, hkt, hbl⟩
      · refine (rkwrite_none b r rd dn ds dv s.now s.safe s.ops vF rl s.room s.fuse s.armed s.dead W hr hb.fuse.1 hb.fuse.2 hc a.a a.at_ A _ c hn).mono ?_
        rintro e w' ⟨he, hr', hrt, hbl⟩
        exact ⟨he, ⟨_, _, hr'⟩, hrt, hbl⟩
    | some id =>
      obtain ⟨i, v, f, q, rfl, hil, hv, hf, hfm, hfi, ef1, ef2, ef3, hq, hqm, eq1, eq2, eq3, hfb⟩ := both_file h hb hn
      have hs0 : stepV s a = fileV (cntV s) a i v := by rw [step_call s a (by omega) hc, callV_some _ _ (by omega) i v (show getN (cntV s).now a.a = some (i : Int) from hn) (show (cntV s).fs[i]? = some (v, true) from hv)]
      by_cases hok : 0 ≤ a.at_ ∧ a.at_ ≤ 1048576 ∧ (a.data.length : Int) ≤ 1048576 - a.at_
      · obtain ⟨n, hn2⟩ := Int.eq_ofNat_of_zero_le hok.1
        have hn3 : n ≤ 1048576 := by omega
        have hn4 : a.data.length + n ≤ 1048576 := by omega
        rw [hn2]
        by_cases hh : a.data.length = 0 ∨ hasV s.fs s.now s.room v.now.length (szW v.now.length n a.data.length) = true
        · have hs : stepV s a = putV (cntV s) i (writeV v n a.data) := by
            rw [hs0]
            unfold fileV
            rw [if_pos hkd, if_pos hok, hn2, Int.toNat_natCast]
            exact if_pos hh
          rw [hs]
          have hl1 := hfb.now
          refine both_mk h 0 (fun w' => (∃ vn' vo', DK w' b (fun k => ¬ rS rl k) g gd mn ms vo N s.now s.safe (s.ops.map nrm) mf M (setFile fl ⟨f.id, f.g, vn', f.vs, vo', (writeF (f.now, f.ops) n a.data).1, f.safe, (writeF (f.now, f.ops) n a.data).2⟩) (s.fs.length : Int) s.room (chg s.fuse s.armed s.dead).2.1 s.armed (chg s.fuse s.armed s.dead).2.2) ∧ ∀ W', Below b w' W' → Kd.C (Kd.int .u8) W' A a.data.length a.data) _ (fun W hW hd => ?_) (fun W hd hr => ?_)
          · refine (kwrite_done b (fun k => ¬ rS rl k) g gd mn ms vo N s.now s.safe (s.ops.map nrm) mf M fl (s.fs.length : Int) s.room s.fuse s.armed s.dead W hd hb.fuse.1 hb.fuse.2 hc a.a hsa (i : Int) (by omega) (by omega) f hn hf hkg hb.rn (by omega) (by omega) hsz hb.room n A a.data.length c hn3 hn4 a.data rfl hnc (fun W' hb' => hst W' ((hW.mono hbw).trans hb')) (by rw [ef1, hasF_eq h hb, hasW]; exact hh)).mono ?_
            rintro e w' ⟨he, hd', hkt, hbl⟩
            exact ⟨he, ⟨hd', fun W' hb' => hst W' ((hW.mono hbw).trans (hbl.trans hb'))⟩, hkt, hbl⟩
          · obtain ⟨⟨vn', vo', hd⟩, hst'⟩ := hd
            refine (rkwrite_done b r rd dn ds dv s.now s.safe s.ops vF rl s.room s.fuse s.armed s.dead W hr hb.fuse.1 hb.fuse.2 hc a.a i q hn hq (by omega) hrg (by omega) n A a.data.length c hn3 hn4 a.data rfl hst' (by rw [eq1, hasR_eq h]; exact hh)).mono ?_
            rintro e w' ⟨he, ⟨vn2, vo2, hr', hrt⟩, hbl⟩
            exact ⟨he, ⟨N, M, file_fin h hv hfi hq (v' := writeV v n a.data) hd hr hrt hr' rfl (by show (⟨(writeF (f.now, f.ops) n a.data).1, f.safe, (writeF (f.now, f.ops) n a.data).2⟩ : RV) = _; rw [ef1, ef2, ef3]; rfl) rfl (by show (⟨(writeF (q.now, q.ops) n a.data).1, q.safe, (writeF (q.now, q.ops) n a.data).2⟩ : RV) = _; rw [eq1, eq2, eq3]; rfl), BdV.put (s := cntV s) hb.cnt hk (by omega) (by omega) i _ (hfb.write n a.data (by omega) hdl)⟩, AK.rt hrt hr.rS_typed, hbl⟩
        · have hh1 : 0 < a.data.length := by omega
          have hh2 : hasV s.fs s.now s.room v.now.length (szW v.now.length n a.data.length) = false := by
            cases e : hasV s.fs s.now s.room v.now.length (szW v.now.length n a.data.length) with
            | false => rfl
            | true => exact absurd (.inr e) hh
          have hs : stepV s a = cntV s := (by rw [hs0]; unfold fileV; rw [if_pos hkd, if_pos hok, hn2, Int.toNat_natCast]; exact if_neg hh)
          rw [hs]
          refine both_same h 20 _ (fun W hW hd => ?_) (fun W hr => ?_) (fun w' N' hN' hx => ⟨N', M, hx, hb.cnt.up hk (by omega) (by omega)⟩)
          · refine (kwrite_full b (fun k => ¬ rS rl k) g gd mn ms vo N s.now s.safe (s.ops.map nrm) mf M fl (s.fs.length : Int) s.room s.fuse s.armed s.dead W hd hb.fuse.1 hb.fuse.2 hc a.a hsa (i : Int) (by omega) (by omega) f hn hf hkg hb.rn (by omega) (by omega) hsz hb.room n A a.data.length c hn3 hn4 hh1 (by rw [ef1, hasF_eq h hb, hasW]; exact hh2)).mono ?_
            rintro e w' ⟨he, hd', hkt, hbl⟩
            exact ⟨he, ⟨vo, N, by omega, hd'⟩, hkt, hbl⟩
          · refine (rkwrite_space b r rd dn ds dv s.now s.safe s.ops vF rl s.room s.fuse s.armed s.dead W hr hb.fuse.1 hb.fuse.2 hc a.a i q hn hq (by omega) hrg (by omega) n A a.data.length c hn3 hn4 hh1 (by rw [eq1, hasR_eq h]; exact hh2)).mono ?_
            rintro e w' ⟨he, hr', hrt, hbl⟩
            exact ⟨he, ⟨_, _, hr'⟩, hrt, hbl⟩
      · have hbad : a.at_ < 0 ∨ 0 ≤ a.at_ ∧ 1048576 < a.at_ ∨ 0 ≤ a.at_ ∧ a.at_ ≤ 1048576 ∧ 1048576 - a.at_ < (a.data.length : Int) := by omega
        have hs : stepV s a = cntV s := (by rw [hs0]; unfold fileV; rw [if_pos hkd, if_neg hok])
        rw [hs]
        refine both_same h 1 _ (fun W hW hd => ?_) (fun W hr => ?_) (fun w' N' hN' hx => ⟨N', M, hx, hb.cnt.up hk (by omega) (by omega)⟩)
        · refine (kwrite_bad b (fun k => ¬ rS rl k) g gd mn ms vo N s.now s.safe (s.ops.map nrm) mf M fl (s.fs.length : Int) s.room s.fuse s.armed s.dead W hd hb.fuse.1 hb.fuse.2 hc a.a hsa (i : Int) (by omega) (by omega) f hn hf a.at_ A _ c (by omega) hbad).mono ?_
          rintro e w' ⟨he, hd', hkt, hbl⟩
          exact ⟨he, ⟨vo, N, by omega, hd'⟩, hkt, hbl⟩
        · refine (rkwrite_bad b r rd dn ds dv s.now s.safe s.ops vF rl s.room s.fuse s.armed s.dead W hr hb.fuse.1 hb.fuse.2 hc a.a i q hn hq (by omega) a.at_ A _ c (by omega) hbad).mono ?_
          rintro e w' ⟨he, hr', hrt, hbl⟩
          exact ⟨he, ⟨_, _, hr'⟩, hrt, hbl⟩
  · skip
    have hs : stepV s a = cntV s := by unfold stepV; rw [if_pos (by omega), if_neg hc]
    rw [hs]
    refine both_same h 26 _ (fun W hW hd => ?_) (fun W hr => ?_) (fun w' N' hN' hx => ⟨N', M, hx, hb.cnt.up hk (by omega) (by omega)⟩)
    · refine (kwrite_dead b (fun k => ¬ rS rl k) g gd mn ms vo N s.now s.safe (s.ops.map nrm) mf M fl (s.fs.length : Int) s.room s.fuse s.armed s.dead W hd hb.fuse.1 hb.fuse.2 hc a.a a.at_ A _ c).mono ?_
      rintro e w' ⟨he, hd', hkt, hbl⟩
      exact ⟨by rw [he, chg26 hc], ⟨vo, N, by omega, hd'⟩, hkt, hbl⟩
    · refine (rkwrite_dead b r rd dn ds dv s.now s.safe s.ops vF rl s.room s.fuse s.armed s.dead W hr hb.fuse.1 hb.fuse.2 hc a.a a.at_ A _ c).mono ?_
      rintro e w' ⟨he, hr', hrt, hbl⟩
      exact ⟨he, ⟨_, _, hr'⟩, hrt, hbl⟩
end
end Go.Proofs.YtpnbjpkdbiiogaaGreat
/- Disks: a call, done to both. -/
namespace Go.Proofs.YtpnbjpkdbiiogaaGreat
set_option linter.unusedVariables false
open Go.RowKit Go.Maps Go.Proofs.YtpnbjpkdbiiogaaGreatW.PrintWords
attribute [local go_sem] mx2 mn2 mxTwo mnTwo

set_option maxHeartbeats 1000000 in
set_option maxRecDepth 100000 in
theorem vdoes_create (b g r : Nat) (P : World → Prop) (sa sb : ByteArray) (at_ : Int) (A4 : Option Addr) (n4 c4 : Nat) (A5 : Option Addr) (n5 c5 : Nat) (w : World) (hbw : b ≤ w.heap.size) (h : Both 24 27 #[.pointer (some ⟨g, 0, none⟩), .string sa] #[.pointer (some ⟨r, 0, none⟩), .string sa] b w P) : Calls Tryz.prog 10 #[.pointer (some ⟨g, 0, none⟩), .pointer (some ⟨r, 0, none⟩), (.agg #[.int .i64 0, .string sa, .string sb, .int .i64 at_, .slice A4 n4 c4, .slice A5 n5 c5])] w (fun e w' => e = .returned (.tuple #[.pointer (some ⟨g, 0, none⟩), .pointer (some ⟨r, 0, none⟩), .bool true]) ∧ P w' ∧ Below b w w') := by
  obtain ⟨cd, PA, hA, hB⟩ := h
  have HA := Aside0.mk hA
  have HB := Aside0.mk hB
  have hcd : (cd == cd) = true := beq_self_eq_true cd
  clear hA hB
  go_enter Tryz.func10, Tryz.ntmps10
  go_wp2_with fail
  obtain ⟨W1, hW1⟩ : ∃ W1, W1 = w.alloc (.cells #[.int .i64 0, .string sa, .string sb, .int .i64 at_, .slice A4 n4 c4, .slice A5 n5 c5] 32) := ⟨_, rfl⟩
  have hna : W1.heap[w.heap.size]? = some (.cells #[.int .i64 0, .string sa, .string sb, .int .i64 at_, .slice A4 n4 c4, .slice A5 n5 c5] 32 (0, 0)) := by rw [hW1]; exact blk_new _ _
  have hb1 : Below w.heap.size w W1 := by rw [hW1]; exact below_alloc (Below.refl _ _) _
  rw [← hW1]
  obtain ⟨p5, hp5⟩ : ∃ p5, p5 = w.heap.size := ⟨_, rfl⟩
  rw [← hp5] at hna ⊢
  have t0 := (blk_cell hna 0).trans (rfl : _ = some (Value.int .i64 0))
  have t1 := (blk_cell hna 1).trans (rfl : _ = some (Value.string sa))
  have t2 := (blk_cell hna 2).trans (rfl : _ = some (Value.string sb))
  have t3 := (blk_cell hna 3).trans (rfl : _ = some (Value.int .i64 at_))
  have t4 := (blk_cell hna 4).trans (rfl : _ = some (Value.slice A4 n4 c4))
  have t5 := (blk_cell hna 5).trans (rfl : _ = some (Value.slice A5 n5 c5))
  have HB1 := Aside0.mk hb1
  have HNA := Aside0.mk hna
  clear hna hb1 hp5 hW1
  go_region_held3 (fun w' => w'.cell? ⟨p5, 1, none⟩ = some (.string sa) ∧ w'.cell? ⟨p5, 2, none⟩ = some (.string sb) ∧ w'.cell? ⟨p5, 3, none⟩ = some (.int .i64 at_) ∧ w'.cell? ⟨p5, 4, none⟩ = some (.slice A4 n4 c4) ∧ w'.cell? ⟨p5, 5, none⟩ = some (.slice A5 n5 c5)) (first | with_reducible exact ⟨t1, t2, t3, t4, t5⟩ | exact ⟨t1, t2, t3, t4, t5⟩) (first
    | (go_at_call 24; refine (HA.out _ (HB1.out.trans (below_drew1 (Below.refl _ _)))).mono ?_; rintro e w3 ⟨rfl, hpa, hak, hbl⟩; have hna := (hak p5 _ (blk_drew HNA.out)).trans (blk_drew HNA.out); replace t1 := (blk_cell hna 1).trans (rfl : _ = some (Value.string sa)); replace t2 := (blk_cell hna 2).trans (rfl : _ = some (Value.string sb)); replace t3 := (blk_cell hna 3).trans (rfl : _ = some (Value.int .i64 at_)); replace t4 := (blk_cell hna 4).trans (rfl : _ = some (Value.slice A4 n4 c4)); replace t5 := (blk_cell hna 5).trans (rfl : _ = some (Value.slice A5 n5 c5)); have HPA := Aside0.mk hpa; have HNA3 := Aside0.mk hna; have HL3 := Aside0.mk hbl; clear hpa hak hbl hna)
    | (go_at_call 27; refine (HB.out _ HPA.out).mono ?_; rintro e w4 ⟨rfl, hp, hak, hbl⟩; have hna := (hak p5 _ HNA3.out).trans HNA3.out; replace t1 := (blk_cell hna 1).trans (rfl : _ = some (Value.string sa)); replace t2 := (blk_cell hna 2).trans (rfl : _ = some (Value.string sb)); replace t3 := (blk_cell hna 3).trans (rfl : _ = some (Value.int .i64 at_)); replace t4 := (blk_cell hna 4).trans (rfl : _ = some (Value.slice A4 n4 c4)); replace t5 := (blk_cell hna 5).trans (rfl : _ = some (Value.slice A5 n5 c5)); have HP := Aside0.mk hp; have HL4 := Aside0.mk hbl; clear hp hak hbl hna))
  all_goals
    go_wp2_with fail
    go_ret3
    exact ⟨rfl, HP.out, (HB1.out.mono hbw).trans ((below_drew1 (Below.refl _ _)).trans (HL3.out.trans HL4.out))⟩
set_option maxHeartbeats 1000000 in
set_option maxRecDepth 100000 in
theorem vdoes_write (b g r : Nat) (P : World → Prop) (sa sb : ByteArray) (at_ : Int) (A4 : Option Addr) (n4 c4 : Nat) (A5 : Option Addr) (n5 c5 : Nat) (w : World) (hbw : b ≤ w.heap.size) (h : Both 25 28 #[.pointer (some ⟨g, 0, none⟩), .string sa, .int .i64 at_, .slice A4 n4 c4] #[.pointer (some ⟨r, 0, none⟩), .string sa, .int .i64 at_, .slice A4 n4 c4] b w P) : Calls Tryz.prog 10 #[.pointer (some ⟨g, 0, none⟩), .pointer (some ⟨r, 0, none⟩), (.agg #[.int .i64 1, .string sa, .string sb, .int .i64 at_, .slice A4 n4 c4, .slice A5 n5 c5])] w (fun e w' => e = .returned (.tuple #[.pointer (some ⟨g, 0, none⟩), .pointer (some ⟨r, 0, none⟩), .bool true]) ∧ P w' ∧ Below b w w') := by
  obtain ⟨cd, PA, hA, hB⟩ := h
  have HA := Aside0.mk hA
  have HB := Aside0.mk hB
  have hcd : (cd == cd) = true := beq_self_eq_true cd
  clear hA hB
  go_enter Tryz.func10, Tryz.ntmps10
  go_wp2_with fail
  obtain ⟨W1, hW1⟩ : ∃ W1, W1 = w.alloc (.cells #[.int .i64 1, .string sa, .string sb, .int .i64 at_, .slice A4 n4 c4, .slice A5 n5 c5] 32) := ⟨_, rfl⟩
  have hna : W1.heap[w.heap.size]? = some (.cells #[.int .i64 1, .string sa, .string sb, .int .i64 at_, .slice A4 n4 c4, .slice A5 n5 c5] 32 (0, 0)) := by rw [hW1]; exact blk_new _ _
  have hb1 : Below w.heap.size w W1 := by rw [hW1]; exact below_alloc (Below.refl _ _) _
  rw [← hW1]
  obtain ⟨p5, hp5⟩ : ∃ p5, p5 = w.heap.size := ⟨_, rfl⟩
  rw [← hp5] at hna ⊢
  have t0 := (blk_cell hna 0).trans (rfl : _ = some (Value.int .i64 1))
  have t1 := (blk_cell hna 1).trans (rfl : _ = some (Value.string sa))
  have t2 := (blk_cell hna 2).trans (rfl : _ = some (Value.string sb))
  have t3 := (blk_cell hna 3).trans (rfl : _ = some (Value.int .i64 at_))
  have t4 := (blk_cell hna 4).trans (rfl : _ = some (Value.slice A4 n4 c4))
  have t5 := (blk_cell hna 5).trans (rfl : _ = some (Value.slice A5 n5 c5))
  have HB1 := Aside0.mk hb1
  have HNA := Aside0.mk hna
  clear hna hb1 hp5 hW1
  go_region_held3 (fun w' => w'.cell? ⟨p5, 1, none⟩ = some (.string sa) ∧ w'.cell? ⟨p5, 2, none⟩ = some (.string sb) ∧ w'.cell? ⟨p5, 3, none⟩ = some (.int .i64 at_) ∧ w'.cell? ⟨p5, 4, none⟩ = some (.slice A4 n4 c4) ∧ w'.cell? ⟨p5, 5, none⟩ = some (.slice A5 n5 c5)) (first | with_reducible exact ⟨t1, t2, t3, t4, t5⟩ | exact ⟨t1, t2, t3, t4, t5⟩) (first
    | (go_at_call 25; refine (HA.out _ (HB1.out.trans (below_drew1 (Below.refl _ _)))).mono ?_; rintro e w3 ⟨rfl, hpa, hak, hbl⟩; have hna := (hak p5 _ (blk_drew HNA.out)).trans (blk_drew HNA.out); replace t1 := (blk_cell hna 1).trans (rfl : _ = some (Value.string sa)); replace t2 := (blk_cell hna 2).trans (rfl : _ = some (Value.string sb)); replace t3 := (blk_cell hna 3).trans (rfl : _ = some (Value.int .i64 at_)); replace t4 := (blk_cell hna 4).trans (rfl : _ = some (Value.slice A4 n4 c4)); replace t5 := (blk_cell hna 5).trans (rfl : _ = some (Value.slice A5 n5 c5)); have HPA := Aside0.mk hpa; have HNA3 := Aside0.mk hna; have HL3 := Aside0.mk hbl; clear hpa hak hbl hna)
    | (go_at_call 28; refine (HB.out _ HPA.out).mono ?_; rintro e w4 ⟨rfl, hp, hak, hbl⟩; have hna := (hak p5 _ HNA3.out).trans HNA3.out; replace t1 := (blk_cell hna 1).trans (rfl : _ = some (Value.string sa)); replace t2 := (blk_cell hna 2).trans (rfl : _ = some (Value.string sb)); replace t3 := (blk_cell hna 3).trans (rfl : _ = some (Value.int .i64 at_)); replace t4 := (blk_cell hna 4).trans (rfl : _ = some (Value.slice A4 n4 c4)); replace t5 := (blk_cell hna 5).trans (rfl : _ = some (Value.slice A5 n5 c5)); have HP := Aside0.mk hp; have HL4 := Aside0.mk hbl; clear hp hak hbl hna))
  all_goals
    go_wp2_with fail
    go_ret3
    exact ⟨rfl, HP.out, (HB1.out.mono hbw).trans ((below_drew1 (Below.refl _ _)).trans (HL3.out.trans HL4.out))⟩
set_option maxHeartbeats 1000000 in
set_option maxRecDepth 100000 in
theorem vdoes_trunc (b g r : Nat) (P : World → Prop) (sa sb : ByteArray) (at_ : Int) (A4 : Option Addr) (n4 c4 : Nat) (A5 : Option Addr) (n5 c5 : Nat) (w : World) (hbw : b ≤ w.heap.size) (h : Both 29 30 #[.pointer (some ⟨g, 0, none⟩), .string sa, .int .i64 at_] #[.pointer (some ⟨r, 0, none⟩), .string sa, .int .i64 at_] b w P) : Calls Tryz.prog 10 #[.pointer (some ⟨g, 0, none⟩), .pointer (some ⟨r, 0, none⟩), (.agg #[.int .i64 2, .string sa, .string sb, .int .i64 at_, .slice A4 n4 c4, .slice A5 n5 c5])] w (fun e w' => e = .returned (.tuple #[.pointer (some ⟨g, 0, none⟩), .pointer (some ⟨r, 0, none⟩), .bool true]) ∧ P w' ∧ Below b w w') := by
  obtain ⟨cd, PA, hA, hB⟩ := h
  have HA := Aside0.mk hA
  have HB := Aside0.mk hB
  have hcd : (cd == cd) = true := beq_self_eq_true cd
  clear hA hB
  go_enter Tryz.func10, Tryz.ntmps10
  go_wp2_with fail
  obtain ⟨W1, hW1⟩ : ∃ W1, W1 = w.alloc (.cells #[.int .i64 2, .string sa, .string sb, .int .i64 at_, .slice A4 n4 c4, .slice A5 n5 c5] 32) := ⟨_, rfl⟩
  have hna : W1.heap[w.heap.size]? = some (.cells #[.int .i64 2, .string sa, .string sb, .int .i64 at_, .slice A4 n4 c4, .slice A5 n5 c5] 32 (0, 0)) := by rw [hW1]; exact blk_new _ _
  have hb1 : Below w.heap.size w W1 := by rw [hW1]; exact below_alloc (Below.refl _ _) _
  rw [← hW1]
  obtain ⟨p5, hp5⟩ : ∃ p5, p5 = w.heap.size := ⟨_, rfl⟩
  rw [← hp5] at hna ⊢
  have t0 := (blk_cell hna 0).trans (rfl : _ = some (Value.int .i64 2))
  have t1 := (blk_cell hna 1).trans (rfl : _ = some (Value.string sa))
  have t2 := (blk_cell hna 2).trans (rfl : _ = some (Value.string sb))
  have t3 := (blk_cell hna 3).trans (rfl : _ = some (Value.int .i64 at_))
  have t4 := (blk_cell hna 4).trans (rfl : _ = some (Value.slice A4 n4 c4))
  have t5 := (blk_cell hna 5).trans (rfl : _ = some (Value.slice A5 n5 c5))
  have HB1 := Aside0.mk hb1
  have HNA := Aside0.mk hna
  clear hna hb1 hp5 hW1
  go_region_held3 (fun w' => w'.cell? ⟨p5, 1, none⟩ = some (.string sa) ∧ w'.cell? ⟨p5, 2, none⟩ = some (.string sb) ∧ w'.cell? ⟨p5, 3, none⟩ = some (.int .i64 at_) ∧ w'.cell? ⟨p5, 4, none⟩ = some (.slice A4 n4 c4) ∧ w'.cell? ⟨p5, 5, none⟩ = some (.slice A5 n5 c5)) (first | with_reducible exact ⟨t1, t2, t3, t4, t5⟩ | exact ⟨t1, t2, t3, t4, t5⟩) (first
    | (go_at_call 29; refine (HA.out _ (HB1.out.trans (below_drew1 (Below.refl _ _)))).mono ?_; rintro e w3 ⟨rfl, hpa, hak, hbl⟩; have hna := (hak p5 _ (blk_drew HNA.out)).trans (blk_drew HNA.out); replace t1 := (blk_cell hna 1).trans (rfl : _ = some (Value.string sa)); replace t2 := (blk_cell hna 2).trans (rfl : _ = some (Value.string sb)); replace t3 := (blk_cell hna 3).trans (rfl : _ = some (Value.int .i64 at_)); replace t4 := (blk_cell hna 4).trans (rfl : _ = some (Value.slice A4 n4 c4)); replace t5 := (blk_cell hna 5).trans (rfl : _ = some (Value.slice A5 n5 c5)); have HPA := Aside0.mk hpa; have HNA3 := Aside0.mk hna; have HL3 := Aside0.mk hbl; clear hpa hak hbl hna)
    | (go_at_call 30; refine (HB.out _ HPA.out).mono ?_; rintro e w4 ⟨rfl, hp, hak, hbl⟩; have hna := (hak p5 _ HNA3.out).trans HNA3.out; replace t1 := (blk_cell hna 1).trans (rfl : _ = some (Value.string sa)); replace t2 := (blk_cell hna 2).trans (rfl : _ = some (Value.string sb)); replace t3 := (blk_cell hna 3).trans (rfl : _ = some (Value.int .i64 at_)); replace t4 := (blk_cell hna 4).trans (rfl : _ = some (Value.slice A4 n4 c4)); replace t5 := (blk_cell hna 5).trans (rfl : _ = some (Value.slice A5 n5 c5)); have HP := Aside0.mk hp; have HL4 := Aside0.mk hbl; clear hp hak hbl hna))
  all_goals
    go_wp2_with fail
    go_ret3
    exact ⟨rfl, HP.out, (HB1.out.mono hbw).trans ((below_drew1 (Below.refl _ _)).trans (HL3.out.trans HL4.out))⟩
set_option maxHeartbeats 1000000 in
set_option maxRecDepth 100000 in
theorem vdoes_sync (b g r : Nat) (P : World → Prop) (sa sb : ByteArray) (at_ : Int) (A4 : Option Addr) (n4 c4 : Nat) (A5 : Option Addr) (n5 c5 : Nat) (w : World) (hbw : b ≤ w.heap.size) (h : Both 12 31 #[.pointer (some ⟨g, 0, none⟩), .string sa] #[.pointer (some ⟨r, 0, none⟩), .string sa, .bool false] b w P) : Calls Tryz.prog 10 #[.pointer (some ⟨g, 0, none⟩), .pointer (some ⟨r, 0, none⟩), (.agg #[.int .i64 3, .string sa, .string sb, .int .i64 at_, .slice A4 n4 c4, .slice A5 n5 c5])] w (fun e w' => e = .returned (.tuple #[.pointer (some ⟨g, 0, none⟩), .pointer (some ⟨r, 0, none⟩), .bool true]) ∧ P w' ∧ Below b w w') := by
  obtain ⟨cd, PA, hA, hB⟩ := h
  have HA := Aside0.mk hA
  have HB := Aside0.mk hB
  have hcd : (cd == cd) = true := beq_self_eq_true cd
  clear hA hB
  go_enter Tryz.func10, Tryz.ntmps10
  go_wp2_with fail
  obtain ⟨W1, hW1⟩ : ∃ W1, W1 = w.alloc (.cells #[.int .i64 3, .string sa, .string sb, .int .i64 at_, .slice A4 n4 c4, .slice A5 n5 c5] 32) := ⟨_, rfl⟩
  have hna : W1.heap[w.heap.size]? = some (.cells #[.int .i64 3, .string sa, .string sb, .int .i64 at_, .slice A4 n4 c4, .slice A5 n5 c5] 32 (0, 0)) := by rw [hW1]; exact blk_new _ _
  have hb1 : Below w.heap.size w W1 := by rw [hW1]; exact below_alloc (Below.refl _ _) _
  rw [← hW1]
  obtain ⟨p5, hp5⟩ : ∃ p5, p5 = w.heap.size := ⟨_, rfl⟩
  rw [← hp5] at hna ⊢
  have t0 := (blk_cell hna 0).trans (rfl : _ = some (Value.int .i64 3))
  have t1 := (blk_cell hna 1).trans (rfl : _ = some (Value.string sa))
  have t2 := (blk_cell hna 2).trans (rfl : _ = some (Value.string sb))
  have t3 := (blk_cell hna 3).trans (rfl : _ = some (Value.int .i64 at_))
  have t4 := (blk_cell hna 4).trans (rfl : _ = some (Value.slice A4 n4 c4))
  have t5 := (blk_cell hna 5).trans (rfl : _ = some (Value.slice A5 n5 c5))
  have HB1 := Aside0.mk hb1
  have HNA := Aside0.mk hna
  clear hna hb1 hp5 hW1
  go_region_held3 (fun w' => w'.cell? ⟨p5, 1, none⟩ = some (.string sa) ∧ w'.cell? ⟨p5, 2, none⟩ = some (.string sb) ∧ w'.cell? ⟨p5, 3, none⟩ = some (.int .i64 at_) ∧ w'.cell? ⟨p5, 4, none⟩ = some (.slice A4 n4 c4) ∧ w'.cell? ⟨p5, 5, none⟩ = some (.slice A5 n5 c5)) (first | with_reducible exact ⟨t1, t2, t3, t4, t5⟩ | exact ⟨t1, t2, t3, t4, t5⟩) (first
    | (go_at_call 12; refine (HA.out _ (HB1.out.trans (below_drew1 (Below.refl _ _)))).mono ?_; rintro e w3 ⟨rfl, hpa, hak, hbl⟩; have hna := (hak p5 _ (blk_drew HNA.out)).trans (blk_drew HNA.out); replace t1 := (blk_cell hna 1).trans (rfl : _ = some (Value.string sa)); replace t2 := (blk_cell hna 2).trans (rfl : _ = some (Value.string sb)); replace t3 := (blk_cell hna 3).trans (rfl : _ = some (Value.int .i64 at_)); replace t4 := (blk_cell hna 4).trans (rfl : _ = some (Value.slice A4 n4 c4)); replace t5 := (blk_cell hna 5).trans (rfl : _ = some (Value.slice A5 n5 c5)); have HPA := Aside0.mk hpa; have HNA3 := Aside0.mk hna; have HL3 := Aside0.mk hbl; clear hpa hak hbl hna)
    | (go_at_call 31; refine (HB.out _ HPA.out).mono ?_; rintro e w4 ⟨rfl, hp, hak, hbl⟩; have hna := (hak p5 _ HNA3.out).trans HNA3.out; replace t1 := (blk_cell hna 1).trans (rfl : _ = some (Value.string sa)); replace t2 := (blk_cell hna 2).trans (rfl : _ = some (Value.string sb)); replace t3 := (blk_cell hna 3).trans (rfl : _ = some (Value.int .i64 at_)); replace t4 := (blk_cell hna 4).trans (rfl : _ = some (Value.slice A4 n4 c4)); replace t5 := (blk_cell hna 5).trans (rfl : _ = some (Value.slice A5 n5 c5)); have HP := Aside0.mk hp; have HL4 := Aside0.mk hbl; clear hp hak hbl hna))
  all_goals
    go_wp2_with fail
    go_ret3
    exact ⟨rfl, HP.out, (HB1.out.mono hbw).trans ((below_drew1 (Below.refl _ _)).trans (HL3.out.trans HL4.out))⟩
set_option maxHeartbeats 1000000 in
set_option maxRecDepth 100000 in
theorem vdoes_rename (b g r : Nat) (P : World → Prop) (sa sb : ByteArray) (at_ : Int) (A4 : Option Addr) (n4 c4 : Nat) (A5 : Option Addr) (n5 c5 : Nat) (w : World) (hbw : b ≤ w.heap.size) (h : Both 32 33 #[.pointer (some ⟨g, 0, none⟩), .string sa, .string sb] #[.pointer (some ⟨r, 0, none⟩), .string sa, .string sb] b w P) : Calls Tryz.prog 10 #[.pointer (some ⟨g, 0, none⟩), .pointer (some ⟨r, 0, none⟩), (.agg #[.int .i64 5, .string sa, .string sb, .int .i64 at_, .slice A4 n4 c4, .slice A5 n5 c5])] w (fun e w' => e = .returned (.tuple #[.pointer (some ⟨g, 0, none⟩), .pointer (some ⟨r, 0, none⟩), .bool true]) ∧ P w' ∧ Below b w w') := by
  obtain ⟨cd, PA, hA, hB⟩ := h
  have HA := Aside0.mk hA
  have HB := Aside0.mk hB
  have hcd : (cd == cd) = true := beq_self_eq_true cd
  clear hA hB
  go_enter Tryz.func10, Tryz.ntmps10
  go_wp2_with fail
  obtain ⟨W1, hW1⟩ : ∃ W1, W1 = w.alloc (.cells #[.int .i64 5, .string sa, .string sb, .int .i64 at_, .slice A4 n4 c4, .slice A5 n5 c5] 32) := ⟨_, rfl⟩
  have hna : W1.heap[w.heap.size]? = some (.cells #[.int .i64 5, .string sa, .string sb, .int .i64 at_, .slice A4 n4 c4, .slice A5 n5 c5] 32 (0, 0)) := by rw [hW1]; exact blk_new _ _
  have hb1 : Below w.heap.size w W1 := by rw [hW1]; exact below_alloc (Below.refl _ _) _
  rw [← hW1]
  obtain ⟨p5, hp5⟩ : ∃ p5, p5 = w.heap.size := ⟨_, rfl⟩
  rw [← hp5] at hna ⊢
  have t0 := (blk_cell hna 0).trans (rfl : _ = some (Value.int .i64 5))
  have t1 := (blk_cell hna 1).trans (rfl : _ = some (Value.string sa))
  have t2 := (blk_cell hna 2).trans (rfl : _ = some (Value.string sb))
  have t3 := (blk_cell hna 3).trans (rfl : _ = some (Value.int .i64 at_))
  have t4 := (blk_cell hna 4).trans (rfl : _ = some (Value.slice A4 n4 c4))
  have t5 := (blk_cell hna 5).trans (rfl : _ = some (Value.slice A5 n5 c5))
  have HB1 := Aside0.mk hb1
  have HNA := Aside0.mk hna
  clear hna hb1 hp5 hW1
  go_region_held3 (fun w' => w'.cell? ⟨p5, 1, none⟩ = some (.string sa) ∧ w'.cell? ⟨p5, 2, none⟩ = some (.string sb) ∧ w'.cell? ⟨p5, 3, none⟩ = some (.int .i64 at_) ∧ w'.cell? ⟨p5, 4, none⟩ = some (.slice A4 n4 c4) ∧ w'.cell? ⟨p5, 5, none⟩ = some (.slice A5 n5 c5)) (first | with_reducible exact ⟨t1, t2, t3, t4, t5⟩ | exact ⟨t1, t2, t3, t4, t5⟩) (first
    | (go_at_call 32; refine (HA.out _ (HB1.out.trans (below_drew1 (Below.refl _ _)))).mono ?_; rintro e w3 ⟨rfl, hpa, hak, hbl⟩; have hna := (hak p5 _ (blk_drew HNA.out)).trans (blk_drew HNA.out); replace t1 := (blk_cell hna 1).trans (rfl : _ = some (Value.string sa)); replace t2 := (blk_cell hna 2).trans (rfl : _ = some (Value.string sb)); replace t3 := (blk_cell hna 3).trans (rfl : _ = some (Value.int .i64 at_)); replace t4 := (blk_cell hna 4).trans (rfl : _ = some (Value.slice A4 n4 c4)); replace t5 := (blk_cell hna 5).trans (rfl : _ = some (Value.slice A5 n5 c5)); have HPA := Aside0.mk hpa; have HNA3 := Aside0.mk hna; have HL3 := Aside0.mk hbl; clear hpa hak hbl hna)
    | (go_at_call 33; refine (HB.out _ HPA.out).mono ?_; rintro e w4 ⟨rfl, hp, hak, hbl⟩; have hna := (hak p5 _ HNA3.out).trans HNA3.out; replace t1 := (blk_cell hna 1).trans (rfl : _ = some (Value.string sa)); replace t2 := (blk_cell hna 2).trans (rfl : _ = some (Value.string sb)); replace t3 := (blk_cell hna 3).trans (rfl : _ = some (Value.int .i64 at_)); replace t4 := (blk_cell hna 4).trans (rfl : _ = some (Value.slice A4 n4 c4)); replace t5 := (blk_cell hna 5).trans (rfl : _ = some (Value.slice A5 n5 c5)); have HP := Aside0.mk hp; have HL4 := Aside0.mk hbl; clear hp hak hbl hna))
  all_goals
    go_wp2_with fail
    go_ret3
    exact ⟨rfl, HP.out, (HB1.out.mono hbw).trans ((below_drew1 (Below.refl _ _)).trans (HL3.out.trans HL4.out))⟩
set_option maxHeartbeats 1000000 in
set_option maxRecDepth 100000 in
theorem vdoes_unlink (b g r : Nat) (P : World → Prop) (sa sb : ByteArray) (at_ : Int) (A4 : Option Addr) (n4 c4 : Nat) (A5 : Option Addr) (n5 c5 : Nat) (w : World) (hbw : b ≤ w.heap.size) (h : Both 34 35 #[.pointer (some ⟨g, 0, none⟩), .string sa] #[.pointer (some ⟨r, 0, none⟩), .string sa] b w P) : Calls Tryz.prog 10 #[.pointer (some ⟨g, 0, none⟩), .pointer (some ⟨r, 0, none⟩), (.agg #[.int .i64 6, .string sa, .string sb, .int .i64 at_, .slice A4 n4 c4, .slice A5 n5 c5])] w (fun e w' => e = .returned (.tuple #[.pointer (some ⟨g, 0, none⟩), .pointer (some ⟨r, 0, none⟩), .bool true]) ∧ P w' ∧ Below b w w') := by
  obtain ⟨cd, PA, hA, hB⟩ := h
  have HA := Aside0.mk hA
  have HB := Aside0.mk hB
  have hcd : (cd == cd) = true := beq_self_eq_true cd
  clear hA hB
  go_enter Tryz.func10, Tryz.ntmps10
  go_wp2_with fail
  obtain ⟨W1, hW1⟩ : ∃ W1, W1 = w.alloc (.cells #[.int .i64 6, .string sa, .string sb, .int .i64 at_, .slice A4 n4 c4, .slice A5 n5 c5] 32) := ⟨_, rfl⟩
  have hna : W1.heap[w.heap.size]? = some (.cells #[.int .i64 6, .string sa, .string sb, .int .i64 at_, .slice A4 n4 c4, .slice A5 n5 c5] 32 (0, 0)) := by rw [hW1]; exact blk_new _ _
  have hb1 : Below w.heap.size w W1 := by rw [hW1]; exact below_alloc (Below.refl _ _) _
  rw [← hW1]
  obtain ⟨p5, hp5⟩ : ∃ p5, p5 = w.heap.size := ⟨_, rfl⟩
  rw [← hp5] at hna ⊢
  have t0 := (blk_cell hna 0).trans (rfl : _ = some (Value.int .i64 6))
  have t1 := (blk_cell hna 1).trans (rfl : _ = some (Value.string sa))
  have t2 := (blk_cell hna 2).trans (rfl : _ = some (Value.string sb))
  have t3 := (blk_cell hna 3).trans (rfl : _ = some (Value.int .i64 at_))
  have t4 := (blk_cell hna 4).trans (rfl : _ = some (Value.slice A4 n4 c4))
  have t5 := (blk_cell hna 5).trans (rfl : _ = some (Value.slice A5 n5 c5))
  have HB1 := Aside0.mk hb1
  have HNA := Aside0.mk hna
  clear hna hb1 hp5 hW1
  go_region_held3 (fun w' => w'.cell? ⟨p5, 1, none⟩ = some (.string sa) ∧ w'.cell? ⟨p5, 2, none⟩ = some (.string sb) ∧ w'.cell? ⟨p5, 3, none⟩ = some (.int .i64 at_) ∧ w'.cell? ⟨p5, 4, none⟩ = some (.slice A4 n4 c4) ∧ w'.cell? ⟨p5, 5, none⟩ = some (.slice A5 n5 c5)) (first | with_reducible exact ⟨t1, t2, t3, t4, t5⟩ | exact ⟨t1, t2, t3, t4, t5⟩) (first
    | (go_at_call 34; refine (HA.out _ (HB1.out.trans (below_drew1 (Below.refl _ _)))).mono ?_; rintro e w3 ⟨rfl, hpa, hak, hbl⟩; have hna := (hak p5 _ (blk_drew HNA.out)).trans (blk_drew HNA.out); replace t1 := (blk_cell hna 1).trans (rfl : _ = some (Value.string sa)); replace t2 := (blk_cell hna 2).trans (rfl : _ = some (Value.string sb)); replace t3 := (blk_cell hna 3).trans (rfl : _ = some (Value.int .i64 at_)); replace t4 := (blk_cell hna 4).trans (rfl : _ = some (Value.slice A4 n4 c4)); replace t5 := (blk_cell hna 5).trans (rfl : _ = some (Value.slice A5 n5 c5)); have HPA := Aside0.mk hpa; have HNA3 := Aside0.mk hna; have HL3 := Aside0.mk hbl; clear hpa hak hbl hna)
    | (go_at_call 35; refine (HB.out _ HPA.out).mono ?_; rintro e w4 ⟨rfl, hp, hak, hbl⟩; have hna := (hak p5 _ HNA3.out).trans HNA3.out; replace t1 := (blk_cell hna 1).trans (rfl : _ = some (Value.string sa)); replace t2 := (blk_cell hna 2).trans (rfl : _ = some (Value.string sb)); replace t3 := (blk_cell hna 3).trans (rfl : _ = some (Value.int .i64 at_)); replace t4 := (blk_cell hna 4).trans (rfl : _ = some (Value.slice A4 n4 c4)); replace t5 := (blk_cell hna 5).trans (rfl : _ = some (Value.slice A5 n5 c5)); have HP := Aside0.mk hp; have HL4 := Aside0.mk hbl; clear hp hak hbl hna))
  all_goals
    go_wp2_with fail
    go_ret3
    exact ⟨rfl, HP.out, (HB1.out.mono hbw).trans ((below_drew1 (Below.refl _ _)).trans (HL3.out.trans HL4.out))⟩
set_option maxHeartbeats 1000000 in
set_option maxRecDepth 100000 in
theorem vdoes_syncdir (b g r : Nat) (P : World → Prop) (sa sb : ByteArray) (at_ : Int) (A4 : Option Addr) (n4 c4 : Nat) (A5 : Option Addr) (n5 c5 : Nat) (w : World) (hbw : b ≤ w.heap.size) (h : Both 13 31 #[.pointer (some ⟨g, 0, none⟩)] #[.pointer (some ⟨r, 0, none⟩), .string ⟨#[]⟩, .bool true] b w P) : Calls Tryz.prog 10 #[.pointer (some ⟨g, 0, none⟩), .pointer (some ⟨r, 0, none⟩), (.agg #[.int .i64 4, .string sa, .string sb, .int .i64 at_, .slice A4 n4 c4, .slice A5 n5 c5])] w (fun e w' => e = .returned (.tuple #[.pointer (some ⟨g, 0, none⟩), .pointer (some ⟨r, 0, none⟩), .bool true]) ∧ P w' ∧ Below b w w') := by
  obtain ⟨cd, PA, hA, hB⟩ := h
  have HA := Aside0.mk hA
  have HB := Aside0.mk hB
  have HW := Aside0.mk (below_alloc (Below.refl w.heap.size w) (.cells #[.int .i64 4, .string sa, .string sb, .int .i64 at_, .slice A4 n4 c4, .slice A5 n5 c5] 32))
  have hcd : (cd == cd) = true := beq_self_eq_true cd
  clear hA hB
  go_enter Tryz.func10, Tryz.ntmps10
  go_wp2_with (first
    | (go_at_call 13; refine (HA.out _ HW.out).mono ?_; rintro e w3 ⟨rfl, hpa, hak, hbl⟩; have HPA := Aside0.mk hpa; have HL3 := Aside0.mk hbl; clear hpa hak hbl)
    | (go_at_call 31; refine (HB.out _ HPA.out).mono ?_; rintro e w4 ⟨rfl, hp, hak, hbl⟩; have HP := Aside0.mk hp; have HL4 := Aside0.mk hbl; clear hp hak hbl))
  go_ret3
  exact ⟨rfl, HP.out, (HW.out.mono hbw).trans (HL3.out.trans HL4.out)⟩
end Go.Proofs.YtpnbjpkdbiiogaaGreat
/- Disks: Arm and a crash, done to both; any call. -/
namespace Go.Proofs.YtpnbjpkdbiiogaaGreat
set_option linter.unusedVariables false
open Go.RowKit Go.Maps Go.Proofs.YtpnbjpkdbiiogaaGreatW.PrintWords
attribute [local go_sem] mx2 mn2 mxTwo mnTwo


set_option maxHeartbeats 1000000 in
set_option maxRecDepth 100000 in
theorem vdoes_arm (b g r N M : Nat) (s : VSt) (sa sb : ByteArray) (at_ : Int) (A4 : Option Addr) (n4 c4 : Nat) (A5 : Option Addr) (n5 c5 : Nat) (w : World) (hbw : b ≤ w.heap.size) (h : KX w b g r N M s) : Calls Tryz.prog 10 #[.pointer (some ⟨g, 0, none⟩), .pointer (some ⟨r, 0, none⟩), (.agg #[.int .i64 7, .string sa, .string sb, .int .i64 at_, .slice A4 n4 c4, .slice A5 n5 c5])] w fun e w' => e = .returned (.tuple #[.pointer (some ⟨g, 0, none⟩), .pointer (some ⟨r, 0, none⟩), .bool true]) ∧ KX w' b g r N M { s with fuse := if at_ < 0 then 0 else at_, armed := true } ∧ Below b w w' := by
  obtain ⟨gd, mn, ms, vo, mf, fl, rd, dn, ds, dv, vF, rl, h⟩ := h
  obtain ⟨fz, hfz⟩ : ∃ x, x = (if at_ < 0 then 0 else at_) := ⟨_, rfl⟩
  rw [← hfz]
  have HFZ := Aside0.mk hfz
  have H := Aside0.mk h
  clear h hfz
  go_enter Tryz.func10, Tryz.ntmps10
  go_wp2_with fail
  obtain ⟨W1, hW1⟩ : ∃ W1, W1 = w.alloc (.cells #[.int .i64 7, .string sa, .string sb, .int .i64 at_, .slice A4 n4 c4, .slice A5 n5 c5] 32) := ⟨_, rfl⟩
  have hna : W1.heap[w.heap.size]? = some (.cells #[.int .i64 7, .string sa, .string sb, .int .i64 at_, .slice A4 n4 c4, .slice A5 n5 c5] 32 (0, 0)) := by rw [hW1]; exact blk_new _ _
  have hb1 : Below w.heap.size w W1 := by rw [hW1]; exact below_alloc (Below.refl _ _) _
  rw [← hW1]
  obtain ⟨p5, hp5⟩ : ∃ p5, p5 = w.heap.size := ⟨_, rfl⟩
  rw [← hp5] at hna ⊢
  have t0 := (blk_cell hna 0).trans (rfl : _ = some (Value.int .i64 7))
  have t1 := (blk_cell hna 1).trans (rfl : _ = some (Value.string sa))
  have t2 := (blk_cell hna 2).trans (rfl : _ = some (Value.string sb))
  have t3 := (blk_cell hna 3).trans (rfl : _ = some (Value.int .i64 at_))
  have t4 := (blk_cell hna 4).trans (rfl : _ = some (Value.slice A4 n4 c4))
  have t5 := (blk_cell hna 5).trans (rfl : _ = some (Value.slice A5 n5 c5))
  have HB1 := Aside0.mk hb1
  have HNA := Aside0.mk hna
  clear hna hb1 hp5 hW1
  have hd := H.out.d.below HB1.out
  have hr := H.out.r.below HB1.out
  have HD := Aside0.mk hd
  have HR := Aside0.mk hr
  clear hd hr
  go_wp2_with (first
    | (go_at_call 36; refine (arm_any b (fun k => ¬ rS rl k) g gd mn ms vo N s.now s.safe (s.ops.map nrm) mf M fl (s.fs.length : Int) s.room s.fuse s.armed s.dead _ HD.out at_).mono ?_; rw [← HFZ.out]; rintro e w3 ⟨rfl, hd3, hkt, hl3⟩; have hna := (AK.kt hkt p5 _ HNA.out).trans HNA.out; replace t1 := (blk_cell hna 1).trans (rfl : _ = some (Value.string sa)); replace t2 := (blk_cell hna 2).trans (rfl : _ = some (Value.string sb)); replace t3 := (blk_cell hna 3).trans (rfl : _ = some (Value.int .i64 at_)); replace t4 := (blk_cell hna 4).trans (rfl : _ = some (Value.slice A4 n4 c4)); replace t5 := (blk_cell hna 5).trans (rfl : _ = some (Value.slice A5 n5 c5)); have HR3 := Aside0.mk (HR.out.code hkt); have HD3 := Aside0.mk hd3; have HL3 := Aside0.mk hl3; clear hd3 hkt hl3 hna)
    | (go_at_call 37; refine (rkarm_any b r rd dn ds dv s.now s.safe s.ops vF rl s.room s.fuse s.armed s.dead _ HR3.out at_).mono ?_; rw [← HFZ.out]; rintro e w4 ⟨rfl, hr4, hrt, hl4⟩; have HX := Aside0.mk (KX.fin (s' := { s with fuse := fz, armed := true }) HD3.out HR3.out hrt hr4 H.out.mf H.out.mr); have HL4 := Aside0.mk hl4; clear hr4 hrt hl4))
  go_ret3
  exact ⟨rfl, HX.out, (HB1.out.mono hbw).trans (HL3.out.trans HL4.out)⟩
theorem crash_names (s : VSt) (kl : List Bool) : crashD s.safe (s.ops.map nrm) kl (s.ops.map nrm).length = crashD s.safe s.ops kl s.ops.length := by rw [List.length_map, crash_nrm _ _ _ _ (Nat.le_refl _)]
set_option maxHeartbeats 2000000 in
set_option maxRecDepth 100000 in
theorem vdoes_crash (kd : Int) (q0 : (kd == 0) = false) (q1 : (kd == 1) = false) (q2 : (kd == 2) = false) (q3 : (kd == 3) = false) (q4 : (kd == 4) = false) (q5 : (kd == 5) = false) (q6 : (kd == 6) = false) (q7 : (kd == 7) = false)
    (b g r N M : Nat) (s : VSt) (k : Nat) (sa sb : ByteArray) (at_ : Int) (A4 : Option Addr) (n4 c4 : Nat) (A5 : Option Addr) (n5 c5 : Nat) (kl : List Bool) (w : World) (hbw : b ≤ w.heap.size) (h : KX w b g r N M s) (hb : BdV s N M k) (hk : k ≤ 49) (hn5 : kl.length = n5) (hc5 : n5 ≤ c5) (hck : Kd.bool.C w A5 n5 kl) (hkl : kl.length ≤ 1000000) :
    Calls Tryz.prog 10 #[.pointer (some ⟨g, 0, none⟩), .pointer (some ⟨r, 0, none⟩), (.agg #[.int .i64 kd, .string sa, .string sb, .int .i64 at_, .slice A4 n4 c4, .slice A5 n5 c5])] w fun e w' => ∃ g' r' N' M', e = .returned (.tuple #[.pointer (some ⟨g', 0, none⟩), .pointer (some ⟨r', 0, none⟩), .bool true]) ∧ KX w' b g' r' N' M' (crashS s kl) ∧ N' ≤ N + k + 1 ∧ M' ≤ k + 1 ∧ Below b w w' := by
  obtain ⟨gd, mn, ms, vo, mf, fl, rd, dn, ds, dv, vF, rl, h⟩ := h
  have hbn := hb.now
  have hbs := hb.safe
  have hbo := hb.ops
  have hbN := hb.n
  have hbM := hb.m
  have hbf := hb.fs
  have hol : (s.ops.map nrm).length ≤ 100000 := by rw [List.length_map]; omega
  have hrl := rl_len h.mr
  have hfl := fl_len h.mf
  obtain ⟨nw, hnw⟩ : ∃ nw, nw = crashD s.safe s.ops kl s.ops.length := ⟨_, rfl⟩
  have hcn := crash_names s kl
  have hcd := hb.cd kl
  have hab := hb.absent kl
  have hcl := crashD_len s.safe s.ops kl s.ops.length
  have hcr := rising_crash s.safe s.ops kl hb.rs s.ops.length
  rw [← hnw] at hcn hcd hab hcl hcr
  have hnl : nw.length ≤ 200000 := by omega
  have HOP := Aside0.mk (show ∀ o ∈ s.ops.map nrm, o.a.size ≤ maxLen ∧ o.b.size ≤ maxLen from fun o ho => by
    obtain ⟨o', ho', rfl⟩ := List.mem_map.1 ho
    exact nrm_size _ (hb.op o' ho').1)
  have HIDS := Aside0.mk (show ∀ p ∈ nw, 0 ≤ p.2 ∧ p.2 ≤ 1000000 from fun p hp => by
    obtain ⟨_, i, e, v, hv⟩ := hcd p hp
    have := (List.getElem?_eq_some_iff.1 hv).1
    omega)
  have HSZ := Aside0.mk (show ∀ p ∈ nw, p.1.size ≤ maxLen from fun p hp => (hcd p hp).1)
  have HFI := Aside0.mk (show ∀ p ∈ fl, 0 ≤ p.id ∧ p.id ≤ 1000000 from fun p hp => by
    obtain ⟨i, h1, h2, _⟩ := fl_mem h.mf hp
    omega)
  have HFF := Aside0.mk (show ∀ p ∈ fl, p.safe.length ≤ 1048576 ∧ p.ops.length ≤ 500000 ∧ ∀ o ∈ p.ops, o.n ≤ 1048576 ∧ o.d.length ≤ 1048576 from fun p hp => by
    obtain ⟨i, h1, h2, h3⟩ := fl_mem h.mf hp
    have h4 := hb.fb _ (List.mem_of_getElem? h3)
    have h5 := h4.ops
    exact ⟨h4.safe, by simp only at h5; omega, h4.op⟩)
  have HRF := Aside0.mk (show ∀ q ∈ rl, q.safe.length ≤ 1048576 ∧ q.ops.length ≤ 500000 ∧ ∀ o ∈ q.ops, o.n ≤ 1048576 ∧ o.d.length ≤ 1048576 from fun q hq => by
    obtain ⟨x, hx, e⟩ := rl_mem h.mr hq
    have h4 := hb.fb x hx
    rw [e] at h4
    have h5 := h4.ops
    exact ⟨h4.safe, by simp only at h5; omega, h4.op⟩)
  have HUP := Aside0.mk (fl_up h.mf)
  have HAB := Aside0.mk hab
  have HCR := Aside0.mk hcr
  have HCN := Aside0.mk hcn
  have HNW := Aside0.mk hnw
  have HFZ := Aside0.mk hb.fz
  have HRO := Aside0.mk hb.room
  have H := Aside0.mk h
  have HCK := Aside0.mk hck
  have HN5 := Aside0.mk hn5
  clear h hb hcd hab hcr hcn hnw hck hcl hn5
  go_enter Tryz.func10, Tryz.ntmps10
  go_wp2_with fail
  obtain ⟨W1, hW1⟩ : ∃ W1, W1 = w.alloc (.cells #[.int .i64 kd, .string sa, .string sb, .int .i64 at_, .slice A4 n4 c4, .slice A5 n5 c5] 32) := ⟨_, rfl⟩
  have hna : W1.heap[w.heap.size]? = some (.cells #[.int .i64 kd, .string sa, .string sb, .int .i64 at_, .slice A4 n4 c4, .slice A5 n5 c5] 32 (0, 0)) := by rw [hW1]; exact blk_new _ _
  have hb1 : Below w.heap.size w W1 := by rw [hW1]; exact below_alloc (Below.refl _ _) _
  rw [← hW1]
  obtain ⟨p5, hp5⟩ : ∃ p5, p5 = w.heap.size := ⟨_, rfl⟩
  rw [← hp5] at hna ⊢
  have t0 := (blk_cell hna 0).trans (rfl : _ = some (Value.int .i64 kd))
  have t1 := (blk_cell hna 1).trans (rfl : _ = some (Value.string sa))
  have t2 := (blk_cell hna 2).trans (rfl : _ = some (Value.string sb))
  have t3 := (blk_cell hna 3).trans (rfl : _ = some (Value.int .i64 at_))
  have t4 := (blk_cell hna 4).trans (rfl : _ = some (Value.slice A4 n4 c4))
  have t5 := (blk_cell hna 5).trans (rfl : _ = some (Value.slice A5 n5 c5))
  have HB1 := Aside0.mk hb1
  have HNA := Aside0.mk hna
  clear hna hb1 hp5 hW1
  go_region_held3 (fun w' => w'.cell? ⟨p5, 5, none⟩ = some (.slice A5 n5 c5)) (first | with_reducible exact t5 | exact t5) (first
    | (go_at_call 14; have hcon := kcrash_any b (fun k => ¬ rS rl k) g gd mn ms vo N s.now s.safe (s.ops.map nrm) mf M fl (s.fs.length : Int) s.room s.fuse s.armed s.dead W1.drew (H.out.d.below (HB1.out.trans (below_drew1 (Below.refl _ _)))) A5 c5 kl (by rw [HN5.out]; exact Kd.C_drew (Kd.C_below HCK.out HB1.out)) (by rw [HN5.out]; exact hc5) hkl HRO.out (by omega) (by omega) hol HOP.out (by rw [HCN.out]; exact HCR.out) (by rw [HCN.out]; exact HIDS.out) (by rw [HCN.out]; exact HSZ.out) (by rw [HCN.out]; exact hnl) HUP.out HFI.out HFF.out (by omega); rw [HN5.out, HCN.out] at hcon; refine hcon.mono ?_; rintro e w3 ⟨g2, gd2, mn2, ms2, mf2, fo, rfl, hd3, hfo, hl3⟩; clear hcon; have hna := blk_below (blk_drew HNA.out) hl3; replace t5 := (blk_cell hna 5).trans (rfl : _ = some (Value.slice A5 n5 c5)); have HD3 := Aside0.mk hd3; have HFO := Aside0.mk hfo; have HL3 := Aside0.mk hl3; have HNA3 := Aside0.mk hna; have HR3 := Aside0.mk ((H.out.r.below (HB1.out.trans (below_drew1 (Below.refl _ _)))).below hl3); clear hd3 hfo hl3 hna)
    | (go_at_call 38; have hcon := rkcrash_any b r rd dn ds dv s.now s.safe s.ops vF rl s.room s.fuse s.armed s.dead w3 HR3.out A5 n5 c5 kl (Kd.C_below (Kd.C_drew (Kd.C_below HCK.out HB1.out)) HL3.out) (by omega) (by rw [← HNW.out]; exact hnl) (by omega) (by omega) HRF.out; rw [← HNW.out] at hcon; refine hcon.mono ?_; rintro e w4 ⟨g4, rd4, v4, vF4, ro, rfl, hr4, hro, hrs, hl4⟩; clear hcon; have hna := blk_below HNA3.out hl4; replace t5 := (blk_cell hna 5).trans (rfl : _ = some (Value.slice A5 n5 c5)); have HR4 := Aside0.mk hr4; have HRO4 := Aside0.mk hro; have HRS4 := Aside0.mk hrs; have HL4 := Aside0.mk hl4; clear hr4 hro hrs hl4 hna))
  all_goals
    go_wp2_with fail
    go_ret3
    have e1 : b ≤ W1.drew.heap.size := Nat.le_trans hbw HB1.out.size
    have e2 : b ≤ w3.heap.size := Nat.le_trans e1 HL3.out.size
    have hlen : (crashV (namedI nw) kl 0 s.ops.length s.fs).length = s.fs.length := crashV_len _ _ _ _ _
    have hmf : fo.map FR.pv = present 0 (crashV (namedI nw) kl 0 s.ops.length s.fs) := by
      rw [HFO.out, H.out.mf, List.length_map]
      exact (crashV_present (namedI nw) kl s.fs 0 s.ops.length HFZ.out HAB.out).symm
    have hmr : ro.map RR.rv = (crashV (namedI nw) kl 0 s.ops.length s.fs).map (·.1) := by
      rw [HRO4.out, H.out.mr, crashV_fst]
    have hfin : KX w4 b g2 g4 (N + s.ops.length) fo.length (crashS s kl) := by
      have hd := HD3.out
      rw [List.length_map] at hd
      have hd2 : DK w3 b (fun k => ¬ rS rl k) g2 gd2 mn2 ms2 (.slice none 0 0) (N + s.ops.length) nw nw [] mf2 fo.length fo (((crashV (namedI nw) kl 0 s.ops.length s.fs).length : Nat) : Int) s.room 0 false false := by
        rw [hlen]
        exact hd
      have hs : crashS s kl = ⟨nw, nw, [], crashV (namedI nw) kl 0 s.ops.length s.fs, s.room, 0, false, false⟩ := by
        unfold crashS
        rw [← HNW.out]
      rw [hs]
      exact KX.fin (s' := ⟨nw, nw, [], crashV (namedI nw) kl 0 s.ops.length s.fs, s.room, 0, false, false⟩) hd2 HR3.out (RT.of_below HL4.out (fun k hk hs => by have := HRS4.out k hs; omega)) HR4.out hmf hmr
    have hfol := fl_len hmf
    exact ⟨_, _, _, _, rfl, hfin, by omega, by omega, (HB1.out.mono hbw).trans ((below_drew1 (Below.refl _ _)).trans ((HL3.out.mono e1).trans (HL4.out.mono e2)))⟩
end Go.Proofs.YtpnbjpkdbiiogaaGreat
/- Disks: light; any call; shows. -/
namespace Go.Proofs.YtpnbjpkdbiiogaaGreat
set_option linter.unusedVariables false
open Go.RowKit Go.Maps Go.Proofs.YtpnbjpkdbiiogaaGreatW.PrintWords
attribute [local go_sem] mx2 mn2 mxTwo mnTwo

theorem vlight_yes (kd k : Int) (sa sb : ByteArray) (A4 A5 : Option Addr) (n4 c4 n5 c5 : Nat) (w : World) (h1 : sa.size ≤ 200) (h2 : sb.size ≤ 200) (h3 : n4 ≤ 300) (h4 : n5 ≤ 300) (hk : k ≤ 1500 ∨ ¬ k ≤ 1500 ∧ 1048576 < k) : Calls Tryz.prog 9 #[(.agg #[.int .i64 kd, .string sa, .string sb, .int .i64 k, .slice A4 n4 c4, .slice A5 n5 c5])] w fun e w' => e = .returned (.bool true) ∧ Below w.heap.size w w' := by
  have d1 : decide (sa.size ≤ 200) = true := decide_eq_true h1
  have d2 : decide (sb.size ≤ 200) = true := decide_eq_true h2
  have d3 : decide (n4 ≤ 300) = true := decide_eq_true h3
  have d4 : decide (n5 ≤ 300) = true := decide_eq_true h4
  rcases hk with hk | ⟨hk, hk2⟩
  · have d5 := decide_eq_true hk
    go_enter Tryz.func9, Tryz.ntmps9
    go_wp2
    go_ret
    exact ⟨rfl, below_alloc (Below.refl _ _) _⟩
  · have d5 := decide_eq_false hk
    have d6 := decide_eq_true hk2
    go_enter Tryz.func9, Tryz.ntmps9
    go_wp2
    go_ret
    exact ⟨rfl, below_alloc (Below.refl _ _) _⟩
theorem vlight_no (kd k : Int) (sa sb : ByteArray) (A4 A5 : Option Addr) (n4 c4 n5 c5 : Nat) (w : World) (h : ¬ (sa.size ≤ 200 ∧ sb.size ≤ 200 ∧ n4 ≤ 300 ∧ n5 ≤ 300 ∧ (k ≤ 1500 ∨ 1048576 < k))) : Calls Tryz.prog 9 #[(.agg #[.int .i64 kd, .string sa, .string sb, .int .i64 k, .slice A4 n4 c4, .slice A5 n5 c5])] w fun e w' => e = .returned (.bool false) ∧ Below w.heap.size w w' := by
  by_cases h1 : sa.size ≤ 200
  · have d1 : decide (sa.size ≤ 200) = true := decide_eq_true h1
    by_cases h2 : sb.size ≤ 200
    · have d2 : decide (sb.size ≤ 200) = true := decide_eq_true h2
      by_cases h3 : n4 ≤ 300
      · have d3 : decide (n4 ≤ 300) = true := decide_eq_true h3
        by_cases h4 : n5 ≤ 300
        · have d4 : decide (n5 ≤ 300) = true := decide_eq_true h4
          have hk : ¬ k ≤ 1500 := fun hk => h ⟨h1, h2, h3, h4, .inl hk⟩
          have hk2 : ¬ 1048576 < k := fun hk => h ⟨h1, h2, h3, h4, .inr hk⟩
          have d5 := decide_eq_false hk
          have d6 := decide_eq_false hk2
          clear h
          go_enter Tryz.func9, Tryz.ntmps9
          go_wp2
          go_ret
          exact ⟨rfl, below_alloc (Below.refl _ _) _⟩
        · have d4 : decide (n5 ≤ 300) = false := decide_eq_false h4
          clear h
          go_enter Tryz.func9, Tryz.ntmps9
          go_wp2
          go_ret
          exact ⟨rfl, below_alloc (Below.refl _ _) _⟩
      · have d3 : decide (n4 ≤ 300) = false := decide_eq_false h3
        clear h
        go_enter Tryz.func9, Tryz.ntmps9
        go_wp2
        go_ret
        exact ⟨rfl, below_alloc (Below.refl _ _) _⟩
    · have d2 : decide (sb.size ≤ 200) = false := decide_eq_false h2
      clear h
      go_enter Tryz.func9, Tryz.ntmps9
      go_wp2
      go_ret
      exact ⟨rfl, below_alloc (Below.refl _ _) _⟩
  · have d1 : decide (sa.size ≤ 200) = false := decide_eq_false h1
    clear h
    go_enter Tryz.func9, Tryz.ntmps9
    go_wp2
    go_ret
    exact ⟨rfl, below_alloc (Below.refl _ _) _⟩
/-- Any call, done to both. -/
theorem vdoes_any (a : VAct) (b g r N M : Nat) (s : VSt) (k : Nat) (A4 : Option Addr) (c4 : Nat) (A5 : Option Addr) (c5 : Nat) (w : World) (h : KX w b g r N M s) (hb : BdV s N M k) (hk : k ≤ 49) (hsa : a.a.size ≤ maxLen) (hsb : a.b.size ≤ maxLen) (hat : a.at_ ≤ 9223372036854775807) (hdl : a.data.length ≤ 400) (hnc : a.data.length ≤ c4) (hst : ∀ W', Below b w W' → Kd.C (Kd.int .u8) W' A4 a.data.length a.data) (hkl : a.keep.length ≤ 1000) (hkc : a.keep.length ≤ c5) (hck : Kd.bool.C w A5 a.keep.length a.keep) :
    Calls Tryz.prog 10 #[.pointer (some ⟨g, 0, none⟩), .pointer (some ⟨r, 0, none⟩), .agg #[.int .i64 a.kd, .string a.a, .string a.b, .int .i64 a.at_, .slice A4 a.data.length c4, .slice A5 a.keep.length c5]] w fun e w' => ∃ g' r' N' M', e = .returned (.tuple #[.pointer (some ⟨g', 0, none⟩), .pointer (some ⟨r', 0, none⟩), .bool true]) ∧ KX w' b g' r' N' M' (stepV s a) ∧ BdV (stepV s a) N' M' (k + 1) ∧ Below b w w' := by
  have hbw : b ≤ w.heap.size := by
    obtain ⟨gd, mn, ms, vo, mf, fl, rd, dn, ds, dv, vF, rl, h⟩ := h
    exact Nat.le_trans h.d.hg (Nat.le_of_lt (blk_lt h.d.hb))
  have fin : ∀ {e : Ending} {w' : World}, (e = .returned (.tuple #[.pointer (some ⟨g, 0, none⟩), .pointer (some ⟨r, 0, none⟩), .bool true]) ∧ (∃ N' M', KX w' b g r N' M' (stepV s a) ∧ BdV (stepV s a) N' M' (k + 1)) ∧ Below b w w') → ∃ g' r' N' M', e = .returned (.tuple #[.pointer (some ⟨g', 0, none⟩), .pointer (some ⟨r', 0, none⟩), .bool true]) ∧ KX w' b g' r' N' M' (stepV s a) ∧ BdV (stepV s a) N' M' (k + 1) ∧ Below b w w' := by
    rintro e w' ⟨he, ⟨N', M', hx, hbd⟩, hbl⟩
    exact ⟨g, r, N', M', he, hx, hbd, hbl⟩
  by_cases q0 : a.kd = 0
  · have hB := both_create h hb hk a q0 hsa
    rw [q0]
    exact (vdoes_create b g r _ a.a a.b a.at_ A4 _ c4 A5 _ c5 w hbw hB).mono (fun e w' hh => fin hh)
  by_cases q1 : a.kd = 1
  · have hB := both_write h hb hk a q1 hsa A4 c4 hdl hnc hst
    rw [q1]
    exact (vdoes_write b g r _ a.a a.b a.at_ A4 _ c4 A5 _ c5 w hbw hB).mono (fun e w' hh => fin hh)
  by_cases q2 : a.kd = 2
  · have hB := both_trunc h hb hk a q2 hsa
    rw [q2]
    exact (vdoes_trunc b g r _ a.a a.b a.at_ A4 _ c4 A5 _ c5 w hbw hB).mono (fun e w' hh => fin hh)
  by_cases q3 : a.kd = 3
  · have hB := both_sync h hb hk a q3 hsa
    rw [q3]
    exact (vdoes_sync b g r _ a.a a.b a.at_ A4 _ c4 A5 _ c5 w hbw hB).mono (fun e w' hh => fin hh)
  by_cases q4 : a.kd = 4
  · have hB := both_syncdir h hb hk a q4 ⟨#[]⟩
    rw [q4]
    exact (vdoes_syncdir b g r _ a.a a.b a.at_ A4 _ c4 A5 _ c5 w hbw hB).mono (fun e w' hh => fin hh)
  by_cases q5 : a.kd = 5
  · have hB := both_rename h hb hk a q5 hsa hsb
    rw [q5]
    exact (vdoes_rename b g r _ a.a a.b a.at_ A4 _ c4 A5 _ c5 w hbw hB).mono (fun e w' hh => fin hh)
  by_cases q6 : a.kd = 6
  · have hB := both_unlink h hb hk a q6 hsa
    rw [q6]
    exact (vdoes_unlink b g r _ a.a a.b a.at_ A4 _ c4 A5 _ c5 w hbw hB).mono (fun e w' hh => fin hh)
  by_cases q7 : a.kd = 7
  · have hs : stepV s a = { s with fuse := if a.at_ < 0 then 0 else a.at_, armed := true } := by
      unfold stepV
      rw [if_neg (by omega), if_pos q7]
    rw [hs, q7]
    refine (vdoes_arm b g r N M s a.a a.b a.at_ A4 _ c4 A5 _ c5 w hbw h).mono ?_
    rintro e w' ⟨he, hx, hbl⟩
    exact ⟨g, r, N, M, he, hx, hb.arm hk (by omega) (by have := hb.m; omega) a.at_ hat, hbl⟩
  · have hs : stepV s a = crashS s a.keep := by
      unfold stepV
      rw [if_neg (by omega), if_neg q7]
    rw [hs]
    refine (vdoes_crash a.kd (beq_eq_false_iff_ne.mpr q0) (beq_eq_false_iff_ne.mpr q1) (beq_eq_false_iff_ne.mpr q2) (beq_eq_false_iff_ne.mpr q3) (beq_eq_false_iff_ne.mpr q4) (beq_eq_false_iff_ne.mpr q5) (beq_eq_false_iff_ne.mpr q6) (beq_eq_false_iff_ne.mpr q7) b g r N M s k a.a a.b a.at_ A4 _ c4 A5 _ c5 a.keep w hbw h hb hk rfl hkc hck (by omega)).mono ?_
    rintro e w' ⟨g', r', N', M', he, hx, hN, hM, hbl⟩
    exact ⟨g', r', N', M', he, hx, hb.crash hk hN hM a.keep, hbl⟩
end Go.Proofs.YtpnbjpkdbiiogaaGreat
/- Directories: a call, done to both. -/
namespace Go.Proofs.YtpnbjpkdbiiogaaGreat
set_option linter.unusedVariables false
open Go.RowKit Go.Maps Go.Sort Go.Proofs.YtpnbjpkdbiiogaaGreatW.PrintWords
attribute [local go_sem] mx2 mn2 mxTwo mnTwo

theorem keepb3 {w w' : World} {a : Nat} {c d : Option Nat} (h : KeepBut w w' a none) : Keep3 w w' a c d := ⟨h.1, fun i hi hg _ _ => h.2 i hi hg (by simp)⟩
theorem keepbo {w w' : World} {a : Nat} {d : Option Nat} (h : KeepBut w w' a none) : KeepBut w w' a d := ⟨h.1, fun i hi hg _ => h.2 i hi hg (by simp)⟩
end Go.Proofs.YtpnbjpkdbiiogaaGreat
/- Directories: shows; the chapter's example. -/
namespace Go.Proofs.YtpnbjpkdbiiogaaGreat
set_option linter.unusedVariables false
open Go.RowKit Go.Maps Go.Sort Go.Proofs.YtpnbjpkdbiiogaaGreatW.PrintWords
attribute [local go_sem] mx2 mn2 mxTwo mnTwo

/-- Names that are not too long for any machine. -/
def Szd (l : List DN) : Prop := ∀ p ∈ l, p.1.size ≤ maxLen
theorem szd_insL (s : ByteArray) (a : Int) (hs : s.size ≤ maxLen) : ∀ l, Szd l → Szd (insL s a l)
  | [], _ => fun p hp => by rw [List.mem_singleton.1 hp]; exact hs
  | q :: t, h => by
    unfold insL
    split
    · intro p hp
      rcases List.mem_cons.1 hp with e | hp
      · rw [e]; exact hs
      · exact h p hp
    · intro p hp
      rcases List.mem_cons.1 hp with e | hp
      · exact h p (e ▸ List.mem_cons_self ..)
      · exact szd_insL s a hs t (fun x hx => h x (List.mem_cons_of_mem _ hx)) p hp
theorem szd_without (l : List DN) (s : ByteArray) (h : Szd l) : Szd (withoutL l s) := fun p hp => h p (List.mem_filter.1 hp).1
theorem szd_with (l : List DN) (s : ByteArray) (a : Int) (hs : s.size ≤ maxLen) (h : Szd l) : Szd (withL l s a) := szd_insL s a hs _ (szd_without l s h)
theorem szd_did (l : List DN) (o : DOp) (ha : o.a.size ≤ maxLen ∧ o.b.size ≤ maxLen) (h : Szd l) : Szd (didL l o) := by
  unfold didL
  split
  · exact szd_with _ _ _ ha.1 h
  · split
    · exact h
    · split
      · exact szd_with _ _ _ ha.2 (szd_without _ _ h)
      · exact szd_without _ _ h
theorem szd_crash (safe : List DN) (ops : List DOp) (kl : List Bool) (h : Szd safe) (ho : ∀ o ∈ ops, o.a.size ≤ maxLen ∧ o.b.size ≤ maxLen) : ∀ i, i ≤ ops.length → Szd (crashD safe ops kl i)
  | 0, _ => h
  | i + 1, hi => by
    have ih := szd_crash safe ops kl h ho i (by omega)
    have hm : (ops.getD i zDop) ∈ ops := by
      rw [List.getD_eq_getElem?_getD, List.getElem?_eq_getElem (by omega)]
      exact List.getElem_mem _
    unfold crashD
    split
    · exact szd_did _ _ (ho _ hm) ih
    · exact ih
/-- Its names are not too long. -/
def BdZ (s : DSt) : Prop := Szd s.now ∧ Szd s.safe
theorem stepD_bz (s : DSt) (a : DAct) (N k : Nat) (hb : BdD s N k) (h : BdZ s) (ha : a.a.size ≤ maxLen ∧ a.b.size ≤ maxLen) : BdZ (stepD s a) := by
  unfold stepD
  split
  · refine ⟨?_, h.2⟩
    show Szd (doNow s.now _)
    unfold doNow
    split
    · exact szd_did _ _ ha h.1
    · exact h.1
  · split
    · exact ⟨h.1, h.1⟩
    · have := szd_crash s.safe s.ops a.keep h.2 hb.op s.ops.length (Nat.le_refl _)
      exact ⟨this, this⟩
theorem find_rising : ∀ (l : List DN), Rising l → ∀ i, i < l.length → getN l (l.getD i zDN).1 = some (l.getD i zDN).2
  | [], _, i, hi => absurd hi (Nat.not_lt_zero _)
  | p :: t, h, 0, _ => by rw [getN_cons]; simp
  | p :: t, h, i + 1, hi => by
    obtain ⟨h1, h2⟩ := rising_cons.1 h
    rw [getN_cons]
    simp only [List.getD_cons_succ, List.length_cons] at hi ⊢
    have hm : t.getD i zDN ∈ t := by
      rw [List.getD_eq_getElem?_getD, List.getElem?_eq_getElem (by omega)]
      exact List.getElem_mem _
    have hne : ¬ p.1 = (t.getD i zDN).1 := fun e => by have := h1 _ hm; rw [e] at this; exact List.lt_irrefl _ this
    rw [if_neg hne]
    exact find_rising t h2 i (by omega)
theorem dget_is (b g mn ms N : Nat) (vo : Value) (now safe : List DN) (ops : List DOp) (s : ByteArray) (w : World) (y : Int) (bo : Bool) (hg : (getN now s).getD 0 = y ∧ (getN now s).isSome = bo) (h : DI w b g mn ms vo N now safe ops) (hs : s.size ≤ maxLen) : Calls Tryz.prog 46 #[.pointer (some ⟨g, 0, none⟩), .string s] w fun e w' => e = .returned (.tuple #[.int .i64 y, .bool bo]) ∧ w = w' := by
  refine (dget_any b g mn ms N vo now safe ops s w h hs).mono ?_
  rintro e w' ⟨rfl, h⟩
  exact ⟨by rw [hg.1, hg.2], h⟩
end Go.Proofs.YtpnbjpkdbiiogaaGreat
/- Disks: shows. -/
namespace Go.Proofs.YtpnbjpkdbiiogaaGreat
set_option linter.unusedVariables false
open Go.RowKit Go.Maps Go.Proofs.YtpnbjpkdbiiogaaGreatW.PrintWords
attribute [local go_sem] mx2 mn2 mxTwo mnTwo

theorem kread_is (b : Nat) (y : Nat → Prop) (g gd mn ms : Nat) (vo : Value) (N : Nat) (now safe : List DN) (ops : List DOp) (mf M : Nat) (fl : List FR) (next room fuse : Int) (armed dead : Bool) (w : World) (h : DK w b y g gd mn ms vo N now safe ops mf M fl next room fuse armed dead) (hk : KG now fl) (s : ByteArray) (hs : s.size ≤ maxLen) (l : List Int) (cd : Int) (hr : readK now fl dead s 0 1048576 = (l, cd)) : Calls Tryz.prog 17 #[.pointer (some ⟨g, 0, none⟩), .string s, .int .i64 0, .int .i64 1048576] w fun e w' => ∃ A c, e = .returned (.tuple #[.slice A l.length c, .int .i64 cd]) ∧ Kd.C (Kd.int .u8) w' A l.length l ∧ Below w.heap.size w w' := by
  have := kread_any b y g gd mn ms vo N now safe ops mf M fl next room fuse armed dead w h hk s hs 0 1048576
  rw [hr] at this
  exact this
theorem ksize_is (b : Nat) (y : Nat → Prop) (g gd mn ms : Nat) (vo : Value) (N : Nat) (now safe : List DN) (ops : List DOp) (mf M : Nat) (fl : List FR) (next room fuse : Int) (armed dead : Bool) (w : World) (h : DK w b y g gd mn ms vo N now safe ops mf M fl next room fuse armed dead) (hk : KG now fl) (s : ByteArray) (hs : s.size ≤ maxLen) (n cd : Int) (hr : sizeK now fl dead s = (n, cd)) : Calls Tryz.prog 56 #[.pointer (some ⟨g, 0, none⟩), .string s] w fun e w' => e = .returned (.tuple #[.int .i64 n, .int .i64 cd]) ∧ w = w' := by
  have := ksize_any b y g gd mn ms vo N now safe ops mf M fl next room fuse armed dead w h hk s hs
  rw [hr] at this
  exact this
theorem getD_map_fst (l : List DN) (i : Nat) (h : i < l.length) : (l.map (·.1)).getD i ⟨#[]⟩ = (l.getD i zDN).1 := by
  rw [List.getD_eq_getElem?_getD, List.getD_eq_getElem?_getD, List.getElem?_map, List.getElem?_eq_getElem h]
  rfl
set_option maxHeartbeats 4000000 in
set_option maxRecDepth 100000 in
theorem vshows_any (b g r N M : Nat) (s : VSt) (k : Nat) (w : World) (h : KX w b g r N M s) (hb : BdV s N M k) (hk : k ≤ 49) : Calls Tryz.prog 20 #[.pointer (some ⟨g, 0, none⟩), .pointer (some ⟨r, 0, none⟩)] w fun e w' => e = .returned (.bool true) ∧ Below w.heap.size w w' := by
  obtain ⟨gd, mn, ms, vo, mf, fl, rd, dn, ds, dv, vF, rl, h⟩ := h
  have hbn := hb.now
  have hbs := hb.safe
  have hbo := hb.ops
  have hbN := hb.n
  have hbM := hb.m
  have hbf := hb.fs
  have hrl := rl_len h.mr
  have hfl := fl_len h.mf
  have HKG := Aside0.mk (h.kg hb hk)
  have HRG := Aside0.mk (h.rg hb hk)
  have HSZ := Aside0.mk (show ∀ p ∈ s.now, p.1.size ≤ maxLen from fun p hp => (hb.dn p hp).1)
  have HRN := Aside0.mk hb.rn
  have HPR := Aside0.mk (show ∀ p ∈ s.now, Pres s.fs p.2 from fun p hp => (hb.dn p hp).2)
  obtain ⟨u, hu⟩ : ∃ u, u = usedF fl s.now := ⟨_, rfl⟩
  have hu2 : usedR rl s.now = u := by rw [hu, used_eq h.mf h.mr s.now (fun p hp => (hb.dn p hp).2)]
  obtain ⟨lo, hlo⟩ : ∃ l, l = looseR s.ops rl := ⟨_, rfl⟩
  have hlo2 : looseK (s.ops.map nrm) fl = lo := by rw [hlo]; exact loose_eq h.mf h.mr hb.fz s.ops _ (List.length_map ..)
  have HUD := Aside0.mk (fun W hW => used_any b (fun k => ¬ rS rl k) g gd mn ms vo N s.now s.safe (s.ops.map nrm) mf M fl (s.fs.length : Int) s.room s.fuse s.armed s.dead W hW HKG.out HRN.out (by omega) (by omega) HSZ.out)
  have HUR := Aside0.mk (fun W hW => rkused_any b r rd dn ds dv s.now s.safe s.ops vF rl s.room s.fuse s.armed s.dead W hW HRG.out (by omega) (by omega))
  have HLD := Aside0.mk (fun W hW => loose_any b (fun k => ¬ rS rl k) g gd mn ms vo N s.now s.safe (s.ops.map nrm) mf M fl (s.fs.length : Int) s.room s.fuse s.armed s.dead W hW (fun p hp => (HKG.out.len p hp).2) (by rw [List.length_map]; omega) (by omega))
  have HLR := Aside0.mk (fun W hW => rkloose_any b r rd dn ds dv s.now s.safe s.ops vF rl s.room s.fuse s.armed s.dead W hW (fun p hp => (HRG.out.len p hp).2) (by omega) (by omega))
  rw [← hu] at HUD
  rw [hu2] at HUR
  rw [hlo2] at HLD
  rw [← hlo] at HLR
  have huu : (u != u) = false := bne_self_eq_false u
  have hll : (lo != lo) = false := bne_self_eq_false lo
  have hdd : (s.dead != s.dead) = false := bne_self_eq_false s.dead
  have HKS := Aside0.mk h
  have HBD := Aside0.mk hb
  have HD := Aside0.mk (fun W (hW : Below w.heap.size w W) => h.d.below hW)
  have HR := Aside0.mk (fun W (hW : Below w.heap.size w W) => h.r.below hW)
  have HMF := Aside0.mk h.mf
  have HMR := Aside0.mk h.mr
  have HUP := Aside0.mk (show rl.length ≤ 1000000 by omega)
  have HFB := Aside0.mk hb.fb
  obtain ⟨A1, c1, hdn, _, hC1⟩ := Kd.R_reads h.r.hd.hn
  subst hdn
  have r0 := (blk_cell h.r.hb 0).trans (rfl : _ = some (Value.pointer (some ⟨rd, 0, none⟩)))
  have d0 := (blk_cell h.r.hd.hb 0).trans (rfl : _ = some (Value.slice A1 s.now.length c1))
  have HC1 := Aside0.mk hC1
  clear h hb hu hu2 hlo hlo2 hC1
  go_enter Tryz.func20, Tryz.ntmps20
  go_wp2_with (go_at_call 11; refine (rnames_any A1 _ c1 s.now _ HC1.out (by omega)).mono ?_; rintro e w1 ⟨v4, rfl, hv4, hb1⟩; obtain ⟨A4, c4, rfl, _, hc4⟩ := Kd.R_reads hv4; rw [List.length_map] at hc4; rw [List.length_map]; have HB := Aside0.mk hb1; have HY := Aside0.mk hc4; clear hb1 hc4 hv4)
  have s0 := (blk_cell (HD.out w1 HB.out).hb 0).trans (rfl : _ = some (Value.pointer (some ⟨gd, 0, none⟩)))
  have s5 := (blk_cell (HR.out w1 HB.out).hb 5).trans (rfl : _ = some (Value.bool s.dead))
  go_region_held3 (fun w' => w'.cell? ⟨g, 0, none⟩ = some (.pointer (some ⟨gd, 0, none⟩)) ∧ w'.cell? ⟨r, 5, none⟩ = some (.bool s.dead)) (first | with_reducible exact ⟨s0, s5⟩ | exact ⟨s0, s5⟩) (first
    | (go_at_call 16; refine (dnames_any b gd mn ms N vo s.now s.safe (s.ops.map nrm) _ (HD.out _ (HB.out.trans (below_drew1 (Below.refl _ _)))).hd HRN.out (by omega)).mono ?_; rintro e w2 ⟨v3, rfl, hv3, hb2⟩; obtain ⟨A3, c3, rfl, _, hc3⟩ := Kd.R_reads hv3; rw [List.length_map] at hc3; rw [List.length_map]; replace s0 := pw_cell_below hb2 s0; replace s5 := pw_cell_below hb2 s5; have hbn2 := below_step (HB.out.trans (below_drew1 (Below.refl _ _))) hb2; have hy := Kd.C_below (Kd.C_drew HY.out) hb2; clear HB HY; have HB := Aside0.mk hbn2; have HY := Aside0.mk hy; have HX := Aside0.mk hc3; clear hbn2 hy hc3 hb2 hv3)
    | (go_at_call 15; refine (texts_any A3 A4 _ _ c3 c4 _ _ HX.out HY.out).mono ?_; rintro e w3 ⟨rfl, hb3⟩; replace s0 := pw_cell_below hb3 s0; replace s5 := pw_cell_below hb3 s5; have hbn3 := below_step HB.out hb3; have hy := Kd.C_below HY.out hb3; clear HB HY HX; have HB := Aside0.mk hbn3; have HY := Aside0.mk hy; clear hbn3 hy hb3)
    | (go_at_call 54; refine (dead_any b (fun k => ¬ rS rl k) g gd mn ms vo N s.now s.safe (s.ops.map nrm) mf M fl (s.fs.length : Int) s.room s.fuse s.armed s.dead _ (HD.out _ HB.out)).mono ?_; rintro e w4 ⟨rfl, hw4⟩; subst hw4)
    | (go_at_call 22; refine (HUD.out _ (HD.out _ HB.out)).mono ?_; rintro e w5 ⟨rfl, hb5⟩; replace s0 := pw_cell_below hb5 s0; replace s5 := pw_cell_below hb5 s5; have hbn5 := below_step HB.out hb5; have hy := Kd.C_below HY.out hb5; clear HB HY; have HB := Aside0.mk hbn5; have HY := Aside0.mk hy; clear hbn5 hy hb5)
    | (go_at_call 55; refine (HUR.out _ (HR.out _ HB.out)).mono ?_; rintro e w6 ⟨rfl, hb6⟩; replace s0 := pw_cell_below hb6 s0; replace s5 := pw_cell_below hb6 s5; have hbn6 := below_step HB.out hb6; have hy := Kd.C_below HY.out hb6; clear HB HY; have HB := Aside0.mk hbn6; have HY := Aside0.mk hy; clear hbn6 hy hb6)
    | (go_at_call 23; refine (HLD.out _ (HD.out _ HB.out)).mono ?_; rintro e w7 ⟨rfl, hb7⟩; replace s0 := pw_cell_below hb7 s0; replace s5 := pw_cell_below hb7 s5; have hbn7 := below_step HB.out hb7; have hy := Kd.C_below HY.out hb7; clear HB HY; have HB := Aside0.mk hbn7; have HY := Aside0.mk hy; clear hbn7 hy hb7)
    | (go_at_call 21; refine (HLR.out _ (HR.out _ HB.out)).mono ?_; rintro e w8 ⟨rfl, hw8⟩; subst hw8))
  all_goals
    clear s0 s5 r0 d0
    go_wp2_with fail
    go_loopg [6, 7, 8, 9, 10, 11] s.now.length (fun q v6 v7 v8 v9 v10 v11 wr => ∃ i : Nat, v6 = .int .i64 (i : Int) ∧ i ≤ s.now.length ∧ Aside0 (q = s.now.length - i) ∧ Aside0 (Kd.string.C wr A4 s.now.length (s.now.map (·.1))) ∧ Aside0 (Below w.heap.size w wr))
    case atStart => exact ⟨0, rfl, Nat.zero_le _, ⟨rfl⟩, HY, HB⟩
    case round =>
      clear HB HY
      obtain ⟨i, rfl, hi, hq, HY, HB⟩ := hrel
      by_cases hlt : i < s.now.length
      · obtain ⟨ad, e1, r1⟩ := at_str HY.out i hlt
        subst e1
        rw [getD_map_fst s.now i hlt] at r1
        have hpm : s.now.getD i zDN ∈ s.now := by rw [List.getD_eq_getElem?_getD, List.getElem?_eq_getElem hlt]; exact List.getElem_mem _
        have hgn := find_rising s.now HRN.out i hlt
        obtain ⟨p, hp⟩ : ∃ p, p = s.now.getD i zDN := ⟨_, rfl⟩
        rw [← hp] at r1 hpm hgn
        clear hp
        obtain ⟨j, v, f, q, hpj, hjl, hv, hf, hfm, hfi, ef1, ef2, ef3, hqj, hqm, eq1, eq2, eq3, hfb⟩ := both_file HKS.out HBD.out hgn
        have HPS := Aside0.mk (HSZ.out p hpm)
        rw [hpj] at hgn
        have hvl := hfb.now
        obtain ⟨A9, c9, hvn, _, hC9⟩ := Kd.R_reads (HKS.out.r.hf q hqm).hn
        have k0 := (blk_cell (HKS.out.r.hf q hqm).hb 0).trans (rfl : _ = some q.vn)
        rw [hvn] at k0
        rw [eq1] at k0 hC9
        have HC9 := Aside0.mk hC9
        have HGN := Aside0.mk hgn
        have HQJ := Aside0.mk hqj
        rcases Bool.eq_false_or_eq_true s.dead with hde | hde
        ·
          have HRK := Aside0.mk (show readK s.now fl s.dead p.1 0 1048576 = ([], 26) by rw [hde]; rfl)
          have HSK := Aside0.mk (show sizeK s.now fl s.dead p.1 = (0, 26) by rw [hde]; rfl)
          have HDE := Aside0.mk hde
          clear hpj hjl hv hf hfm hfi ef1 ef2 ef3 hqj hqm eq1 eq2 eq3 hfb hgn hvn hC9 hpm k0 hde
          go_wp2_with (first
            | (go_at_call 17; refine (kread_is b (fun k => ¬ rS rl k) g gd mn ms vo N s.now s.safe (s.ops.map nrm) mf M fl (s.fs.length : Int) s.room s.fuse s.armed s.dead _ (HD.out _ HB.out) HKG.out p.1 HPS.out [] 26 HRK.out).mono ?_; rintro e w1 ⟨A7, c7, rfl, hc7, hb7⟩; have hbn := below_step HB.out hb7; have hy := Kd.C_below HY.out hb7; replace r1 := pw_cell_below hb7 r1; have s5 := (blk_cell (HR.out _ hbn).hb 5).trans (rfl : _ = some (Value.bool s.dead)); rw [HDE.out] at s5; clear HB HY; have HB := Aside0.mk hbn; have HY := Aside0.mk hy; clear hbn hy hb7 hc7)
            | (go_at_call 56; refine (ksize_is b (fun k => ¬ rS rl k) g gd mn ms vo N s.now s.safe (s.ops.map nrm) mf M fl (s.fs.length : Int) s.room s.fuse s.armed s.dead _ (HD.out _ HB.out) HKG.out p.1 HPS.out 0 26 HSK.out).mono ?_; rintro e w2 ⟨rfl, hw2⟩; subst hw2))
          go_roundg (s.now.length - (i + 1))
          case measure => have := hq.out; omega
          case rel => exact ⟨i + 1, by go_num, by omega, ⟨rfl⟩, HY, HB⟩
        ·
          have HRK := Aside0.mk (show readK s.now fl s.dead p.1 0 1048576 = (v.now, 0) by rw [hde]; unfold readK; rw [hgn]; show (readL (((fileAt fl (j : Int)).map (·.now)).getD []) 0 1048576, (0 : Int)) = _; rw [hf]; show (readL f.now 0 1048576, (0 : Int)) = _; rw [readL_all _ (by rw [ef1]; exact hvl), ef1])
          have HSK := Aside0.mk (show sizeK s.now fl s.dead p.1 = ((v.now.length : Int), 0) by rw [hde]; unfold sizeK; rw [hgn]; show (lenA fl (j : Int), (0 : Int)) = _; rw [lenA_some hf, ef1])
          have HDE := Aside0.mk hde
          clear hpj hjl hv hf hfm hfi ef1 ef2 ef3 hqj hqm eq1 eq2 eq3 hfb hgn hvn hC9 hpm hde
          go_wp2_with (first
            | (go_at_call 17; refine (kread_is b (fun k => ¬ rS rl k) g gd mn ms vo N s.now s.safe (s.ops.map nrm) mf M fl (s.fs.length : Int) s.room s.fuse s.armed s.dead _ (HD.out _ HB.out) HKG.out p.1 HPS.out v.now 0 HRK.out).mono ?_; rintro e w1 ⟨A7, c7, rfl, hc7, hb7⟩; have hbn := below_step HB.out hb7; have hy := Kd.C_below HY.out hb7; replace r1 := pw_cell_below hb7 r1; have s5 := (blk_cell (HR.out _ hbn).hb 5).trans (rfl : _ = some (Value.bool s.dead)); rw [HDE.out] at s5; have k1 := pw_cell_below hbn k0; clear HB HY; have HB := Aside0.mk hbn; have HY := Aside0.mk hy; have HC7 := Aside0.mk hc7; clear hbn hy hb7 hc7)
            | (go_at_call 56; refine (ksize_is b (fun k => ¬ rS rl k) g gd mn ms vo N s.now s.safe (s.ops.map nrm) mf M fl (s.fs.length : Int) s.room s.fuse s.armed s.dead _ (HD.out _ HB.out) HKG.out p.1 HPS.out (v.now.length : Int) 0 HSK.out).mono ?_; rintro e w2 ⟨rfl, hw2⟩; subst hw2)
            | (go_at_call 19; refine (rkget_some b r rd (.slice A1 s.now.length c1) ds dv s.now s.safe s.ops vF rl s.room s.fuse s.armed s.dead _ (HR.out _ HB.out) p.1 j q HGN.out HQJ.out HUP.out).mono ?_; rintro e w3 ⟨rfl, hw3⟩; subst hw3)
            | (go_at_call 18; refine (same_any A7 A9 _ _ c7 c9 _ _ HC7.out (Kd.C_below HC9.out HB.out)).mono ?_; rintro e w4 ⟨rfl, rfl⟩))
          go_roundg (s.now.length - (i + 1))
          case measure => have := hq.out; omega
          case rel => exact ⟨i + 1, by go_num, by omega, ⟨rfl⟩, HY, HB⟩
      · go_wp2_with fail
        go_ret
        exact ⟨rfl, HB.out⟩
end Go.Proofs.YtpnbjpkdbiiogaaGreat
