/- Disks: the code's disk alone: a file synced, names synced, a crash. -/
import Derived.Test.YtpnbjpkdbiiogaaGreatJl
namespace Go.Proofs.YtpnbjpkdbiiogaaGreat
set_option linter.unusedVariables false
open Go.RowKit Go.Maps Go.Proofs.YtpnbjpkdbiiogaaGreatW.PrintWords
attribute [local go_sem] mx2 mn2 mxTwo mnTwo

/-- The code's disk alone is in state s. -/
def DX (W : World) (b : Nat) (y : Nat → Prop) (g N M : Nat) (s : VSt) : Prop := ∃ gd mn ms vo mf fl, DK W b y g gd mn ms vo N s.now s.safe (s.ops.map nrm) mf M fl (s.fs.length : Int) s.room s.fuse s.armed s.dead ∧ fl.map FR.pv = present 0 s.fs
theorem DX.below {W W1 : World} {b : Nat} {y : Nat → Prop} {g N M : Nat} {s : VSt} (h : DX W b y g N M s) (hb : Below W.heap.size W W1) : DX W1 b y g N M s := by
  obtain ⟨gd, mn, ms, vo, mf, fl, hd, hm⟩ := h
  exact ⟨gd, mn, ms, vo, mf, fl, hd.below hb, hm⟩
section
variable {w : World} {b : Nat} {y : Nat → Prop} {g N M k : Nat} {s : VSt}
theorem kg_of {fl : List FR} (h : fl.map FR.pv = present 0 s.fs) (hb : BdV s N M k) (hk : k ≤ 49) : KG s.now fl := by
  refine ⟨fun p hp => ?_, fun f hf => ?_⟩
  · obtain ⟨i, e, v, hv⟩ := (hb.dn p hp).2
    obtain ⟨f, hf, _⟩ := fl_at h hv
    have h1 := (List.getElem?_eq_some_iff.1 hv).1
    have h2 := hb.fs
    rw [e]
    exact ⟨by omega, by omega, f, hf⟩
  · obtain ⟨i, _, _, hv⟩ := fl_mem h hf
    have h1 := hb.fb _ (List.mem_of_getElem? hv)
    have h2 := h1.ops
    exact ⟨h1.now, by simp only at h2; omega⟩
theorem dx_sync (h : DX w b y g N M s) (hb : BdV s N M k) (hca : Calm s) (nm : ByteArray) (hs : nm.size ≤ maxLen) (i : Nat) (v : RV) (hn : getN s.now nm = some (i : Int)) (hv : s.fs[i]? = some (v, true)) (hk : k ≤ 49) :
    Calls Tryz.prog 12 #[.pointer (some ⟨g, 0, none⟩), .string nm] w fun e w' => e = .returned (.int .i64 0) ∧ DX w' b y g N M (putV s i ⟨v.now, v.now, []⟩) ∧ KT w w' ∧ Below b w w' := by
  obtain ⟨gd, mn, ms, vo, mf, fl, h, hm⟩ := h
  obtain ⟨f, hf, hfi, ef1, ef2, ef3⟩ := fl_at hm hv
  have hil := (List.getElem?_eq_some_iff.1 hv).1
  have hfs := hb.fs
  have hc : (chg s.fuse s.armed s.dead).1 = 0 := by rw [hca.chg]
  refine (ksync_ok b y g gd mn ms vo N s.now s.safe (s.ops.map nrm) mf M fl (s.fs.length : Int) s.room s.fuse s.armed s.dead w h hb.fuse.1 hb.fuse.2 hc nm hs (i : Int) (by omega) (by omega) f hn hf (by rw [ef1]; exact (hb.fb _ (List.mem_of_getElem? hv)).now)).mono ?_
  rintro e w' ⟨he, ⟨vs', hd⟩, hkt, hbl⟩
  rw [hca.chg, ← hca.2] at hd
  refine ⟨he, ⟨gd, mn, ms, vo, mf, setFile fl ⟨f.id, f.g, f.vn, vs', .slice none 0 0, f.now, f.now, []⟩, ?_, ?_⟩, hkt, hbl⟩
  · show DK w' b y g gd mn ms vo N s.now s.safe (s.ops.map nrm) mf M _ (((s.fs.set i (_, true)).length : Nat) : Int) s.room s.fuse s.armed s.dead
    rw [List.length_set]
    exact hd
  · rw [set_fl hm hv ⟨f.id, f.g, f.vn, vs', .slice none 0 0, f.now, f.now, []⟩ hfi]
    show present 0 (s.fs.set i (⟨f.now, f.now, []⟩, true)) = present 0 (s.fs.set i (⟨v.now, v.now, []⟩, true))
    rw [ef1]
theorem dx_syncdir (h : DX w b y g N M s) (hb : BdV s N M k) (hca : Calm s) :
    Calls Tryz.prog 13 #[.pointer (some ⟨g, 0, none⟩)] w fun e w' => e = .returned (.int .i64 0) ∧ DX w' b y g N M { s with safe := s.now, ops := [] } ∧ KT w w' ∧ Below b w w' := by
  obtain ⟨gd, mn, ms, vo, mf, fl, h, hm⟩ := h
  have hc : (chg s.fuse s.armed s.dead).1 = 0 := by rw [hca.chg]
  refine (ksyncdir_any b y g gd mn ms vo N s.now s.safe (s.ops.map nrm) mf M fl (s.fs.length : Int) s.room s.fuse s.armed s.dead w h hb.fuse.1 hb.fuse.2).mono ?_
  rintro e w' ⟨he, ⟨ms', vo', hd⟩, hkt, hbl⟩
  simp only [hc, if_true] at he hd
  rw [hca.chg, ← hca.2] at hd
  exact ⟨he, ⟨gd, mn, ms', vo', mf, fl, hd, hm⟩, hkt, hbl⟩
theorem dx_crash (h : DX w b y g N M s) (hb : BdV s N M k) (hk : k ≤ 49) (A : Option Addr) (c : Nat) (kl : List Bool) (hck : Kd.bool.C w A kl.length kl) (hc : kl.length ≤ c) (hkl : kl.length ≤ 1000000) :
    Calls Tryz.prog 14 #[.pointer (some ⟨g, 0, none⟩), .slice A kl.length c] w fun e w' => ∃ g2 N2 M2, e = .returned (.pointer (some ⟨g2, 0, none⟩)) ∧ DX w' b y g2 N2 M2 (crashS s kl) ∧ N2 ≤ N + k + 1 ∧ M2 ≤ k + 1 ∧ Below w.heap.size w w' := by
  obtain ⟨gd, mn, ms, vo, mf, fl, h, hm⟩ := h
  have hbs := hb.safe
  have hbo := hb.ops
  have hbN := hb.n
  have hbM := hb.m
  have hbf := hb.fs
  have hfl := fl_len hm
  have hcn := crash_names s kl
  have hcl := crashD_len s.safe s.ops kl s.ops.length
  have hol : (s.ops.map nrm).length = s.ops.length := List.length_map ..
  have hcon := kcrash_any b y g gd mn ms vo N s.now s.safe (s.ops.map nrm) mf M fl (s.fs.length : Int) s.room s.fuse s.armed s.dead w h A c kl hck hc hkl hb.room (by omega) (by omega) (by omega)
    (fun o ho => by
      obtain ⟨o', ho', rfl⟩ := List.mem_map.1 ho
      exact nrm_size _ (hb.op o' ho').1)
    (by rw [hcn]; exact rising_crash s.safe s.ops kl hb.rs s.ops.length)
    (by
      rw [hcn]
      intro p hp
      obtain ⟨_, i, e, v, hv⟩ := hb.cd kl p hp
      have := (List.getElem?_eq_some_iff.1 hv).1
      omega)
    (by rw [hcn]; exact fun p hp => (hb.cd kl p hp).1) (by rw [hcn]; omega) (fl_up hm)
    (fun p hp => by
      obtain ⟨i, h1, h2, _⟩ := fl_mem hm hp
      omega)
    (fun p hp => by
      obtain ⟨i, h1, h2, h3⟩ := fl_mem hm hp
      have h4 := hb.fb _ (List.mem_of_getElem? h3)
      have h5 := h4.ops
      exact ⟨h4.safe, by simp only at h5; omega, h4.op⟩) (by omega)
  rw [hcn] at hcon
  refine hcon.mono ?_
  rintro e w' ⟨g2, gd2, mn2, ms2, mf2, fo, he, hd, hfo, hbl⟩
  have hmf : fo.map FR.pv = present 0 (crashV (namedI (crashD s.safe s.ops kl s.ops.length)) kl 0 s.ops.length s.fs) := by
    rw [hfo, hm, hol]
    exact (crashV_present _ kl s.fs 0 s.ops.length hb.fz (hb.absent kl)).symm
  have hlen : (crashV (namedI (crashD s.safe s.ops kl s.ops.length)) kl 0 s.ops.length s.fs).length = s.fs.length := crashV_len _ _ _ _ _
  have hfol := fl_len hmf
  rw [hol] at hd
  refine ⟨g2, N + s.ops.length, fo.length, he, ⟨gd2, mn2, ms2, .slice none 0 0, mf2, fo, ?_, hmf⟩, by omega, by omega, hbl⟩
  show DK w' b y g2 gd2 mn2 ms2 (.slice none 0 0) (N + s.ops.length) _ _ [] mf2 fo.length fo (((crashV (namedI (crashD s.safe s.ops kl s.ops.length)) kl 0 s.ops.length s.fs).length : Nat) : Int) s.room 0 false false
  rw [hlen]
  exact hd
theorem dx_read (h : DX w b y g N M s) (hb : BdV s N M k) (hd : s.dead = false) (nm : ByteArray) (hs : nm.size ≤ maxLen) (i : Nat) (v : RV) (hn : getN s.now nm = some (i : Int)) (hv : s.fs[i]? = some (v, true)) (hk : k ≤ 49) (l : List Int) (hl : v.now = l) :
    Calls Tryz.prog 17 #[.pointer (some ⟨g, 0, none⟩), .string nm, .int .i64 0, .int .i64 1048576] w fun e w' => ∃ A c, e = .returned (.tuple #[.slice A l.length c, .int .i64 0]) ∧ Kd.C (Kd.int .u8) w' A l.length l ∧ Below w.heap.size w w' := by
  obtain ⟨gd, mn, ms, vo, mf, fl, h, hm⟩ := h
  obtain ⟨f, hf, hfi, ef1, ef2, ef3⟩ := fl_at hm hv
  have hvl := (hb.fb _ (List.mem_of_getElem? hv)).now
  refine kread_is b y g gd mn ms vo N s.now s.safe (s.ops.map nrm) mf M fl (s.fs.length : Int) s.room s.fuse s.armed s.dead w h (kg_of hm hb hk) nm hs l 0 ?_
  rw [hd]
  unfold readK
  rw [hn]
  show (readL (((fileAt fl (i : Int)).map (·.now)).getD []) 0 1048576, (0 : Int)) = _
  rw [hf]
  show (readL f.now 0 1048576, (0 : Int)) = _
  rw [readL_all _ (by rw [ef1]; exact hvl), ef1, hl]
/-- The directory in the disk. -/
theorem dx_dir (h : DX w b y g N M s) : ∃ gd mn ms vo, w.cell? ⟨g, 0, none⟩ = some (.pointer (some ⟨gd, 0, none⟩)) ∧ DI w b gd mn ms vo N s.now s.safe (s.ops.map nrm) := by
  obtain ⟨gd, mn, ms, vo, mf, fl, h, hm⟩ := h
  exact ⟨gd, mn, ms, vo, (blk_cell h.hb 0).trans rfl, h.hd⟩
/-- The reference's disk alone. -/
def RKX (W : World) (b : Nat) (r : Nat) (rl : List RR) (s : VSt) : Prop := ∃ rd dn ds dv vF, RK W b r rd dn ds dv s.now s.safe s.ops vF rl s.room s.fuse s.armed s.dead ∧ rl.map RR.rv = s.fs.map (·.1)
theorem RKX.below {W W1 : World} {r : Nat} {rl : List RR} (h : RKX W b r rl s) (hb : Below W.heap.size W W1) : RKX W1 b r rl s := by
  obtain ⟨rd, dn, ds, dv, vF, h, hm⟩ := h
  exact ⟨rd, dn, ds, dv, vF, h.below hb, hm⟩
theorem RKX.code {W W1 : World} {r : Nat} {rl : List RR} (h : RKX W b r rl s) (hk : KT W W1) : RKX W1 b r rl s := by
  obtain ⟨rd, dn, ds, dv, vF, h, hm⟩ := h
  exact ⟨rd, dn, ds, dv, vF, h.code hk, hm⟩
theorem KX.split {r : Nat} (h : KX w b g r N M s) : ∃ rl, DX w b (fun k => ¬ rS rl k) g N M s ∧ RKX w b r rl s := by
  obtain ⟨gd, mn, ms, vo, mf, fl, rd, dn, ds, dv, vF, rl, h⟩ := h
  exact ⟨rl, ⟨gd, mn, ms, vo, mf, fl, h.d, h.mf⟩, ⟨rd, dn, ds, dv, vF, h.r, h.mr⟩⟩
/-- A name's bytes in the reference. -/
theorem rkx_get {r : Nat} {rl : List RR} (h : RKX w b r rl s) (hl : s.fs.length ≤ 1000000) (nm : ByteArray) (i : Nat) (v : RV) (hn : getN s.now nm = some (i : Int)) (hv : s.fs[i]? = some (v, true)) :
    ∃ p A c, Kd.C (Kd.int .u8) w A v.now.length v.now ∧ w.cell? ⟨p, 0, none⟩ = some (.slice A v.now.length c) ∧ ∀ W, Below w.heap.size w W → Calls Tryz.prog 19 #[.pointer (some ⟨r, 0, none⟩), .string nm] W fun e w' => e = .returned (.pointer (some ⟨p, 0, none⟩)) ∧ W = w' := by
  obtain ⟨rd, dn, ds, dv, vF, h, hm⟩ := h
  obtain ⟨q, hq, eq1, eq2, eq3⟩ := rl_at hm hv
  have hqm := List.mem_of_getElem? hq
  obtain ⟨A, c, hvn, _, hC⟩ := Kd.R_reads (h.hf q hqm).hn
  have k0 := (blk_cell (h.hf q hqm).hb 0).trans (rfl : _ = some q.vn)
  rw [hvn] at k0
  rw [eq1] at k0 hC
  exact ⟨q.g, A, c, hC, k0, fun W hW => rkget_some b r rd dn ds dv s.now s.safe s.ops vF rl s.room s.fuse s.armed s.dead W (h.below hW) nm i q hn hq (by rw [rl_len hm]; exact hl)⟩
/-- The reference's directory. -/
theorem rkx_dir {r : Nat} {rl : List RR} (h : RKX w b r rl s) : ∃ rd A c, w.cell? ⟨r, 0, none⟩ = some (.pointer (some ⟨rd, 0, none⟩)) ∧ w.cell? ⟨rd, 0, none⟩ = some (.slice A s.now.length c) ∧ Kd.C kDN w A s.now.length s.now := by
  obtain ⟨rd, dn, ds, dv, vF, h, hm⟩ := h
  obtain ⟨A, c, hdn, _, hC⟩ := Kd.R_reads h.hd.hn
  subst hdn
  exact ⟨rd, A, c, (blk_cell h.hb 0).trans rfl, (blk_cell h.hd.hb 0).trans rfl, hC⟩
end
end Go.Proofs.YtpnbjpkdbiiogaaGreat
/- The walk of the law VdiskSafe: it answers true. -/
namespace Go.Proofs.YtpnbjpkdbiiogaaGreat
set_option linter.unusedVariables false
open Go.RowKit Go.Maps Go.Proofs.YtpnbjpkdbiiogaaGreatW.PrintWords
attribute [local go_sem] mx2 mn2 mxTwo mnTwo

theorem R_strKT {W W1 : World} {b : Nat} {x : Nat → Prop} {v : Value} {xs : List ByteArray} (h : Kd.R Kd.string 9 W b x v xs) (hk : KT W W1) : Kd.R Kd.string 9 W1 b x v xs :=
  R_keptT h (fun k cs t ht hc => hk.keep k cs t hc (by
    have : Kd.string.E = [] := rfl
    rw [this] at ht
    rw [List.mem_singleton.1 ht]
    decide))
def putF' (s : VSt) (fs : List (RV × Bool)) : VSt := { s with fs := fs }
set_option maxHeartbeats 8000000 in
set_option maxRecDepth 100000 in
theorem vsafe_walk (A : Option Addr) (c : Nat) (xs : List VAct) (Ak : Option Addr) (ck : Nat) (ks : List Bool) (w : World) (hp : Kd.C kVact w A xs.length xs) (hc : xs.length ≤ c) (hg : ∀ x ∈ xs, goodVact x) (hpk : Kd.bool.C w Ak ks.length ks) (hck : ks.length ≤ ck) (hgk : ∀ x ∈ ks, True) :
    Calls Tryz.prog 3 #[.slice A xs.length c, .slice Ak ks.length ck] w fun e w' => e = .returned (.bool true) ∧ Below w.heap.size w w' := by
  have hm := Kd.C_max hp
  have hmk := Kd.C_max hpk
  have HP := Aside0.mk hp
  have HPK := Aside0.mk hpk
  have HG := Aside0.mk hg
  have HB := Aside0.mk (Below.refl w.heap.size w)
  clear hp hg hpk hgk
  by_cases hn : ks.length ≤ 300
  · have d1 : decide (300 < ks.length) = false := decide_eq_false (by omega)
    go_enter Tryz.func3, Tryz.ntmps3
    go_wp2_with (first
      | (go_at_call 6; refine (awake08_any _).mono ?_; rintro e W9 ⟨rfl, hb⟩; have hbn := below_step HB.out hb; clear HB; have HB := Aside0.mk hbn; clear hb hbn)
      | (go_at_call 7; refine (knew_any w.heap.size (fun k => ¬ rS [] k) 100 _ HB.out.size (fun k _ => rS_nil k)).mono ?_; rw [show (if (100 : Int) < 0 then (0 : Int) else 100) = 100 from rfl]; rintro e W0 ⟨g0, gd0, mn0, ms0, mf0, rfl, hd, hb⟩; have hbn := below_step HB.out hb; clear HB; have HB := Aside0.mk hbn; have HD := Aside0.mk hd; clear hd hb hbn)
      | (go_at_call 8; refine (rknew_any w.heap.size 100 _ HB.out.size).mono ?_; rw [show (if (100 : Int) < 0 then (0 : Int) else 100) = 100 from rfl]; rintro e W1 ⟨r0, rd0, rfl, hr, hb⟩; have hbn := below_step HB.out hb; have hx := kx0 HD.out hb hr; clear HB HD; have HB := Aside0.mk hbn; have HX := Aside0.mk hx; clear hr hb hbn hx))
    go_loopg [5, 6, 7] 20 (fun q v5 v6 v7 wr => ∃ (i g r N M : Nat) (s : VSt), v7 = .int .i64 (i : Int) ∧ v5 = .pointer (some ⟨g, 0, none⟩) ∧ v6 = .pointer (some ⟨r, 0, none⟩) ∧ i ≤ xs.length ∧ i ≤ 20 ∧ Aside0 (q = 20 - i) ∧ Aside0 (BdV s N M i) ∧ Aside0 (Calm s) ∧ Aside0 (KX wr w.heap.size g r N M s) ∧ Aside0 (Below w.heap.size w wr))
    case atStart => exact ⟨0, _, _, _, _, s0V 100, rfl, rfl, rfl, Nat.zero_le _, Nat.zero_le _, ⟨rfl⟩, ⟨bdv0 100 (by omega)⟩, ⟨⟨rfl, rfl⟩⟩, HX, HB⟩
    case round =>
      clear HX HB
      obtain ⟨i, g, r, N, M, s, rfl, rfl, rfl, hi, hi2, hq, HBD, HCA, HX, HB⟩ := hrel
      by_cases hgo : i < xs.length ∧ i < 20
      · obtain ⟨hlt, h20⟩ := hgo
        obtain ⟨ad, A4, c4, A5, c5, e1, r0, r1, r2, r3, r4, r5, hnc, hC4, hkc, hC5⟩ := at_Vact HP.out i hlt
        subst e1
        obtain ⟨a, ha⟩ : ∃ a, a = xs.getD i zVact := ⟨_, rfl⟩
        have hga : goodVact a := by rw [ha, List.getD_eq_getElem?_getD, List.getElem?_eq_getElem hlt]; exact HG.out _ (List.getElem_mem _)
        rw [← ha] at r0 r1 r2 r3 r4 r5 hnc hC4 hkc hC5
        have hst : ∀ W', Below w.heap.size w W' → Kd.C (Kd.int .u8) W' A4 a.data.length a.data := fun W' hb => Kd.C_below hC4 hb
        have HST := Aside0.mk hst
        have HC5 := Aside0.mk hC5
        replace r0 := pw_cell_below HB.out r0
        replace r1 := pw_cell_below HB.out r1
        replace r2 := pw_cell_below HB.out r2
        replace r3 := pw_cell_below HB.out r3
        replace r4 := pw_cell_below HB.out r4
        replace r5 := pw_cell_below HB.out r5
        clear ha hC4 hC5 hst
        by_cases hl : lightV a
        · obtain ⟨hl1, hl2, hl3, hl4, hl5⟩ := hl
          have HL5 := Aside0.mk (show a.at_ ≤ 1500 ∨ ¬ a.at_ ≤ 1500 ∧ 1048576 < a.at_ by omega)
          have HZA := Aside0.mk (show a.a.size ≤ maxLen ∧ a.b.size ≤ maxLen by unfold maxLen; omega)
          have HAT := Aside0.mk (bounds_i64 hga.2.2.2.1).2
          clear hl5 hga
          by_cases h7 : a.kd = 7
          · have e7 : (a.kd == 7) = true := beq_iff_eq.2 h7
            clear h7
            go_wp2_with (first
              | (go_at_call 9; refine (vlight_yes a.kd a.at_ a.a a.b A4 A5 a.data.length c4 a.keep.length c5 _ hl1 hl2 hl3 hl4 HL5.out).mono ?_; rintro e w1 ⟨rfl, hb⟩; replace r0 := pw_cell_below hb r0; replace r1 := pw_cell_below hb r1; replace r2 := pw_cell_below hb r2; replace r3 := pw_cell_below hb r3; replace r4 := pw_cell_below hb r4; replace r5 := pw_cell_below hb r5; have hx := HX.out.below hb; have hbn := below_step HB.out hb; clear HX HB; have HX := Aside0.mk hx; have HB := Aside0.mk hbn; clear hx hbn hb)
              | (go_at_call 6; refine (awake08_any _).mono ?_; rintro e W9 ⟨rfl, hb⟩; have hbn := below_step HB.out hb; clear HB; have HB := Aside0.mk hbn; clear hb hbn))
            go_ret
            exact ⟨rfl, HB.out⟩
          · have e7 : (a.kd == 7) = false := beq_eq_false_iff_ne.2 h7
            have HCA2 := Aside0.mk (step_calm s a HCA.out h7)
            clear h7
            go_wp2_with (first
              | (go_at_call 9; refine (vlight_yes a.kd a.at_ a.a a.b A4 A5 a.data.length c4 a.keep.length c5 _ hl1 hl2 hl3 hl4 HL5.out).mono ?_; rintro e w1 ⟨rfl, hb⟩; replace r0 := pw_cell_below hb r0; replace r1 := pw_cell_below hb r1; replace r2 := pw_cell_below hb r2; replace r3 := pw_cell_below hb r3; replace r4 := pw_cell_below hb r4; replace r5 := pw_cell_below hb r5; have hx := HX.out.below hb; have hbn := below_step HB.out hb; clear HX HB; have HX := Aside0.mk hx; have HB := Aside0.mk hbn; clear hx hbn hb)
              | (go_at_call 10; refine (vdoes_any a w.heap.size g r N M s i A4 c4 A5 c5 _ HX.out HBD.out (by omega) HZA.out.1 HZA.out.2 HAT.out (by omega) hnc (fun W' hb => HST.out W' (HB.out.trans hb)) (by omega) hkc (Kd.C_below HC5.out HB.out)).mono ?_; rintro e w2 ⟨g', r', N', M', rfl, hx, hbd, hbl⟩; have hbn := HB.out.trans hbl; have HBD2 := Aside0.mk hbd; clear HX HB; have HX := Aside0.mk hx; have HB := Aside0.mk hbn; clear hx hbn hbl hbd))
            go_roundg (20 - (i + 1))
            case measure => have := hq.out; omega
            case rel => exact ⟨i + 1, _, _, _, _, _, by go_num, rfl, rfl, by omega, by omega, ⟨rfl⟩, HBD2, HCA2, HX, HB⟩
        · have HNL := Aside0.mk hl
          clear hl hga
          go_wp2_with (first
            | (go_at_call 9; refine (vlight_no a.kd a.at_ a.a a.b A4 A5 a.data.length c4 a.keep.length c5 _ HNL.out).mono ?_; rintro e w1 ⟨rfl, hb⟩; have hbn := below_step HB.out hb; clear HB; have HB := Aside0.mk hbn; clear hbn hb)
            | (go_at_call 6; refine (awake08_any _).mono ?_; rintro e W9 ⟨rfl, hb⟩; have hbn := below_step HB.out hb; clear HB; have HB := Aside0.mk hbn; clear hb hbn))
          go_ret
          exact ⟨rfl, HB.out⟩
      · have fin : i = 20 ∧ i < xs.length ∨ i = xs.length := by omega
        clear hgo
        obtain ⟨ib, hib, HBE⟩ : ∃ ib, ib ≤ 20 ∧ Aside0 (BdV s N M ib) := ⟨i, hi2, HBD⟩
        clear HBD
        rcases fin with ⟨rfl, hlt⟩ | rfl
        all_goals
          obtain ⟨rl, hdx, hrx⟩ := HX.out.split
          obtain ⟨rd, A1, c1, q0, q1, hC1⟩ := rkx_dir hrx
          have hnl := HBE.out.now
          have hNl := HBE.out.n
          have hfl := HBE.out.fs
          have HC1 := Aside0.mk hC1
          have HDX := Aside0.mk hdx
          have HRX := Aside0.mk hrx
          clear hdx hrx hC1 HX
          go_wp2_with (first
            | (go_at_call 11; refine (rnames_any A1 _ c1 s.now _ HC1.out (by omega)).mono ?_; rintro e w1 ⟨v4, rfl, hv4, hb⟩; obtain ⟨A4, c4, rfl⟩ := Kd.R_slice hv4; rw [List.length_map] at hv4 ⊢; have hbn := below_step HB.out hb; have hd := HDX.out.below hb; have hr := HRX.out.below hb; clear HB HDX HRX; have HB := Aside0.mk hbn; have HDX := Aside0.mk hd; have HRX := Aside0.mk hr; have HNM := Aside0.mk hv4; clear hbn hd hr hv4 hb))
          obtain ⟨bN, hbN⟩ : ∃ x, x = wr.heap.size := ⟨_, rfl⟩
          rw [← hbN] at HNM
          clear hbN q0 q1 HC1
          go_loopg [12] s.now.length (fun q v12 wq => ∃ (j : Nat) (fs : List (RV × Bool)), v12 = .int .i64 (j : Int) ∧ j ≤ s.now.length ∧ Aside0 (q = s.now.length - j) ∧ Aside0 (SyF s fs j) ∧ Aside0 (BdV (putF' s fs) N M ib) ∧ Aside0 (DX wq w.heap.size (fun k => ¬ rS rl k) g N M (putF' s fs)) ∧ Aside0 (RKX wq w.heap.size r rl s) ∧ Aside0 (Kd.R Kd.string 9 wq bN (fun _ => True) (.slice A4 s.now.length c4) (s.now.map (·.1))) ∧ Aside0 (Below w.heap.size w wq))
          case atStart => exact ⟨0, s.fs, rfl, Nat.zero_le _, ⟨rfl⟩, ⟨SyF.zero s⟩, HBE, HDX, HRX, HNM, HB⟩
          case round =>
            clear HDX HRX HNM HB
            obtain ⟨j, fs, rfl, hj, hjq, HSY, HBF, HDX, HRX, HNM, HB⟩ := hrel
            have hcF : Calm (putF' s fs) := HCA.out
            by_cases hlj : j < s.now.length
            · obtain ⟨ad, e1, r1⟩ := at_str (C_own9 HNM.out) j hlj
              subst e1
              rw [getD_map_fst s.now j hlj] at r1
              have hpm : s.now.getD j zDN ∈ s.now := by rw [List.getD_eq_getElem?_getD, List.getElem?_eq_getElem hlj]; exact List.getElem_mem _
              have hgn := find_rising s.now HBE.out.rn j hlj
              obtain ⟨hsz, ii, hid, v0, hv0⟩ := HBE.out.dn _ hpm
              obtain ⟨v, hv, hvn, _⟩ := HSY.out ii v0 true hv0
              have hsy := HSY.out.step hid hv
              have hfb := (HBF.out.fb _ (List.mem_of_getElem? hv)).sync0
              have hbd2 := HBF.out.sync0 ii _ hfb
              rw [hid] at hgn
              obtain ⟨nm, hnm⟩ : ∃ nm, nm = (s.now.getD j zDN).1 := ⟨_, rfl⟩
              rw [← hnm] at r1 hgn hsz
              have HCO := Aside0.mk (fun W (hW : DX W w.heap.size (fun k => ¬ rS rl k) g N M (putF' s fs)) => dx_sync hW HBF.out hcF nm hsz ii v hgn hv (by omega))
              have HSY2 := Aside0.mk hsy
              have HBF2 := Aside0.mk hbd2
              clear hpm hgn hsz hid hv0 hv hvn hsy hfb hbd2 hnm hcF
              go_wp2_with (first
                | (go_at_call 12; refine (HCO.out _ HDX.out).mono ?_; rintro e w2 ⟨rfl, hd, hkt, hbl⟩; have hr := HRX.out.code hkt; have hn := R_strKT HNM.out hkt; have hbn := HB.out.trans hbl; clear HDX HRX HNM HB; have HDX := Aside0.mk hd; have HRX := Aside0.mk hr; have HNM := Aside0.mk hn; have HB := Aside0.mk hbn; clear hd hkt hbl hr hn hbn))
              go_roundg (s.now.length - (j + 1))
              case measure => have := hjq.out; omega
              case rel => exact ⟨j + 1, _, by go_num, by omega, ⟨rfl⟩, HSY2, HBF2, HDX, HRX, HNM, HB⟩
            · obtain rfl : j = s.now.length := by omega
              obtain ⟨t, ht⟩ : ∃ t, t = crashS { s with fs := fs, safe := s.now, ops := [] } ks := ⟨_, rfl⟩
              have htn : t.now = s.now := by rw [ht]; rfl
              have htd : t.dead = false := by rw [ht]; rfl
              have HCS := Aside0.mk (fun (m ii : Nat) (v : RV) (hm : m < s.now.length) (hi : (s.now.getD m zDN).2 = (ii : Int)) (hv : s.fs[ii]? = some (v, true)) => crash_safe HSY.out ks hm hi hv)
              rw [← ht] at HCS
              have HBS := Aside0.mk HBF.out.syncdir0
              have HT := Aside0.mk ht
              have HTN := Aside0.mk htn
              have HTD := Aside0.mk htd
              clear hlj hj ht htn htd
              go_wp2_with (first
                | (go_at_call 13; refine (dx_syncdir HDX.out HBF.out hcF).mono ?_; rintro e w2 ⟨rfl, hd, hkt, hbl⟩; have hr := HRX.out.code hkt; have hn := R_strKT HNM.out hkt; have hbn := HB.out.trans hbl; clear HDX HRX HNM HB; have HDX := Aside0.mk hd; have HRX := Aside0.mk hr; have HNM := Aside0.mk hn; have HB := Aside0.mk hbn; clear hd hkt hbl hr hn hbn)
                | (go_at_call 14; refine (dx_crash HDX.out HBS.out (by omega) Ak ck ks (Kd.C_below HPK.out HB.out) hck (by omega)).mono ?_; rintro e w3 ⟨g2, N2, M2, rfl, hd, hN2, hM2, hb⟩; have hr := HRX.out.below hb; have hn := Kd.R_below HNM.out hb; have hbn := below_step HB.out hb; have hbt := BdV.crash HBS.out (by omega) hN2 hM2 ks; rw [show crashS { putF' s fs with safe := (putF' s fs).now, ops := [] } ks = t from HT.out.symm] at hd hbt; obtain ⟨gd2, mn2, ms2, vo2, s0, hdi⟩ := dx_dir hd; have HDI := Aside0.mk hdi; clear HDX HRX HNM HB; have HDX := Aside0.mk hd; have HRX := Aside0.mk hr; have HNM := Aside0.mk hn; have HB := Aside0.mk hbn; have HBT := Aside0.mk hbt; clear hd hN2 hM2 hb hr hn hbn hdi hbt)
                | (go_at_call 16; refine (dnames_any w.heap.size gd2 mn2 ms2 N2 vo2 t.now t.safe (t.ops.map nrm) _ HDI.out HBT.out.rn (by have := HBT.out.n; omega)).mono ?_; rw [HTN.out]; rintro e w4 ⟨v3, rfl, hv3, hb⟩; obtain ⟨A3, c3, rfl, _, hc3⟩ := Kd.R_reads hv3; rw [List.length_map] at hc3; rw [List.length_map]; have hd := HDX.out.below hb; have hr := HRX.out.below hb; have hn := Kd.R_below HNM.out hb; have hbn := below_step HB.out hb; clear HDX HRX HNM HB HDI; have HDX := Aside0.mk hd; have HRX := Aside0.mk hr; have HNM := Aside0.mk hn; have HB := Aside0.mk hbn; have HX3 := Aside0.mk hc3; clear hd hr hn hbn hc3 hb hv3)
                | (go_at_call 15; refine (texts_any A3 A4 _ _ c3 c4 _ _ HX3.out (C_own9 HNM.out)).mono ?_; rintro e w5 ⟨rfl, hb⟩; have hd := HDX.out.below hb; have hr := HRX.out.below hb; have hn := Kd.R_below HNM.out hb; have hbn := below_step HB.out hb; clear HDX HRX HNM HB HX3; have HDX := Aside0.mk hd; have HRX := Aside0.mk hr; have HNM := Aside0.mk hn; have HB := Aside0.mk hbn; clear hd hr hn hbn hb))
              go_loopg [14, 15, 16] s.now.length (fun q v14 v15 v16 wq => ∃ j : Nat, v14 = .int .i64 (j : Int) ∧ j ≤ s.now.length ∧ Aside0 (q = s.now.length - j) ∧ Aside0 (DX wq w.heap.size (fun k => ¬ rS rl k) g2 N2 M2 t) ∧ Aside0 (RKX wq w.heap.size r rl s) ∧ Aside0 (Kd.R Kd.string 9 wq bN (fun _ => True) (.slice A4 s.now.length c4) (s.now.map (·.1))) ∧ Aside0 (Below w.heap.size w wq))
              case atStart => exact ⟨0, rfl, Nat.zero_le _, ⟨rfl⟩, HDX, HRX, HNM, HB⟩
              case round =>
                clear HDX HRX HNM HB
                obtain ⟨j, rfl, hj, hjq, HDX, HRX, HNM, HB⟩ := hrel
                by_cases hlj : j < s.now.length
                · obtain ⟨ad, e1, r1⟩ := at_str (C_own9 HNM.out) j hlj
                  subst e1
                  rw [getD_map_fst s.now j hlj] at r1
                  have hpm : s.now.getD j zDN ∈ s.now := by rw [List.getD_eq_getElem?_getD, List.getElem?_eq_getElem hlj]; exact List.getElem_mem _
                  have hgn := find_rising s.now HBE.out.rn j hlj
                  obtain ⟨hsz, ii, hid, v0, hv0⟩ := HBE.out.dn _ hpm
                  obtain ⟨v, hv, hvn⟩ := HCS.out j ii v0 hlj hid hv0
                  rw [hid] at hgn
                  obtain ⟨nm, hnm⟩ : ∃ nm, nm = (s.now.getD j zDN).1 := ⟨_, rfl⟩
                  rw [← hnm] at r1 hgn hsz
                  obtain ⟨p, A9, c9, hC9, k0, hget⟩ := rkx_get HRX.out (by omega) nm ii v0 hgn hv0
                  obtain ⟨l, hl⟩ : ∃ l, l = v0.now := ⟨_, rfl⟩
                  rw [← hl] at hvn hC9 k0
                  have HCO := Aside0.mk (fun W (hW : DX W w.heap.size (fun k => ¬ rS rl k) g2 N2 M2 t) => dx_read hW HBT.out HTD.out nm hsz ii v (by rw [HTN.out]; exact hgn) hv (by omega) l hvn)
                  have HC9 := Aside0.mk hC9
                  have HGET := Aside0.mk hget
                  clear hpm hgn hsz hid hv0 hv hvn hnm hC9 hget hl
                  go_wp2_with (first
                    | (go_at_call 17; refine (HCO.out _ HDX.out).mono ?_; rintro e w2 ⟨A7, c7, rfl, hc7, hb⟩; have hd := HDX.out.below hb; have hr := HRX.out.below hb; have hn := Kd.R_below HNM.out hb; have hbn := below_step HB.out hb; have h9 := Kd.C_below HC9.out hb; replace r1 := pw_cell_below hb r1; replace k0 := pw_cell_below hb k0; have HGB := Aside0.mk (HGET.out _ hb); clear HDX HRX HNM HB HC9; have HDX := Aside0.mk hd; have HRX := Aside0.mk hr; have HNM := Aside0.mk hn; have HB := Aside0.mk hbn; have HC9 := Aside0.mk h9; have HC7 := Aside0.mk hc7; clear hd hr hn hbn h9 hc7 hb)
                    | (go_at_call 19; refine HGB.out.mono ?_; rintro e w3 ⟨rfl, hw3⟩; subst hw3)
                    | (go_at_call 18; refine (same_any A7 A9 _ _ c7 c9 _ _ HC7.out HC9.out).mono ?_; rintro e w4 ⟨rfl, rfl⟩))
                  go_roundg (s.now.length - (j + 1))
                  case measure => have := hjq.out; omega
                  case rel => exact ⟨j + 1, by go_num, by omega, ⟨rfl⟩, HDX, HRX, HNM, HB⟩
                · go_wp2_with (first
                    | (go_at_call 6; refine (awake08_any _).mono ?_; rintro e W9 ⟨rfl, hb⟩; have hbn := below_step HB.out hb; clear HB; have HB := Aside0.mk hbn; clear hb hbn))
                  go_ret
                  exact ⟨rfl, HB.out⟩
  · have d1 : decide (300 < ks.length) = true := decide_eq_true (by omega)
    go_enter Tryz.func3, Tryz.ntmps3
    go_wp2_with (first
      | (go_at_call 6; refine (awake08_any _).mono ?_; rintro e W9 ⟨rfl, hb⟩; have hbn := below_step HB.out hb; clear HB; have HB := Aside0.mk hbn; clear hb hbn)
      | (go_at_call 7; refine (knew_any w.heap.size (fun k => ¬ rS [] k) 100 _ HB.out.size (fun k _ => rS_nil k)).mono ?_; rw [show (if (100 : Int) < 0 then (0 : Int) else 100) = 100 from rfl]; rintro e W0 ⟨g0, gd0, mn0, ms0, mf0, rfl, hd, hb⟩; have hbn := below_step HB.out hb; clear HB; have HB := Aside0.mk hbn; have HD := Aside0.mk hd; clear hd hb hbn)
      | (go_at_call 8; refine (rknew_any w.heap.size 100 _ HB.out.size).mono ?_; rw [show (if (100 : Int) < 0 then (0 : Int) else 100) = 100 from rfl]; rintro e W1 ⟨r0, rd0, rfl, hr, hb⟩; have hbn := below_step HB.out hb; have hx := kx0 HD.out hb hr; clear HB HD; have HB := Aside0.mk hbn; have HX := Aside0.mk hx; clear hr hb hbn hx))
    go_ret
    exact ⟨rfl, HB.out⟩
end Go.Proofs.YtpnbjpkdbiiogaaGreat
