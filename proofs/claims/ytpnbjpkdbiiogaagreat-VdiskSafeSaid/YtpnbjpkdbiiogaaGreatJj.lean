/- The reference's disk: Crash. -/
import Derived.Test.YtpnbjpkdbiiogaaGreatJi
import Derived.Test.YtpnbjpkdbiiogaaGreatJc
import Derived.Test.YtpnbjpkdbiiogaaGreatJg
namespace Go.Proofs.YtpnbjpkdbiiogaaGreat
set_option linter.unusedVariables false
open Go.RowKit Go.Maps Go.Proofs.YtpnbjpkdbiiogaaGreatW.PrintWords
attribute [local go_sem] mx2 mn2 mxTwo mnTwo

set_option maxHeartbeats 4000000 in
set_option maxRecDepth 100000 in
theorem rkcrash_any (b g gd : Nat) (dn ds dv : Value) (now safe : List DN) (ops : List DOp) (vF : Value) (rl : List RR) (room fuse : Int) (armed dead : Bool) (w : World) (h : RK w b g gd dn ds dv now safe ops vF rl room fuse armed dead) (A : Option Addr) (n c : Nat) (kl : List Bool) (hk : Kd.bool.C w A n kl) (hs : safe.length + ops.length ≤ 100000) (hln : (crashD safe ops kl ops.length).length ≤ 200000) (hlo : ops.length ≤ 100000) (hl : rl.length ≤ 1000)
    (hff : ∀ r ∈ rl, r.safe.length ≤ 1048576 ∧ r.ops.length ≤ 500000 ∧ ∀ o ∈ r.ops, o.n ≤ 1048576 ∧ o.d.length ≤ 1048576) :
    Calls Tryz.prog 38 #[.pointer (some ⟨g, 0, none⟩), .slice A n c] w fun e w' => ∃ g2 gd2 v vF2 ro, e = .returned (.pointer (some ⟨g2, 0, none⟩)) ∧ RK w' b g2 gd2 v v (.slice none 0 0) (crashD safe ops kl ops.length) (crashD safe ops kl ops.length) [] vF2 ro room 0 false false ∧ ro.map RR.rv = crashR (namedI (crashD safe ops kl ops.length)) kl 0 ops.length (rl.map RR.rv) ∧ (∀ k, rS ro k → w.heap.size ≤ k) ∧ Below w.heap.size w w' := by
  have hbw : b ≤ w.heap.size := Nat.le_trans h.hg (Nat.le_of_lt (blk_lt h.hb))
  obtain ⟨nw, hnw⟩ : ∃ nw, nw = crashD safe ops kl ops.length := ⟨_, rfl⟩
  have HNW := Aside0.mk hnw
  obtain ⟨A2, c2, hvF⟩ := Kd.R_slice h.hF
  rw [List.length_map] at hvF
  have HCF := Aside0.mk (show Kd.C kPtr w A2 rl.length (rl.map RR.g) from C_own9 (hvF ▸ h.hF : Kd.R kPtr 61 w b (fun _ => True) (.slice A2 rl.length c2) (rl.map RR.g)))
  obtain ⟨A5, c5, hdv⟩ := Kd.R_slice h.hd.ho
  have s0 := (blk_cell h.hb 0).trans (rfl : _ = some (Value.pointer (some ⟨gd, 0, none⟩)))
  have s2 := (blk_cell h.hb 2).trans (rfl : _ = some (Value.int .i64 room))
  have HVF := Aside0.mk hvF
  have HDV := Aside0.mk hdv
  have H := Aside0.mk h
  have HCK := Aside0.mk hk
  have HFF := Aside0.mk hff
  rw [← hnw] at hln ⊢
  clear h hk hff hvF hdv hnw
  go_enter Tryz.func38, Tryz.ntmps38
  go_wp2_with fail
  go_region_held3 (fun w' => w'.cell? ⟨g, 0, none⟩ = some (.pointer (some ⟨gd, 0, none⟩)) ∧ w'.cell? ⟨g, 2, none⟩ = some (.int .i64 room)) (first | with_reducible exact ⟨s0, s2⟩ | with_reducible exact ⟨s0b, s2b⟩ | exact ⟨s0, s2⟩) (first | (go_at_call 72; refine (rdcrash_any b gd dn ds dv now safe ops A n c kl _ (H.out.below (below_drew1 (Below.refl _ _))).hd (Kd.C_drew HCK.out) hs).mono ?_; rw [← HNW.out]; rintro e w1 ⟨gd2, v, rfl, hgd2, hd1, hb1⟩; have hl1 := (below_drew1 (Below.refl w.heap.size w)).trans hb1; have h1 := H.out.below hl1; replace s0 := (blk_cell h1.hb 0).trans (rfl : _ = some (Value.pointer (some ⟨gd, 0, none⟩))); replace s2 := (blk_cell h1.hb 2).trans (rfl : _ = some (Value.int .i64 room)); have s0b := cell_al (.cells #[.pointer (some ⟨gd2, 0, none⟩), .slice none 0 0, .int .i64 room, .int .i64 0, .bool false, .bool false] 44) s0; have s2b := cell_al (.cells #[.pointer (some ⟨gd2, 0, none⟩), .slice none 0 0, .int .i64 room, .int .i64 0, .bool false, .bool false] 44) s2; have HD1 := Aside0.mk hd1; have HL1 := Aside0.mk hl1; clear hd1 hb1 hl1 h1 hgd2))
  all_goals
    obtain ⟨W2, hW2⟩ : ∃ W2, W2 = w1.alloc (.cells #[.pointer (some ⟨gd2, 0, none⟩), .slice none 0 0, .int .i64 room, .int .i64 0, .bool false, .bool false] 44) := ⟨_, rfl⟩
    obtain ⟨gg, hgg⟩ : ∃ gg, gg = w1.heap.size := ⟨_, rfl⟩
    have hn2 : RK W2 b gg gd2 v v (.slice none 0 0) nw nw [] (.slice none 0 0) [] room 0 false false := by
      rw [hW2, hgg]
      exact ⟨blk_new _ _, HD1.out.below (below_alloc (Below.refl _ _) _), Kd.R_nil _ _ _ _ _, fun r hr => by simp at hr, List.Pairwise.nil, Nat.le_trans hbw HL1.out.size⟩
    have hl2 : Below w.heap.size w W2 := by rw [hW2]; exact below_alloc HL1.out _
    have hggw : w.heap.size ≤ gg := by rw [hgg]; exact HL1.out.size
    rw [← hW2, ← hgg]
    have h2 := H.out.below hl2
    have t0 := (blk_cell h2.hb 0).trans (rfl : _ = some (Value.pointer (some ⟨gd, 0, none⟩)))
    have t2 := (blk_cell h2.hd.hb 2).trans (rfl : _ = some dv)
    rw [HDV.out] at t2
    have HN2 := Aside0.mk hn2
    have HL2 := Aside0.mk hl2
    clear s0 s2 s0b s2b hW2 hgg hn2 hl2 h2 HD1 HL1
    go_wp2_with fail
    go_loopg [6, 7] rl.length (fun gk v6 v7 wr => ∃ (i S : Nat) (vF2 : Value) (ro : List RR), v6 = .int .i64 ((ops.length : Int) + (S : Int)) ∧ v7 = .int .i64 (i : Nat) ∧ i ≤ rl.length ∧ S ≤ 500000 * 1000 ∧ ro.length = i ∧ Aside0 (gk = rl.length - i) ∧ Aside0 (S = sumR (rl.take i)) ∧ Aside0 (RK wr b gg gd2 v v (.slice none 0 0) nw nw [] vF2 ro room 0 false false) ∧ Aside0 (ro.map RR.rv = crashR (namedI nw) kl 0 ops.length ((rl.take i).map RR.rv)) ∧ Aside0 (∀ k, rS ro k → w.heap.size ≤ k) ∧ Aside0 (∀ k, vF2.ownBlock = some k → w.heap.size ≤ k) ∧ Aside0 (Below w.heap.size w wr))
    case atStart => exact ⟨0, 0, _, [], by simp, rfl, Nat.zero_le _, by omega, rfl, ⟨rfl⟩, ⟨rfl⟩, HN2, ⟨rfl⟩, ⟨fun k ⟨q, hq, _⟩ => by simp at hq⟩, ⟨fun k e => by cases e⟩, HL2⟩
    case round =>
      clear HN2 HL2 t0 t2
      obtain ⟨i, S, vF2, ro, rfl, rfl, hi, hSb, hro, hgk, HS, HN, HRO, HRS, HV9, HL⟩ := hrel
      have hrol : ro.length ≤ 1000 := by omega
      have HRL := Aside0.mk hro
      clear hro
      have hor := H.out.below HL.out
      have c0 := (blk_cell hor.hb 0).trans (rfl : _ = some (Value.pointer (some ⟨gd, 0, none⟩)))
      have c1 := (blk_cell hor.hb 1).trans (rfl : _ = some vF)
      rw [HVF.out] at c1
      have n0 := (blk_cell HN.out.hb 0).trans (rfl : _ = some (Value.pointer (some ⟨gd2, 0, none⟩)))
      obtain ⟨A7, c7, hv7⟩ := Kd.R_slice HN.out.hd.hn
      have n1 := (blk_cell HN.out.hd.hb 0).trans (rfl : _ = some v)
      rw [hv7] at n1
      have HCN := Aside0.mk (C_own9 (hv7 ▸ HN.out.hd.hn : Kd.R kDN 80 wr b (fun _ => True) (.slice A7 nw.length c7) nw))
      clear hor hv7
      by_cases hlt : i < rl.length
      · obtain ⟨r, hr⟩ : ∃ r, rl[i]? = some r := ⟨rl[i], List.getElem?_eq_getElem hlt⟩
        have hrm := List.mem_of_getElem? hr
        have HRM := Aside0.mk hrm
        have HR := Aside0.mk hr
        obtain ⟨hrs, hrop, hrd⟩ := HFF.out r hrm
        have HRD := Aside0.mk hrd
        obtain ⟨ad2, e2, sx⟩ := at_ptr (Kd.C_below HCF.out HL.out) i hlt
        subst e2
        rw [show (rl.map RR.g).getD i 0 = r.g by rw [List.getD_eq_getElem?_getD, List.getElem?_map, hr]; rfl] at sx
        clear hr hrm hrd
        go_wp2_with fail
        obtain ⟨wo, rfl⟩ : ∃ wo : World, wo = wr := ⟨_, rfl⟩
        go_loopg [8, 9] nw.length (fun q v8 v9 wr2 => ∃ k : Nat, v8 = .bool (namedI (nw.take k) (i : Int)) ∧ v9 = .int .i64 (k : Nat) ∧ k ≤ nw.length ∧ Aside0 (q = nw.length - k) ∧ wr2 = wo)
        case atStart => exact ⟨0, rfl, rfl, Nat.zero_le _, ⟨rfl⟩, rfl⟩
        case round =>
          obtain ⟨k, rfl, rfl, hkk, hq, rfl⟩ := hrel
          by_cases hlk : k < nw.length
          · obtain ⟨ad3, e3, r1, r2⟩ := at_DN HCN.out k hlk
            subst e3
            obtain ⟨p, hp⟩ : ∃ p, p = nw.getD k zDN := ⟨_, rfl⟩
            have HST := Aside0.mk (namedI_step nw k hlk (i : Int))
            rw [← hp] at r1 r2 HST
            clear hp
            cases hnm : namedI (nw.take k) (i : Int) with
            | true =>
              rw [hnm] at HST
              clear hnm
              go_wp2_with fail
              go_roundg (nw.length - (k + 1))
              case measure => have := hq.out; omega
              case rel => exact ⟨k + 1, by rw [HST.out]; rfl, by go_num, hlk, ⟨rfl⟩, rfl⟩
            | false =>
              rw [hnm] at HST
              clear hnm
              obtain ⟨pid, hpid⟩ : ∃ x, x = p.2 := ⟨_, rfl⟩
              rw [← hpid] at r2 HST
              by_cases he : pid = (i : Int)
              · have hd := (beq_iff_eq (a := pid) (b := (i : Int))).mpr he
                have HE := Aside0.mk (decide_eq_true he)
                clear he hpid
                go_wp2_with fail
                go_roundg (nw.length - (k + 1))
                case measure => have := hq.out; omega
                case rel => exact ⟨k + 1, by rw [HST.out, HE.out]; rfl, by go_num, hlk, ⟨rfl⟩, rfl⟩
              · have hd := beq_eq_false_iff_ne.mpr he
                have HE := Aside0.mk (decide_eq_false he)
                clear he hpid
                go_wp2_with fail
                go_roundg (nw.length - (k + 1))
                case measure => have := hq.out; omega
                case rel => exact ⟨k + 1, by rw [HST.out, HE.out]; rfl, by go_num, hlk, ⟨rfl⟩, rfl⟩
          · obtain rfl : k = nw.length := by omega
            rw [List.take_length]
            obtain ⟨A9, c9, hv2⟩ := Kd.R_slice HN.out.hF
            rw [List.length_map] at hv2
            have HV2 := Aside0.mk hv2
            obtain ⟨A8, c8, hvo⟩ := Kd.R_slice (H.out.hf r HRM.out).ho
            have HVO := Aside0.mk hvo
            have sxw : w.cell? (ad2.add i) = some (.pointer (some ⟨r.g, 0, none⟩)) := by
              obtain ⟨ad5, e5, sx5⟩ := at_ptr HCF.out i hlt
              injection e5 with e5
              rw [← e5, show (rl.map RR.g).getD i 0 = r.g by rw [List.getD_eq_getElem?_getD, List.getElem?_map, HR.out]; rfl] at sx5
              exact sx5
            have HSS := Aside0.mk (show S + r.ops.length = sumR (rl.take (i + 1)) by rw [sumR_take rl i r HR.out, ← HS.out])
            have hle := sumR_le 500000 (rl.take (i + 1)) (fun q hq => (HFF.out q (List.mem_of_mem_take hq)).2.1)
            rw [← HSS.out, List.length_take] at hle
            have hS2 : S + r.ops.length ≤ 500000 * 1000 := by omega
            clear hle hv2 hvo
            have hbwr : b ≤ wr.heap.size := Nat.le_trans hbw HL.out.size
            have hzb := below_alloc (Below.refl wr.heap.size wr) (.cells #[.slice none 0 0, .slice none 0 0, .slice none 0 0] 60)
            have hza := HN.out.below hzb
            have n1a := (blk_cell hza.hb 1).trans (rfl : _ = some vF2)
            rw [HV2.out] at n1a
            cases hnm : namedI nw (i : Int) with
            | false =>
              have HNM := Aside0.mk hnm
              have HFA := Aside0.mk (HV2.out ▸ hza.hF : Kd.R kPtr 61 (wr.alloc (.cells #[.slice none 0 0, .slice none 0 0, .slice none 0 0] 60)) b (fun _ => True) (.slice A9 ro.length c9) (ro.map RR.g))
              have HBA := Aside0.mk (Nat.le_trans hbwr hzb.size)
              have HGA := Aside0.mk hza.hb
              have HNE := Aside0.mk (Kd.R_ne hza.hF hza.hb (by decide))
              have HLA := Aside0.mk (below_alloc HL.out (.cells #[.slice none 0 0, .slice none 0 0, .slice none 0 0] 60))
              have HBW := Aside0.mk hzb
              have HPW := Aside0.mk (Nat.le_refl wr.heap.size)
              have HRX := Aside0.mk (RX.zero b wr hbwr (fun k => wr.heap.size ≤ k) (fun k hk => hk))
              clear hnm hza hzb
              go_wp2_with (at_builtin; refine Kd.R_append kPtr (w0 := (wr.alloc (.cells #[.slice none 0 0, .slice none 0 0, .slice none 0 0] 60))) b rfl (.tmp 85) (.tmp 87) 42 61 (.pointer none) 8 rfl Tryz.underlying42 infoP rfl (by decide) (by omega) (.slice A9 ro.length c9) (ro.map RR.g) wr.heap.size [.pointer (some ⟨wr.heap.size, 0, none⟩)] (fun _ => True) (fun _ => False) rfl (by first | rfl | exact congrArg (fun s => Value.slice (some ⟨s, 0, none⟩) 1 1) (World.size_alloc _ _).symm) (kPtr_mkM _ _ _ _) (fun _ h => h.elim) (fun _ _ => trivial) HFA.out (Below.refl _ _) HBA.out (by rw [List.length_map]; omega) ?_; intro v3 w3 hF3 hb3 hg3 hat3; obtain ⟨A3, c3, rfl⟩ := Kd.R_slice hF3; rw [List.length_append, List.length_map, List.length_singleton] at hF3 hat3 ⊢; have hb4 := blk_grown HGA.out hg3 (by rw [← HV2.out]; exact HNE.out); have k1 := (blk_cell hb4 1).trans (rfl : _ = some vF2); rw [HV2.out] at k1; have z3 := blk_frozen hb4 1; have hl4 : Below w.heap.size w (w3.setCell ⟨gg, 1, none⟩ (.slice A3 (ro.length + 1) c3)) := (HLA.out.grown hg3 HLA.out.size (fun k e => HV9.out k (by rw [HV2.out]; exact e))).setCell (p := ⟨gg, 1, none⟩) hggw _; have hor4 := H.out.below hl4; have q0 := (blk_cell hor4.hb 1).trans (rfl : _ = some vF); rw [HVF.out] at q0; have qx := pw_cell_below hl4 sxw; have q2 := (blk_cell (hor4.hf r HRM.out).hb 2).trans (rfl : _ = some r.vo); rw [HVO.out] at q2; have HF3 := Aside0.mk hF3; have HG3 := Aside0.mk hg3; have HL4 := Aside0.mk hl4; have HV4 := Aside0.mk (show ∀ k, (Value.slice A3 (ro.length + 1) c3).ownBlock = some k → w.heap.size ≤ k from fun k e => by rcases hat3 with e1 | ⟨q, e1, hq⟩; exact HV9.out k (by rw [HV2.out, ← e1]; exact e); rw [e1] at e; injection e with e; rw [← e]; exact Nat.le_trans HLA.out.size hq); clear hF3 hb3 hg3 hb4 hl4 hor4 hat3)
              go_roundg (rl.length - (i + 1))
              case measure => have := hgk.out; omega
              case rel =>
                have hg3 : ((wr.alloc (.cells #[.slice none 0 0, .slice none 0 0, .slice none 0 0] 60))).grownBy w3 vF2.ownBlock := by rw [HV2.out]; exact HG3.out
                have hfin := HN.out.addFile HBW.out HPW.out HRX.out HF3.out hg3
                have hmap : (ro ++ [(⟨wr.heap.size, (.slice none 0 0), (.slice none 0 0), .slice none 0 0, [], [], []⟩ : RR)]).map RR.rv = crashR (namedI nw) kl 0 ops.length ((rl.take (i + 1)).map RR.rv) := by
                  rw [List.map_append, HRO.out, crashR_step (namedI nw) kl ops.length rl i r HR.out, HNM.out, ← HS.out]
                  rfl
                have hrs2 : ∀ k, rS (ro ++ [(⟨wr.heap.size, (.slice none 0 0), (.slice none 0 0), .slice none 0 0, [], [], []⟩ : RR)]) k → w.heap.size ≤ k := fun k ⟨q, hq, e⟩ => by
                  rcases List.mem_append.1 hq with hq | hq
                  · exact HRS.out k ⟨q, hq, e⟩
                  · rw [List.mem_singleton] at hq
                    subst hq
                    exact Nat.le_trans HL.out.size (((Kd.R_bound HRX.out.hn).1 k e.symm).1)
                exact ⟨i + 1, S + r.ops.length, _, _, by go_num, by go_num, hlt, hS2, by rw [List.length_append, HRL.out]; rfl, ⟨rfl⟩, HSS, ⟨hfin⟩, ⟨hmap⟩, ⟨hrs2⟩, HV4, HL4⟩
            | true =>
              have HNM := Aside0.mk hnm
              obtain ⟨zb, hzbE⟩ : ∃ W, W = wr.alloc (.cells #[.slice none 0 0, .slice none 0 0, .slice none 0 0] 60) := ⟨_, rfl⟩
              have HRC := Aside0.mk (rcrash_any b r.g r.vn r.vs r.vo r.now r.safe r.ops A n c kl (ops.length + S) zb ((H.out.below (hzbE ▸ below_alloc HL.out _)).hf r HRM.out).rf (Kd.C_below HCK.out (hzbE ▸ below_alloc HL.out _)) (by omega) hrs HRD.out (by omega))
              rw [Int.natCast_add] at HRC
              have HZE := Aside0.mk hzbE
              have HZB := Aside0.mk hzb
              rw [← hzbE] at HZB hza
              have HZA := Aside0.mk hza
              have HLZ := Aside0.mk (show Below w.heap.size w zb from hzbE ▸ below_alloc HL.out _)
              have c1a := cell_al (.cells #[.slice none 0 0, .slice none 0 0, .slice none 0 0] 60) c1
              have sxa := cell_al (.cells #[.slice none 0 0, .slice none 0 0, .slice none 0 0] 60) sx
              clear hnm hza hzb hzbE
              go_wp2_with (first
                | (go_at_call 73; rw [← HZE.out]; refine HRC.out.mono ?_; rintro e w5 ⟨g5, va, vb, rfl, hf5, hb5⟩; have h5 := HZA.out.below hb5; have n1b := (blk_cell h5.hb 1).trans (rfl : _ = some vF2); rw [HV2.out] at n1b; have HFA := Aside0.mk (HV2.out ▸ h5.hF : Kd.R kPtr 61 w5 b (fun _ => True) (.slice A9 ro.length c9) (ro.map RR.g)); have HBA := Aside0.mk (Nat.le_trans (Nat.le_trans hbwr HZB.out.size) hb5.size); have HGA := Aside0.mk h5.hb; have HNE := Aside0.mk (Kd.R_ne h5.hF h5.hb (by decide)); have HLA := Aside0.mk (HLZ.out.trans (hb5.mono HLZ.out.size)); have HBW := Aside0.mk (HZB.out.trans (hb5.mono HZB.out.size)); have HPW := Aside0.mk (Nat.le_trans HZB.out.size hf5.hg); have HRX := Aside0.mk (hf5.rx (W0 := wr) (Nat.le_trans hbwr HZB.out.size) HZB.out.size (Nat.le_trans HZB.out.size hb5.size)); clear hf5 hb5 h5)
                | (at_builtin; refine Kd.R_append kPtr (w0 := w5) b rfl (.tmp 85) (.tmp 87) 42 61 (.pointer none) 8 rfl Tryz.underlying42 infoP rfl (by decide) (by omega) (.slice A9 ro.length c9) (ro.map RR.g) g5 [.pointer (some ⟨g5, 0, none⟩)] (fun _ => True) (fun _ => False) rfl (by first | rfl | exact congrArg (fun s => Value.slice (some ⟨s, 0, none⟩) 1 1) (World.size_alloc _ _).symm) (kPtr_mkM _ _ _ _) (fun _ h => h.elim) (fun _ _ => trivial) HFA.out (Below.refl _ _) HBA.out (by rw [List.length_map]; omega) ?_; intro v3 w3 hF3 hb3 hg3 hat3; obtain ⟨A3, c3, rfl⟩ := Kd.R_slice hF3; rw [List.length_append, List.length_map, List.length_singleton] at hF3 hat3 ⊢; have hb4 := blk_grown HGA.out hg3 (by rw [← HV2.out]; exact HNE.out); have k1 := (blk_cell hb4 1).trans (rfl : _ = some vF2); rw [HV2.out] at k1; have z3 := blk_frozen hb4 1; have hl4 : Below w.heap.size w (w3.setCell ⟨gg, 1, none⟩ (.slice A3 (ro.length + 1) c3)) := (HLA.out.grown hg3 HLA.out.size (fun k e => HV9.out k (by rw [HV2.out]; exact e))).setCell (p := ⟨gg, 1, none⟩) hggw _; have hor4 := H.out.below hl4; have q0 := (blk_cell hor4.hb 1).trans (rfl : _ = some vF); rw [HVF.out] at q0; have qx := pw_cell_below hl4 sxw; have q2 := (blk_cell (hor4.hf r HRM.out).hb 2).trans (rfl : _ = some r.vo); rw [HVO.out] at q2; have HF3 := Aside0.mk hF3; have HG3 := Aside0.mk hg3; have HL4 := Aside0.mk hl4; have HV4 := Aside0.mk (show ∀ k, (Value.slice A3 (ro.length + 1) c3).ownBlock = some k → w.heap.size ≤ k from fun k e => by rcases hat3 with e1 | ⟨q, e1, hq⟩; exact HV9.out k (by rw [HV2.out, ← e1]; exact e); rw [e1] at e; injection e with e; rw [← e]; exact Nat.le_trans HLA.out.size hq); clear hF3 hb3 hg3 hb4 hl4 hor4 hat3))
              go_roundg (rl.length - (i + 1))
              case measure => have := hgk.out; omega
              case rel =>
                have hg3 : (w5).grownBy w3 vF2.ownBlock := by rw [HV2.out]; exact HG3.out
                have hfin := HN.out.addFile HBW.out HPW.out HRX.out HF3.out hg3
                have hmap : (ro ++ [(⟨g5, va, vb, .slice none 0 0, (crashF r.safe r.ops (kl.drop (ops.length + S)) r.ops.length), (crashF r.safe r.ops (kl.drop (ops.length + S)) r.ops.length), []⟩ : RR)]).map RR.rv = crashR (namedI nw) kl 0 ops.length ((rl.take (i + 1)).map RR.rv) := by
                  rw [List.map_append, HRO.out, crashR_step (namedI nw) kl ops.length rl i r HR.out, HNM.out, ← HS.out]
                  rfl
                have hrs2 : ∀ k, rS (ro ++ [(⟨g5, va, vb, .slice none 0 0, (crashF r.safe r.ops (kl.drop (ops.length + S)) r.ops.length), (crashF r.safe r.ops (kl.drop (ops.length + S)) r.ops.length), []⟩ : RR)]) k → w.heap.size ≤ k := fun k ⟨q, hq, e⟩ => by
                  rcases List.mem_append.1 hq with hq | hq
                  · exact HRS.out k ⟨q, hq, e⟩
                  · rw [List.mem_singleton] at hq
                    subst hq
                    exact Nat.le_trans HL.out.size (((Kd.R_bound HRX.out.hn).1 k e.symm).1)
                exact ⟨i + 1, S + r.ops.length, _, _, by go_num, by go_num, hlt, hS2, by rw [List.length_append, HRL.out]; rfl, ⟨rfl⟩, HSS, ⟨hfin⟩, ⟨hmap⟩, ⟨hrs2⟩, HV4, HL4⟩
      · obtain rfl : i = rl.length := by omega
        rw [List.take_length] at HRO
        go_wp2_with fail
        go_ret
        exact ⟨_, _, _, _, _, rfl, HN.out, HRO.out, HRS.out, HL.out⟩
end Go.Proofs.YtpnbjpkdbiiogaaGreat
/- Disks, the plain law: the files by their numbers, those of them that there are. -/
namespace Go.Proofs.YtpnbjpkdbiiogaaGreat
set_option linter.unusedVariables false
open Go.RowKit Go.Maps Go.Proofs.YtpnbjpkdbiiogaaGreatW.PrintWords

/-- The files that there are. -/
def present : Nat → List (RV × Bool) → List PV
  | _, [] => []
  | j, x :: t => (if x.2 then [⟨(j : Int), x.1.now, x.1.safe, x.1.ops⟩] else []) ++ present (j + 1) t
theorem present_cons (j : Nat) (x : RV × Bool) (t : List (RV × Bool)) : present j (x :: t) = (if x.2 then [(⟨(j : Int), x.1.now, x.1.safe, x.1.ops⟩ : PV)] else []) ++ present (j + 1) t := rfl
theorem crashP_cons (nm : Int → Bool) (kl : List Bool) (at_ : Nat) (p : PV) (t : List PV) : crashP nm kl at_ (p :: t) = (if nm p.id then [p.crash (kl.drop at_)] else []) ++ crashP nm kl (at_ + p.ops.length) t := rfl
theorem present_snoc : ∀ (l : List (RV × Bool)) (j : Nat) (x : RV × Bool), present j (l ++ [x]) = present j l ++ (if x.2 then [⟨((j + l.length : Nat) : Int), x.1.now, x.1.safe, x.1.ops⟩] else [])
  | [], j, x => by simp [present]
  | y :: t, j, x => by
    show (if y.2 then _ else _) ++ present (j + 1) (t ++ [x]) = _
    rw [present_snoc t (j + 1) x, List.length_cons, show j + 1 + t.length = j + (t.length + 1) by omega, ← List.append_assoc]
    rfl
theorem present_mem : ∀ (l : List (RV × Bool)) (j : Nat) (q : PV), q ∈ present j l → ∃ i : Nat, i < l.length ∧ q.id = ((j + i : Nat) : Int) ∧ l[i]? = some (⟨q.now, q.safe, q.ops⟩, true)
  | [], j, q, h => by simp [present] at h
  | y :: t, j, q, h => by
    unfold present at h
    rcases List.mem_append.1 h with h | h
    · obtain ⟨v, b⟩ := y
      cases b with
      | false => simp at h
      | true =>
        simp only [if_true, List.mem_singleton] at h
        subst h
        exact ⟨0, by simp, by simp, rfl⟩
    · obtain ⟨i, h1, h2, h3⟩ := present_mem t (j + 1) q h
      exact ⟨i + 1, by rw [List.length_cons]; omega, by rw [h2]; congr 1; omega, by rw [List.getElem?_cons_succ]; exact h3⟩
theorem present_of : ∀ (l : List (RV × Bool)) (j i : Nat) (v : RV), l[i]? = some (v, true) → (⟨((j + i : Nat) : Int), v.now, v.safe, v.ops⟩ : PV) ∈ present j l
  | [], j, i, v, h => by simp at h
  | y :: t, j, 0, v, h => by
    simp at h
    subst h
    unfold present
    exact List.mem_append_left _ (by simp)
  | y :: t, j, i + 1, v, h => by
    rw [List.getElem?_cons_succ] at h
    have := present_of t (j + 1) i v h
    unfold present
    refine List.mem_append_right _ ?_
    rw [show j + (i + 1) = j + 1 + i by omega]
    exact this
theorem present_ge (l : List (RV × Bool)) (j : Nat) (q : PV) (h : q ∈ present j l) : (j : Int) ≤ q.id := by
  obtain ⟨i, _, h2, _⟩ := present_mem l j q h
  rw [h2]
  omega
theorem present_up : ∀ (l : List (RV × Bool)) (j : Nat), (present j l).Pairwise (fun p q => p.id < q.id)
  | [], j => by simp [present]
  | y :: t, j => by
    unfold present
    rw [List.pairwise_append]
    refine ⟨?_, present_up t (j + 1), fun p hp q hq => ?_⟩
    · split <;> simp
    · have := present_ge t (j + 1) q hq
      split at hp
      · rw [List.mem_singleton] at hp
        subst hp
        show (j : Int) < q.id
        omega
      · simp at hp
theorem present_len : ∀ (l : List (RV × Bool)) (j : Nat), (present j l).length ≤ l.length
  | [], j => by simp [present]
  | y :: t, j => by
    have := present_len t (j + 1)
    unfold present
    rw [List.length_append, List.length_cons]
    split <;> simp <;> omega
theorem present_set : ∀ (l : List (RV × Bool)) (j i : Nat) (v v' : RV), l[i]? = some (v, true) → present j (l.set i (v', true)) = (present j l).map (fun q => if q.id = ((j + i : Nat) : Int) then (⟨q.id, v'.now, v'.safe, v'.ops⟩ : PV) else q)
  | [], j, i, v, v', h => by simp at h
  | y :: t, j, 0, v, v', h => by
    simp at h
    subst h
    have hne : (present (j + 1) t).map (fun q => if q.id = ((j + 0 : Nat) : Int) then (⟨q.id, v'.now, v'.safe, v'.ops⟩ : PV) else q) = present (j + 1) t := by
      refine (List.map_congr_left (fun q hq => ?_)).trans (List.map_id _)
      have := present_ge t (j + 1) q hq
      rw [if_neg (by omega)]
      rfl
    unfold present
    rw [List.map_append, hne]
    simp
  | y :: t, j, i + 1, v, v', h => by
    rw [List.getElem?_cons_succ] at h
    have ih := present_set t (j + 1) i v v' h
    rw [List.set_cons_succ]
    unfold present
    rw [ih, List.map_append, show j + 1 + i = j + (i + 1) by omega]
    congr 1
    split
    · rw [List.map_cons, List.map_nil, if_neg (by show ¬ ((j : Int) = _); omega)]
    · rfl
theorem present_sum : ∀ (l : List (RV × Bool)) (j : Nat), (∀ x ∈ l, x.2 = false → x.1 = zRV) → opsSum (present j l) = sumV (l.map (·.1))
  | [], j, _ => rfl
  | y :: t, j, h => by
    have ih := present_sum t (j + 1) (fun x hx => h x (List.mem_cons_of_mem _ hx))
    have e : sumV ((y :: t).map (·.1)) = y.1.ops.length + sumV (t.map (·.1)) := rfl
    rw [e, ← ih, present_cons]
    cases hb : y.2 with
    | true => simp [opsSum]
    | false =>
      rw [h y (List.mem_cons_self ..) hb]
      simp [opsSum, zRV]
/-- The files that a crash leaves. -/
def crashV (nm : Int → Bool) (kl : List Bool) : Nat → Nat → List (RV × Bool) → List (RV × Bool)
  | _, _, [] => []
  | j, at_, x :: t => (if nm (j : Int) then (x.1.crash (kl.drop at_), true) else (zRV, false)) :: crashV nm kl (j + 1) (at_ + x.1.ops.length) t
theorem crashV_fst (nm : Int → Bool) (kl : List Bool) : ∀ (l : List (RV × Bool)) (j at_ : Nat), (crashV nm kl j at_ l).map (·.1) = crashR nm kl j at_ (l.map (·.1))
  | [], j, at_ => rfl
  | y :: t, j, at_ => by
    have ih := crashV_fst nm kl t (j + 1) (at_ + y.1.ops.length)
    show (if nm (j : Int) then (y.1.crash (kl.drop at_), true) else (zRV, false)).1 :: (crashV nm kl (j + 1) (at_ + y.1.ops.length) t).map (·.1) = (if nm (j : Int) then y.1.crash (kl.drop at_) else zRV) :: crashR nm kl (j + 1) (at_ + y.1.ops.length) (t.map (·.1))
    rw [ih]
    congr 1
    split <;> rfl
theorem crashV_len (nm : Int → Bool) (kl : List Bool) : ∀ (l : List (RV × Bool)) (j at_ : Nat), (crashV nm kl j at_ l).length = l.length
  | [], j, at_ => rfl
  | y :: t, j, at_ => by
    show (crashV nm kl (j + 1) (at_ + y.1.ops.length) t).length + 1 = t.length + 1
    rw [crashV_len nm kl t]
theorem crashV_at (nm : Int → Bool) (kl : List Bool) : ∀ (l : List (RV × Bool)) (j at_ i : Nat), i < l.length → nm ((j + i : Nat) : Int) = true → ∃ v, (crashV nm kl j at_ l)[i]? = some (v, true)
  | [], j, at_, i, h, _ => by simp at h
  | y :: t, j, at_, 0, _, h => by
    rw [Nat.add_zero] at h
    exact ⟨y.1.crash (kl.drop at_), by show some (if nm (j : Int) then _ else _) = _; rw [h]; rfl⟩
  | y :: t, j, at_, i + 1, hi, h => by
    rw [List.length_cons] at hi
    rw [show j + (i + 1) = j + 1 + i by omega] at h
    obtain ⟨v, hv⟩ := crashV_at nm kl t (j + 1) (at_ + y.1.ops.length) i (by omega) h
    exact ⟨v, hv⟩
theorem crashV_all (nm : Int → Bool) (kl : List Bool) (P : RV × Bool → Prop) (hz : P (zRV, false)) : ∀ (l : List (RV × Bool)) (j at_ : Nat), (∀ x ∈ l, ∀ kl', P (x.1.crash kl', true)) → ∀ x ∈ crashV nm kl j at_ l, P x
  | [], j, at_, _, x, hx => by simp [crashV] at hx
  | y :: t, j, at_, h, x, hx => by
    unfold crashV at hx
    rcases List.mem_cons.1 hx with e | hx
    · subst e
      split
      · exact h y (List.mem_cons_self ..) _
      · exact hz
    · exact crashV_all nm kl P hz t (j + 1) _ (fun z hz' => h z (List.mem_cons_of_mem _ hz')) x hx
theorem crashV_present (nm : Int → Bool) (kl : List Bool) : ∀ (l : List (RV × Bool)) (j at_ : Nat), (∀ x ∈ l, x.2 = false → x.1 = zRV) → (∀ (i : Nat) (v : RV), l[i]? = some (v, false) → nm ((j + i : Nat) : Int) = false) → present j (crashV nm kl j at_ l) = crashP nm kl at_ (present j l)
  | [], j, at_, _, _ => rfl
  | y :: t, j, at_, h, hn => by
    have ih := crashV_present nm kl t (j + 1) (at_ + y.1.ops.length) (fun x hx => h x (List.mem_cons_of_mem _ hx)) (fun i v hi => by
      have := hn (i + 1) v (by rw [List.getElem?_cons_succ]; exact hi)
      rw [show j + 1 + i = j + (i + 1) by omega]
      exact this)
    obtain ⟨v, b⟩ := y
    cases b with
    | false =>
      have hv := h (v, false) (List.mem_cons_self ..) rfl
      have hnj := hn 0 v rfl
      rw [Nat.add_zero] at hnj
      simp only at hv
      subst hv
      show (if (if nm (j : Int) then (zRV.crash (kl.drop at_), true) else (zRV, false)).2 then _ else _) ++ present (j + 1) (crashV nm kl (j + 1) (at_ + 0) t) = crashP nm kl at_ ([] ++ present (j + 1) t)
      have ih' : present (j + 1) (crashV nm kl (j + 1) (at_ + 0) t) = crashP nm kl (at_ + 0) (present (j + 1) t) := ih
      rw [hnj, ih']
      rfl
    | true =>
      show (if (if nm (j : Int) then (v.crash (kl.drop at_), true) else (zRV, false)).2 then _ else _) ++ present (j + 1) (crashV nm kl (j + 1) (at_ + v.ops.length) t) = crashP nm kl at_ (⟨(j : Int), v.now, v.safe, v.ops⟩ :: present (j + 1) t)
      have ih' : present (j + 1) (crashV nm kl (j + 1) (at_ + v.ops.length) t) = crashP nm kl (at_ + v.ops.length) (present (j + 1) t) := ih
      rw [ih', crashP_cons]
      show _ = (if nm (j : Int) then _ else _) ++ _
      cases hnj : nm (j : Int) <;> rfl
theorem fileAt_of {fl : List FR} (h : (fl.map FR.id).Pairwise (· < ·)) {f : FR} (hf : f ∈ fl) : fileAt fl f.id = some f := by
  induction fl with
  | nil => simp at hf
  | cons a t ih =>
    rw [List.map_cons, List.pairwise_cons] at h
    unfold fileAt
    rw [List.find?_cons]
    rcases List.mem_cons.1 hf with rfl | hf'
    · simp
    · have h1 := h.1 f.id (List.mem_map.2 ⟨f, hf', rfl⟩)
      have hne : ¬ a.id = f.id := by omega
      simp only [hne, decide_false]
      exact ih h.2 hf'
section
variable {fl : List FR} {fs : List (RV × Bool)} {rl : List RR}
theorem fl_up (h : fl.map FR.pv = present 0 fs) : (fl.map FR.id).Pairwise (· < ·) := by
  have e : fl.map FR.id = (fl.map FR.pv).map PV.id := by rw [List.map_map]; rfl
  rw [e, h, List.pairwise_map]
  exact present_up fs 0
theorem fl_at (h : fl.map FR.pv = present 0 fs) {i : Nat} {v : RV} (hi : fs[i]? = some (v, true)) : ∃ f, fileAt fl (i : Int) = some f ∧ f.id = (i : Int) ∧ f.now = v.now ∧ f.safe = v.safe ∧ f.ops = v.ops := by
  have h1 := present_of fs 0 i v hi
  rw [Nat.zero_add, ← h] at h1
  obtain ⟨f, hf, e⟩ := List.mem_map.1 h1
  have e1 : f.id = (i : Int) := congrArg PV.id e
  refine ⟨f, ?_, e1, congrArg PV.now e, congrArg PV.safe e, congrArg PV.ops e⟩
  rw [← e1]
  exact fileAt_of (fl_up h) hf
theorem fl_mem (h : fl.map FR.pv = present 0 fs) {f : FR} (hf : f ∈ fl) : ∃ i : Nat, i < fs.length ∧ f.id = (i : Int) ∧ fs[i]? = some (⟨f.now, f.safe, f.ops⟩, true) := by
  have h1 : f.pv ∈ present 0 fs := h ▸ List.mem_map.2 ⟨f, hf, rfl⟩
  obtain ⟨i, h2, h3, h4⟩ := present_mem fs 0 _ h1
  rw [Nat.zero_add] at h3
  exact ⟨i, h2, h3, h4⟩
theorem fl_len (h : fl.map FR.pv = present 0 fs) : fl.length ≤ fs.length := by
  have := present_len fs 0
  rw [← h, List.length_map] at this
  exact this
theorem rl_at (h : rl.map RR.rv = fs.map (·.1)) {i : Nat} {v : RV} {b : Bool} (hi : fs[i]? = some (v, b)) : ∃ r, rl[i]? = some r ∧ r.now = v.now ∧ r.safe = v.safe ∧ r.ops = v.ops := by
  have h1 : (rl.map RR.rv)[i]? = some v := by rw [h, List.getElem?_map, hi]; rfl
  rw [List.getElem?_map] at h1
  obtain ⟨r, hr, e⟩ := Option.map_eq_some_iff.1 h1
  exact ⟨r, hr, congrArg RV.now e, congrArg RV.safe e, congrArg RV.ops e⟩
theorem rl_mem (h : rl.map RR.rv = fs.map (·.1)) {r : RR} (hr : r ∈ rl) : ∃ x ∈ fs, x.1 = ⟨r.now, r.safe, r.ops⟩ := by
  have h1 : r.rv ∈ fs.map (·.1) := h ▸ List.mem_map.2 ⟨r, hr, rfl⟩
  obtain ⟨x, hx, e⟩ := List.mem_map.1 h1
  exact ⟨x, hx, e⟩
theorem rl_len (h : rl.map RR.rv = fs.map (·.1)) : rl.length = fs.length := by
  have := congrArg List.length h
  rwa [List.length_map, List.length_map] at this
theorem set_fl (h : fl.map FR.pv = present 0 fs) {i : Nat} {v : RV} (hi : fs[i]? = some (v, true)) (p' : FR) (hp : p'.id = (i : Int)) : (setFile fl p').map FR.pv = present 0 (fs.set i (⟨p'.now, p'.safe, p'.ops⟩, true)) := by
  rw [present_set fs 0 i v ⟨p'.now, p'.safe, p'.ops⟩ hi, ← h]
  unfold setFile
  rw [List.map_map, List.map_map]
  refine List.map_congr_left (fun q _ => ?_)
  show (if q.id = p'.id then p' else q).pv = (if q.id = ((0 + i : Nat) : Int) then (⟨q.id, p'.now, p'.safe, p'.ops⟩ : PV) else q.pv)
  rw [Nat.zero_add, ← hp]
  by_cases e : q.id = p'.id
  · rw [if_pos e, if_pos e, e]
    rfl
  · rw [if_neg e, if_neg e]
theorem set_rl (h : rl.map RR.rv = fs.map (·.1)) (ap : rl.Pairwise (fun p q => p.g ≠ q.g)) {i : Nat} {r : RR} (hr : rl[i]? = some r) (r' : RR) (hg : r'.g = r.g) : (setR rl r').map RR.rv = (fs.set i (r'.rv, true)).map (·.1) := by
  have hil : i < rl.length := (List.getElem?_eq_some_iff.1 hr).1
  have hre : rl[i] = r := (List.getElem?_eq_some_iff.1 hr).2
  rw [List.map_set, ← h]
  refine List.ext_getElem? (fun j => ?_)
  unfold setR
  rw [List.map_map, List.getElem?_map, List.getElem?_set, List.length_map]
  by_cases e : i = j
  · subst e
    rw [if_pos rfl, if_pos hil, hr]
    show some (if r.g = r'.g then r' else r).rv = _
    rw [if_pos hg.symm]
  · rw [if_neg e, List.getElem?_map]
    cases hj : rl[j]? with
    | none => rfl
    | some q =>
      have hjl : j < rl.length := (List.getElem?_eq_some_iff.1 hj).1
      have hqe : rl[j] = q := (List.getElem?_eq_some_iff.1 hj).2
      have hne : q.g ≠ r'.g := by
        rw [hg, ← hqe, ← hre]
        rcases Nat.lt_or_gt_of_ne e with h1 | h1
        · exact (List.pairwise_iff_getElem.1 ap i j hil hjl h1).symm
        · exact List.pairwise_iff_getElem.1 ap j i hjl hil h1
      show some (if q.g = r'.g then r' else q).rv = some q.rv
      rw [if_neg hne]
/-- A number that has a file. -/
def Pres (fs : List (RV × Bool)) (id : Int) : Prop := ∃ i : Nat, id = (i : Int) ∧ ∃ v, fs[i]? = some (v, true)
theorem len_eq (h : fl.map FR.pv = present 0 fs) (h2 : rl.map RR.rv = fs.map (·.1)) {id : Int} (hp : Pres fs id) : lenA fl id = lenR rl id := by
  obtain ⟨i, rfl, v, hv⟩ := hp
  obtain ⟨f, hf, _, e, _⟩ := fl_at h hv
  obtain ⟨r, hr, e2, _⟩ := rl_at h2 hv
  rw [lenA_some hf]
  unfold lenR
  rw [Int.toNat_natCast, hr]
  show (f.now.length : Int) = (r.now.length : Int)
  rw [e, e2]
theorem used_eq (h : fl.map FR.pv = present 0 fs) (h2 : rl.map RR.rv = fs.map (·.1)) (l : List DN) (hp : ∀ p ∈ l, Pres fs p.2) : usedF fl l = usedR rl l := by
  unfold usedF usedR
  have key : ∀ (l : List DN) (n : Int), (∀ p ∈ l, Pres fs p.2) → l.foldl (fun n p => n + cnt (lenA fl p.2)) n = l.foldl (fun n p => n + cnt (lenR rl p.2)) n := by
    intro l
    induction l with
    | nil => intro n _; rfl
    | cons p t ih =>
      intro n hp
      rw [List.foldl_cons, List.foldl_cons, len_eq h h2 (hp p (List.mem_cons_self ..))]
      exact ih _ (fun q hq => hp q (List.mem_cons_of_mem _ hq))
  exact key l 0 hp
theorem loose_eq (h : fl.map FR.pv = present 0 fs) (h2 : rl.map RR.rv = fs.map (·.1)) (ha : ∀ x ∈ fs, x.2 = false → x.1 = zRV) (ops ops' : List DOp) (ho : ops'.length = ops.length) : looseK ops' fl = looseR ops rl := by
  have e1 : (fl.map (fun p => p.ops.length)).sum = opsSum (fl.map FR.pv) := by unfold opsSum; rw [List.map_map]; rfl
  have e2 : sumR rl = sumV (rl.map RR.rv) := (sumV_map rl).symm
  unfold looseK looseR
  rw [e1, h, present_sum fs 0 ha, e2, h2, ho]
end
end Go.Proofs.YtpnbjpkdbiiogaaGreat
/- Disks, the plain law: the state of the law; what a call makes of it; its bounds. -/
namespace Go.Proofs.YtpnbjpkdbiiogaaGreat
set_option linter.unusedVariables false
open Go.RowKit Go.Maps Go.Proofs.YtpnbjpkdbiiogaaGreatW.PrintWords

/-- A call of a statement on disks. -/
structure VAct where
  kd : Int
  a : ByteArray
  b : ByteArray
  at_ : Int
  data : List Int
  keep : List Bool
def zVact : VAct := ⟨0, ⟨#[]⟩, ⟨#[]⟩, 0, [], []⟩
/-- What a disk is. -/
structure VSt where
  now : List DN
  safe : List DN
  ops : List DOp
  fs : List (RV × Bool)
  room : Int
  fuse : Int
  armed : Bool
  dead : Bool
def lenV (fs : List (RV × Bool)) (id : Int) : Int := ((fs[id.toNat]?).map (fun x => (x.1.now.length : Int))).getD 0
def usedV (fs : List (RV × Bool)) (l : List DN) : Int := l.foldl (fun n p => n + cnt (lenV fs p.2)) 0
def hasV (fs : List (RV × Bool)) (now : List DN) (room len size : Int) : Bool := decide (cnt size ≤ cnt len) || decide (usedV fs now - cnt len + cnt size ≤ room)
def putV (s : VSt) (i : Nat) (v : RV) : VSt := { s with fs := s.fs.set i (v, true) }
def dirOp (s : VSt) (o : DOp) : VSt := { s with now := doNow s.now o, ops := doOps s.now s.ops o }
def writeV (v : RV) (k : Nat) (l : List Int) : RV := ⟨(writeF (v.now, v.ops) k l).1, v.safe, (writeF (v.now, v.ops) k l).2⟩
def truncV (v : RV) (k : Nat) : RV := ⟨(sizeF (v.now, v.ops) (k : Int)).1, v.safe, (sizeF (v.now, v.ops) (k : Int)).2⟩
def newV (s : VSt) (a : ByteArray) : DOp := ⟨0, a, ⟨#[]⟩, (s.fs.length : Int)⟩
/-- What a call does to a file. -/
def fileV (s : VSt) (a : VAct) (i : Nat) (v : RV) : VSt :=
  if a.kd = 1 then (if 0 ≤ a.at_ ∧ a.at_ ≤ 1048576 ∧ (a.data.length : Int) ≤ 1048576 - a.at_ then (if a.data.length = 0 ∨ hasV s.fs s.now s.room v.now.length (szW v.now.length a.at_.toNat a.data.length) = true then putV s i (writeV v a.at_.toNat a.data) else s) else s)
  else if a.kd = 2 then (if 0 ≤ a.at_ ∧ a.at_ ≤ 1048576 then (if hasV s.fs s.now s.room v.now.length a.at_ = true then putV s i (truncV v a.at_.toNat) else s) else s)
  else putV s i ⟨v.now, v.now, []⟩
def callV (s : VSt) (a : VAct) : VSt :=
  if a.kd = 0 then (if doCode s.now (newV s a.a) = 0 then { dirOp s (newV s a.a) with fs := s.fs ++ [(zRV, true)] } else s)
  else if a.kd = 4 then { s with safe := s.now, ops := [] }
  else if a.kd = 5 then dirOp s ⟨1, a.a, a.b, 0⟩
  else if a.kd = 6 then dirOp s ⟨2, a.a, ⟨#[]⟩, 0⟩
  else match getN s.now a.a with
    | none => s
    | some id => match s.fs[id.toNat]? with
      | none => s
      | some x => fileV s a id.toNat x.1
def cntV (s : VSt) : VSt := { s with fuse := (chg s.fuse s.armed s.dead).2.1, dead := (chg s.fuse s.armed s.dead).2.2 }
def crashS (s : VSt) (kl : List Bool) : VSt := ⟨crashD s.safe s.ops kl s.ops.length, crashD s.safe s.ops kl s.ops.length, [], crashV (namedI (crashD s.safe s.ops kl s.ops.length)) kl 0 s.ops.length s.fs, s.room, 0, false, false⟩
def stepV (s : VSt) (a : VAct) : VSt :=
  if 0 ≤ a.kd ∧ a.kd ≤ 6 then (if (chg s.fuse s.armed s.dead).1 = 0 then callV (cntV s) a else cntV s)
  else if a.kd = 7 then { s with fuse := if a.at_ < 0 then 0 else a.at_, armed := true }
  else crashS s a.keep
structure FB (v : RV) (k : Nat) : Prop where
  now : v.now.length ≤ 1048576
  safe : v.safe.length ≤ 1048576
  ops : v.ops.length ≤ 500 * k
  op : ∀ o ∈ v.ops, o.n ≤ 1048576 ∧ o.d.length ≤ 1048576
structure BdV (s : VSt) (N M k : Nat) : Prop where
  now : s.now.length ≤ 50 * k
  safe : s.safe.length ≤ 50 * k
  ops : s.ops.length ≤ k
  n : N ≤ 50 * k
  m : M ≤ k
  fs : s.fs.length ≤ k
  op : ∀ o ∈ s.ops, (o.a.size ≤ maxLen ∧ o.b.size ≤ maxLen) ∧ (o.kd = 0 → Pres s.fs o.id)
  rn : Rising s.now
  rs : Rising s.safe
  dn : ∀ p ∈ s.now, p.1.size ≤ maxLen ∧ Pres s.fs p.2
  ds : ∀ p ∈ s.safe, p.1.size ≤ maxLen ∧ Pres s.fs p.2
  fz : ∀ x ∈ s.fs, x.2 = false → x.1 = zRV
  fb : ∀ x ∈ s.fs, FB x.1 k
  room : 0 ≤ s.room
  fuse : 0 ≤ s.fuse ∧ s.fuse ≤ 9223372036854775807
theorem FB.up {v : RV} {k : Nat} (h : FB v k) : FB v (k + 1) := ⟨h.now, h.safe, by have := h.ops; omega, h.op⟩
theorem FB.zero (k : Nat) : FB zRV k := ⟨Nat.zero_le _, Nat.zero_le _, Nat.zero_le _, fun o ho => by simp [zRV] at ho⟩
theorem FB.crash {v : RV} {k : Nat} (h : FB v k) (kl : List Bool) : FB (v.crash kl) (k + 1) := by
  have hc := crashF_len v.safe v.ops kl h.safe (fun o ho => (h.op o ho).1) v.ops.length
  exact ⟨hc, hc, Nat.zero_le _, fun o ho => by simp [RV.crash] at ho⟩
theorem FB.sync {v : RV} {k : Nat} (h : FB v k) : FB ⟨v.now, v.now, []⟩ (k + 1) := ⟨h.now, h.now, Nat.zero_le _, fun o ho => by simp at ho⟩
theorem FB.write {v : RV} {k : Nat} (h : FB v k) (p : Nat) (l : List Int) (hp : p + l.length ≤ 1048576) (hl : l.length ≤ 400) : FB (writeV v p l) (k + 1) := by
  obtain ⟨h1, h2, h4, h3⟩ := h
  have hg : (growF (v.now, v.ops) p l.length).1.length ≤ 1048576 ∧ (growF (v.now, v.ops) p l.length).2.length ≤ v.ops.length + 1 ∧ ∀ o ∈ (growF (v.now, v.ops) p l.length).2, o.n ≤ 1048576 ∧ o.d.length ≤ 1048576 := by
    unfold growF
    by_cases qg : 0 < l.length ∧ v.now.length < p + l.length
    · rw [if_pos qg]
      refine ⟨by rw [sizeL_length]; omega, by simp, fun o ho => ?_⟩
      rcases List.mem_append.1 ho with ho | ho
      · exact h3 o ho
      · rw [List.mem_singleton.1 ho]
        exact ⟨by show ((p + l.length : Nat) : Int) ≤ 1048576; omega, Nat.zero_le _⟩
    · rw [if_neg qg]
      exact ⟨h1, Nat.le_succ _, h3⟩
  obtain ⟨p1, p2, p3⟩ := puts_bd (pieces p l) (pieces_s _ l p (Nat.le_refl _) (by omega)) _ hg.2.2
  have hpl := pieces_len l.length l p (Nat.le_refl _)
  exact ⟨Nat.le_trans (Nat.le_of_eq p1) hg.1, h2, by show (writeF (v.now, v.ops) p l).2.length ≤ _; unfold writeF; rw [p2]; have := hg.2.1; omega, p3⟩
theorem FB.trunc {v : RV} {k : Nat} (h : FB v k) (n : Nat) (hn : n ≤ 1048576) : FB (truncV v n) (k + 1) := by
  obtain ⟨h1, h2, h4, h3⟩ := h
  unfold truncV
  by_cases qs : (n : Int) = (v.now.length : Int)
  · have e : sizeF (v.now, v.ops) (n : Int) = (v.now, v.ops) := by unfold sizeF; rw [if_pos qs]
    rw [e]
    exact ⟨h1, h2, by show v.ops.length ≤ _; omega, h3⟩
  · have e : sizeF (v.now, v.ops) (n : Int) = (sizeL v.now n, v.ops ++ [⟨true, n, []⟩]) := by unfold sizeF; rw [if_neg qs]
    rw [e]
    refine ⟨by show (sizeL v.now n).length ≤ _; rw [sizeL_length]; omega, h2, by show (v.ops ++ [(⟨true, n, []⟩ : FOp)]).length ≤ _; rw [List.length_append, List.length_singleton]; omega, fun o ho => ?_⟩
    rcases List.mem_append.1 ho with ho | ho
    · exact h3 o ho
    · rw [List.mem_singleton.1 ho]
      exact ⟨by show (n : Int) ≤ 1048576; omega, Nat.zero_le _⟩
theorem Pres.snoc {fs : List (RV × Bool)} {id : Int} (h : Pres fs id) (x : RV × Bool) : Pres (fs ++ [x]) id := by
  obtain ⟨i, e, v, hv⟩ := h
  refine ⟨i, e, v, ?_⟩
  rw [List.getElem?_append_left (List.getElem?_eq_some_iff.1 hv).1]
  exact hv
theorem Pres.set {fs : List (RV × Bool)} {id : Int} (h : Pres fs id) (j : Nat) (v' : RV) : Pres (fs.set j (v', true)) id := by
  obtain ⟨i, e, v, hv⟩ := h
  by_cases hij : j = i
  · subst hij
    exact ⟨j, e, v', by rw [List.getElem?_set_self (List.getElem?_eq_some_iff.1 hv).1]⟩
  · exact ⟨i, e, v, by rw [List.getElem?_set_ne hij]; exact hv⟩
theorem Pres.last (fs : List (RV × Bool)) (v : RV) : Pres (fs ++ [(v, true)]) (fs.length : Int) := ⟨fs.length, rfl, v, by simp⟩
theorem insL_all {Q : DN → Prop} (s : ByteArray) (a : Int) (l : List DN) (h : ∀ p ∈ l, Q p) (hq : Q (s, a)) : ∀ p ∈ insL s a l, Q p := fun p hp => by
  rcases mem_insL s a l p hp with rfl | hp
  · exact hq
  · exact h p hp
theorem without_all {Q : DN → Prop} (l : List DN) (s : ByteArray) (h : ∀ p ∈ l, Q p) : ∀ p ∈ withoutL l s, Q p := fun p hp => h p (List.mem_filter.1 hp).1
theorem didL_all {Q1 : ByteArray → Prop} {Q2 : Int → Prop} (l : List DN) (o : DOp) (hl : ∀ p ∈ l, Q1 p.1 ∧ Q2 p.2) (ho : (Q1 o.a ∧ Q1 o.b) ∧ (o.kd = 0 → Q2 o.id)) : ∀ p ∈ didL l o, Q1 p.1 ∧ Q2 p.2 := by
  unfold didL
  split
  · rename_i h0
    exact insL_all _ _ _ (without_all _ _ hl) ⟨ho.1.1, ho.2 h0⟩
  · split
    · exact hl
    · rename_i y hy
      have hm := hl _ (getN_mem hy)
      split
      · exact insL_all _ _ _ (without_all _ _ (without_all _ _ hl)) ⟨ho.1.2, hm.2⟩
      · exact without_all _ _ hl
theorem crashD_all {Q1 : ByteArray → Prop} {Q2 : Int → Prop} (safe : List DN) (ops : List DOp) (kl : List Bool) (hz : (Q1 zDop.a ∧ Q1 zDop.b) ∧ (zDop.kd = 0 → Q2 zDop.id) ∨ True) (hs : ∀ p ∈ safe, Q1 p.1 ∧ Q2 p.2) (ho : ∀ o ∈ ops, (Q1 o.a ∧ Q1 o.b) ∧ (o.kd = 0 → Q2 o.id)) : ∀ i, i ≤ ops.length → ∀ p ∈ crashD safe ops kl i, Q1 p.1 ∧ Q2 p.2
  | 0, _ => hs
  | i + 1, hi => by
    have ih := crashD_all safe ops kl hz hs ho i (by omega)
    unfold crashD
    split
    · refine didL_all _ _ ih (ho _ ?_)
      rw [List.getD_eq_getElem?_getD, List.getElem?_eq_getElem (by omega)]
      exact List.getElem_mem _
    · exact ih
end Go.Proofs.YtpnbjpkdbiiogaaGreat
/- Disks, the plain law: the bounds hold behind each call. -/
namespace Go.Proofs.YtpnbjpkdbiiogaaGreat
set_option linter.unusedVariables false
open Go.RowKit Go.Maps Go.Proofs.YtpnbjpkdbiiogaaGreatW.PrintWords

section
variable {s : VSt} {N N' M M' k : Nat}
theorem BdV.up (h : BdV s N M k) (hk : k ≤ 49) (hN : N' ≤ N + k + 1) (hM : M' ≤ k + 1) : BdV s N' M' (k + 1) :=
  ⟨by have := h.now; omega, by have := h.safe; omega, by have := h.ops; omega, by have := h.n; omega, hM, by have := h.fs; omega, h.op, h.rn, h.rs, h.dn, h.ds, h.fz, fun x hx => (h.fb x hx).up, h.room, h.fuse⟩
theorem chg_fuse (fuse : Int) (armed dead : Bool) (h : 0 ≤ fuse ∧ fuse ≤ 9223372036854775807) : 0 ≤ (chg fuse armed dead).2.1 ∧ (chg fuse armed dead).2.1 ≤ 9223372036854775807 := by
  unfold chg
  split
  · exact h
  · split
    · split
      · exact h
      · rename_i hz
        show 0 ≤ fuse - 1 ∧ fuse - 1 ≤ _
        omega
    · exact h
theorem BdV.cnt (h : BdV s N M k) : BdV (cntV s) N M k := ⟨h.now, h.safe, h.ops, h.n, h.m, h.fs, h.op, h.rn, h.rs, h.dn, h.ds, h.fz, h.fb, h.room, chg_fuse _ _ _ h.fuse⟩
theorem BdV.dir (h : BdV s N M k) (hk : k ≤ 49) (hN : N' ≤ N + k + 1) (hM : M' ≤ k + 1) (o : DOp) (ho : o.a.size ≤ maxLen ∧ o.b.size ≤ maxLen) (hkd : o.kd ≠ 0) : BdV (dirOp s o) N' M' (k + 1) := by
  have h0 := h.up hk hN hM
  refine ⟨?_, h0.safe, ?_, h0.n, h0.m, h0.fs, ?_, ?_, h0.rs, ?_, h0.ds, h0.fz, h0.fb, h0.room, h0.fuse⟩
  · show (doNow s.now o).length ≤ _
    have h1 := h.now
    unfold doNow
    split
    · have := didL_len s.now o; omega
    · omega
  · show (doOps s.now s.ops o).length ≤ _
    have h1 := h.ops
    unfold doOps
    split
    · rw [List.length_append, List.length_singleton]; omega
    · omega
  · show ∀ q ∈ doOps s.now s.ops o, _
    unfold doOps
    split
    · intro q hq
      rcases List.mem_append.1 hq with hq | hq
      · exact h.op q hq
      · rw [List.mem_singleton.1 hq]
        exact ⟨ho, fun e => absurd e hkd⟩
    · exact h.op
  · show Rising (doNow s.now o)
    unfold doNow
    split
    · exact rising_did _ _ h.rn
    · exact h.rn
  · show ∀ p ∈ doNow s.now o, p.1.size ≤ maxLen ∧ Pres s.fs p.2
    unfold doNow
    split
    · exact didL_all (Q1 := fun a => a.size ≤ maxLen) (Q2 := Pres s.fs) s.now o h.dn ⟨ho, fun e => absurd e hkd⟩
    · exact h.dn
theorem BdV.new (h : BdV s N M k) (hk : k ≤ 49) (hN : N' ≤ N + k + 1) (hM : M' ≤ k + 1) (a : ByteArray) (ha : a.size ≤ maxLen) (hd : doCode s.now (newV s a) = 0) : BdV { dirOp s (newV s a) with fs := s.fs ++ [(zRV, true)] } N' M' (k + 1) := by
  have h0 := h.up hk hN hM
  have he : (⟨#[]⟩ : ByteArray).size ≤ maxLen := by decide
  refine ⟨?_, h0.safe, ?_, h0.n, h0.m, ?_, ?_, ?_, h0.rs, ?_, fun p hp => ⟨(h.ds p hp).1, (h.ds p hp).2.snoc _⟩, ?_, ?_, h0.room, h0.fuse⟩
  · show (doNow s.now _).length ≤ _
    have h1 := h.now
    unfold doNow
    rw [if_pos hd]
    have := didL_len s.now (newV s a)
    omega
  · show (doOps s.now s.ops _).length ≤ _
    have h1 := h.ops
    unfold doOps
    rw [if_pos hd, List.length_append, List.length_singleton]
    omega
  · show (s.fs ++ [_]).length ≤ _
    have h1 := h.fs
    rw [List.length_append, List.length_singleton]
    omega
  · show ∀ q ∈ doOps s.now s.ops _, _
    unfold doOps
    rw [if_pos hd]
    intro q hq
    rcases List.mem_append.1 hq with hq | hq
    · exact ⟨(h.op q hq).1, fun e => ((h.op q hq).2 e).snoc _⟩
    · rw [List.mem_singleton.1 hq]
      exact ⟨⟨ha, he⟩, fun _ => Pres.last s.fs zRV⟩
  · show Rising (doNow s.now _)
    unfold doNow
    rw [if_pos hd]
    exact rising_did _ _ h.rn
  · show ∀ p ∈ doNow s.now _, p.1.size ≤ maxLen ∧ Pres (s.fs ++ [(zRV, true)]) p.2
    unfold doNow
    rw [if_pos hd]
    exact didL_all (Q1 := fun a => a.size ≤ maxLen) (Q2 := Pres (s.fs ++ [(zRV, true)])) s.now (newV s a) (fun p hp => ⟨(h.dn p hp).1, (h.dn p hp).2.snoc _⟩) ⟨⟨ha, he⟩, fun _ => Pres.last s.fs zRV⟩
  · intro x hx hb
    rcases List.mem_append.1 hx with hx | hx
    · exact h.fz x hx hb
    · rw [List.mem_singleton.1 hx]
  · intro x hx
    rcases List.mem_append.1 hx with hx | hx
    · exact (h.fb x hx).up
    · rw [List.mem_singleton.1 hx]
      exact FB.zero _
theorem mem_set_or {α : Type} {l : List α} {i : Nat} {v x : α} (h : x ∈ l.set i v) : x ∈ l ∨ x = v := List.mem_or_eq_of_mem_set h
theorem BdV.put (h : BdV s N M k) (hk : k ≤ 49) (hN : N' ≤ N + k + 1) (hM : M' ≤ k + 1) (i : Nat) (v : RV) (hv : FB v (k + 1)) : BdV (putV s i v) N' M' (k + 1) := by
  have h0 := h.up hk hN hM
  refine ⟨h0.now, h0.safe, h0.ops, h0.n, h0.m, ?_, fun o ho => ⟨(h.op o ho).1, fun e => ((h.op o ho).2 e).set i v⟩, h0.rn, h0.rs, fun p hp => ⟨(h.dn p hp).1, (h.dn p hp).2.set i v⟩, fun p hp => ⟨(h.ds p hp).1, (h.ds p hp).2.set i v⟩, ?_, ?_, h0.room, h0.fuse⟩
  · show (s.fs.set i (v, true)).length ≤ _
    rw [List.length_set]
    exact h0.fs
  · intro x hx hb
    rcases mem_set_or hx with hx | rfl
    · exact h.fz x hx hb
    · cases hb
  · intro x hx
    rcases mem_set_or hx with hx | rfl
    · exact (h.fb x hx).up
    · exact hv
theorem BdV.syncdir (h : BdV s N M k) (hk : k ≤ 49) (hN : N' ≤ N + k + 1) (hM : M' ≤ k + 1) : BdV { s with safe := s.now, ops := [] } N' M' (k + 1) := by
  have h0 := h.up hk hN hM
  exact ⟨h0.now, h0.now, Nat.zero_le _, h0.n, h0.m, h0.fs, fun o ho => by simp at ho, h0.rn, h0.rn, h0.dn, h0.dn, h0.fz, h0.fb, h0.room, h0.fuse⟩
theorem BdV.arm (h : BdV s N M k) (hk : k ≤ 49) (hN : N' ≤ N + k + 1) (hM : M' ≤ k + 1) (n : Int) (hn : n ≤ 9223372036854775807) : BdV { s with fuse := if n < 0 then 0 else n, armed := true } N' M' (k + 1) := by
  have h0 := h.up hk hN hM
  refine ⟨h0.now, h0.safe, h0.ops, h0.n, h0.m, h0.fs, h0.op, h0.rn, h0.rs, h0.dn, h0.ds, h0.fz, h0.fb, h0.room, ?_⟩
  show 0 ≤ (if n < 0 then 0 else n) ∧ (if n < 0 then 0 else n) ≤ 9223372036854775807
  split <;> omega
theorem namedI_mem {l : List DN} {id : Int} (h : namedI l id = true) : ∃ p ∈ l, p.2 = id := by
  unfold namedI at h
  obtain ⟨p, hp, e⟩ := List.any_eq_true.1 h
  exact ⟨p, hp, of_decide_eq_true e⟩
theorem mem_namedI {l : List DN} {p : DN} (h : p ∈ l) : namedI l p.2 = true := by
  unfold namedI
  exact List.any_eq_true.2 ⟨p, h, decide_eq_true rfl⟩
theorem BdV.cd (h : BdV s N M k) (kl : List Bool) : ∀ p ∈ crashD s.safe s.ops kl s.ops.length, p.1.size ≤ maxLen ∧ Pres s.fs p.2 :=
  crashD_all (Q1 := fun a => a.size ≤ maxLen) (Q2 := Pres s.fs) s.safe s.ops kl (.inr trivial) h.ds h.op s.ops.length (Nat.le_refl _)
/-- What isn't there has no name. -/
theorem BdV.absent (h : BdV s N M k) (kl : List Bool) : ∀ (i : Nat) (v : RV), s.fs[i]? = some (v, false) → namedI (crashD s.safe s.ops kl s.ops.length) ((0 + i : Nat) : Int) = false := fun i v hv => by
  rw [Nat.zero_add]
  cases e : namedI (crashD s.safe s.ops kl s.ops.length) (i : Int) with
  | false => rfl
  | true =>
    obtain ⟨p, hp, e1⟩ := namedI_mem e
    obtain ⟨j, e2, v', hv'⟩ := (h.cd kl p hp).2
    have : j = i := by omega
    subst this
    rw [hv] at hv'
    cases hv'
theorem BdV.crash (h : BdV s N M k) (hk : k ≤ 49) (hN : N' ≤ N + k + 1) (hM : M' ≤ k + 1) (kl : List Bool) : BdV (crashS s kl) N' M' (k + 1) := by
  have h0 := h.up hk hN hM
  have hl := crashD_len s.safe s.ops kl s.ops.length
  have h1 := h.safe
  have h2 := h.ops
  have hr := rising_crash s.safe s.ops kl h.rs s.ops.length
  have hp : ∀ p ∈ crashD s.safe s.ops kl s.ops.length, p.1.size ≤ maxLen ∧ Pres (crashV (namedI (crashD s.safe s.ops kl s.ops.length)) kl 0 s.ops.length s.fs) p.2 := fun p hp => by
    obtain ⟨a1, i, e, v, hv⟩ := h.cd kl p hp
    refine ⟨a1, i, e, ?_⟩
    have hn := mem_namedI hp
    rw [e] at hn
    exact crashV_at _ kl s.fs 0 s.ops.length i (List.getElem?_eq_some_iff.1 hv).1 (by rw [Nat.zero_add]; exact hn)
  refine ⟨by show (crashD _ _ _ _).length ≤ _; omega, by show (crashD _ _ _ _).length ≤ _; omega, Nat.zero_le _, h0.n, h0.m, ?_, fun o ho => by simp [crashS] at ho, hr, hr, hp, hp, ?_, ?_, h0.room, ⟨Int.le_refl _, by show (0 : Int) ≤ _; decide⟩⟩
  · show (crashV _ _ _ _ _).length ≤ _
    rw [crashV_len]
    exact h0.fs
  · exact crashV_all _ kl (fun x => x.2 = false → x.1 = zRV) (fun _ => rfl) s.fs 0 s.ops.length (fun x _ kl' hb => by cases hb)
  · exact crashV_all _ kl (fun x => FB x.1 (k + 1)) (FB.zero _) s.fs 0 s.ops.length (fun x hx kl' => (h.fb x hx).crash kl')
end
end Go.Proofs.YtpnbjpkdbiiogaaGreat
/- Disks, the law's state: both disks in memory; a call, done to both. -/
namespace Go.Proofs.YtpnbjpkdbiiogaaGreat
set_option linter.unusedVariables false
open Go.RowKit Go.Maps Go.Proofs.YtpnbjpkdbiiogaaGreatW.PrintWords
attribute [local go_sem] mx2 mn2 mxTwo mnTwo

/-- Both disks. -/
structure KS (W : World) (b g gd mn ms : Nat) (vo : Value) (N mf M : Nat) (fl : List FR) (r rd : Nat) (dn ds dv vF : Value) (rl : List RR) (s : VSt) : Prop where
  d : DK W b (fun k => ¬ rS rl k) g gd mn ms vo N s.now s.safe (s.ops.map nrm) mf M fl (s.fs.length : Int) s.room s.fuse s.armed s.dead
  r : RK W b r rd dn ds dv s.now s.safe s.ops vF rl s.room s.fuse s.armed s.dead
  mf : fl.map FR.pv = present 0 s.fs
  mr : rl.map RR.rv = s.fs.map (·.1)
def KX (W : World) (b g r N M : Nat) (s : VSt) : Prop := ∃ gd mn ms vo mf fl rd dn ds dv vF rl, KS W b g gd mn ms vo N mf M fl r rd dn ds dv vF rl s
theorem KX.below {W W1 : World} {b g r N M : Nat} {s : VSt} (h : KX W b g r N M s) (hb : Below W.heap.size W W1) : KX W1 b g r N M s := by
  obtain ⟨gd, mn, ms, vo, mf, fl, rd, dn, ds, dv, vF, rl, h⟩ := h
  exact ⟨gd, mn, ms, vo, mf, fl, rd, dn, ds, dv, vF, rl, ⟨h.d.below hb, h.r.below hb, h.mf, h.mr⟩⟩
/-- Calls of the statement stay. -/
def AK (W W1 : World) : Prop := ∀ (k : Nat) (cs : Array Value), W.heap[k]? = some (Obj.cells cs 32 (0, 0)) → W1.heap[k]? = W.heap[k]?
theorem AK.kt {W W1 : World} (h : KT W W1) : AK W W1 := fun k cs hk => h.keep k cs _ hk (by decide)
theorem AK.rt {W W1 : World} {S T : Nat → Prop} (h : RT W W1 S T) (hS : ∀ k, S k → ∃ cells, W.heap[k]? = some (.cells cells 5 (0, 0))) : AK W W1 := fun k cs hk => h.keep k (blk_lt hk) (fun hs => by
  obtain ⟨c2, hc2⟩ := hS k hs
  have := cells_eq hk hc2
  revert this
  decide) (fun cs' t hc => by
  have := cells_eq hk hc
  subst this
  decide)
theorem AK.below {W W1 : World} (h : Below W.heap.size W W1) : AK W W1 := fun k cs hk => h.block k (blk_lt hk)
/-- The behind of a call that both have taken. -/
theorem KX.fin {W W1 : World} {b g gd mn ms N mf M r r0 rd rd' : Nat} {vo dn ds dv vF dn' ds' dv' vF' : Value} {now safe : List DN} {ops : List DOp} {fl : List FR} {rl rl' : List RR} {s' : VSt} {room fuse : Int} {armed dead : Bool}
    (hd : DK W b (fun k => ¬ rS rl k) g gd mn ms vo N s'.now s'.safe (s'.ops.map nrm) mf M fl (s'.fs.length : Int) s'.room s'.fuse s'.armed s'.dead) (hr : RK W b r0 rd dn ds dv now safe ops vF rl room fuse armed dead) (ht : RT W W1 (rS rl) (rS rl'))
    (hr' : RK W1 b r rd' dn' ds' dv' s'.now s'.safe s'.ops vF' rl' s'.room s'.fuse s'.armed s'.dead) (mf : fl.map FR.pv = present 0 s'.fs) (mr : rl'.map RR.rv = s'.fs.map (·.1)) : KX W1 b g r N M s' :=
  ⟨_, _, _, _, _, _, _, _, _, _, _, _, ⟨hd.ref ht hr.rS_typed (fun k hk hs => by have := hr'.sS k hs; omega), hr', mf, mr⟩⟩
def Both (fA fB : FuncId) (argsA argsB : Array Value) (b : Nat) (w : World) (P : World → Prop) : Prop :=
  ∃ (cd : Int) (PA : World → Prop), (∀ W, Below w.heap.size w W → Calls Tryz.prog fA argsA W fun e w' => e = .returned (.int .i64 cd) ∧ PA w' ∧ AK W w' ∧ Below b W w') ∧
    (∀ W, PA W → Calls Tryz.prog fB argsB W fun e w' => e = .returned (.int .i64 cd) ∧ P w' ∧ AK W w' ∧ Below b W w')
section
variable {w : World} {b g gd mn ms N mf M r rd : Nat} {vo dn ds dv vF : Value} {fl : List FR} {rl : List RR} {s : VSt} {k : Nat}
theorem both_mk {fA fB : FuncId} {argsA argsB : Array Value} (h : KS w b g gd mn ms vo N mf M fl r rd dn ds dv vF rl s) (cd : Int) (DA P : World → Prop)
    (hA : ∀ W, Below w.heap.size w W → DK W b (fun k => ¬ rS rl k) g gd mn ms vo N s.now s.safe (s.ops.map nrm) mf M fl (s.fs.length : Int) s.room s.fuse s.armed s.dead → Calls Tryz.prog fA argsA W fun e w' => e = .returned (.int .i64 cd) ∧ DA w' ∧ KT W w' ∧ Below b W w')
    (hB : ∀ W, DA W → RK W b r rd dn ds dv s.now s.safe s.ops vF rl s.room s.fuse s.armed s.dead → Calls Tryz.prog fB argsB W fun e w' => e = .returned (.int .i64 cd) ∧ P w' ∧ AK W w' ∧ Below b W w') : Both fA fB argsA argsB b w P := by
  refine ⟨cd, fun W => DA W ∧ RK W b r rd dn ds dv s.now s.safe s.ops vF rl s.room s.fuse s.armed s.dead, fun W hW => ?_, fun W hh => hB W hh.1 hh.2⟩
  refine (hA W hW (h.d.below hW)).mono ?_
  rintro e w' ⟨he, hd, hkt, hbl⟩
  exact ⟨he, ⟨hd, (h.r.below hW).code hkt⟩, AK.kt hkt, hbl⟩
/-- Neither disk is turned, but that the call is counted. -/
theorem both_same {fA fB : FuncId} {argsA argsB : Array Value} (h : KS w b g gd mn ms vo N mf M fl r rd dn ds dv vF rl s) (cd : Int) (P : World → Prop)
    (hA : ∀ W, Below w.heap.size w W → DK W b (fun k => ¬ rS rl k) g gd mn ms vo N s.now s.safe (s.ops.map nrm) mf M fl (s.fs.length : Int) s.room s.fuse s.armed s.dead → Calls Tryz.prog fA argsA W fun e w' => e = .returned (.int .i64 cd) ∧ (∃ vo' N', N' ≤ N + 1 ∧ DK w' b (fun k => ¬ rS rl k) g gd mn ms vo' N' s.now s.safe (s.ops.map nrm) mf M fl (s.fs.length : Int) s.room (chg s.fuse s.armed s.dead).2.1 s.armed (chg s.fuse s.armed s.dead).2.2) ∧ KT W w' ∧ Below b W w')
    (hB : ∀ W, RK W b r rd dn ds dv s.now s.safe s.ops vF rl s.room s.fuse s.armed s.dead → Calls Tryz.prog fB argsB W fun e w' => e = .returned (.int .i64 cd) ∧ (∃ dn' dv', RK w' b r rd dn' ds dv' s.now s.safe s.ops vF rl s.room (chg s.fuse s.armed s.dead).2.1 s.armed (chg s.fuse s.armed s.dead).2.2) ∧ RT W w' (rS rl) (rS rl) ∧ Below b W w')
    (hP : ∀ w' N', N' ≤ N + 1 → KX w' b g r N' M (cntV s) → P w') : Both fA fB argsA argsB b w P := by
  refine both_mk h cd _ P hA (fun W hd hr => ?_)
  obtain ⟨vo', N', hN', hd⟩ := hd
  refine (hB W hr).mono ?_
  rintro e w' ⟨he, ⟨dn', dv', hr'⟩, hrt, hbl⟩
  exact ⟨he, hP w' N' hN' (KX.fin (s' := cntV s) hd hr hrt hr' h.mf h.mr), AK.rt hrt hr.rS_typed, hbl⟩
theorem KS.kg (h : KS w b g gd mn ms vo N mf M fl r rd dn ds dv vF rl s) (hb : BdV s N M k) (hk : k ≤ 49) : KG s.now fl := by
  refine ⟨fun p hp => ?_, fun f hf => ?_⟩
  · obtain ⟨i, e, v, hv⟩ := (hb.dn p hp).2
    obtain ⟨f, hf, _⟩ := fl_at h.mf hv
    have h1 := (List.getElem?_eq_some_iff.1 hv).1
    have h2 := hb.fs
    rw [e]
    exact ⟨by omega, by omega, f, hf⟩
  · obtain ⟨i, _, _, hv⟩ := fl_mem h.mf hf
    have h1 := hb.fb _ (List.mem_of_getElem? hv)
    have h2 := h1.ops
    exact ⟨h1.now, by simp only at h2; omega⟩
theorem KS.rg (h : KS w b g gd mn ms vo N mf M fl r rd dn ds dv vF rl s) (hb : BdV s N M k) (hk : k ≤ 49) : RG s.now rl := by
  refine ⟨fun p hp => ?_, fun q hq => ?_⟩
  · obtain ⟨i, e, v, hv⟩ := (hb.dn p hp).2
    have h1 := (List.getElem?_eq_some_iff.1 hv).1
    rw [e, rl_len h.mr, Int.toNat_natCast]
    exact ⟨by omega, h1⟩
  · obtain ⟨x, hx, e⟩ := rl_mem h.mr hq
    have h1 := hb.fb x hx
    rw [e] at h1
    have h2 := h1.ops
    exact ⟨h1.now, by simp only at h2; omega⟩
theorem lenV_eq (h : KS w b g gd mn ms vo N mf M fl r rd dn ds dv vF rl s) (id : Int) : lenR rl id = lenV s.fs id := by
  unfold lenR lenV
  have h1 : (rl.map RR.rv)[id.toNat]? = (s.fs.map (·.1))[id.toNat]? := by rw [h.mr]
  rw [List.getElem?_map, List.getElem?_map] at h1
  cases e1 : rl[id.toNat]? with
  | none =>
    rw [e1] at h1
    cases e2 : s.fs[id.toNat]? with
    | none => rfl
    | some x => rw [e2] at h1; cases h1
  | some q =>
    rw [e1] at h1
    cases e2 : s.fs[id.toNat]? with
    | none => rw [e2] at h1; cases h1
    | some x =>
      rw [e2] at h1
      have h3 : q.rv = x.1 := by injection h1
      show (q.now.length : Int) = (x.1.now.length : Int)
      rw [← h3]
      rfl
theorem usedV_eq (h : KS w b g gd mn ms vo N mf M fl r rd dn ds dv vF rl s) (l : List DN) : usedR rl l = usedV s.fs l := by
  unfold usedR usedV
  congr 1
  funext n p
  rw [lenV_eq h]
theorem hasR_eq (h : KS w b g gd mn ms vo N mf M fl r rd dn ds dv vF rl s) (len size : Int) : hasR rl s.now s.room len size = hasV s.fs s.now s.room len size := by
  unfold hasR hasV
  rw [usedV_eq h]
theorem hasF_eq (h : KS w b g gd mn ms vo N mf M fl r rd dn ds dv vF rl s) (hb : BdV s N M k) (len size : Int) : hasF fl s.now s.room len size = hasV s.fs s.now s.room len size := by
  unfold hasF hasV
  rw [used_eq h.mf h.mr s.now (fun p hp => (hb.dn p hp).2), usedV_eq h]
  congr 1
  · exact decide_eq_decide.mpr (by omega)
  · exact decide_eq_decide.mpr (by omega)
theorem cnt_mono {a c : Int} (h : a ≤ c) : cnt a ≤ cnt c := by
  unfold cnt
  split <;> split <;> omega
theorem hasW (fs : List (RV × Bool)) (now : List DN) (room : Int) (len k n : Nat) : hasV fs now room len ((k + n : Nat) : Int) = hasV fs now room len (szW len k n) := by
  unfold szW
  by_cases hg : len < k + n
  · rw [if_pos hg]
  · rw [if_neg hg]
    have h1 : cnt ((k + n : Nat) : Int) ≤ cnt (len : Int) := cnt_mono (by omega)
    unfold hasV
    rw [decide_eq_true h1, decide_eq_true (Int.le_refl _), Bool.true_or, Bool.true_or]
theorem chg26 {fuse : Int} {armed dead : Bool} (hc : ¬ (chg fuse armed dead).1 = 0) : (chg fuse armed dead).1 = 26 := (chg_cases fuse armed dead).resolve_left hc
end
end Go.Proofs.YtpnbjpkdbiiogaaGreat
/- Directories: the law's state; light; the example. -/
namespace Go.Proofs.YtpnbjpkdbiiogaaGreat
set_option linter.unusedVariables false
open Go.RowKit Go.Maps Go.Sort Go.Proofs.YtpnbjpkdbiiogaaGreatW.PrintWords
attribute [local go_sem] mx2 mn2 mxTwo mnTwo

/-- A call of a statement on directories. -/
structure DAct where
  kd : Int
  a : ByteArray
  b : ByteArray
  id : Int
  keep : List Bool
def zDact : DAct := ⟨0, ⟨#[]⟩, ⟨#[]⟩, 0, []⟩
def kDact : Kd DAct := Kd.iso (Kd.pair (Kd.int .i64) (Kd.pair Kd.string (Kd.pair Kd.string (Kd.pair (Kd.int .i64) (Kd.slice 4 Kd.bool))))) (fun x : DAct => (x.kd, x.a, x.b, x.id, x.keep))
theorem at_Dact {w : World} {A : Option Addr} {n : Nat} {xs : List DAct} (h : Kd.C kDact w A n xs) (i : Nat) (h1 : i < n) : ∃ ad A3 c3, A = some ad ∧ w.cell? (ad.add (i * 5)) = some (.int .i64 (xs.getD i zDact).kd) ∧ w.cell? ⟨(ad.add (i * 5)).block, (ad.add (i * 5)).off + 1, none⟩ = some (.string (xs.getD i zDact).a) ∧ w.cell? ⟨(ad.add (i * 5)).block, (ad.add (i * 5)).off + 2, none⟩ = some (.string (xs.getD i zDact).b) ∧ w.cell? ⟨(ad.add (i * 5)).block, (ad.add (i * 5)).off + 3, none⟩ = some (.int .i64 (xs.getD i zDact).id) ∧ w.cell? ⟨(ad.add (i * 5)).block, (ad.add (i * 5)).off + 4, none⟩ = some (.slice A3 (xs.getD i zDact).keep.length c3) ∧ Kd.bool.C w A3 (xs.getD i zDact).keep.length (xs.getD i zDact).keep := by
  obtain ⟨ad, c, e, _, hK, hc0⟩ := Kd.C_get h zDact (i : Int) (by omega) (by omega)
  simp only [Int.toNat_natCast] at hK hc0
  have hc : ∀ j u, c[j]? = some u → w.cell? (ad.add (i * 5 + j)) = some u := hc0
  obtain ⟨_, _, rfl, rfl, ⟨_, _, rfl, rfl, ⟨_, _, rfl, rfl, ⟨_, _, rfl, rfl, ⟨A3, c3, rfl, l3, g3⟩⟩⟩⟩⟩ := hK
  exact ⟨ad, A3, c3, e, hc 0 _ rfl, by rw [← add_field _ _ 1 (by omega)]; exact hc 1 _ rfl, by rw [← add_field _ _ 2 (by omega)]; exact hc 2 _ rfl, by rw [← add_field _ _ 3 (by omega)]; exact hc 3 _ rfl, by rw [← add_field _ _ 4 (by omega)]; exact hc 4 _ rfl, g3⟩
section
variable {W W1 : World} {b g mn ms N r : Nat} {vo rn rs ro : Value} {now safe now1 safe1 : List DN} {ops ops1 : List DOp}
theorem RD.other (h : RD W b r rn rs ro now1 safe1 ops1) (hd : DI W b g mn ms vo N now safe ops) (hk : Keep3 W W1 g (some mn) vo.ownBlock) : RD W1 b r rn rs ro now1 safe1 ops1 := by
  have hvo : ∀ k, vo.ownBlock = some k → ∃ cells, W.heap[k]? = some (.cells cells 122 (0, 0)) := fun k hk => own_typed hd.ho.2.choose_spec.1 k hk
  have step : ∀ q (k : Nat), (∃ cells, W.heap[k]? = some (.cells cells q (0, 0))) → q ≠ 99 → q ≠ 122 → k < W.heap.size → W1.heap[k]? = W.heap[k]? := by
    intro q k ⟨cells, hc⟩ h1 h2 hlt
    refine hk.2 k hlt (blk_ne hc hd.hb h1) (fun e => ?_) (fun e => ?_)
    · injection e with e
      exact hd.hn.ne hc e.symm
    · obtain ⟨c2, hc2⟩ := hvo k e.symm
      exact (blk_ne hc hc2 h2) rfl
  refine ⟨(step 40 r ⟨_, h.hb⟩ (by decide) (by decide) (blk_lt h.hb)).trans h.hb, ?_, ?_, ?_, h.hg⟩
  · exact Kd.R_mono (Kd.R_step (Kd.R_bound h.hn) (fun k ho hlt => by
      obtain ⟨_, _, _, q, hq, hc⟩ := ho
      exact step q k hc (dnE _ (by omega) q hq) (dnE _ (by omega) q hq) hlt)) (fun k hk => hk.1)
  · exact Kd.R_mono (Kd.R_step (Kd.R_bound h.hs) (fun k ho hlt => by
      obtain ⟨_, _, _, q, hq, hc⟩ := ho
      exact step q k hc (dnE _ (by omega) q hq) (dnE _ (by omega) q hq) hlt)) (fun k hk => hk.1)
  · exact Kd.R_mono (Kd.R_step (Kd.R_bound h.ho) (fun k ho hlt => by
      obtain ⟨_, _, _, q, hq, hc⟩ := ho
      exact step q k hc (ropE7 _ _ (by decide) q hq) (ropE7 _ _ (by decide) q hq) hlt)) (fun k hk => hk.1)
theorem DI.other (h : DI W b g mn ms vo N now safe ops) (hr : RD W b r rn rs ro now1 safe1 ops1) (hk : KeepBut W W1 r ro.ownBlock) : DI W1 b g mn ms vo N now safe ops := by
  have hro : ∀ k, ro.ownBlock = some k → ∃ cells, W.heap[k]? = some (.cells cells 109 (0, 0)) := fun k hk => own_typed hr.ho.2.choose_spec.1 k hk
  have step : ∀ q (k : Nat), (∃ cells, W.heap[k]? = some (.cells cells q (0, 0))) → q ≠ 40 → q ≠ 109 → k < W.heap.size → W1.heap[k]? = W.heap[k]? := by
    intro q k ⟨cells, hc⟩ h1 h2 hlt
    refine hk.2 k hlt (blk_ne hc hr.hb h1) (fun e => ?_)
    obtain ⟨c2, hc2⟩ := hro k e.symm
    exact (blk_ne hc hc2 h2) rfl
  have hmv : ∀ (m : Nat) (f : Lit → Option Value), MV W Tryz.prog 9 m N f → MV W1 Tryz.prog 9 m N f := by
    intro m f hm
    refine hm.move (hk.2 m hm.lt (hm.ne hr.hb) (fun e => ?_))
    obtain ⟨c2, hc2⟩ := hro m e.symm
    exact hm.ne hc2 rfl
  refine ⟨(step 99 g ⟨_, h.hb⟩ (by decide) (by decide) (blk_lt h.hb)).trans h.hb, hmv _ _ h.hn, hmv _ _ h.hs, ?_, h.hg, h.hmn, h.hms, h.ne⟩
  exact Kd.R_mono (Kd.R_step (Kd.R_bound h.ho) (fun k ho hlt => by
      obtain ⟨_, _, _, q, hq, hc⟩ := ho
      exact step q k hc (ropE7 _ _ (by decide) q hq) (ropE7 _ _ (by decide) q hq) hlt)) (fun k hk => hk.1)
end
/-- What a directory is. -/
structure DSt where
  now : List DN
  safe : List DN
  ops : List DOp
/-- Both directories. -/
structure DS (W : World) (b g mn ms : Nat) (vo : Value) (N r : Nat) (rn rs ro : Value) (s : DSt) : Prop where
  d : DI W b g mn ms vo N s.now s.safe (s.ops.map nrm)
  r : RD W b r rn rs ro s.now s.safe s.ops
theorem DS.below {W W1 : World} {b g mn ms N r : Nat} {vo rn rs ro : Value} {s : DSt} (h : DS W b g mn ms vo N r rn rs ro s) (hb : Below W.heap.size W W1) : DS W1 b g mn ms vo N r rn rs ro s := ⟨h.d.below hb, h.r.below hb⟩
/-- What a call makes of it. -/
def stepD (s : DSt) (a : DAct) : DSt :=
  if a.kd = 0 ∨ a.kd = 1 ∨ a.kd = 2 then ⟨doNow s.now ⟨a.kd, a.a, a.b, a.id⟩, s.safe, doOps s.now s.ops ⟨a.kd, a.a, a.b, a.id⟩⟩
  else if a.kd = 3 then ⟨s.now, s.now, []⟩
  else ⟨crashD s.safe s.ops a.keep s.ops.length, crashD s.safe s.ops a.keep s.ops.length, []⟩
/-- Its bounds. -/
structure BdD (s : DSt) (N k : Nat) : Prop where
  now : s.now.length ≤ 50 * k
  safe : s.safe.length ≤ 50 * k
  ops : s.ops.length ≤ k
  n : N ≤ 50 * k
  op : ∀ o ∈ s.ops, o.a.size ≤ maxLen ∧ o.b.size ≤ maxLen
  rn : Rising s.now
  rs : Rising s.safe
theorem crash_nrm (safe : List DN) (ops : List DOp) (kl : List Bool) : ∀ i, i ≤ ops.length → crashD safe (ops.map nrm) kl i = crashD safe ops kl i
  | 0, _ => rfl
  | i + 1, h => by
    unfold crashD
    rw [crash_nrm safe ops kl i (by omega)]
    have e : (ops.map nrm).getD i zDop = nrm (ops.getD i zDop) := by simp [List.getD_eq_getElem?_getD, show i < ops.length by omega]
    rw [e, did_nrm]
theorem nrm_size (o : DOp) (h : o.a.size ≤ maxLen ∧ o.b.size ≤ maxLen) : (nrm o).a.size ≤ maxLen ∧ (nrm o).b.size ≤ maxLen := by
  unfold nrm
  split
  · exact ⟨h.1, empty_ok⟩
  · split
    · exact h
    · exact ⟨h.1, empty_ok⟩
theorem ops_nrm (now : List DN) (ops : List DOp) (o : DOp) : doOpsI now (ops.map nrm) o = (doOps now ops o).map nrm := by
  unfold doOpsI doOps
  split <;> simp
theorem stepD_bd (s : DSt) (a : DAct) (N N' k : Nat) (h : BdD s N k) (ha : a.a.size ≤ maxLen ∧ a.b.size ≤ maxLen) (hk : k ≤ 49) (hN : N' ≤ N + k + 1) : BdD (stepD s a) N' (k + 1) := by
  obtain ⟨h1, h2, h3, h4, h5, h6, h7⟩ := h
  unfold stepD
  split
  · refine ⟨?_, by show s.safe.length ≤ _; omega, ?_, by omega, ?_, ?_, h7⟩
    · show (doNow s.now _).length ≤ _
      unfold doNow
      split
      · have := didL_len s.now ⟨a.kd, a.a, a.b, a.id⟩; omega
      · omega
    · show (doOps s.now s.ops _).length ≤ _
      unfold doOps
      split
      · rw [List.length_append, List.length_singleton]; omega
      · omega
    · show ∀ o ∈ doOps s.now s.ops _, _
      unfold doOps
      split
      · intro o ho
        rcases List.mem_append.1 ho with ho | ho
        · exact h5 o ho
        · rw [List.mem_singleton.1 ho]; exact ha
      · exact h5
    · show Rising (doNow s.now _)
      unfold doNow
      split
      · exact rising_did _ _ h6
      · exact h6
  · split
    · exact ⟨by show s.now.length ≤ _; omega, by show s.now.length ≤ _; omega, Nat.zero_le _, by omega, fun o ho => by simp at ho, h6, h6⟩
    · have hl := crashD_len s.safe s.ops a.keep s.ops.length
      have hr := rising_crash s.safe s.ops a.keep h7 s.ops.length
      exact ⟨by show (crashD _ _ _ _).length ≤ _; omega, by show (crashD _ _ _ _).length ≤ _; omega, Nat.zero_le _, by omega, fun o ho => by simp at ho, hr, hr⟩
end Go.Proofs.YtpnbjpkdbiiogaaGreat
/- Disks: what both make of a call on names. -/
namespace Go.Proofs.YtpnbjpkdbiiogaaGreat
set_option linter.unusedVariables false
open Go.RowKit Go.Maps Go.Proofs.YtpnbjpkdbiiogaaGreatW.PrintWords

section
variable {w : World} {b g r N M : Nat} {s : VSt} {k : Nat}
theorem both_create (h : KX w b g r N M s) (hb : BdV s N M k) (hk : k ≤ 49) (a : VAct) (hkd : a.kd = 0) (hsa : a.a.size ≤ maxLen) : Both 24 27 #[.pointer (some ⟨g, 0, none⟩), .string a.a] #[.pointer (some ⟨r, 0, none⟩), .string a.a] b w (fun w' => ∃ N' M', KX w' b g r N' M' (stepV s a) ∧ BdV (stepV s a) N' M' (k + 1)) := by
  obtain ⟨gd, mn, ms, vo, mf, fl, rd, dn, ds, dv, vF, rl, h⟩ := h
  have hbn := hb.now
  have hbs := hb.safe
  have hbo := hb.ops
  have hbN := hb.n
  have hbM := hb.m
  have hbf := hb.fs
  have hol : (s.ops.map nrm).length ≤ 100000 := by rw [List.length_map]; omega
  have hrl := rl_len h.mr
  by_cases hc : (chg s.fuse s.armed s.dead).1 = 0
  · by_cases hd0 : doCode s.now (newV s a.a) = 0
    · have hs : stepV s a = { dirOp (cntV s) (newV s a.a) with fs := s.fs ++ [(zRV, true)] } := by
        unfold stepV
        rw [if_pos (by omega), if_pos hc]
        unfold callV
        rw [if_pos hkd]
        exact if_pos hd0
      rw [hs]
      have hnx : ∀ p ∈ fl, p.id < (s.fs.length : Int) := fun p hp => by
        obtain ⟨i, h1, h2, _⟩ := fl_mem h.mf hp
        omega
      refine both_mk h 0 (fun w' => ∃ vo' g', DK w' b (fun k => ¬ rS rl k) g gd mn ms vo' (N + 1) (didL s.now (newV s a.a)) s.safe (s.ops.map nrm ++ [nrm (newV s a.a)]) mf (M + 1) (fl ++ [⟨(s.fs.length : Int), g', .slice none 0 0, .slice none 0 0, .slice none 0 0, [], [], []⟩]) ((s.fs.length : Int) + 1) s.room (chg s.fuse s.armed s.dead).2.1 s.armed (chg s.fuse s.armed s.dead).2.2) _ (fun W hW hd => ?_) (fun W hd hr => ?_)
      · refine (kcreate_kt b (fun k => ¬ rS rl k) g gd mn ms vo N s.now s.safe (s.ops.map nrm) mf M fl (s.fs.length : Int) s.room s.fuse s.armed s.dead W hd hb.fuse.1 hb.fuse.2 (by omega) (by omega) hol (by omega) (by omega) hnx a.a ⟨#[]⟩ hsa hc hd0).mono ?_
        rintro e w' ⟨he, vo', g', hd', hkt, hbl⟩
        exact ⟨he, ⟨vo', g', hd'⟩, hkt, hbl⟩
      · obtain ⟨vo', g', hd⟩ := hd
        have e0 : (⟨0, a.a, ⟨#[]⟩, (rl.length : Int)⟩ : DOp) = newV s a.a := by rw [hrl]; rfl
        refine (rkcreate_ok b r rd dn ds dv s.now s.safe s.ops vF rl s.room s.fuse s.armed s.dead W hr hb.fuse.1 hb.fuse.2 hc a.a hsa (by omega) (by omega) (by omega) (by rw [e0]; exact hd0)).mono ?_
        rintro e w' ⟨he, dn', dv', vF', p, hr', hrt, hbl⟩
        rw [e0] at hr'
        have en : doNow s.now (newV s a.a) = didL s.now (newV s a.a) := by unfold doNow; exact if_pos hd0
        have eo : doOps s.now s.ops (newV s a.a) = s.ops ++ [newV s a.a] := by unfold doOps; exact if_pos hd0
        have q1 : DK W b (fun k => ¬ rS rl k) g gd mn ms vo' (N + 1) (doNow s.now (newV s a.a)) s.safe ((doOps s.now s.ops (newV s a.a)).map nrm) mf (M + 1) (fl ++ [⟨(s.fs.length : Int), g', .slice none 0 0, .slice none 0 0, .slice none 0 0, [], [], []⟩]) (((s.fs ++ [(zRV, true)]).length : Nat) : Int) s.room (chg s.fuse s.armed s.dead).2.1 s.armed (chg s.fuse s.armed s.dead).2.2 := by
          rw [en, eo, List.map_append, List.length_append, List.length_singleton, Int.natCast_add]
          exact hd
        have q2 : RK w' b r rd dn' ds dv' (doNow s.now (newV s a.a)) s.safe (doOps s.now s.ops (newV s a.a)) vF' (rl ++ [⟨p, .slice none 0 0, .slice none 0 0, .slice none 0 0, [], [], []⟩]) s.room (chg s.fuse s.armed s.dead).2.1 s.armed (chg s.fuse s.armed s.dead).2.2 := by
          rw [en, eo]
          exact hr'
        have q3 : (fl ++ [(⟨(s.fs.length : Int), g', .slice none 0 0, .slice none 0 0, .slice none 0 0, [], [], []⟩ : FR)]).map FR.pv = present 0 (s.fs ++ [(zRV, true)]) := by
          rw [List.map_append, h.mf, present_snoc, Nat.zero_add]
          rfl
        have q4 : (rl ++ [(⟨p, .slice none 0 0, .slice none 0 0, .slice none 0 0, [], [], []⟩ : RR)]).map RR.rv = (s.fs ++ [(zRV, true)]).map (·.1) := by
          rw [List.map_append, List.map_append, h.mr]
          rfl
        exact ⟨he, ⟨N + 1, M + 1, KX.fin (s' := { dirOp (cntV s) (newV s a.a) with fs := s.fs ++ [(zRV, true)] }) q1 hr hrt q2 q3 q4, BdV.new (s := cntV s) hb.cnt hk (by omega) (by omega) a.a hsa hd0⟩, AK.rt hrt hr.rS_typed, hbl⟩
    · have hs : stepV s a = cntV s := by
        unfold stepV
        rw [if_pos (by omega), if_pos hc]
        unfold callV
        rw [if_pos hkd]
        exact if_neg hd0
      rw [hs]
      have e0 : (⟨0, a.a, ⟨#[]⟩, (rl.length : Int)⟩ : DOp) = newV s a.a := by rw [hrl]; rfl
      refine both_same h (doCode s.now (newV s a.a)) _ (fun W hW hd => ?_) (fun W hr => ?_) (fun w' N' hN' hx => ⟨N', M, hx, hb.cnt.up hk (by omega) (by omega)⟩)
      · refine (kcreate_bad b (fun k => ¬ rS rl k) g gd mn ms vo N s.now s.safe (s.ops.map nrm) mf M fl (s.fs.length : Int) s.room s.fuse s.armed s.dead W hd hb.fuse.1 hb.fuse.2 (by omega) hol a.a ⟨#[]⟩ hsa hc _ rfl hd0).mono ?_
        rintro e w' ⟨he, ⟨vo', hd'⟩, hkt, hbl⟩
        exact ⟨he, ⟨vo', N + 1, Nat.le_refl _, hd'⟩, hkt, hbl⟩
      · refine (rkcreate_bad b r rd dn ds dv s.now s.safe s.ops vF rl s.room s.fuse s.armed s.dead W hr hb.fuse.1 hb.fuse.2 hc a.a hsa (by omega) (by omega) _ (by rw [e0]) hd0).mono ?_
        rintro e w' ⟨he, ⟨dn', dv', hr'⟩, hrt, hbl⟩
        exact ⟨he, ⟨dn', dv', hr'⟩, hrt, hbl⟩
  · skip
    have hs : stepV s a = cntV s := by unfold stepV; rw [if_pos (by omega), if_neg hc]
    rw [hs]
    refine both_same h 26 _ (fun W hW hd => ?_) (fun W hr => ?_) (fun w' N' hN' hx => ⟨N', M, hx, hb.cnt.up hk (by omega) (by omega)⟩)
    · refine (kcreate_dead b (fun k => ¬ rS rl k) g gd mn ms vo N s.now s.safe (s.ops.map nrm) mf M fl (s.fs.length : Int) s.room s.fuse s.armed s.dead W hd hb.fuse.1 hb.fuse.2 hc a.a).mono ?_
      rintro e w' ⟨he, hd', hkt, hbl⟩
      exact ⟨by rw [he, chg26 hc], ⟨vo, N, by omega, hd'⟩, hkt, hbl⟩
    · refine (rkcreate_dead b r rd dn ds dv s.now s.safe s.ops vF rl s.room s.fuse s.armed s.dead W hr hb.fuse.1 hb.fuse.2 hc a.a).mono ?_
      rintro e w' ⟨he, hr', hrt, hbl⟩
      exact ⟨he, ⟨_, _, hr'⟩, hrt, hbl⟩
theorem both_rename (h : KX w b g r N M s) (hb : BdV s N M k) (hk : k ≤ 49) (a : VAct) (hkd : a.kd = 5) (hsa : a.a.size ≤ maxLen) (hsb : a.b.size ≤ maxLen) : Both 32 33 #[.pointer (some ⟨g, 0, none⟩), .string a.a, .string a.b] #[.pointer (some ⟨r, 0, none⟩), .string a.a, .string a.b] b w (fun w' => ∃ N' M', KX w' b g r N' M' (stepV s a) ∧ BdV (stepV s a) N' M' (k + 1)) := by
  obtain ⟨gd, mn, ms, vo, mf, fl, rd, dn, ds, dv, vF, rl, h⟩ := h
  have hbn := hb.now
  have hbs := hb.safe
  have hbo := hb.ops
  have hbN := hb.n
  have hbM := hb.m
  have hbf := hb.fs
  have hol : (s.ops.map nrm).length ≤ 100000 := by rw [List.length_map]; omega
  have hrl := rl_len h.mr
  by_cases hc : (chg s.fuse s.armed s.dead).1 = 0
  · skip
    have hs : stepV s a = dirOp (cntV s) ⟨1, a.a, a.b, 0⟩ := by
      unfold stepV
      rw [if_pos (by omega), if_pos hc]
      unfold callV
      simp [hkd]
    rw [hs]
    refine both_mk h (doCode s.now ⟨1, a.a, a.b, 0⟩) (fun w' => ∃ vo', DK w' b (fun k => ¬ rS rl k) g gd mn ms vo' (N + 1) (doNow s.now ⟨1, a.a, a.b, 0⟩) s.safe (doOpsI s.now (s.ops.map nrm) ⟨1, a.a, a.b, 0⟩) mf M fl (s.fs.length : Int) s.room (chg s.fuse s.armed s.dead).2.1 s.armed (chg s.fuse s.armed s.dead).2.2) _ (fun W hW hd => ?_) (fun W hd hr => ?_)
    · refine (krename_any b (fun k => ¬ rS rl k) g gd mn ms vo N s.now s.safe (s.ops.map nrm) mf M fl (s.fs.length : Int) s.room s.fuse s.armed s.dead W hd hb.fuse.1 hb.fuse.2 (by omega) hol a.a a.b 0 hsa hsb).mono ?_
      rintro e w' ⟨he, ⟨vo', hd'⟩, hkt, hbl⟩
      simp only [hc, if_true] at he hd'
      exact ⟨he, ⟨vo', hd'⟩, hkt, hbl⟩
    · obtain ⟨vo', hd⟩ := hd
      refine (rkrename_ok b r rd dn ds dv s.now s.safe s.ops vF rl s.room s.fuse s.armed s.dead W hr hb.fuse.1 hb.fuse.2 hc a.a a.b hsa hsb (by omega) (by omega)).mono ?_
      rintro e w' ⟨he, ⟨dn', dv', hr'⟩, hrt, hbl⟩
      rw [ops_nrm] at hd
      exact ⟨he, ⟨N + 1, M, KX.fin (s' := dirOp (cntV s) ⟨1, a.a, a.b, 0⟩) hd hr hrt hr' h.mf h.mr, BdV.dir (s := cntV s) hb.cnt hk (by omega) (by omega) ⟨1, a.a, a.b, 0⟩ ⟨hsa, hsb⟩ (fun e => by injection e with e; cases e)⟩, AK.rt hrt hr.rS_typed, hbl⟩
  · have hs : stepV s a = cntV s := by unfold stepV; rw [if_pos (by omega), if_neg hc]
    rw [hs]
    refine both_same h 26 _ (fun W hW hd => ?_) (fun W hr => ?_) (fun w' N' hN' hx => ⟨N', M, hx, hb.cnt.up hk (by omega) (by omega)⟩)
    · refine (krename_any b (fun k => ¬ rS rl k) g gd mn ms vo N s.now s.safe (s.ops.map nrm) mf M fl (s.fs.length : Int) s.room s.fuse s.armed s.dead W hd hb.fuse.1 hb.fuse.2 (by omega) hol a.a a.b 0 hsa hsb).mono ?_
      rintro e w' ⟨he, ⟨vo', hd'⟩, hkt, hbl⟩
      simp only [hc, if_false] at he hd'
      exact ⟨by rw [he, chg26 hc], ⟨vo', N + 1, Nat.le_refl _, hd'⟩, hkt, hbl⟩
    · refine (rkrename_dead b r rd dn ds dv s.now s.safe s.ops vF rl s.room s.fuse s.armed s.dead W hr hb.fuse.1 hb.fuse.2 hc a.a a.b).mono ?_
      rintro e w' ⟨he, hr', hrt, hbl⟩
      exact ⟨he, ⟨_, _, hr'⟩, hrt, hbl⟩
theorem both_unlink (h : KX w b g r N M s) (hb : BdV s N M k) (hk : k ≤ 49) (a : VAct) (hkd : a.kd = 6) (hsa : a.a.size ≤ maxLen) : Both 34 35 #[.pointer (some ⟨g, 0, none⟩), .string a.a] #[.pointer (some ⟨r, 0, none⟩), .string a.a] b w (fun w' => ∃ N' M', KX w' b g r N' M' (stepV s a) ∧ BdV (stepV s a) N' M' (k + 1)) := by
  have hsb : (⟨#[]⟩ : ByteArray).size ≤ maxLen := by decide
  obtain ⟨gd, mn, ms, vo, mf, fl, rd, dn, ds, dv, vF, rl, h⟩ := h
  have hbn := hb.now
  have hbs := hb.safe
  have hbo := hb.ops
  have hbN := hb.n
  have hbM := hb.m
  have hbf := hb.fs
  have hol : (s.ops.map nrm).length ≤ 100000 := by rw [List.length_map]; omega
  have hrl := rl_len h.mr
  by_cases hc : (chg s.fuse s.armed s.dead).1 = 0
  · skip
    have hs : stepV s a = dirOp (cntV s) ⟨2, a.a, ⟨#[]⟩, 0⟩ := by
      unfold stepV
      rw [if_pos (by omega), if_pos hc]
      unfold callV
      simp [hkd]
    rw [hs]
    refine both_mk h (doCode s.now ⟨2, a.a, ⟨#[]⟩, 0⟩) (fun w' => ∃ vo', DK w' b (fun k => ¬ rS rl k) g gd mn ms vo' (N + 1) (doNow s.now ⟨2, a.a, ⟨#[]⟩, 0⟩) s.safe (doOpsI s.now (s.ops.map nrm) ⟨2, a.a, ⟨#[]⟩, 0⟩) mf M fl (s.fs.length : Int) s.room (chg s.fuse s.armed s.dead).2.1 s.armed (chg s.fuse s.armed s.dead).2.2) _ (fun W hW hd => ?_) (fun W hd hr => ?_)
    · refine (kunlink_any b (fun k => ¬ rS rl k) g gd mn ms vo N s.now s.safe (s.ops.map nrm) mf M fl (s.fs.length : Int) s.room s.fuse s.armed s.dead W hd hb.fuse.1 hb.fuse.2 (by omega) hol a.a ⟨#[]⟩ 0 hsa).mono ?_
      rintro e w' ⟨he, ⟨vo', hd'⟩, hkt, hbl⟩
      simp only [hc, if_true] at he hd'
      exact ⟨he, ⟨vo', hd'⟩, hkt, hbl⟩
    · obtain ⟨vo', hd⟩ := hd
      refine (rkunlink_ok b r rd dn ds dv s.now s.safe s.ops vF rl s.room s.fuse s.armed s.dead W hr hb.fuse.1 hb.fuse.2 hc a.a hsa (by omega) (by omega)).mono ?_
      rintro e w' ⟨he, ⟨dn', dv', hr'⟩, hrt, hbl⟩
      rw [ops_nrm] at hd
      exact ⟨he, ⟨N + 1, M, KX.fin (s' := dirOp (cntV s) ⟨2, a.a, ⟨#[]⟩, 0⟩) hd hr hrt hr' h.mf h.mr, BdV.dir (s := cntV s) hb.cnt hk (by omega) (by omega) ⟨2, a.a, ⟨#[]⟩, 0⟩ ⟨hsa, hsb⟩ (fun e => by injection e with e; cases e)⟩, AK.rt hrt hr.rS_typed, hbl⟩
  · have hs : stepV s a = cntV s := by unfold stepV; rw [if_pos (by omega), if_neg hc]
    rw [hs]
    refine both_same h 26 _ (fun W hW hd => ?_) (fun W hr => ?_) (fun w' N' hN' hx => ⟨N', M, hx, hb.cnt.up hk (by omega) (by omega)⟩)
    · refine (kunlink_any b (fun k => ¬ rS rl k) g gd mn ms vo N s.now s.safe (s.ops.map nrm) mf M fl (s.fs.length : Int) s.room s.fuse s.armed s.dead W hd hb.fuse.1 hb.fuse.2 (by omega) hol a.a ⟨#[]⟩ 0 hsa).mono ?_
      rintro e w' ⟨he, ⟨vo', hd'⟩, hkt, hbl⟩
      simp only [hc, if_false] at he hd'
      exact ⟨by rw [he, chg26 hc], ⟨vo', N + 1, Nat.le_refl _, hd'⟩, hkt, hbl⟩
    · refine (rkunlink_dead b r rd dn ds dv s.now s.safe s.ops vF rl s.room s.fuse s.armed s.dead W hr hb.fuse.1 hb.fuse.2 hc a.a).mono ?_
      rintro e w' ⟨he, hr', hrt, hbl⟩
      exact ⟨he, ⟨_, _, hr'⟩, hrt, hbl⟩
theorem both_syncdir (h : KX w b g r N M s) (hb : BdV s N M k) (hk : k ≤ 49) (a : VAct) (hkd : a.kd = 4) (s0 : ByteArray) : Both 13 31 #[.pointer (some ⟨g, 0, none⟩)] #[.pointer (some ⟨r, 0, none⟩), .string s0, .bool true] b w (fun w' => ∃ N' M', KX w' b g r N' M' (stepV s a) ∧ BdV (stepV s a) N' M' (k + 1)) := by
  obtain ⟨gd, mn, ms, vo, mf, fl, rd, dn, ds, dv, vF, rl, h⟩ := h
  have hbn := hb.now
  have hbs := hb.safe
  have hbo := hb.ops
  have hbN := hb.n
  have hbM := hb.m
  have hbf := hb.fs
  have hol : (s.ops.map nrm).length ≤ 100000 := by rw [List.length_map]; omega
  have hrl := rl_len h.mr
  by_cases hc : (chg s.fuse s.armed s.dead).1 = 0
  · have hs : stepV s a = { cntV s with safe := s.now, ops := [] } := by
      unfold stepV
      rw [if_pos (by omega), if_pos hc]
      unfold callV
      simp [hkd]
      rfl
    rw [hs]
    refine both_mk h 0 (fun w' => ∃ ms' vo', DK w' b (fun k => ¬ rS rl k) g gd mn ms' vo' N s.now s.now [] mf M fl (s.fs.length : Int) s.room (chg s.fuse s.armed s.dead).2.1 s.armed (chg s.fuse s.armed s.dead).2.2) _ (fun W hW hd => ?_) (fun W hd hr => ?_)
    · refine (ksyncdir_any b (fun k => ¬ rS rl k) g gd mn ms vo N s.now s.safe (s.ops.map nrm) mf M fl (s.fs.length : Int) s.room s.fuse s.armed s.dead W hd hb.fuse.1 hb.fuse.2).mono ?_
      rintro e w' ⟨he, ⟨ms', vo', hd'⟩, hkt, hbl⟩
      simp only [hc, if_true] at he hd'
      exact ⟨he, ⟨ms', vo', hd'⟩, hkt, hbl⟩
    · obtain ⟨ms', vo', hd⟩ := hd
      refine (rksyncdir_ok b r rd dn ds dv s.now s.safe s.ops vF rl s.room s.fuse s.armed s.dead W hr hb.fuse.1 hb.fuse.2 hc s0).mono ?_
      rintro e w' ⟨he, ⟨ds', dv', hr'⟩, hrt, hbl⟩
      exact ⟨he, ⟨N, M, KX.fin (s' := { cntV s with safe := s.now, ops := [] }) hd hr hrt hr' h.mf h.mr, BdV.syncdir (s := cntV s) hb.cnt hk (by omega) (by omega)⟩, AK.rt hrt hr.rS_typed, hbl⟩
  · have hs : stepV s a = cntV s := by unfold stepV; rw [if_pos (by omega), if_neg hc]
    rw [hs]
    refine both_mk h 26 (fun w' => ∃ ms' vo', DK w' b (fun k => ¬ rS rl k) g gd mn ms' vo' N s.now s.safe (s.ops.map nrm) mf M fl (s.fs.length : Int) s.room (chg s.fuse s.armed s.dead).2.1 s.armed (chg s.fuse s.armed s.dead).2.2) _ (fun W hW hd => ?_) (fun W hd hr => ?_)
    · refine (ksyncdir_any b (fun k => ¬ rS rl k) g gd mn ms vo N s.now s.safe (s.ops.map nrm) mf M fl (s.fs.length : Int) s.room s.fuse s.armed s.dead W hd hb.fuse.1 hb.fuse.2).mono ?_
      rintro e w' ⟨he, ⟨ms', vo', hd'⟩, hkt, hbl⟩
      simp only [hc, if_false] at he hd'
      exact ⟨by rw [he, chg26 hc], ⟨ms', vo', hd'⟩, hkt, hbl⟩
    · obtain ⟨ms', vo', hd⟩ := hd
      refine (rksync_dead b r rd dn ds dv s.now s.safe s.ops vF rl s.room s.fuse s.armed s.dead W hr hb.fuse.1 hb.fuse.2 hc s0 true).mono ?_
      rintro e w' ⟨he, hr', hrt, hbl⟩
      exact ⟨he, ⟨N, M, KX.fin (s' := cntV s) hd hr hrt hr' h.mf h.mr, hb.cnt.up hk (by omega) (by omega)⟩, AK.rt hrt hr.rS_typed, hbl⟩
end
end Go.Proofs.YtpnbjpkdbiiogaaGreat
