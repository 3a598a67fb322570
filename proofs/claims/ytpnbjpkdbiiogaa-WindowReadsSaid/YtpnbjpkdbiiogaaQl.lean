/- The law on caches: what both caches and the disk hold; a call's reading. -/
import Derived.Test.YtpnbjpkdbiiogaaQk
import Derived.OpenShut
namespace Go.Proofs.Ytpnbjpkdbiiogaa
set_option linter.unusedVariables false
open Go.RowKit Go.Maps Go.ChangeShapes Go.WideShapes Go.Deep Go.Proofs.YtpnbjpkdbiiogaaW.PrintWords
attribute [local go_sem] mx2 mn2 mxTwo mnTwo

structure WAct where
  kd : Int
  q : Bool
  at_ : Int
  n : Int
  data : List Int
def zWact : WAct := ⟨0, false, 0, 0, []⟩
def kWact : Kd WAct := Kd.iso (Kd.pair (Kd.int .i64) (Kd.pair Kd.bool (Kd.pair (Kd.int .i64) (Kd.pair (Kd.int .i64) (Kd.slice 5 (Kd.int .u8)))))) (fun x : WAct => (x.kd, x.q, x.at_, x.n, x.data))
def goodWact (x : WAct) : Prop := (Lit.int .i64 x.kd).wf = true ∧ True ∧ (Lit.int .i64 x.at_).wf = true ∧ (Lit.int .i64 x.n).wf = true ∧ (∀ y ∈ x.data, (Lit.int .u8 y).wf = true)
theorem opens_t95 : Opens Try.prog 95 (Kd.slice 105 kWact) (fun xs => ∀ x ∈ xs, goodWact x) :=
  opens_slice Try.underlying95 (by kernel_rfl) (opens_iso (fun x : WAct => (x.kd, x.q, x.at_, x.n, x.data)) (fun x => ⟨x.1, x.2.1, x.2.2.1, x.2.2.2.1, x.2.2.2.2⟩) (fun _ => rfl)
    (opens_struct5 Try.underlying105 (by kernel_rfl) (by kernel_rfl) (opens_int Try.underlying3) (opens_bool Try.underlying4) (opens_int Try.underlying3) (opens_int Try.underlying3) (opens_slice Try.underlying22 (by kernel_rfl) (opens_int Try.underlying5))))
theorem at_Wact {w : World} {A : Option Addr} {n : Nat} {xs : List WAct} (h : Kd.C kWact w A n xs) (i : Nat) (h1 : i < n) : ∃ ad A4 c4, A = some ad ∧ w.cell? (ad.add (i * 5)) = some (.int .i64 (xs.getD i zWact).kd) ∧ w.cell? ⟨(ad.add (i * 5)).block, (ad.add (i * 5)).off + 1, none⟩ = some (.bool (xs.getD i zWact).q) ∧ w.cell? ⟨(ad.add (i * 5)).block, (ad.add (i * 5)).off + 2, none⟩ = some (.int .i64 (xs.getD i zWact).at_) ∧ w.cell? ⟨(ad.add (i * 5)).block, (ad.add (i * 5)).off + 3, none⟩ = some (.int .i64 (xs.getD i zWact).n) ∧ w.cell? ⟨(ad.add (i * 5)).block, (ad.add (i * 5)).off + 4, none⟩ = some (.slice A4 (xs.getD i zWact).data.length c4) ∧ (xs.getD i zWact).data.length ≤ c4 ∧ Kd.C (Kd.int .u8) w A4 (xs.getD i zWact).data.length (xs.getD i zWact).data := by
  obtain ⟨ad, c, e, _, hK, hc0⟩ := Kd.C_get h zWact (i : Int) (by omega) (by omega)
  simp only [Int.toNat_natCast] at hK hc0
  have hc : ∀ j u, c[j]? = some u → w.cell? (ad.add (i * 5 + j)) = some u := hc0
  obtain ⟨_, _, rfl, rfl, ⟨_, _, rfl, rfl, ⟨_, _, rfl, rfl, ⟨_, _, rfl, rfl, ⟨A4, c4, rfl, l4, g4⟩⟩⟩⟩⟩ := hK
  exact ⟨ad, A4, c4, e, hc 0 _ rfl, by rw [← add_field _ _ 1 (by omega)]; exact hc 1 _ rfl, by rw [← add_field _ _ 2 (by omega)]; exact hc 2 _ rfl, by rw [← add_field _ _ 3 (by omega)]; exact hc 3 _ rfl, by rw [← add_field _ _ 4 (by omega)]; exact hc 4 _ rfl, l4, g4⟩
section
variable {W W1 : World} {b c d g mp N mostN B0 Z K : Nat} {x : Nat → Prop} {most : Int} {l : List Nd} {hits misses room : Int} {s : WSt} {two : Bool} {na nb : List Int}
theorem Q_kept {v : Value} {L : List PcV} (h : kPv.Q 168 W b x v L) (hk : ∀ (k : Nat) (cs : Array Value) (T : TypeId), T = 168 ∨ T = 5 → W.heap[k]? = some (.cells cs T (0, 0)) → W1.heap[k]? = W.heap[k]?) : kPv.Q 168 W1 b x v L := by
  refine Kd.Q_mono (Kd.Q_move (Kd.Q_bound h) (fun k hk' => ?_)) (fun k hk => hk.1)
  obtain ⟨_, _, _, q, hq, cs, hc⟩ := hk'
  have : kPv.E = [5] := rfl
  rw [this] at hq
  exact hk k cs q (by simpa using hq) hc
theorem RC.kn (h : RC W b x g mostN s) (hk : KN W W1 mp) : RC W1 b x g mostN s := by
  obtain ⟨⟨vL, h1, h2⟩, h3, h4⟩ := h
  exact ⟨⟨vL, (hk.keep g _ _ h1 (by decide) (by decide)).trans h1, Q_kept h2 (fun k cs T hT hc => hk.keep k cs T hc (by rcases hT with rfl | rfl <;> decide) (by rcases hT with rfl | rfl <;> decide))⟩, h3, fun k hkk => h4 k (Nat.le_trans hk.size hkk)⟩
theorem RC.km (h : RC W b x g mostN s) (hk : KM W W1) : RC W1 b x g mostN s := by
  obtain ⟨⟨vL, h1, h2⟩, h3, h4⟩ := h
  exact ⟨⟨vL, (hk.keep g _ _ h1 (by decide)).trans h1, Q_kept h2 (fun k cs T hT hc => hk.keep k cs T hc (by rcases hT with rfl | rfl <;> decide))⟩, h3, fun k hkk => h4 k (Nat.le_trans hk.size hkk)⟩
theorem CS.keepG {G : Nat} {cs : Array Value} (h : CS W b x c d mostN mp N s) (hG : W.heap[G]? = some (.cells cs 103 (0, 0))) (hk : KeepBut W W1 G none) : CS W1 b x c d mostN mp N s := by
  obtain ⟨l, hci, hL⟩ := h
  have hty : ∀ (k : Nat) (cs : Array Value) (T' : TypeId), T' ≠ 103 → W.heap[k]? = some (.cells cs T' (0, 0)) → W1.heap[k]? = W.heap[k]? := fun k cs T' h9 hkk => hk.2 k (blk_lt hkk) (blk_ne hkk hG h9) (by simp)
  obtain ⟨es, ck, ho⟩ := hci.hm.obj
  refine ⟨l, ⟨(hty c _ _ (by decide) hci.hb).trans hci.hb, hci.hr.move (fun p hp => ?_), hci.hm.move (hk.2 mp hci.hm.lt (fun e => ?_) (by simp)), fun q hq => ?_, hci.bc, hci.bm, hci.bg, fun k hkk => hci.hx k (Nat.le_trans hk.1 hkk)⟩, hL⟩
  · obtain ⟨cs2, hc2⟩ := hci.hr.typed hp
    exact hty p.g cs2 _ (by decide) hc2
  · rw [e, hG] at ho
    cases ho
  · exact RU_keep (hci.hy q hq) hG hk
theorem WD.km (h : WD W b g two na nb room Z K B0) (hb : Below W.heap.size W W1) : WD W1 b g two na nb room Z K B0 := h.below hb
theorem WD.len (h : WD W b g two na nb room Z K B0) (q : Bool) (hq : q = true → two = true) : (if q then nb else na).length ≤ Z := by
  obtain ⟨gd, mn, ms, vo, N, safe, ops, mf, M, fl, next, h1, h2, h3⟩ := h
  obtain ⟨f, hf, hn⟩ := h2.at_ q hq
  rw [← hn]
  exact (h2.all f (fileAt_mem hf).1).1
/-- Both caches and the disk. -/
structure WX (W : World) (b c d r mostN mp N : Nat) (s t : WSt) (two : Bool) (na nb : List Int) (room : Int) (Z K B0 : Nat) : Prop where
  cs : CS W b (fun _ => True) c d mostN mp N s
  rc : RC W b (fun _ => True) r mostN t
  wd : WD W b d two na nb room Z K B0
  hm : B0 ≤ mp
  hZ : Z ≤ 100000
  hr : 3 * cnt (Z : Int) ≤ room
end
section
variable {W W1 : World} {b c d r mostN mp N N' Z K K' B0 : Nat} {s t s' t' : WSt} {two : Bool} {na nb na' nb' : List Int} {room : Int}
theorem WX.below (h : WX W b c d r mostN mp N s t two na nb room Z K B0) (hb : Below W.heap.size W W1) : WX W1 b c d r mostN mp N s t two na nb room Z K B0 := ⟨h.cs.below hb, h.rc.below hb, h.wd.below hb, h.hm, h.hZ, h.hr⟩
theorem WX.up (h : WX W b c d r mostN mp N s t two na nb room Z K B0) (hN : N ≤ N') (hK : K ≤ K') : WX W b c d r mostN mp N' s t two na nb room Z K' B0 := ⟨h.cs.mono hN, h.rc, h.wd.mono hK, h.hm, h.hZ, h.hr⟩
theorem WX.code (h : WX W b c d r mostN mp N s t two na nb room Z K B0) (hc : CS W1 b (fun _ => True) c d mostN mp N' s') (hk : KN W W1 mp) : WX W1 b c d r mostN mp N' s' t two na nb room Z K B0 := ⟨hc, h.rc.kn hk, h.wd.kn hk h.hm, h.hm, h.hZ, h.hr⟩
theorem WX.ref (h : WX W b c d r mostN mp N s t two na nb room Z K B0) (hc : RC W1 b (fun _ => True) r mostN t') (hk : KeepBut W W1 r none) : WX W1 b c d r mostN mp N s t' two na nb room Z K B0 := by
  obtain ⟨cs, hb⟩ := h.rc.blk
  exact ⟨h.cs.keepG hb hk, hc, h.wd.keepG hb rfl hk, h.hm, h.hZ, h.hr⟩
theorem WX.wrote (h : WX W b c d r mostN mp N s t two na nb room Z K B0) (hd : WD W1 b d two na' nb' room Z K' B0) (hk : KM W W1) : WX W1 b c d r mostN mp N s t two na' nb' room Z K' B0 := ⟨h.cs.km hk, h.rc.km hk, hd, h.hm, h.hZ, h.hr⟩
theorem wx_read (h : WX W b c d r mostN mp N s t two na nb room Z K B0) (ok : OkW mostN s N) (q : Bool) (hq : q = true → two = true) (k n : Nat) (hk : k ≤ 1048576) (hn : n ≤ 1048576) (hN : N + n ≤ 1000000) :
    Calls Try.prog 69 #[.pointer (some ⟨c, 0, none⟩), .string (nmOf q), .int .i64 (k : Int), .int .i64 (n : Int)] W fun e w' => ∃ A cc, e = .returned (.tuple #[.slice A (readN mostN (if q then nb else na) (nmOf q) s k n).2.length cc, .int .i64 0]) ∧ Kd.R (Kd.int .u8) 5 w' W.heap.size (fun _ => True) (.slice A (readN mostN (if q then nb else na) (nmOf q) s k n).2.length cc) (readN mostN (if q then nb else na) (nmOf q) s k n).2 ∧ WX w' b c d r mostN mp (N + n) (readN mostN (if q then nb else na) (nmOf q) s k n).1 t two na nb room Z K B0 ∧ KN W w' mp ∧ Below b W w' := by
  refine (wread_any b c d mostN mp N N s W h.cs ok (nmOf q) (nmOf_sz q) k n hk hn hN hN _ (wd_tell h.wd (by have := h.hZ; omega) h.hm q hq) _ _ rfl).mono ?_
  rintro e w' ⟨A, cc, rfl, hC, hcs, hkn, hb⟩
  exact ⟨A, cc, rfl, hC, h.code hcs hkn, hkn, hb⟩
theorem wx_rread (h : WX W b c d r mostN mp N s t two na nb room Z K B0) {G : Nat} (ok : OkW mostN t G) (q : Bool) (hq : q = true → two = true) (k n : Nat) (hk : k ≤ 1048576) (hn : n ≤ 1048576) (hN : G + n ≤ 1000000) (An : Option Addr) (cn b1 : Nat) (hnow : Kd.R (Kd.int .u8) 5 W b1 (fun _ => True) (.slice An (if q then nb else na).length cn) (if q then nb else na)) :
    Calls Try.prog 71 #[.pointer (some ⟨r, 0, none⟩), .string (nmOf q), .int .i64 (k : Int), .int .i64 (n : Int), .slice An (if q then nb else na).length cn] W fun e w' => ∃ A' c', e = .returned (.slice A' (readN mostN (if q then nb else na) (nmOf q) t k n).2.length c') ∧ Kd.C (Kd.int .u8) w' A' (readN mostN (if q then nb else na) (nmOf q) t k n).2.length (readN mostN (if q then nb else na) (nmOf q) t k n).2 ∧ WX w' b c d r mostN mp N s (readN mostN (if q then nb else na) (nmOf q) t k n).1 two na nb room Z K B0 ∧ KeepBut W w' r none ∧ Below b W w' := by
  have hlen := h.wd.len q hq
  obtain ⟨cs, hbk⟩ := h.rc.blk
  refine (rcread_any b r mostN G t W h.rc ok (nmOf q) (nmOf_sz q) k n hk hn hN An cn _ (by have := h.hZ; omega) (fun W' hW => (Kd.R_reads' (RU_keep hnow hbk hW)).2.2) _ _ rfl).mono ?_
  rintro e w' ⟨A, cc, rfl, hC, hcs, hkn, hb⟩
  exact ⟨A, cc, rfl, hC, h.ref hcs hkn, hkn, hb⟩
end
section
variable {W : World} {b c d r mostN mp N Z K B0 : Nat} {s t : WSt} {two : Bool} {na nb : List Int} {room : Int}
theorem wx_readI (h : WX W b c d r mostN mp N s t two na nb room Z K B0) (ok : OkW mostN s N) (q : Bool) (hq : q = true → two = true) (k n : Int) (hk0 : 0 ≤ k) (hn0 : 0 ≤ n) (hk : k ≤ 1048576) (hn : n ≤ 1048576) (hN : (N : Int) + n ≤ 1000000) :
    Calls Try.prog 69 #[.pointer (some ⟨c, 0, none⟩), .string (nmOf q), .int .i64 k, .int .i64 n] W fun e w' => ∃ A cc, e = .returned (.tuple #[.slice A (readN mostN (if q then nb else na) (nmOf q) s k.toNat n.toNat).2.length cc, .int .i64 0]) ∧ Kd.R (Kd.int .u8) 5 w' W.heap.size (fun _ => True) (.slice A (readN mostN (if q then nb else na) (nmOf q) s k.toNat n.toNat).2.length cc) (readN mostN (if q then nb else na) (nmOf q) s k.toNat n.toNat).2 ∧ WX w' b c d r mostN mp (N + n.toNat) (readN mostN (if q then nb else na) (nmOf q) s k.toNat n.toNat).1 t two na nb room Z K B0 ∧ KN W w' mp ∧ Below b W w' := by
  obtain ⟨k, rfl⟩ := Int.eq_ofNat_of_zero_le hk0
  obtain ⟨n, rfl⟩ := Int.eq_ofNat_of_zero_le hn0
  exact wx_read h ok q hq k n (by omega) (by omega) (by omega)
theorem wx_rreadI (h : WX W b c d r mostN mp N s t two na nb room Z K B0) {G : Nat} (ok : OkW mostN t G) (q : Bool) (hq : q = true → two = true) (k n : Int) (hk0 : 0 ≤ k) (hn0 : 0 ≤ n) (hk : k ≤ 1048576) (hn : n ≤ 1048576) (hN : (G : Int) + n ≤ 1000000) (An : Option Addr) (cn b1 : Nat) (hnow : Kd.R (Kd.int .u8) 5 W b1 (fun _ => True) (.slice An (if q then nb else na).length cn) (if q then nb else na)) :
    Calls Try.prog 71 #[.pointer (some ⟨r, 0, none⟩), .string (nmOf q), .int .i64 k, .int .i64 n, .slice An (if q then nb else na).length cn] W fun e w' => ∃ A' c', e = .returned (.slice A' (readN mostN (if q then nb else na) (nmOf q) t k.toNat n.toNat).2.length c') ∧ Kd.C (Kd.int .u8) w' A' (readN mostN (if q then nb else na) (nmOf q) t k.toNat n.toNat).2.length (readN mostN (if q then nb else na) (nmOf q) t k.toNat n.toNat).2 ∧ WX w' b c d r mostN mp N s (readN mostN (if q then nb else na) (nmOf q) t k.toNat n.toNat).1 two na nb room Z K B0 ∧ KeepBut W w' r none ∧ Below b W w' := by
  obtain ⟨k, rfl⟩ := Int.eq_ofNat_of_zero_le hk0
  obtain ⟨n, rfl⟩ := Int.eq_ofNat_of_zero_le hn0
  exact wx_rread h ok q hq k n (by omega) (by omega) (by omega) An cn b1 hnow
end
/-- Bytes of a file, whole. -/
theorem readL_whole (l : List Int) (h : l.length ≤ 1048576) : readL l 0 1048576 = l := by
  unfold readL
  split
  · have h0 : l.length = 0 := by omega
    exact (List.eq_nil_of_length_eq_zero h0).symm
  · exact List.take_of_length_le (by simpa using h)
end Go.Proofs.Ytpnbjpkdbiiogaa
/- The walk of the law WindowReads: it answers true. -/
namespace Go.Proofs.Ytpnbjpkdbiiogaa
set_option linter.unusedVariables false
open Go.RowKit Go.Maps Go.Proofs.YtpnbjpkdbiiogaaW.PrintWords
attribute [local go_sem] mx2 mn2 mxTwo mnTwo

theorem at_mod (k : Int) : ∃ m : Nat, m ≤ 1499 ∧ IntKind.i64.wrap ((IntKind.u64.wrap k).tmod 1500) = (m : Int) := by
  have h0 : 0 ≤ IntKind.u64.wrap k := by rw [IntKind.wrap_u64]; omega
  generalize IntKind.u64.wrap k = z at h0
  refine ⟨(z % 1500).toNat, by omega, ?_⟩
  rw [Int.tmod_eq_emod_of_nonneg h0, IntKind.wrap_i64]
  omega
set_option maxHeartbeats 8000000 in
set_option maxRecDepth 100000 in
theorem wreads_walk (most : Int) (A : Option Addr) (c : Nat) (xs : List WAct) (w : World) (h0 : -9223372036854775808 ≤ most) (h1 : most ≤ 9223372036854775807) (hp : Kd.C kWact w A xs.length xs) (hc : xs.length ≤ c) (hg : ∀ x ∈ xs, goodWact x) :
    Calls Try.prog 12 #[.int .i64 most, .slice A xs.length c] w fun e w' => e = .returned (.bool true) ∧ Below w.heap.size w w' := by
  have hm := Kd.C_max hp
  have HP := Aside0.mk hp
  have HG := Aside0.mk hg
  have HB := Aside0.mk (Below.refl w.heap.size w)
  obtain ⟨mN, hmN⟩ : ∃ mN, mN = mx1 most := ⟨_, rfl⟩
  have hmx : (if most < 1 then 1 else most) = (mN : Int) := by rw [hmN]; unfold mx1; split <;> omega
  have hmx2 : (if 1 < most then most else 1) = (mN : Int) := by rw [← hmx]; split <;> split <;> omega
  have HMP := Aside0.mk (mx1_pos most)
  rw [← hmN] at HMP
  have HMN := Aside0.mk hmN
  clear hp hg hmN
  go_enter Try.func12, Try.ntmps12
  go_wp2_with (first
    | (go_at_call 60; refine (awake43_any _).mono ?_; rintro e W9 ⟨rfl, hb⟩; have hbn := below_step HB.out hb; clear HB; have HB := Aside0.mk hbn; clear hb hbn)
    | (go_at_call 61; refine (knew_any w.heap.size (fun _ => True) 1000 _ HB.out.size (fun _ _ => trivial)).mono ?_; rintro e w1 ⟨d, gd, mn, ms, mf, rfl, hk, hb⟩; have hbn := below_step HB.out hb; clear HB; have H := Aside0.mk (show DK w1 w.heap.size (fun _ => True) d gd mn ms (.slice none 0 0) 0 [] [] [] mf 0 [] 0 1000 0 false false from hk); have HB := Aside0.mk hbn; clear hk hb hbn)
    | (go_at_call 62; refine (wd_a H.out).mono ?_; rintro e w2 ⟨rfl, vo1, g1, hk, hl⟩; have hbn := HB.out.trans hl; clear H HB; have H2 := Aside0.mk hk; have HB := Aside0.mk hbn; clear hk hl hbn)
    | (go_at_call 62; refine (wd_b H2.out).mono ?_; rintro e w3 ⟨rfl, B0, hk, hB0, hl⟩; have hbn := HB.out.trans hl; clear H2 HB; have HD := Aside0.mk hk; have HB := Aside0.mk hbn; have HB0 := Aside0.mk hB0; clear hk hl hbn hB0)
    | (go_at_call 63; refine (wnew_any w.heap.size d most h1 _ HB.out.size).mono ?_; rw [← HMN.out]; rintro e w4 ⟨cc, mp, rfl, hcs, hmp, hb⟩; have hd := HD.out.below hb; have hbn := below_step HB.out hb; clear HD HB; have HD := Aside0.mk hd; have HB := Aside0.mk hbn; have HC := Aside0.mk hcs; have HMQ := Aside0.mk (Nat.le_trans HB0.out hmp); clear hd hbn hcs hb hmp HB0))
  obtain ⟨r, hr⟩ : ∃ r, r = w4.heap.size := ⟨_, rfl⟩
  obtain ⟨W5, hW5⟩ : ∃ W5, W5 = w4.alloc (.cells #[.slice none 0 0, .int .i64 (mN : Int), .int .i64 0, .int .i64 0] 103) := ⟨_, rfl⟩
  have hb5 : Below w4.heap.size w4 W5 := by rw [hW5]; exact below_alloc (Below.refl _ _) _
  have hx0 : WX W5 w.heap.size cc d r mN mp 0 ⟨[], 0, 0⟩ ⟨[], 0, 0⟩ true [] [] 1000 3000 0 B0 := ⟨HC.out.below hb5, ⟨⟨_, by rw [hW5, hr]; exact blk_new _ _, Kd.Q_nil _ _ _ _ _⟩, by rw [hr]; exact HB.out.size, fun _ _ => trivial⟩, (HD.out.below hb5).more (by decide) (Nat.le_refl _) (Nat.le_refl _), HMQ.out, by decide, by decide⟩
  rw [← hW5, ← hr]
  have HX := Aside0.mk hx0
  have hbn := below_step HB.out hb5
  have HOK := Aside0.mk (OkW.zero HMP.out)
  clear HB HC HD HMQ hW5 hr hb5 hx0
  have HB := Aside0.mk hbn
  clear hbn
  go_loopg [8] 40 (fun q v8 wr => ∃ (i : Nat) (s : WSt) (na nb : List Int), v8 = .int .i64 (i : Int) ∧ i ≤ xs.length ∧ i ≤ 40 ∧ Aside0 (q = 40 - i) ∧ Aside0 (OkW mN s (3000 * i)) ∧ Aside0 (WX wr w.heap.size cc d r mN mp (3000 * i) s s true na nb 1000 3000 (602 * i) B0) ∧ Aside0 (Below w.heap.size w wr))
  case atStart => exact ⟨0, _, [], [], rfl, Nat.zero_le _, Nat.zero_le _, ⟨rfl⟩, HOK, HX, HB⟩
  case round =>
    clear HX HB HOK hmx hmx2
    obtain ⟨i, s, na, nb, rfl, hi, hi2, hq, HOK, HX, HB⟩ := hrel
    by_cases hgo : i < xs.length ∧ i < 40
    · obtain ⟨hlt, h40⟩ := hgo
      obtain ⟨ad, A4, c4, e1, r0, r1, r2, r3, r4, hnc, hC4⟩ := at_Wact HP.out i hlt
      subst e1
      obtain ⟨a, ha⟩ : ∃ a, a = xs.getD i zWact := ⟨_, rfl⟩
      have hga : goodWact a := by rw [ha, List.getD_eq_getElem?_getD, List.getElem?_eq_getElem hlt]; exact HG.out _ (List.getElem_mem _)
      rw [← ha] at r0 r1 r2 r3 r4 hnc hC4
      have HST := Aside0.mk (show ∀ W', Below w.heap.size w W' → Kd.C (Kd.int .u8) W' A4 a.data.length a.data from fun W' hb => Kd.C_below hC4 hb)
      have hat := bounds_i64 hga.2.2.1
      have hnn := bounds_i64 hga.2.2.2.1
      replace r0 := pw_cell_below HB.out r0
      replace r1 := pw_cell_below HB.out r1
      replace r2 := pw_cell_below HB.out r2
      replace r3 := pw_cell_below HB.out r3
      replace r4 := pw_cell_below HB.out r4
      clear ha hC4 hga
      by_cases hl : a.data.length ≤ 600 ∧ (a.n ≤ 3000 ∨ 1048576 < a.n) ∧ (a.at_ ≤ 1048578 ∨ 1099511627776 < a.at_)
      · obtain ⟨hl1, hl2, hl3⟩ := hl
        have HL2 := Aside0.mk (show a.n ≤ 3000 ∨ ¬ a.n ≤ 3000 ∧ 1048576 < a.n by omega)
        have HL3 := Aside0.mk (show a.at_ ≤ 1048578 ∨ ¬ a.at_ ≤ 1048578 ∧ 1099511627776 < a.at_ by omega)
        have HL2' := Aside0.mk hl2
        clear hl2 hl3
        by_cases hk1 : a.kd = 1
        · have e1 : (a.kd == 1) = true := beq_iff_eq.2 hk1
          clear hk1
          go_wp2_with (first | (go_at_call 64; refine (wlight_yes a.kd a.at_ a.n a.q A4 a.data.length c4 _ hl1 HL2.out HL3.out).mono ?_; rintro e w1 ⟨rfl, hb⟩; have hba := (below_alloc (Below.refl wr.heap.size wr) (.cells #[.int .i64 a.kd, .bool a.q, .int .i64 a.at_, .int .i64 a.n, .slice A4 a.data.length c4] 105)); have hbb := below_step hba hb; have HNB := Aside0.mk (blk_below (blk_new wr (.cells #[.int .i64 a.kd, .bool a.q, .int .i64 a.at_, .int .i64 a.n, .slice A4 a.data.length c4] 105)) hb); have hx := HX.out.below hbb; have hbn := below_step HB.out hbb; clear HX HB; have HX := Aside0.mk hx; have HB := Aside0.mk hbn; have t0 := (blk_cell HNB.out 0).trans (rfl : _ = some (Value.int .i64 a.kd)); have t1 := (blk_cell HNB.out 1).trans (rfl : _ = some (Value.bool a.q)); have t2 := (blk_cell HNB.out 2).trans (rfl : _ = some (Value.int .i64 a.at_)); have t3 := (blk_cell HNB.out 3).trans (rfl : _ = some (Value.int .i64 a.n)); have t4 := (blk_cell HNB.out 4).trans (rfl : _ = some (Value.slice A4 a.data.length c4)); clear hba hbb hx hbn hb))
          clear r0 r1 r2 r3 r4
          have HOK2 := Aside0.mk (forgetS_ok (nm := nmOf a.q) (k := a.at_) HOK.out)
          go_region_held3 (fun w' => w'.cell? ⟨wr.heap.size, 0, none⟩ = some (.int .i64 a.kd) ∧ w'.cell? ⟨wr.heap.size, 1, none⟩ = some (.bool a.q) ∧ w'.cell? ⟨wr.heap.size, 2, none⟩ = some (.int .i64 a.at_) ∧ w'.cell? ⟨wr.heap.size, 3, none⟩ = some (.int .i64 a.n) ∧ w'.cell? ⟨wr.heap.size, 4, none⟩ = some (.slice A4 a.data.length c4)) (first | with_reducible exact ⟨t0, t1, t2, t3, t4⟩ | exact ⟨t0, t1, t2, t3, t4⟩) (first
            | (go_at_call 66; refine (wname_any a.kd a.at_ a.n a.q A4 a.data.length c4 _).mono ?_; rintro e wn ⟨rfl, hb⟩; have hbw := below_then (below_drew1 (Below.refl _ _)) (Nat.le_refl _) hb; have hnb := blk_below HNB.out hbw; have hx := HX.out.below hbw; have hbn := below_step HB.out hbw; clear HX HB HNB; have HX := Aside0.mk hx; have HB := Aside0.mk hbn; have HNB := Aside0.mk hnb; replace t0 := (blk_cell HNB.out 0).trans (rfl : _ = some (Value.int .i64 a.kd)); replace t1 := (blk_cell HNB.out 1).trans (rfl : _ = some (Value.bool a.q)); replace t2 := (blk_cell HNB.out 2).trans (rfl : _ = some (Value.int .i64 a.at_)); replace t3 := (blk_cell HNB.out 3).trans (rfl : _ = some (Value.int .i64 a.n)); replace t4 := (blk_cell HNB.out 4).trans (rfl : _ = some (Value.slice A4 a.data.length c4)); clear hb hbw hx hbn hnb)
            | (go_at_call 66; refine (wname_any a.kd a.at_ a.n a.q A4 a.data.length c4 _).mono ?_; rintro e wn ⟨rfl, hb⟩; have hnb := blk_below HNB.out hb; have hx := HX.out.below hb; have hbn := below_step HB.out hb; clear HX HB HNB; have HX := Aside0.mk hx; have HB := Aside0.mk hbn; have HNB := Aside0.mk hnb; replace t0 := (blk_cell HNB.out 0).trans (rfl : _ = some (Value.int .i64 a.kd)); replace t1 := (blk_cell HNB.out 1).trans (rfl : _ = some (Value.bool a.q)); replace t2 := (blk_cell HNB.out 2).trans (rfl : _ = some (Value.int .i64 a.at_)); replace t3 := (blk_cell HNB.out 3).trans (rfl : _ = some (Value.int .i64 a.n)); replace t4 := (blk_cell HNB.out 4).trans (rfl : _ = some (Value.slice A4 a.data.length c4)); clear hb hx hbn hnb)
            | (go_at_call 65; refine (wforget_any (fun _ => True) w.heap.size cc d mN mp _ _ s _ HX.out.cs HOK.out (by omega) (nmOf a.q) a.at_).mono ?_; rintro e w3 ⟨rfl, hcs, hkn, hb⟩; have hx := HX.out.code hcs hkn; have hnb := (hkn.keep _ _ _ HNB.out (by decide) (by decide)).trans HNB.out; have hbn := HB.out.trans hb; clear HX HB HNB; have HX := Aside0.mk hx; have HB := Aside0.mk hbn; have HNB := Aside0.mk hnb; replace t0 := (blk_cell HNB.out 0).trans (rfl : _ = some (Value.int .i64 a.kd)); replace t1 := (blk_cell HNB.out 1).trans (rfl : _ = some (Value.bool a.q)); replace t2 := (blk_cell HNB.out 2).trans (rfl : _ = some (Value.int .i64 a.at_)); replace t3 := (blk_cell HNB.out 3).trans (rfl : _ = some (Value.int .i64 a.n)); replace t4 := (blk_cell HNB.out 4).trans (rfl : _ = some (Value.slice A4 a.data.length c4)); clear hcs hkn hb hx hbn hnb)
            | (go_at_call 67; refine (rcforget_any w.heap.size r mN _ s _ HX.out.rc HOK.out (by omega) (nmOf a.q) a.at_).mono ?_; rintro e w3 ⟨rfl, hrc, hkb, hb⟩; have hx := HX.out.ref hrc hkb; obtain ⟨cs9, hb9⟩ := HX.out.rc.blk; have hnb := (hkb.2 _ (blk_lt HNB.out) (blk_ne HNB.out hb9 (by decide)) (by simp)).trans HNB.out; have hbn := HB.out.trans hb; clear HX HB HNB hb9; have HX := Aside0.mk hx; have HB := Aside0.mk hbn; have HNB := Aside0.mk hnb; replace t0 := (blk_cell HNB.out 0).trans (rfl : _ = some (Value.int .i64 a.kd)); replace t1 := (blk_cell HNB.out 1).trans (rfl : _ = some (Value.bool a.q)); replace t2 := (blk_cell HNB.out 2).trans (rfl : _ = some (Value.int .i64 a.at_)); replace t3 := (blk_cell HNB.out 3).trans (rfl : _ = some (Value.int .i64 a.n)); replace t4 := (blk_cell HNB.out 4).trans (rfl : _ = some (Value.slice A4 a.data.length c4)); clear hrc hkb hb hx hbn hnb))
          all_goals
            go_wp2_with (first | (go_at_call 72; refine (kept43_any w.heap.size r cc d mN mp _ _ _ _ HX.out.cs HOK2.out (by omega) HX.out.rc).mono ?_; rintro e w8 ⟨rfl, hb⟩; have hx := HX.out.below hb; have hbn := below_step HB.out hb; clear HX HB; have HX := Aside0.mk hx; have HB := Aside0.mk hbn; clear hb hx hbn))
            go_roundg (40 - (i + 1))
            case measure => have := hq.out; omega
            case rel => exact ⟨i + 1, _, _, _, by go_num, by omega, by omega, ⟨rfl⟩, ⟨HOK2.out.up (by omega)⟩, ⟨HX.out.up (by omega) (by omega)⟩, HB⟩
        · have e1 : (a.kd == 1) = false := beq_eq_false_iff_ne.2 hk1
          clear hk1
          by_cases hk2 : a.kd = 2
          · have e2 : (a.kd == 2) = true := beq_iff_eq.2 hk2
            clear hk2
            obtain ⟨mm, hmm, hmw⟩ := at_mod a.at_
            have HMW := Aside0.mk hmw
            clear hmw
            go_wp2_with (first | (go_at_call 64; refine (wlight_yes a.kd a.at_ a.n a.q A4 a.data.length c4 _ hl1 HL2.out HL3.out).mono ?_; rintro e w1 ⟨rfl, hb⟩; have hba := (below_alloc (Below.refl wr.heap.size wr) (.cells #[.int .i64 a.kd, .bool a.q, .int .i64 a.at_, .int .i64 a.n, .slice A4 a.data.length c4] 105)); have hbb := below_step hba hb; have HNB := Aside0.mk (blk_below (blk_new wr (.cells #[.int .i64 a.kd, .bool a.q, .int .i64 a.at_, .int .i64 a.n, .slice A4 a.data.length c4] 105)) hb); have hx := HX.out.below hbb; have hbn := below_step HB.out hbb; clear HX HB; have HX := Aside0.mk hx; have HB := Aside0.mk hbn; have t0 := (blk_cell HNB.out 0).trans (rfl : _ = some (Value.int .i64 a.kd)); have t1 := (blk_cell HNB.out 1).trans (rfl : _ = some (Value.bool a.q)); have t2 := (blk_cell HNB.out 2).trans (rfl : _ = some (Value.int .i64 a.at_)); have t3 := (blk_cell HNB.out 3).trans (rfl : _ = some (Value.int .i64 a.n)); have t4 := (blk_cell HNB.out 4).trans (rfl : _ = some (Value.slice A4 a.data.length c4)); clear hba hbb hx hbn hb))
            clear r0 r1 r2 r3 r4
            have HOK2 := HOK
            go_region_held3 (fun w' => w'.cell? ⟨wr.heap.size, 0, none⟩ = some (.int .i64 a.kd) ∧ w'.cell? ⟨wr.heap.size, 1, none⟩ = some (.bool a.q) ∧ w'.cell? ⟨wr.heap.size, 2, none⟩ = some (.int .i64 a.at_) ∧ w'.cell? ⟨wr.heap.size, 3, none⟩ = some (.int .i64 a.n) ∧ w'.cell? ⟨wr.heap.size, 4, none⟩ = some (.slice A4 a.data.length c4)) (first | with_reducible exact ⟨t0, t1, t2, t3, t4⟩ | exact ⟨t0, t1, t2, t3, t4⟩) (first
              | (go_at_call 66; refine (wname_any a.kd a.at_ a.n a.q A4 a.data.length c4 _).mono ?_; rintro e wn ⟨rfl, hb⟩; have hbw := below_then (below_drew1 (Below.refl _ _)) (Nat.le_refl _) hb; have hnb := blk_below HNB.out hbw; have hx := HX.out.below hbw; have hbn := below_step HB.out hbw; clear HX HB HNB; have HX := Aside0.mk hx; have HB := Aside0.mk hbn; have HNB := Aside0.mk hnb; replace t0 := (blk_cell HNB.out 0).trans (rfl : _ = some (Value.int .i64 a.kd)); replace t1 := (blk_cell HNB.out 1).trans (rfl : _ = some (Value.bool a.q)); replace t2 := (blk_cell HNB.out 2).trans (rfl : _ = some (Value.int .i64 a.at_)); replace t3 := (blk_cell HNB.out 3).trans (rfl : _ = some (Value.int .i64 a.n)); replace t4 := (blk_cell HNB.out 4).trans (rfl : _ = some (Value.slice A4 a.data.length c4)); clear hb hbw hx hbn hnb)
              | (go_at_call 66; refine (wname_any a.kd a.at_ a.n a.q A4 a.data.length c4 _).mono ?_; rintro e wn ⟨rfl, hb⟩; have hnb := blk_below HNB.out hb; have hx := HX.out.below hb; have hbn := below_step HB.out hb; clear HX HB HNB; have HX := Aside0.mk hx; have HB := Aside0.mk hbn; have HNB := Aside0.mk hnb; replace t0 := (blk_cell HNB.out 0).trans (rfl : _ = some (Value.int .i64 a.kd)); replace t1 := (blk_cell HNB.out 1).trans (rfl : _ = some (Value.bool a.q)); replace t2 := (blk_cell HNB.out 2).trans (rfl : _ = some (Value.int .i64 a.at_)); replace t3 := (blk_cell HNB.out 3).trans (rfl : _ = some (Value.int .i64 a.n)); replace t4 := (blk_cell HNB.out 4).trans (rfl : _ = some (Value.slice A4 a.data.length c4)); clear hb hx hbn hnb)
              | (go_at_call 68; rw [HMW.out]; refine (wd_write HX.out.wd (by omega) (by omega) HX.out.hr a.q (fun _ => rfl) mm A4 c4 a.data (by omega) hnc (fun W' hb => HST.out W' (HB.out.trans hb))).mono ?_; rintro e w3 ⟨rfl, na', nb', hd, hkm, hb⟩; have hx := HX.out.wrote hd hkm; have hnb := (hkm.keep _ _ _ HNB.out (by decide)).trans HNB.out; have hbn := HB.out.trans hb; clear HX HB HNB; have HX := Aside0.mk hx; have HB := Aside0.mk hbn; have HNB := Aside0.mk hnb; replace t0 := (blk_cell HNB.out 0).trans (rfl : _ = some (Value.int .i64 a.kd)); replace t1 := (blk_cell HNB.out 1).trans (rfl : _ = some (Value.bool a.q)); replace t2 := (blk_cell HNB.out 2).trans (rfl : _ = some (Value.int .i64 a.at_)); replace t3 := (blk_cell HNB.out 3).trans (rfl : _ = some (Value.int .i64 a.n)); replace t4 := (blk_cell HNB.out 4).trans (rfl : _ = some (Value.slice A4 a.data.length c4)); clear hd hkm hb hx hbn hnb))
            all_goals
              go_wp2_with (first | (go_at_call 72; refine (kept43_any w.heap.size r cc d mN mp _ _ _ _ HX.out.cs HOK2.out (by omega) HX.out.rc).mono ?_; rintro e w8 ⟨rfl, hb⟩; have hx := HX.out.below hb; have hbn := below_step HB.out hb; clear HX HB; have HX := Aside0.mk hx; have HB := Aside0.mk hbn; clear hb hx hbn))
              go_roundg (40 - (i + 1))
              case measure => have := hq.out; omega
              case rel => exact ⟨i + 1, _, _, _, by go_num, by omega, by omega, ⟨rfl⟩, ⟨HOK2.out.up (by omega)⟩, ⟨HX.out.up (by omega) (by omega)⟩, HB⟩
          · have e2 : (a.kd == 2) = false := beq_eq_false_iff_ne.2 hk2
            clear hk2
            by_cases hgd : 0 ≤ a.at_ ∧ 0 ≤ a.n ∧ a.at_ ≤ 1048576 ∧ a.n ≤ 1048576
            · obtain ⟨ha0, hn0, ha1, hn1⟩ := hgd
              have hn3 : a.n ≤ 3000 := by have := HL2'.out; omega
              obtain ⟨nw, hnw⟩ : ∃ nw, nw = (if a.q then nb else na) := ⟨_, rfl⟩
              obtain ⟨s2, rr, hrd⟩ : ∃ s2 rr, readN mN nw (nmOf a.q) s a.at_.toNat a.n.toNat = (s2, rr) := ⟨_, _, rfl⟩
              have hok2 := (readN_ok (now := nw) (nm := nmOf a.q) (nmOf_sz a.q) HOK.out (at_ := a.at_.toNat) (n := a.n.toNat) (by omega)).1
              have hrl := (readN_ok (now := nw) (nm := nmOf a.q) (nmOf_sz a.q) HOK.out (at_ := a.at_.toNat) (n := a.n.toNat) (by omega)).2
              rw [hrd] at hok2 hrl
              simp only at hok2 hrl
              have HOK2 := Aside0.mk hok2
              have HNW := Aside0.mk hnw
              have HRD := Aside0.mk hrd
              have dd1 := decide_eq_false (show ¬ a.at_ < 0 by omega)
              have dd2 := decide_eq_false (show ¬ a.n < 0 by omega)
              have dd3 := decide_eq_false (show ¬ 1048576 < a.at_ by omega)
              have dd4 := decide_eq_false (show ¬ 1048576 < a.n by omega)
              have HNL := Aside0.mk (fun W (hd : WD W w.heap.size d true na nb 1000 3000 (602 * i) B0) => (show nw.length ≤ 3000 by rw [hnw]; exact hd.len a.q (fun _ => rfl)))
              have HRR := Aside0.mk (show ∀ (W : World) (N1 : Nat), WX W w.heap.size cc d r mN mp N1 s2 s true na nb 1000 3000 (602 * i) B0 → ∀ (An : Option Addr) (cn b1 : Nat), Kd.R (Kd.int .u8) 5 W b1 (fun _ => True) (.slice An nw.length cn) nw → Calls Try.prog 71 #[.pointer (some ⟨r, 0, none⟩), .string (nmOf a.q), .int .i64 a.at_, .int .i64 a.n, .slice An nw.length cn] W fun e w' => ∃ A' c', e = .returned (.slice A' rr.length c') ∧ Kd.C (Kd.int .u8) w' A' rr.length rr ∧ WX w' w.heap.size cc d r mN mp N1 s2 s2 true na nb 1000 3000 (602 * i) B0 ∧ KeepBut W w' r none ∧ Below w.heap.size W w' from fun W N1 hX An cn b1 hn => by
                have h := wx_rreadI hX HOK.out a.q (fun _ => rfl) a.at_ a.n ha0 hn0 ha1 hn1 (by omega) An cn b1 (by rw [← hnw]; exact hn)
                rw [← hnw, hrd] at h
                exact h)
              clear hok2 hnw hrd
              go_wp2_with (first | (go_at_call 64; refine (wlight_yes a.kd a.at_ a.n a.q A4 a.data.length c4 _ hl1 HL2.out HL3.out).mono ?_; rintro e w1 ⟨rfl, hb⟩; have hba := (below_alloc (Below.refl wr.heap.size wr) (.cells #[.int .i64 a.kd, .bool a.q, .int .i64 a.at_, .int .i64 a.n, .slice A4 a.data.length c4] 105)); have hbb := below_step hba hb; have HNB := Aside0.mk (blk_below (blk_new wr (.cells #[.int .i64 a.kd, .bool a.q, .int .i64 a.at_, .int .i64 a.n, .slice A4 a.data.length c4] 105)) hb); have hx := HX.out.below hbb; have hbn := below_step HB.out hbb; clear HX HB; have HX := Aside0.mk hx; have HB := Aside0.mk hbn; have t0 := (blk_cell HNB.out 0).trans (rfl : _ = some (Value.int .i64 a.kd)); have t1 := (blk_cell HNB.out 1).trans (rfl : _ = some (Value.bool a.q)); have t2 := (blk_cell HNB.out 2).trans (rfl : _ = some (Value.int .i64 a.at_)); have t3 := (blk_cell HNB.out 3).trans (rfl : _ = some (Value.int .i64 a.n)); have t4 := (blk_cell HNB.out 4).trans (rfl : _ = some (Value.slice A4 a.data.length c4)); clear hba hbb hx hbn hb))
              clear r0 r1 r2 r3 r4
              go_region_held3 (fun w' => w'.cell? ⟨wr.heap.size, 0, none⟩ = some (.int .i64 a.kd) ∧ w'.cell? ⟨wr.heap.size, 1, none⟩ = some (.bool a.q) ∧ w'.cell? ⟨wr.heap.size, 2, none⟩ = some (.int .i64 a.at_) ∧ w'.cell? ⟨wr.heap.size, 3, none⟩ = some (.int .i64 a.n) ∧ w'.cell? ⟨wr.heap.size, 4, none⟩ = some (.slice A4 a.data.length c4)) (first | with_reducible exact ⟨t0, t1, t2, t3, t4⟩ | exact ⟨t0, t1, t2, t3, t4⟩) (first
                | (go_at_call 66; refine (wname_any a.kd a.at_ a.n a.q A4 a.data.length c4 _).mono ?_; rintro e wn ⟨rfl, hb⟩; have hbw := below_then (below_drew1 (Below.refl _ _)) (Nat.le_refl _) hb; have hnb := blk_below HNB.out hbw; have hx := HX.out.below hbw; have hbn := below_step HB.out hbw; clear HX HB HNB; have HX := Aside0.mk hx; have HB := Aside0.mk hbn; have HNB := Aside0.mk hnb; replace t0 := (blk_cell HNB.out 0).trans (rfl : _ = some (Value.int .i64 a.kd)); replace t1 := (blk_cell HNB.out 1).trans (rfl : _ = some (Value.bool a.q)); replace t2 := (blk_cell HNB.out 2).trans (rfl : _ = some (Value.int .i64 a.at_)); replace t3 := (blk_cell HNB.out 3).trans (rfl : _ = some (Value.int .i64 a.n)); replace t4 := (blk_cell HNB.out 4).trans (rfl : _ = some (Value.slice A4 a.data.length c4)); clear hb hbw hx hbn hnb)
                | (go_at_call 66; refine (wname_any a.kd a.at_ a.n a.q A4 a.data.length c4 _).mono ?_; rintro e wn ⟨rfl, hb⟩; have hnb := blk_below HNB.out hb; have hx := HX.out.below hb; have hbn := below_step HB.out hb; clear HX HB HNB; have HX := Aside0.mk hx; have HB := Aside0.mk hbn; have HNB := Aside0.mk hnb; replace t0 := (blk_cell HNB.out 0).trans (rfl : _ = some (Value.int .i64 a.kd)); replace t1 := (blk_cell HNB.out 1).trans (rfl : _ = some (Value.bool a.q)); replace t2 := (blk_cell HNB.out 2).trans (rfl : _ = some (Value.int .i64 a.at_)); replace t3 := (blk_cell HNB.out 3).trans (rfl : _ = some (Value.int .i64 a.n)); replace t4 := (blk_cell HNB.out 4).trans (rfl : _ = some (Value.slice A4 a.data.length c4)); clear hb hx hbn hnb)
                | (go_at_call 69; refine (wx_readI HX.out HOK.out a.q (fun _ => rfl) a.at_ a.n ha0 hn0 ha1 hn1 (by omega)).mono ?_; rw [← HNW.out, HRD.out]; rintro e w3 ⟨A8, c8, rfl, hv, hx, hkn, hb⟩; have hnb := (hkn.keep _ _ _ HNB.out (by decide) (by decide)).trans HNB.out; have hbn := HB.out.trans hb; clear HX HB HNB; have HX := Aside0.mk hx; have HB := Aside0.mk hbn; have HNB := Aside0.mk hnb; have HV := Aside0.mk hv; replace t0 := (blk_cell HNB.out 0).trans (rfl : _ = some (Value.int .i64 a.kd)); replace t1 := (blk_cell HNB.out 1).trans (rfl : _ = some (Value.bool a.q)); replace t2 := (blk_cell HNB.out 2).trans (rfl : _ = some (Value.int .i64 a.at_)); replace t3 := (blk_cell HNB.out 3).trans (rfl : _ = some (Value.int .i64 a.n)); replace t4 := (blk_cell HNB.out 4).trans (rfl : _ = some (Value.slice A4 a.data.length c4)); clear hv hkn hb hx hbn hnb))
              all_goals
                go_wp2_with (first
                  | (go_at_call 66; refine (wname_any a.kd a.at_ a.n a.q A4 a.data.length c4 _).mono ?_; rintro e wn ⟨rfl, hb⟩; have hnb := blk_below HNB.out hb; have hx := HX.out.below hb; have hbn := below_step HB.out hb; have hv := Kd.R_below HV.out hb; clear HX HB HNB HV; have HX := Aside0.mk hx; have HB := Aside0.mk hbn; have HNB := Aside0.mk hnb; have HV := Aside0.mk hv; replace t0 := (blk_cell HNB.out 0).trans (rfl : _ = some (Value.int .i64 a.kd)); replace t1 := (blk_cell HNB.out 1).trans (rfl : _ = some (Value.bool a.q)); replace t2 := (blk_cell HNB.out 2).trans (rfl : _ = some (Value.int .i64 a.at_)); replace t3 := (blk_cell HNB.out 3).trans (rfl : _ = some (Value.int .i64 a.n)); replace t4 := (blk_cell HNB.out 4).trans (rfl : _ = some (Value.slice A4 a.data.length c4)); clear hb hx hbn hnb hv)
                  | (go_at_call 70; refine (wd_read HX.out.wd (by omega) a.q (fun _ => rfl) 0 1048576).mono ?_; rw [← HNW.out, readL_whole nw (by have := HNL.out _ HX.out.wd; omega)]; rintro e w4 ⟨v4, rfl, hn, hb⟩; obtain ⟨An, cn, rfl⟩ := Kd.R_slice hn; have hnb := blk_below HNB.out hb; have hx := HX.out.below hb; have hbn := below_step HB.out hb; have hv := Kd.R_below HV.out hb; obtain ⟨b1, hb1⟩ : ∃ b1, Kd.R (Kd.int .u8) 5 w4 b1 (fun _ => True) (.slice An nw.length cn) nw := ⟨_, hn⟩; clear HX HB HNB HV hn; have HX := Aside0.mk hx; have HB := Aside0.mk hbn; have HNB := Aside0.mk hnb; have HV := Aside0.mk hv; have HN := Aside0.mk hb1; replace t0 := (blk_cell HNB.out 0).trans (rfl : _ = some (Value.int .i64 a.kd)); replace t1 := (blk_cell HNB.out 1).trans (rfl : _ = some (Value.bool a.q)); replace t2 := (blk_cell HNB.out 2).trans (rfl : _ = some (Value.int .i64 a.at_)); replace t3 := (blk_cell HNB.out 3).trans (rfl : _ = some (Value.int .i64 a.n)); replace t4 := (blk_cell HNB.out 4).trans (rfl : _ = some (Value.slice A4 a.data.length c4)); clear hb hx hbn hnb hv hb1))
                go_region_held3 (fun w' => w'.cell? ⟨wr.heap.size, 0, none⟩ = some (.int .i64 a.kd) ∧ w'.cell? ⟨wr.heap.size, 1, none⟩ = some (.bool a.q) ∧ w'.cell? ⟨wr.heap.size, 2, none⟩ = some (.int .i64 a.at_) ∧ w'.cell? ⟨wr.heap.size, 3, none⟩ = some (.int .i64 a.n) ∧ w'.cell? ⟨wr.heap.size, 4, none⟩ = some (.slice A4 a.data.length c4)) (first | with_reducible exact ⟨t0, t1, t2, t3, t4⟩ | exact ⟨t0, t1, t2, t3, t4⟩) (first
                  | (go_at_call 66; refine (wname_any a.kd a.at_ a.n a.q A4 a.data.length c4 _).mono ?_; rintro e wn ⟨rfl, hb⟩; have hbw := below_then (below_drew1 (Below.refl _ _)) (Nat.le_refl _) hb; have hnb := blk_below HNB.out hbw; have hx := HX.out.below hbw; have hbn := below_step HB.out hbw; have hv := Kd.R_below HV.out hbw; have hn := Kd.R_below HN.out hbw; clear HX HB HNB HV HN; have HX := Aside0.mk hx; have HB := Aside0.mk hbn; have HNB := Aside0.mk hnb; have HV := Aside0.mk hv; have HN := Aside0.mk hn; replace t0 := (blk_cell HNB.out 0).trans (rfl : _ = some (Value.int .i64 a.kd)); replace t1 := (blk_cell HNB.out 1).trans (rfl : _ = some (Value.bool a.q)); replace t2 := (blk_cell HNB.out 2).trans (rfl : _ = some (Value.int .i64 a.at_)); replace t3 := (blk_cell HNB.out 3).trans (rfl : _ = some (Value.int .i64 a.n)); replace t4 := (blk_cell HNB.out 4).trans (rfl : _ = some (Value.slice A4 a.data.length c4)); clear hb hbw hx hbn hnb hv hn)
                  | (go_at_call 66; refine (wname_any a.kd a.at_ a.n a.q A4 a.data.length c4 _).mono ?_; rintro e wn ⟨rfl, hb⟩; have hnb := blk_below HNB.out hb; have hx := HX.out.below hb; have hbn := below_step HB.out hb; have hv := Kd.R_below HV.out hb; have hn := Kd.R_below HN.out hb; clear HX HB HNB HV HN; have HX := Aside0.mk hx; have HB := Aside0.mk hbn; have HNB := Aside0.mk hnb; have HV := Aside0.mk hv; have HN := Aside0.mk hn; replace t0 := (blk_cell HNB.out 0).trans (rfl : _ = some (Value.int .i64 a.kd)); replace t1 := (blk_cell HNB.out 1).trans (rfl : _ = some (Value.bool a.q)); replace t2 := (blk_cell HNB.out 2).trans (rfl : _ = some (Value.int .i64 a.at_)); replace t3 := (blk_cell HNB.out 3).trans (rfl : _ = some (Value.int .i64 a.n)); replace t4 := (blk_cell HNB.out 4).trans (rfl : _ = some (Value.slice A4 a.data.length c4)); clear hb hx hbn hnb hv hn)
                  | (go_at_call 71; refine (HRR.out _ _ HX.out An cn b1 HN.out).mono ?_; rintro e w5 ⟨A9, c9, rfl, hc9, hx, hkb, hb⟩; obtain ⟨cs9, hb9⟩ := HX.out.rc.blk; have hnb := (hkb.2 _ (blk_lt HNB.out) (blk_ne HNB.out hb9 (by decide)) (by simp)).trans HNB.out; have hv := RU_keep HV.out hb9 hkb; have hbn := HB.out.trans hb; clear HX HB HNB HV hb9; have HX := Aside0.mk hx; have HB := Aside0.mk hbn; have HNB := Aside0.mk hnb; have HC8 := Aside0.mk (Kd.R_reads' hv).2.2; have HC9 := Aside0.mk hc9; replace t0 := (blk_cell HNB.out 0).trans (rfl : _ = some (Value.int .i64 a.kd)); replace t1 := (blk_cell HNB.out 1).trans (rfl : _ = some (Value.bool a.q)); replace t2 := (blk_cell HNB.out 2).trans (rfl : _ = some (Value.int .i64 a.at_)); replace t3 := (blk_cell HNB.out 3).trans (rfl : _ = some (Value.int .i64 a.n)); replace t4 := (blk_cell HNB.out 4).trans (rfl : _ = some (Value.slice A4 a.data.length c4)); clear hkb hb hx hbn hnb hc9 hv)
                  | (go_at_call 20; refine (same_any A8 A9 _ _ c8 c9 _ _ HC8.out HC9.out).mono ?_; rintro e w6 ⟨rfl, rfl⟩))
                go_wp2_with (first | (go_at_call 72; refine (kept43_any w.heap.size r cc d mN mp _ _ _ _ HX.out.cs HOK2.out (by omega) HX.out.rc).mono ?_; rintro e w8 ⟨rfl, hb⟩; have hx := HX.out.below hb; have hbn := below_step HB.out hb; clear HX HB; have HX := Aside0.mk hx; have HB := Aside0.mk hbn; clear hb hx hbn))
                go_roundg (40 - (i + 1))
                case measure => have := hq.out; omega
                case rel => exact ⟨i + 1, _, _, _, by go_num, by omega, by omega, ⟨rfl⟩, ⟨HOK2.out.up (by omega)⟩, ⟨HX.out.up (by omega) (by omega)⟩, HB⟩
            · have HBD := Aside0.mk (show a.at_ < 0 ∨ ¬ a.at_ < 0 ∧ a.n < 0 ∨ ¬ a.at_ < 0 ∧ ¬ a.n < 0 ∧ 1048576 < a.at_ ∨ ¬ a.at_ < 0 ∧ ¬ a.n < 0 ∧ ¬ 1048576 < a.at_ ∧ 1048576 < a.n by omega)
              clear hgd
              rcases HBD.out with b1 | ⟨b1, b2⟩ | ⟨b1, b2, b3⟩ | ⟨b1, b2, b3, b4⟩
              · have dd1 := decide_eq_true b1
                clear b1
                go_wp2_with (first | (go_at_call 64; refine (wlight_yes a.kd a.at_ a.n a.q A4 a.data.length c4 _ hl1 HL2.out HL3.out).mono ?_; rintro e w1 ⟨rfl, hb⟩; have hba := (below_alloc (Below.refl wr.heap.size wr) (.cells #[.int .i64 a.kd, .bool a.q, .int .i64 a.at_, .int .i64 a.n, .slice A4 a.data.length c4] 105)); have hbb := below_step hba hb; have HNB := Aside0.mk (blk_below (blk_new wr (.cells #[.int .i64 a.kd, .bool a.q, .int .i64 a.at_, .int .i64 a.n, .slice A4 a.data.length c4] 105)) hb); have hx := HX.out.below hbb; have hbn := below_step HB.out hbb; clear HX HB; have HX := Aside0.mk hx; have HB := Aside0.mk hbn; have t0 := (blk_cell HNB.out 0).trans (rfl : _ = some (Value.int .i64 a.kd)); have t1 := (blk_cell HNB.out 1).trans (rfl : _ = some (Value.bool a.q)); have t2 := (blk_cell HNB.out 2).trans (rfl : _ = some (Value.int .i64 a.at_)); have t3 := (blk_cell HNB.out 3).trans (rfl : _ = some (Value.int .i64 a.n)); have t4 := (blk_cell HNB.out 4).trans (rfl : _ = some (Value.slice A4 a.data.length c4)); clear hba hbb hx hbn hb))
                clear r0 r1 r2 r3 r4
                go_region_held3 (fun w' => w'.cell? ⟨wr.heap.size, 0, none⟩ = some (.int .i64 a.kd) ∧ w'.cell? ⟨wr.heap.size, 1, none⟩ = some (.bool a.q) ∧ w'.cell? ⟨wr.heap.size, 2, none⟩ = some (.int .i64 a.at_) ∧ w'.cell? ⟨wr.heap.size, 3, none⟩ = some (.int .i64 a.n) ∧ w'.cell? ⟨wr.heap.size, 4, none⟩ = some (.slice A4 a.data.length c4)) (first | with_reducible exact ⟨t0, t1, t2, t3, t4⟩ | exact ⟨t0, t1, t2, t3, t4⟩) (first
                  | (go_at_call 66; refine (wname_any a.kd a.at_ a.n a.q A4 a.data.length c4 _).mono ?_; rintro e wn ⟨rfl, hb⟩; have hbw := below_then (below_drew1 (Below.refl _ _)) (Nat.le_refl _) hb; have hnb := blk_below HNB.out hbw; have hx := HX.out.below hbw; have hbn := below_step HB.out hbw; clear HX HB HNB; have HX := Aside0.mk hx; have HB := Aside0.mk hbn; have HNB := Aside0.mk hnb; replace t0 := (blk_cell HNB.out 0).trans (rfl : _ = some (Value.int .i64 a.kd)); replace t1 := (blk_cell HNB.out 1).trans (rfl : _ = some (Value.bool a.q)); replace t2 := (blk_cell HNB.out 2).trans (rfl : _ = some (Value.int .i64 a.at_)); replace t3 := (blk_cell HNB.out 3).trans (rfl : _ = some (Value.int .i64 a.n)); replace t4 := (blk_cell HNB.out 4).trans (rfl : _ = some (Value.slice A4 a.data.length c4)); clear hb hbw hx hbn hnb)
                  | (go_at_call 66; refine (wname_any a.kd a.at_ a.n a.q A4 a.data.length c4 _).mono ?_; rintro e wn ⟨rfl, hb⟩; have hnb := blk_below HNB.out hb; have hx := HX.out.below hb; have hbn := below_step HB.out hb; clear HX HB HNB; have HX := Aside0.mk hx; have HB := Aside0.mk hbn; have HNB := Aside0.mk hnb; replace t0 := (blk_cell HNB.out 0).trans (rfl : _ = some (Value.int .i64 a.kd)); replace t1 := (blk_cell HNB.out 1).trans (rfl : _ = some (Value.bool a.q)); replace t2 := (blk_cell HNB.out 2).trans (rfl : _ = some (Value.int .i64 a.at_)); replace t3 := (blk_cell HNB.out 3).trans (rfl : _ = some (Value.int .i64 a.n)); replace t4 := (blk_cell HNB.out 4).trans (rfl : _ = some (Value.slice A4 a.data.length c4)); clear hb hx hbn hnb)
                  | (go_at_call 69; refine (wread_bad (fun _ => True) w.heap.size cc d mN mp _ s _ HX.out.cs (nmOf a.q) a.at_ a.n (by have := HBD.out; omega)).mono ?_; rintro e w3 ⟨rfl, rfl⟩))
                all_goals
                  go_wp2_with fail
                  go_roundg (40 - (i + 1))
                  case measure => have := hq.out; omega
                  case rel => exact ⟨i + 1, _, _, _, by go_num, by omega, by omega, ⟨rfl⟩, ⟨HOK.out.up (by omega)⟩, ⟨HX.out.up (by omega) (by omega)⟩, HB⟩
              · have dd1 := decide_eq_false b1
                have dd2 := decide_eq_true b2
                clear b1 b2
                go_wp2_with (first | (go_at_call 64; refine (wlight_yes a.kd a.at_ a.n a.q A4 a.data.length c4 _ hl1 HL2.out HL3.out).mono ?_; rintro e w1 ⟨rfl, hb⟩; have hba := (below_alloc (Below.refl wr.heap.size wr) (.cells #[.int .i64 a.kd, .bool a.q, .int .i64 a.at_, .int .i64 a.n, .slice A4 a.data.length c4] 105)); have hbb := below_step hba hb; have HNB := Aside0.mk (blk_below (blk_new wr (.cells #[.int .i64 a.kd, .bool a.q, .int .i64 a.at_, .int .i64 a.n, .slice A4 a.data.length c4] 105)) hb); have hx := HX.out.below hbb; have hbn := below_step HB.out hbb; clear HX HB; have HX := Aside0.mk hx; have HB := Aside0.mk hbn; have t0 := (blk_cell HNB.out 0).trans (rfl : _ = some (Value.int .i64 a.kd)); have t1 := (blk_cell HNB.out 1).trans (rfl : _ = some (Value.bool a.q)); have t2 := (blk_cell HNB.out 2).trans (rfl : _ = some (Value.int .i64 a.at_)); have t3 := (blk_cell HNB.out 3).trans (rfl : _ = some (Value.int .i64 a.n)); have t4 := (blk_cell HNB.out 4).trans (rfl : _ = some (Value.slice A4 a.data.length c4)); clear hba hbb hx hbn hb))
                clear r0 r1 r2 r3 r4
                go_region_held3 (fun w' => w'.cell? ⟨wr.heap.size, 0, none⟩ = some (.int .i64 a.kd) ∧ w'.cell? ⟨wr.heap.size, 1, none⟩ = some (.bool a.q) ∧ w'.cell? ⟨wr.heap.size, 2, none⟩ = some (.int .i64 a.at_) ∧ w'.cell? ⟨wr.heap.size, 3, none⟩ = some (.int .i64 a.n) ∧ w'.cell? ⟨wr.heap.size, 4, none⟩ = some (.slice A4 a.data.length c4)) (first | with_reducible exact ⟨t0, t1, t2, t3, t4⟩ | exact ⟨t0, t1, t2, t3, t4⟩) (first
                  | (go_at_call 66; refine (wname_any a.kd a.at_ a.n a.q A4 a.data.length c4 _).mono ?_; rintro e wn ⟨rfl, hb⟩; have hbw := below_then (below_drew1 (Below.refl _ _)) (Nat.le_refl _) hb; have hnb := blk_below HNB.out hbw; have hx := HX.out.below hbw; have hbn := below_step HB.out hbw; clear HX HB HNB; have HX := Aside0.mk hx; have HB := Aside0.mk hbn; have HNB := Aside0.mk hnb; replace t0 := (blk_cell HNB.out 0).trans (rfl : _ = some (Value.int .i64 a.kd)); replace t1 := (blk_cell HNB.out 1).trans (rfl : _ = some (Value.bool a.q)); replace t2 := (blk_cell HNB.out 2).trans (rfl : _ = some (Value.int .i64 a.at_)); replace t3 := (blk_cell HNB.out 3).trans (rfl : _ = some (Value.int .i64 a.n)); replace t4 := (blk_cell HNB.out 4).trans (rfl : _ = some (Value.slice A4 a.data.length c4)); clear hb hbw hx hbn hnb)
                  | (go_at_call 66; refine (wname_any a.kd a.at_ a.n a.q A4 a.data.length c4 _).mono ?_; rintro e wn ⟨rfl, hb⟩; have hnb := blk_below HNB.out hb; have hx := HX.out.below hb; have hbn := below_step HB.out hb; clear HX HB HNB; have HX := Aside0.mk hx; have HB := Aside0.mk hbn; have HNB := Aside0.mk hnb; replace t0 := (blk_cell HNB.out 0).trans (rfl : _ = some (Value.int .i64 a.kd)); replace t1 := (blk_cell HNB.out 1).trans (rfl : _ = some (Value.bool a.q)); replace t2 := (blk_cell HNB.out 2).trans (rfl : _ = some (Value.int .i64 a.at_)); replace t3 := (blk_cell HNB.out 3).trans (rfl : _ = some (Value.int .i64 a.n)); replace t4 := (blk_cell HNB.out 4).trans (rfl : _ = some (Value.slice A4 a.data.length c4)); clear hb hx hbn hnb)
                  | (go_at_call 69; refine (wread_bad (fun _ => True) w.heap.size cc d mN mp _ s _ HX.out.cs (nmOf a.q) a.at_ a.n (by have := HBD.out; omega)).mono ?_; rintro e w3 ⟨rfl, rfl⟩))
                all_goals
                  go_wp2_with fail
                  go_roundg (40 - (i + 1))
                  case measure => have := hq.out; omega
                  case rel => exact ⟨i + 1, _, _, _, by go_num, by omega, by omega, ⟨rfl⟩, ⟨HOK.out.up (by omega)⟩, ⟨HX.out.up (by omega) (by omega)⟩, HB⟩
              · have dd1 := decide_eq_false b1
                have dd2 := decide_eq_false b2
                have dd3 := decide_eq_true b3
                clear b1 b2 b3
                go_wp2_with (first | (go_at_call 64; refine (wlight_yes a.kd a.at_ a.n a.q A4 a.data.length c4 _ hl1 HL2.out HL3.out).mono ?_; rintro e w1 ⟨rfl, hb⟩; have hba := (below_alloc (Below.refl wr.heap.size wr) (.cells #[.int .i64 a.kd, .bool a.q, .int .i64 a.at_, .int .i64 a.n, .slice A4 a.data.length c4] 105)); have hbb := below_step hba hb; have HNB := Aside0.mk (blk_below (blk_new wr (.cells #[.int .i64 a.kd, .bool a.q, .int .i64 a.at_, .int .i64 a.n, .slice A4 a.data.length c4] 105)) hb); have hx := HX.out.below hbb; have hbn := below_step HB.out hbb; clear HX HB; have HX := Aside0.mk hx; have HB := Aside0.mk hbn; have t0 := (blk_cell HNB.out 0).trans (rfl : _ = some (Value.int .i64 a.kd)); have t1 := (blk_cell HNB.out 1).trans (rfl : _ = some (Value.bool a.q)); have t2 := (blk_cell HNB.out 2).trans (rfl : _ = some (Value.int .i64 a.at_)); have t3 := (blk_cell HNB.out 3).trans (rfl : _ = some (Value.int .i64 a.n)); have t4 := (blk_cell HNB.out 4).trans (rfl : _ = some (Value.slice A4 a.data.length c4)); clear hba hbb hx hbn hb))
                clear r0 r1 r2 r3 r4
                go_region_held3 (fun w' => w'.cell? ⟨wr.heap.size, 0, none⟩ = some (.int .i64 a.kd) ∧ w'.cell? ⟨wr.heap.size, 1, none⟩ = some (.bool a.q) ∧ w'.cell? ⟨wr.heap.size, 2, none⟩ = some (.int .i64 a.at_) ∧ w'.cell? ⟨wr.heap.size, 3, none⟩ = some (.int .i64 a.n) ∧ w'.cell? ⟨wr.heap.size, 4, none⟩ = some (.slice A4 a.data.length c4)) (first | with_reducible exact ⟨t0, t1, t2, t3, t4⟩ | exact ⟨t0, t1, t2, t3, t4⟩) (first
                  | (go_at_call 66; refine (wname_any a.kd a.at_ a.n a.q A4 a.data.length c4 _).mono ?_; rintro e wn ⟨rfl, hb⟩; have hbw := below_then (below_drew1 (Below.refl _ _)) (Nat.le_refl _) hb; have hnb := blk_below HNB.out hbw; have hx := HX.out.below hbw; have hbn := below_step HB.out hbw; clear HX HB HNB; have HX := Aside0.mk hx; have HB := Aside0.mk hbn; have HNB := Aside0.mk hnb; replace t0 := (blk_cell HNB.out 0).trans (rfl : _ = some (Value.int .i64 a.kd)); replace t1 := (blk_cell HNB.out 1).trans (rfl : _ = some (Value.bool a.q)); replace t2 := (blk_cell HNB.out 2).trans (rfl : _ = some (Value.int .i64 a.at_)); replace t3 := (blk_cell HNB.out 3).trans (rfl : _ = some (Value.int .i64 a.n)); replace t4 := (blk_cell HNB.out 4).trans (rfl : _ = some (Value.slice A4 a.data.length c4)); clear hb hbw hx hbn hnb)
                  | (go_at_call 66; refine (wname_any a.kd a.at_ a.n a.q A4 a.data.length c4 _).mono ?_; rintro e wn ⟨rfl, hb⟩; have hnb := blk_below HNB.out hb; have hx := HX.out.below hb; have hbn := below_step HB.out hb; clear HX HB HNB; have HX := Aside0.mk hx; have HB := Aside0.mk hbn; have HNB := Aside0.mk hnb; replace t0 := (blk_cell HNB.out 0).trans (rfl : _ = some (Value.int .i64 a.kd)); replace t1 := (blk_cell HNB.out 1).trans (rfl : _ = some (Value.bool a.q)); replace t2 := (blk_cell HNB.out 2).trans (rfl : _ = some (Value.int .i64 a.at_)); replace t3 := (blk_cell HNB.out 3).trans (rfl : _ = some (Value.int .i64 a.n)); replace t4 := (blk_cell HNB.out 4).trans (rfl : _ = some (Value.slice A4 a.data.length c4)); clear hb hx hbn hnb)
                  | (go_at_call 69; refine (wread_bad (fun _ => True) w.heap.size cc d mN mp _ s _ HX.out.cs (nmOf a.q) a.at_ a.n (by have := HBD.out; omega)).mono ?_; rintro e w3 ⟨rfl, rfl⟩))
                all_goals
                  go_wp2_with fail
                  go_roundg (40 - (i + 1))
                  case measure => have := hq.out; omega
                  case rel => exact ⟨i + 1, _, _, _, by go_num, by omega, by omega, ⟨rfl⟩, ⟨HOK.out.up (by omega)⟩, ⟨HX.out.up (by omega) (by omega)⟩, HB⟩
              · have dd1 := decide_eq_false b1
                have dd2 := decide_eq_false b2
                have dd3 := decide_eq_false b3
                have dd4 := decide_eq_true b4
                clear b1 b2 b3 b4
                go_wp2_with (first | (go_at_call 64; refine (wlight_yes a.kd a.at_ a.n a.q A4 a.data.length c4 _ hl1 HL2.out HL3.out).mono ?_; rintro e w1 ⟨rfl, hb⟩; have hba := (below_alloc (Below.refl wr.heap.size wr) (.cells #[.int .i64 a.kd, .bool a.q, .int .i64 a.at_, .int .i64 a.n, .slice A4 a.data.length c4] 105)); have hbb := below_step hba hb; have HNB := Aside0.mk (blk_below (blk_new wr (.cells #[.int .i64 a.kd, .bool a.q, .int .i64 a.at_, .int .i64 a.n, .slice A4 a.data.length c4] 105)) hb); have hx := HX.out.below hbb; have hbn := below_step HB.out hbb; clear HX HB; have HX := Aside0.mk hx; have HB := Aside0.mk hbn; have t0 := (blk_cell HNB.out 0).trans (rfl : _ = some (Value.int .i64 a.kd)); have t1 := (blk_cell HNB.out 1).trans (rfl : _ = some (Value.bool a.q)); have t2 := (blk_cell HNB.out 2).trans (rfl : _ = some (Value.int .i64 a.at_)); have t3 := (blk_cell HNB.out 3).trans (rfl : _ = some (Value.int .i64 a.n)); have t4 := (blk_cell HNB.out 4).trans (rfl : _ = some (Value.slice A4 a.data.length c4)); clear hba hbb hx hbn hb))
                clear r0 r1 r2 r3 r4
                go_region_held3 (fun w' => w'.cell? ⟨wr.heap.size, 0, none⟩ = some (.int .i64 a.kd) ∧ w'.cell? ⟨wr.heap.size, 1, none⟩ = some (.bool a.q) ∧ w'.cell? ⟨wr.heap.size, 2, none⟩ = some (.int .i64 a.at_) ∧ w'.cell? ⟨wr.heap.size, 3, none⟩ = some (.int .i64 a.n) ∧ w'.cell? ⟨wr.heap.size, 4, none⟩ = some (.slice A4 a.data.length c4)) (first | with_reducible exact ⟨t0, t1, t2, t3, t4⟩ | exact ⟨t0, t1, t2, t3, t4⟩) (first
                  | (go_at_call 66; refine (wname_any a.kd a.at_ a.n a.q A4 a.data.length c4 _).mono ?_; rintro e wn ⟨rfl, hb⟩; have hbw := below_then (below_drew1 (Below.refl _ _)) (Nat.le_refl _) hb; have hnb := blk_below HNB.out hbw; have hx := HX.out.below hbw; have hbn := below_step HB.out hbw; clear HX HB HNB; have HX := Aside0.mk hx; have HB := Aside0.mk hbn; have HNB := Aside0.mk hnb; replace t0 := (blk_cell HNB.out 0).trans (rfl : _ = some (Value.int .i64 a.kd)); replace t1 := (blk_cell HNB.out 1).trans (rfl : _ = some (Value.bool a.q)); replace t2 := (blk_cell HNB.out 2).trans (rfl : _ = some (Value.int .i64 a.at_)); replace t3 := (blk_cell HNB.out 3).trans (rfl : _ = some (Value.int .i64 a.n)); replace t4 := (blk_cell HNB.out 4).trans (rfl : _ = some (Value.slice A4 a.data.length c4)); clear hb hbw hx hbn hnb)
                  | (go_at_call 66; refine (wname_any a.kd a.at_ a.n a.q A4 a.data.length c4 _).mono ?_; rintro e wn ⟨rfl, hb⟩; have hnb := blk_below HNB.out hb; have hx := HX.out.below hb; have hbn := below_step HB.out hb; clear HX HB HNB; have HX := Aside0.mk hx; have HB := Aside0.mk hbn; have HNB := Aside0.mk hnb; replace t0 := (blk_cell HNB.out 0).trans (rfl : _ = some (Value.int .i64 a.kd)); replace t1 := (blk_cell HNB.out 1).trans (rfl : _ = some (Value.bool a.q)); replace t2 := (blk_cell HNB.out 2).trans (rfl : _ = some (Value.int .i64 a.at_)); replace t3 := (blk_cell HNB.out 3).trans (rfl : _ = some (Value.int .i64 a.n)); replace t4 := (blk_cell HNB.out 4).trans (rfl : _ = some (Value.slice A4 a.data.length c4)); clear hb hx hbn hnb)
                  | (go_at_call 69; refine (wread_bad (fun _ => True) w.heap.size cc d mN mp _ s _ HX.out.cs (nmOf a.q) a.at_ a.n (by have := HBD.out; omega)).mono ?_; rintro e w3 ⟨rfl, rfl⟩))
                all_goals
                  go_wp2_with fail
                  go_roundg (40 - (i + 1))
                  case measure => have := hq.out; omega
                  case rel => exact ⟨i + 1, _, _, _, by go_num, by omega, by omega, ⟨rfl⟩, ⟨HOK.out.up (by omega)⟩, ⟨HX.out.up (by omega) (by omega)⟩, HB⟩
      · have HNL := Aside0.mk hl
        clear hl
        go_wp2_with (first
          | (go_at_call 64; refine (wlight_no a.kd a.at_ a.n a.q A4 a.data.length c4 _ HNL.out).mono ?_; rintro e w1 ⟨rfl, hb⟩; have hbn := below_step HB.out (below_step (below_alloc (Below.refl wr.heap.size wr) (.cells #[.int .i64 a.kd, .bool a.q, .int .i64 a.at_, .int .i64 a.n, .slice A4 a.data.length c4] 105)) hb); clear HB; have HB := Aside0.mk hbn; clear hbn hb)
          | (go_at_call 60; refine (awake43_any _).mono ?_; rintro e W9 ⟨rfl, hb⟩; have hbn := below_step HB.out hb; clear HB; have HB := Aside0.mk hbn; clear hb hbn))
        go_ret
        exact ⟨rfl, HB.out⟩
    · have fin : i = 40 ∧ i < xs.length ∨ i = xs.length := by omega
      clear hgo
      rcases fin with ⟨rfl, hlt⟩ | rfl
      all_goals
        go_wp2_with (first | (go_at_call 60; refine (awake43_any _).mono ?_; rintro e W9 ⟨rfl, hb⟩; have hbn := below_step HB.out hb; clear HB; have HB := Aside0.mk hbn; clear hb hbn))
        go_ret
        exact ⟨rfl, HB.out⟩
end Go.Proofs.Ytpnbjpkdbiiogaa
