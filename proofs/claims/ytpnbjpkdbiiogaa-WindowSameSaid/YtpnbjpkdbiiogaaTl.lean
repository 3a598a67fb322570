/- The law on caches: what both caches and the disk hold; a call's reading. -/
import Derived.Test.YtpnbjpkdbiiogaaTk
import Derived.OpenShut
namespace Go.Proofs.Ytpnbjpkdbiiogaa
set_option linter.unusedVariables false
open Go.RowKit Go.Maps Go.ChangeShapes Go.WideShapes Go.Deep Go.Proofs.YtpnbjpkdbiiogaaW.PrintWords
attribute [local go_sem] mx2 mn2 mxTwo mnTwo

structure WAct where
  kd : Int
  q : Bool
  at_ : Int
  n : Int
  data : List Int
def zWact : WAct := ⟨0, false, 0, 0, []⟩
def kWact : Kd WAct := Kd.iso (Kd.pair (Kd.int .i64) (Kd.pair Kd.bool (Kd.pair (Kd.int .i64) (Kd.pair (Kd.int .i64) (Kd.slice 5 (Kd.int .u8)))))) (fun x : WAct => (x.kd, x.q, x.at_, x.n, x.data))
def goodWact (x : WAct) : Prop := (Lit.int .i64 x.kd).wf = true ∧ True ∧ (Lit.int .i64 x.at_).wf = true ∧ (Lit.int .i64 x.n).wf = true ∧ (∀ y ∈ x.data, (Lit.int .u8 y).wf = true)
theorem opens_t95 : Opens Try.prog 95 (Kd.slice 105 kWact) (fun xs => ∀ x ∈ xs, goodWact x) :=
  opens_slice Try.underlying95 (by kernel_rfl) (opens_iso (fun x : WAct => (x.kd, x.q, x.at_, x.n, x.data)) (fun x => ⟨x.1, x.2.1, x.2.2.1, x.2.2.2.1, x.2.2.2.2⟩) (fun _ => rfl)
    (opens_struct5 Try.underlying105 (by kernel_rfl) (by kernel_rfl) (opens_int Try.underlying3) (opens_bool Try.underlying4) (opens_int Try.underlying3) (opens_int Try.underlying3) (opens_slice Try.underlying22 (by kernel_rfl) (opens_int Try.underlying5))))
theorem at_Wact {w : World} {A : Option Addr} {n : Nat} {xs : List WAct} (h : Kd.C kWact w A n xs) (i : Nat) (h1 : i < n) : ∃ ad A4 c4, A = some ad ∧ w.cell? (ad.add (i * 5)) = some (.int .i64 (xs.getD i zWact).kd) ∧ w.cell? ⟨(ad.add (i * 5)).block, (ad.add (i * 5)).off + 1, none⟩ = some (.bool (xs.getD i zWact).q) ∧ w.cell? ⟨(ad.add (i * 5)).block, (ad.add (i * 5)).off + 2, none⟩ = some (.int .i64 (xs.getD i zWact).at_) ∧ w.cell? ⟨(ad.add (i * 5)).block, (ad.add (i * 5)).off + 3, none⟩ = some (.int .i64 (xs.getD i zWact).n) ∧ w.cell? ⟨(ad.add (i * 5)).block, (ad.add (i * 5)).off + 4, none⟩ = some (.slice A4 (xs.getD i zWact).data.length c4) ∧ (xs.getD i zWact).data.length ≤ c4 ∧ Kd.C (Kd.int .u8) w A4 (xs.getD i zWact).data.length (xs.getD i zWact).data := by
  obtain ⟨ad, c, e, _, hK, hc0⟩ := Kd.C_get h zWact (i : Int) (by omega) (by omega)
  simp only [Int.toNat_natCast] at hK hc0
  have hc : ∀ j u, c[j]? = some u → w.cell? (ad.add (i * 5 + j)) = some u := hc0
  obtain ⟨_, _, rfl, rfl, ⟨_, _, rfl, rfl, ⟨_, _, rfl, rfl, ⟨_, _, rfl, rfl, ⟨A4, c4, rfl, l4, g4⟩⟩⟩⟩⟩ := hK
  exact ⟨ad, A4, c4, e, hc 0 _ rfl, by rw [← add_field _ _ 1 (by omega)]; exact hc 1 _ rfl, by rw [← add_field _ _ 2 (by omega)]; exact hc 2 _ rfl, by rw [← add_field _ _ 3 (by omega)]; exact hc 3 _ rfl, by rw [← add_field _ _ 4 (by omega)]; exact hc 4 _ rfl, l4, g4⟩
section
variable {W W1 : World} {b c d g mp N mostN B0 Z K : Nat} {x : Nat → Prop} {most : Int} {l : List Nd} {hits misses room : Int} {s : WSt} {two : Bool} {na nb : List Int}
theorem Q_kept {v : Value} {L : List PcV} (h : kPv.Q 168 W b x v L) (hk : ∀ (k : Nat) (cs : Array Value) (T : TypeId), T = 168 ∨ T = 5 → W.heap[k]? = some (.cells cs T (0, 0)) → W1.heap[k]? = W.heap[k]?) : kPv.Q 168 W1 b x v L := by
  refine Kd.Q_mono (Kd.Q_move (Kd.Q_bound h) (fun k hk' => ?_)) (fun k hk => hk.1)
  obtain ⟨_, _, _, q, hq, cs, hc⟩ := hk'
  have : kPv.E = [5] := rfl
  rw [this] at hq
  exact hk k cs q (by simpa using hq) hc
theorem RC.kn (h : RC W b x g mostN s) (hk : KN W W1 mp) : RC W1 b x g mostN s := by
  obtain ⟨⟨vL, h1, h2⟩, h3, h4⟩ := h
  exact ⟨⟨vL, (hk.keep g _ _ h1 (by decide) (by decide)).trans h1, Q_kept h2 (fun k cs T hT hc => hk.keep k cs T hc (by rcases hT with rfl | rfl <;> decide) (by rcases hT with rfl | rfl <;> decide))⟩, h3, fun k hkk => h4 k (Nat.le_trans hk.size hkk)⟩
theorem RC.km (h : RC W b x g mostN s) (hk : KM W W1) : RC W1 b x g mostN s := by
  obtain ⟨⟨vL, h1, h2⟩, h3, h4⟩ := h
  exact ⟨⟨vL, (hk.keep g _ _ h1 (by decide)).trans h1, Q_kept h2 (fun k cs T hT hc => hk.keep k cs T hc (by rcases hT with rfl | rfl <;> decide))⟩, h3, fun k hkk => h4 k (Nat.le_trans hk.size hkk)⟩
theorem CS.keepG {G : Nat} {cs : Array Value} (h : CS W b x c d mostN mp N s) (hG : W.heap[G]? = some (.cells cs 103 (0, 0))) (hk : KeepBut W W1 G none) : CS W1 b x c d mostN mp N s := by
  obtain ⟨l, hci, hL⟩ := h
  have hty : ∀ (k : Nat) (cs : Array Value) (T' : TypeId), T' ≠ 103 → W.heap[k]? = some (.cells cs T' (0, 0)) → W1.heap[k]? = W.heap[k]? := fun k cs T' h9 hkk => hk.2 k (blk_lt hkk) (blk_ne hkk hG h9) (by simp)
  obtain ⟨es, ck, ho⟩ := hci.hm.obj
  refine ⟨l, ⟨(hty c _ _ (by decide) hci.hb).trans hci.hb, hci.hr.move (fun p hp => ?_), hci.hm.move (hk.2 mp hci.hm.lt (fun e => ?_) (by simp)), fun q hq => ?_, hci.bc, hci.bm, hci.bg, fun k hkk => hci.hx k (Nat.le_trans hk.1 hkk)⟩, hL⟩
  · obtain ⟨cs2, hc2⟩ := hci.hr.typed hp
    exact hty p.g cs2 _ (by decide) hc2
  · rw [e, hG] at ho
    cases ho
  · exact RU_keep (hci.hy q hq) hG hk
theorem WD.km (h : WD W b g two na nb room Z K B0) (hb : Below W.heap.size W W1) : WD W1 b g two na nb room Z K B0 := h.below hb
theorem WD.len (h : WD W b g two na nb room Z K B0) (q : Bool) (hq : q = true → two = true) : (if q then nb else na).length ≤ Z := by
  obtain ⟨gd, mn, ms, vo, N, safe, ops, mf, M, fl, next, h1, h2, h3⟩ := h
  obtain ⟨f, hf, hn⟩ := h2.at_ q hq
  rw [← hn]
  exact (h2.all f (fileAt_mem hf).1).1
/-- Both caches and the disk. -/
structure WX (W : World) (b c d r mostN mp N : Nat) (s t : WSt) (two : Bool) (na nb : List Int) (room : Int) (Z K B0 : Nat) : Prop where
  cs : CS W b (fun _ => True) c d mostN mp N s
  rc : RC W b (fun _ => True) r mostN t
  wd : WD W b d two na nb room Z K B0
  hm : B0 ≤ mp
  hZ : Z ≤ 100000
  hr : 3 * cnt (Z : Int) ≤ room
end
section
variable {W W1 : World} {b c d r mostN mp N N' Z K K' B0 : Nat} {s t s' t' : WSt} {two : Bool} {na nb na' nb' : List Int} {room : Int}
theorem WX.below (h : WX W b c d r mostN mp N s t two na nb room Z K B0) (hb : Below W.heap.size W W1) : WX W1 b c d r mostN mp N s t two na nb room Z K B0 := ⟨h.cs.below hb, h.rc.below hb, h.wd.below hb, h.hm, h.hZ, h.hr⟩
theorem WX.up (h : WX W b c d r mostN mp N s t two na nb room Z K B0) (hN : N ≤ N') (hK : K ≤ K') : WX W b c d r mostN mp N' s t two na nb room Z K' B0 := ⟨h.cs.mono hN, h.rc, h.wd.mono hK, h.hm, h.hZ, h.hr⟩
theorem WX.code (h : WX W b c d r mostN mp N s t two na nb room Z K B0) (hc : CS W1 b (fun _ => True) c d mostN mp N' s') (hk : KN W W1 mp) : WX W1 b c d r mostN mp N' s' t two na nb room Z K B0 := ⟨hc, h.rc.kn hk, h.wd.kn hk h.hm, h.hm, h.hZ, h.hr⟩
theorem WX.ref (h : WX W b c d r mostN mp N s t two na nb room Z K B0) (hc : RC W1 b (fun _ => True) r mostN t') (hk : KeepBut W W1 r none) : WX W1 b c d r mostN mp N s t' two na nb room Z K B0 := by
  obtain ⟨cs, hb⟩ := h.rc.blk
  exact ⟨h.cs.keepG hb hk, hc, h.wd.keepG hb rfl hk, h.hm, h.hZ, h.hr⟩
theorem WX.wrote (h : WX W b c d r mostN mp N s t two na nb room Z K B0) (hd : WD W1 b d two na' nb' room Z K' B0) (hk : KM W W1) : WX W1 b c d r mostN mp N s t two na' nb' room Z K' B0 := ⟨h.cs.km hk, h.rc.km hk, hd, h.hm, h.hZ, h.hr⟩
theorem wx_read (h : WX W b c d r mostN mp N s t two na nb room Z K B0) (ok : OkW mostN s N) (q : Bool) (hq : q = true → two = true) (k n : Nat) (hk : k ≤ 1048576) (hn : n ≤ 1048576) (hN : N + n ≤ 1000000) :
    Calls Try.prog 69 #[.pointer (some ⟨c, 0, none⟩), .string (nmOf q), .int .i64 (k : Int), .int .i64 (n : Int)] W fun e w' => ∃ A cc, e = .returned (.tuple #[.slice A (readN mostN (if q then nb else na) (nmOf q) s k n).2.length cc, .int .i64 0]) ∧ Kd.R (Kd.int .u8) 5 w' W.heap.size (fun _ => True) (.slice A (readN mostN (if q then nb else na) (nmOf q) s k n).2.length cc) (readN mostN (if q then nb else na) (nmOf q) s k n).2 ∧ WX w' b c d r mostN mp (N + n) (readN mostN (if q then nb else na) (nmOf q) s k n).1 t two na nb room Z K B0 ∧ KN W w' mp ∧ Below b W w' := by
  refine (wread_any b c d mostN mp N N s W h.cs ok (nmOf q) (nmOf_sz q) k n hk hn hN hN _ (wd_tell h.wd (by have := h.hZ; omega) h.hm q hq) _ _ rfl).mono ?_
  rintro e w' ⟨A, cc, rfl, hC, hcs, hkn, hb⟩
  exact ⟨A, cc, rfl, hC, h.code hcs hkn, hkn, hb⟩
theorem wx_rread (h : WX W b c d r mostN mp N s t two na nb room Z K B0) {G : Nat} (ok : OkW mostN t G) (q : Bool) (hq : q = true → two = true) (k n : Nat) (hk : k ≤ 1048576) (hn : n ≤ 1048576) (hN : G + n ≤ 1000000) (An : Option Addr) (cn b1 : Nat) (hnow : Kd.R (Kd.int .u8) 5 W b1 (fun _ => True) (.slice An (if q then nb else na).length cn) (if q then nb else na)) :
    Calls Try.prog 71 #[.pointer (some ⟨r, 0, none⟩), .string (nmOf q), .int .i64 (k : Int), .int .i64 (n : Int), .slice An (if q then nb else na).length cn] W fun e w' => ∃ A' c', e = .returned (.slice A' (readN mostN (if q then nb else na) (nmOf q) t k n).2.length c') ∧ Kd.C (Kd.int .u8) w' A' (readN mostN (if q then nb else na) (nmOf q) t k n).2.length (readN mostN (if q then nb else na) (nmOf q) t k n).2 ∧ WX w' b c d r mostN mp N s (readN mostN (if q then nb else na) (nmOf q) t k n).1 two na nb room Z K B0 ∧ KeepBut W w' r none ∧ Below b W w' := by
  have hlen := h.wd.len q hq
  obtain ⟨cs, hbk⟩ := h.rc.blk
  refine (rcread_any b r mostN G t W h.rc ok (nmOf q) (nmOf_sz q) k n hk hn hN An cn _ (by have := h.hZ; omega) (fun W' hW => (Kd.R_reads' (RU_keep hnow hbk hW)).2.2) _ _ rfl).mono ?_
  rintro e w' ⟨A, cc, rfl, hC, hcs, hkn, hb⟩
  exact ⟨A, cc, rfl, hC, h.ref hcs hkn, hkn, hb⟩
end
section
variable {W : World} {b c d r mostN mp N Z K B0 : Nat} {s t : WSt} {two : Bool} {na nb : List Int} {room : Int}
theorem wx_readI (h : WX W b c d r mostN mp N s t two na nb room Z K B0) (ok : OkW mostN s N) (q : Bool) (hq : q = true → two = true) (k n : Int) (hk0 : 0 ≤ k) (hn0 : 0 ≤ n) (hk : k ≤ 1048576) (hn : n ≤ 1048576) (hN : (N : Int) + n ≤ 1000000) :
    Calls Try.prog 69 #[.pointer (some ⟨c, 0, none⟩), .string (nmOf q), .int .i64 k, .int .i64 n] W fun e w' => ∃ A cc, e = .returned (.tuple #[.slice A (readN mostN (if q then nb else na) (nmOf q) s k.toNat n.toNat).2.length cc, .int .i64 0]) ∧ Kd.R (Kd.int .u8) 5 w' W.heap.size (fun _ => True) (.slice A (readN mostN (if q then nb else na) (nmOf q) s k.toNat n.toNat).2.length cc) (readN mostN (if q then nb else na) (nmOf q) s k.toNat n.toNat).2 ∧ WX w' b c d r mostN mp (N + n.toNat) (readN mostN (if q then nb else na) (nmOf q) s k.toNat n.toNat).1 t two na nb room Z K B0 ∧ KN W w' mp ∧ Below b W w' := by
  obtain ⟨k, rfl⟩ := Int.eq_ofNat_of_zero_le hk0
  obtain ⟨n, rfl⟩ := Int.eq_ofNat_of_zero_le hn0
  exact wx_read h ok q hq k n (by omega) (by omega) (by omega)
theorem wx_rreadI (h : WX W b c d r mostN mp N s t two na nb room Z K B0) {G : Nat} (ok : OkW mostN t G) (q : Bool) (hq : q = true → two = true) (k n : Int) (hk0 : 0 ≤ k) (hn0 : 0 ≤ n) (hk : k ≤ 1048576) (hn : n ≤ 1048576) (hN : (G : Int) + n ≤ 1000000) (An : Option Addr) (cn b1 : Nat) (hnow : Kd.R (Kd.int .u8) 5 W b1 (fun _ => True) (.slice An (if q then nb else na).length cn) (if q then nb else na)) :
    Calls Try.prog 71 #[.pointer (some ⟨r, 0, none⟩), .string (nmOf q), .int .i64 k, .int .i64 n, .slice An (if q then nb else na).length cn] W fun e w' => ∃ A' c', e = .returned (.slice A' (readN mostN (if q then nb else na) (nmOf q) t k.toNat n.toNat).2.length c') ∧ Kd.C (Kd.int .u8) w' A' (readN mostN (if q then nb else na) (nmOf q) t k.toNat n.toNat).2.length (readN mostN (if q then nb else na) (nmOf q) t k.toNat n.toNat).2 ∧ WX w' b c d r mostN mp N s (readN mostN (if q then nb else na) (nmOf q) t k.toNat n.toNat).1 two na nb room Z K B0 ∧ KeepBut W w' r none ∧ Below b W w' := by
  obtain ⟨k, rfl⟩ := Int.eq_ofNat_of_zero_le hk0
  obtain ⟨n, rfl⟩ := Int.eq_ofNat_of_zero_le hn0
  exact wx_rread h ok q hq k n (by omega) (by omega) (by omega) An cn b1 hnow
end
/-- Bytes of a file, whole. -/
theorem readL_whole (l : List Int) (h : l.length ≤ 1048576) : readL l 0 1048576 = l := by
  unfold readL
  split
  · have h0 : l.length = 0 := by omega
    exact (List.eq_nil_of_length_eq_zero h0).symm
  · exact List.take_of_length_le (by simpa using h)
end Go.Proofs.Ytpnbjpkdbiiogaa
/- The law WindowSame: an array's reading; what a cache tells of a disk that nobody changes. -/
namespace Go.Proofs.Ytpnbjpkdbiiogaa
set_option linter.unusedVariables false
open Go.RowKit Go.Maps Go.ChangeShapes Go.WideShapes Go.Deep Go.Proofs.YtpnbjpkdbiiogaaW.PrintWords
attribute [local go_sem] mx2 mn2 mxTwo mnTwo

theorem opens_array2 {α : Type} {a : Kd α} {ga : α → Prop} {P : Program} {t e : TypeId} (ht : P.underlying t = some (.array 2 e)) (hC : P.cellsOf t = 2) (he : P.cellsOf e = 1) (h0 : Opens P e a ga) : Opens P t (Kd.pair a a) (fun x => ga x.1 ∧ ga x.2) := by
  intro H enc w base spare held fuel cs x h
  obtain ⟨xs, m, _, _, hl, hxl, hf⟩ := DataW.trod_array ht h
  rw [hC] at hl
  rw [he] at hf
  match cs, hl with
  | [c0, c1], _ =>
    have f0 := hf 0 (by omega)
    have f1 := hf 1 (by omega)
    rw [List.getElem?_eq_getElem (by omega)] at f0 f1
    obtain ⟨p0, k0, g0⟩ := h0 H enc w base spare held _ _ _ f0
    obtain ⟨p1, k1, g1⟩ := h0 H enc w base spare held _ _ _ f1
    exact ⟨(p0, p1), ⟨[c0], [c1], rfl, k0, k1⟩, g0, g1⟩
def k2u : Kd (Int × Int) := Kd.pair (Kd.int .u16) (Kd.int .u16)
def good2u (x : Int × Int) : Prop := (Lit.int .u16 x.1).wf = true ∧ (Lit.int .u16 x.2).wf = true
theorem opens_t116 : Opens Try.prog 116 (Kd.slice 118 k2u) (fun xs => ∀ x ∈ xs, good2u x) :=
  opens_slice Try.underlying116 (by kernel_rfl) (opens_array2 Try.underlying118 (by kernel_rfl) (by kernel_rfl) (opens_int Try.underlying117))
theorem opens_t22 : Opens Try.prog 22 (Kd.slice 5 (Kd.int .u8)) (fun xs => ∀ x ∈ xs, (Lit.int .u8 x).wf = true) :=
  opens_slice Try.underlying22 (by kernel_rfl) (opens_int Try.underlying5)
theorem at_2u {w : World} {A : Option Addr} {n : Nat} {xs : List (Int × Int)} (h : Kd.C k2u w A n xs) (i : Nat) (h1 : i < n) : ∃ ad, A = some ad ∧ w.cell? (ad.add (i * 2)) = some (.int .u16 (xs.getD i (0, 0)).1) ∧ w.cell? ⟨(ad.add (i * 2)).block, (ad.add (i * 2)).off + 1, none⟩ = some (.int .u16 (xs.getD i (0, 0)).2) := by
  obtain ⟨ad, c, e, _, hK, hc0⟩ := Kd.C_get h (0, 0) (i : Int) (by omega) (by omega)
  simp only [Int.toNat_natCast] at hK hc0
  have hc : ∀ j u, c[j]? = some u → w.cell? (ad.add (i * 2 + j)) = some u := hc0
  obtain ⟨_, _, rfl, rfl, rfl⟩ := hK
  exact ⟨ad, e, hc 0 _ rfl, by rw [← add_field _ _ 1 (by omega)]; exact hc 1 _ rfl⟩
/-- Every piece is what the disk holds. -/
def GoodS (now : List Int) (nm : ByteArray) (s : WSt) : Prop := ∀ p ∈ s.L, p.nm = nm ∧ p.b = readL now (256 * p.n) 256
theorem readL_nat (now : List Int) (a n : Nat) : readL now (a : Int) (n : Int) = (now.drop a).take n := by
  unfold readL
  split
  · rename_i h
    rcases h with h | h | h
    · omega
    · rw [List.drop_eq_nil_of_le (by omega)]
      simp
    · have : n = 0 := by omega
      rw [this]
      simp
  · rw [Int.toNat_natCast, Int.toNat_natCast]
theorem getS_good {most : Nat} {now : List Int} {nm : ByteArray} {s : WSt} {k : Int} (h1 : 1 ≤ most) (hg : GoodS now nm s) : (getS most now nm s k).2 = readL now (256 * k) 256 ∧ GoodS now nm (getS most now nm s k).1 ∧ (getS most now nm s k).1.L ≠ [] := by
  unfold getS
  cases hf : s.L.findIdx? (isP nm k) with
  | some i =>
    obtain ⟨hi, e1, e2, hm⟩ := find_some hf
    refine ⟨?_, fun p hp => ?_, by simp⟩
    · have := (hg _ hm).2
      rw [e2] at this
      exact this
    · rcases List.mem_cons.1 hp with rfl | hp
      · exact hg _ hm
      · exact hg p (List.mem_of_mem_eraseIdx hp)
  | none =>
    refine ⟨rfl, fun p hp => ?_, ?_⟩
    · rcases List.mem_cons.1 (List.mem_of_mem_take hp) with rfl | hp
      · exact ⟨rfl, rfl⟩
      · exact hg p hp
    · obtain ⟨m, rfl⟩ : ∃ m, most = m + 1 := ⟨most - 1, by omega⟩
      show List.take (m + 1) (_ :: s.L) ≠ []
      rw [List.take_succ_cons]
      simp
theorem readS_good {most : Nat} {now : List Int} {nm : ByteArray} (h1 : 1 ≤ most) : ∀ (f : Nat) (s : WSt) (a n : Nat), n ≤ f → GoodS now nm s → (readS most now nm f s a n).2 = (now.drop a).take n ∧ GoodS now nm (readS most now nm f s a n).1 ∧ (0 < n ∨ s.L ≠ [] → (readS most now nm f s a n).1.L ≠ [])
  | 0, s, a, n, hn, hg => by
    obtain rfl : n = 0 := by omega
    exact ⟨by simp [readS], hg, fun h => h.elim (fun h => absurd h (Nat.lt_irrefl _)) id⟩
  | f + 1, s, a, n, hn, hg => by
    unfold readS
    by_cases h0 : n = 0
    · subst h0
      rw [if_pos rfl]
      exact ⟨by simp, hg, fun h => h.elim (fun h => absurd h (Nat.lt_irrefl _)) id⟩
    · rw [if_neg h0]
      dsimp only
      obtain ⟨g1, g2, g3⟩ := getS_good (k := ((a / 256 : Nat) : Int)) h1 hg
      have e : (256 * ((a / 256 : Nat) : Int)) = ((256 * (a / 256) : Nat) : Int) := by omega
      rw [e, show (256 : Int) = ((256 : Nat) : Int) from rfl, readL_nat] at g1
      generalize getS most now nm s ((a / 256 : Nat) : Int) = r at g1 g2 g3 ⊢
      have hlen : r.2.length = min 256 (now.length - 256 * (a / 256)) := by rw [g1, List.length_take, List.length_drop]
      have hao : 256 * (a / 256) + a % 256 = a := by omega
      split
      · rename_i h2
        refine ⟨?_, g2, fun _ => g3⟩
        rw [List.drop_eq_nil_of_le (show now.length ≤ a by omega)]
        simp
      · rename_i h2
        obtain ⟨m, hm⟩ : ∃ m, m = min (r.2.length - a % 256) n := ⟨_, rfl⟩
        rw [← hm]
        have hpart : (r.2.drop (a % 256)).take m = (now.drop a).take m := by
          rw [g1, List.drop_take, List.take_take, List.drop_drop, hao]
          congr 1
          omega
        split
        · rename_i h3
          refine ⟨?_, g2, fun _ => g3⟩
          show (r.2.drop (a % 256)).take m = _
          rw [hpart]
          by_cases hmn : m = n
          · rw [hmn]
          · rw [List.take_of_length_le (by rw [List.length_drop]; omega), List.take_of_length_le (by rw [List.length_drop]; omega)]
        · rename_i h3
          obtain ⟨i1, i2, i3⟩ := readS_good h1 f r.1 (a + m) (n - m) (by omega) g2
          refine ⟨?_, i2, fun _ => i3 (.inr g3)⟩
          show (r.2.drop (a % 256)).take m ++ _ = _
          rw [hpart, i1, ← List.drop_drop]
          have : n = m + (n - m) := by omega
          conv => rhs; rw [this, List.take_add]
end Go.Proofs.Ytpnbjpkdbiiogaa
/- The walk of the law WindowSame: it answers true. -/
namespace Go.Proofs.Ytpnbjpkdbiiogaa
set_option linter.unusedVariables false
open Go.RowKit Go.Maps Go.Proofs.YtpnbjpkdbiiogaaW.PrintWords
attribute [local go_sem] mx2 mn2 mxTwo mnTwo

theorem wd_none {w : World} {b g : Nat} {two : Bool} {na nb : List Int} {room : Int} {Z K B0 : Nat} (h : WD w b g two na nb room Z K B0) (k n : Int) :
    Calls Try.prog 70 #[.pointer (some ⟨g, 0, none⟩), .string nmZ, .int .i64 k, .int .i64 n] w fun e w' => e = .returned (.tuple #[.slice none 0 0, .int .i64 6]) ∧ w = w' := by
  obtain ⟨gd, mn, ms, vo, N, safe, ops, mf, M, fl, next, h1, h2, h3⟩ := h
  exact kread_none b _ g gd mn ms vo N (nwW two) safe ops mf M fl next room 0 false false w h1 nmZ (by decide) rfl (nwW_z two) k n
theorem u16_mod {x : Int} (h0 : 0 ≤ x) (h1 : x ≤ 65535) : ∃ m : Nat, m ≤ 3999 ∧ x.tmod 4000 = (m : Int) ∧ x % 4000 = (m : Int) := by
  refine ⟨(x % 4000).toNat, by omega, ?_, by omega⟩
  rw [Int.tmod_eq_emod_of_nonneg h0]
  omega
set_option maxHeartbeats 2000000 in
set_option maxRecDepth 100000 in
theorem wsame_walk (A : Option Addr) (c : Nat) (l : List Int) (most : Int) (A2 : Option Addr) (c2 : Nat) (xs : List (Int × Int)) (w : World) (hp : Kd.C (Kd.int .u8) w A l.length l) (hc : l.length ≤ c) (hg : ∀ x ∈ l, (Lit.int .u8 x).wf = true) (h0 : -9223372036854775808 ≤ most) (h1 : most ≤ 9223372036854775807) (hp2 : Kd.C k2u w A2 xs.length xs) (hc2 : xs.length ≤ c2) (hg2 : ∀ x ∈ xs, good2u x) :
    Calls Try.prog 13 #[.slice A l.length c, .int .i64 most, .slice A2 xs.length c2] w fun e w' => e = .returned (.bool true) ∧ Below w.heap.size w w' := by
  have hm := Kd.C_max hp
  have hm2 := Kd.C_max hp2
  have HP := Aside0.mk hp
  have HP2 := Aside0.mk hp2
  have HG2 := Aside0.mk hg2
  have HB := Aside0.mk (Below.refl w.heap.size w)
  obtain ⟨mN, hmN⟩ : ∃ mN, mN = mx1 most := ⟨_, rfl⟩
  have HMP := Aside0.mk (mx1_pos most)
  rw [← hmN] at HMP
  have HMN := Aside0.mk hmN
  clear hp hg hp2 hg2 hmN
  by_cases hl : l.length ≤ 3000
  · have d1 : decide (3000 < l.length) = false := decide_eq_false (by omega)
    go_enter Try.func13, Try.ntmps13
    go_wp2_with (first
      | (go_at_call 60; refine (awake43_any _).mono ?_; rintro e W9 ⟨rfl, hb⟩; have hbn := below_step HB.out hb; clear HB; have HB := Aside0.mk hbn; clear hb hbn)
      | (go_at_call 61; refine (knew_any w.heap.size (fun _ => True) 1000 _ HB.out.size (fun _ _ => trivial)).mono ?_; rintro e w1 ⟨d, gd, mn, ms, mf, rfl, hk, hb⟩; have hbn := below_step HB.out hb; clear HB; have H := Aside0.mk (show DK w1 w.heap.size (fun _ => True) d gd mn ms (.slice none 0 0) 0 [] [] [] mf 0 [] 0 1000 0 false false from hk); have HB := Aside0.mk hbn; clear hk hb hbn)
      | (go_at_call 62; refine (wd_a H.out).mono ?_; rintro e w2 ⟨rfl, vo1, g1, hk, hl9⟩; have hbn := HB.out.trans hl9; clear H HB; have HD := Aside0.mk ((wd_one hk (by decide)).more (Z' := 3000) (K' := 0) (Nat.zero_le _) (Nat.le_refl _) (Nat.le_refl _)); have HB := Aside0.mk hbn; have HB0 := Aside0.mk (Nat.le_refl w2.heap.size); clear hk hl9 hbn)
      | (go_at_call 68; refine (wd_write HD.out (by decide) (by decide) (by decide) false (fun h => h) 0 A c l (by omega) hc (fun W' hb => Kd.C_below HP.out (HB.out.trans hb))).mono ?_; rintro e w3 ⟨rfl, na, nb, hd, hkm, hb⟩; have hbn := HB.out.trans hb; have hsz := Nat.le_trans HB0.out hkm.size; clear HD HB HB0; have HD := Aside0.mk hd; have HB := Aside0.mk hbn; have HB0 := Aside0.mk hsz; clear hd hkm hb hbn hsz)
      | (go_at_call 63; refine (wnew_any w.heap.size d most h1 _ HB.out.size).mono ?_; rw [← HMN.out]; rintro e w4 ⟨cc, mp, rfl, hcs, hmp, hb⟩; have hd := HD.out.below hb; have hbn := below_step HB.out hb; clear HD HB; have HD := Aside0.mk hd; have HB := Aside0.mk hbn; have HC := Aside0.mk hcs; have HMQ := Aside0.mk (Nat.le_trans HB0.out hmp); clear hd hbn hcs hb hmp HB0))
    generalize hB0 : w2.heap.size = B0 at *
    generalize hK0 : 0 + 1 + l.length = K0 at *
    have HOK := Aside0.mk (OkW.zero HMP.out)
    have HGS := Aside0.mk (show GoodS na nmA ⟨[], 0, 0⟩ from fun p hp => by simp at hp)
    go_loopg [9] 40 (fun q v9 wr => ∃ (i : Nat) (s : WSt), v9 = .int .i64 (i : Int) ∧ i ≤ xs.length ∧ i ≤ 40 ∧ Aside0 (q = 40 - i) ∧ Aside0 (OkW mN s (4000 * i)) ∧ Aside0 (GoodS na nmA s) ∧ Aside0 (CS wr w.heap.size (fun _ => True) cc d mN mp (4000 * i) s) ∧ Aside0 (WD wr w.heap.size d false na nb 1000 3000 K0 B0) ∧ Aside0 (Below w.heap.size w wr))
    case atStart => exact ⟨0, _, rfl, Nat.zero_le _, Nat.zero_le _, ⟨rfl⟩, HOK, HGS, HC, HD, HB⟩
    case round =>
      clear HC HD HB HOK HGS
      obtain ⟨i, s, rfl, hi, hi2, hq, HOK, HGS, HC, HD, HB⟩ := hrel
      by_cases hgo : i < xs.length ∧ i < 40
      · obtain ⟨hlt, h40⟩ := hgo
        obtain ⟨ad, e1, r0, r1⟩ := at_2u HP2.out i hlt
        subst e1
        obtain ⟨a, ha⟩ : ∃ a, a = xs.getD i (0, 0) := ⟨_, rfl⟩
        have hga : good2u a := by rw [ha, List.getD_eq_getElem?_getD, List.getElem?_eq_getElem hlt]; exact HG2.out _ (List.getElem_mem _)
        rw [← ha] at r0 r1
        have hb0 := bounds_u16 hga.1
        have hb1 := bounds_u16 hga.2
        obtain ⟨x0, x1⟩ := a
        replace r0 := pw_cell_below HB.out r0
        replace r1 := pw_cell_below HB.out r1
        simp only at r0 r1 hb0 hb1
        obtain ⟨k, hk, hk1, hk2⟩ := u16_mod hb0.1 hb0.2
        obtain ⟨n, hn, hn1, hn2⟩ := u16_mod hb1.1 hb1.2
        clear ha hga
        obtain ⟨s2, rr, hrd⟩ : ∃ s2 rr, readN mN na nmA s k n = (s2, rr) := ⟨_, _, rfl⟩
        have hok2 := (readN_ok (now := na) (nm := nmA) (by decide) HOK.out (at_ := k) (n := n) (by omega)).1
        obtain ⟨g1, g2, g3⟩ := readS_good HMP.out n s k n (Nat.le_refl _) HGS.out
        rw [show readS mN na nmA n s k n = (s2, rr) from hrd] at g1 g2 g3
        rw [hrd] at hok2
        simp only at hok2 g1 g2 g3
        have HSM := Aside0.mk (show readL na (k : Int) (n : Int) = rr by rw [readL_nat, g1])
        have HRD := Aside0.mk hrd
        have HOK2 := Aside0.mk hok2
        have HGS2 := Aside0.mk g2
        have hh := hok2.h
        have hms := hok2.m
        have hwr : IntKind.i64.wrap (s2.hits + s2.misses) = s2.hits + s2.misses := by rw [IntKind.wrap_i64]; omega
        clear hrd hok2 g1 g2
        by_cases hA : s2.hits + s2.misses < (i : Int)
        · have dA := decide_eq_true hA
          clear hA
          rcases Nat.eq_zero_or_pos n with hn0 | hn0
          · clear g3
            have dN : decide (0 < (n : Int)) = false := decide_eq_false (by omega)
            have dN' : decide (0 < n) = false := decide_eq_false (by omega)
            clear hn0
            go_wp2_with fail
            go_quiet (fail)
            go_wp2_with (first
              | (go_at_call 69; refine (wread_any w.heap.size cc d mN mp (4000 * i) (4000 * i) s _ (HC.out.below (pw_below_drewN (Below.refl _ _) _)) HOK.out nmA (by decide) k n (by omega) (by omega) (by omega) (by omega) na (wd_tell (HD.out.below (pw_below_drewN (Below.refl _ _) _)) (by decide) HMQ.out false (fun h => h)) s2 rr HRD.out).mono ?_; rintro e w5 ⟨A5, c5, rfl, hv, hcs, hkn, hb⟩; have hd := (HD.out.below (pw_below_drewN (Below.refl _ _) _)).kn hkn HMQ.out; have hbn := (pw_below_drewN HB.out _).trans hb; clear HD HB HC; have HD := Aside0.mk hd; have HB := Aside0.mk hbn; have HC := Aside0.mk hcs; have HV := Aside0.mk hv; clear hd hbn hcs hb hkn hv)
              | (go_at_call 70; refine (wd_read HD.out (by decide) false (fun h => h) (k : Int) (n : Int)).mono ?_; rw [show (if (false : Bool) = true then nb else na) = na from rfl, HSM.out]; rintro e w6 ⟨v6, rfl, hn, hb⟩; obtain ⟨A6, c6, rfl⟩ := Kd.R_slice hn; have hd := HD.out.below hb; have hc := HC.out.below hb; have hbn := below_step HB.out hb; have HV5 := Aside0.mk (Kd.R_reads' (Kd.R_below HV.out hb)).2.2; have HV6 := Aside0.mk (Kd.R_reads' hn).2.2; clear HD HB HC HV; have HD := Aside0.mk hd; have HB := Aside0.mk hbn; have HC := Aside0.mk hc; clear hd hbn hc hb hn))
            have hk56 : w6.cell? ⟨cc, 5, none⟩ = some (.int .i64 s2.hits) ∧ w6.cell? ⟨cc, 6, none⟩ = some (.int .i64 s2.misses) := by
              obtain ⟨l9, hci, _⟩ := HC.out
              exact ⟨(blk_cell hci.hb 5).trans rfl, (blk_cell hci.hb 6).trans rfl⟩
            obtain ⟨k5, k6⟩ := hk56
            go_quiet ((go_at_call 20; exact Calls.quiet_of_same (same_any A5 A6 _ _ c5 c6 _ _ (Kd.C_drewN HV5.out _) (Kd.C_drewN HV6.out _))))
            go_wp2_with fail
            have hb9 : Below w6.heap.size w6 (w6.drewN nq) := pw_below_drewN (Below.refl _ _) _
            go_roundg (40 - (i + 1))
            case measure => have := hq.out; omega
            case rel => exact ⟨i + 1, s2, by go_num, by omega, by omega, ⟨rfl⟩, ⟨HOK2.out.up (by omega)⟩, HGS2, ⟨(HC.out.below hb9).mono (by omega)⟩, ⟨HD.out.below hb9⟩, ⟨below_step HB.out hb9⟩⟩
          · have dN : decide (0 < (n : Int)) = true := decide_eq_true (by omega)
            have dN' : decide (0 < n) = true := decide_eq_true hn0
            have hL0 : 0 < s2.L.length := List.length_pos_iff.2 (g3 (.inl hn0))
            have qL : (s2.L.length == 0) = false := beq_eq_false_iff_ne.2 (by omega)
            have qL' : ((s2.L.length : Int) == 0) = false := beq_eq_false_iff_ne.2 (by omega)
            clear g3
            go_wp2_with fail
            go_quiet (fail)
            go_wp2_with (first
              | (go_at_call 69; refine (wread_any w.heap.size cc d mN mp (4000 * i) (4000 * i) s _ (HC.out.below (pw_below_drewN (Below.refl _ _) _)) HOK.out nmA (by decide) k n (by omega) (by omega) (by omega) (by omega) na (wd_tell (HD.out.below (pw_below_drewN (Below.refl _ _) _)) (by decide) HMQ.out false (fun h => h)) s2 rr HRD.out).mono ?_; rintro e w5 ⟨A5, c5, rfl, hv, hcs, hkn, hb⟩; have hd := (HD.out.below (pw_below_drewN (Below.refl _ _) _)).kn hkn HMQ.out; have hbn := (pw_below_drewN HB.out _).trans hb; clear HD HB HC; have HD := Aside0.mk hd; have HB := Aside0.mk hbn; have HC := Aside0.mk hcs; have HV := Aside0.mk hv; clear hd hbn hcs hb hkn hv)
              | (go_at_call 70; refine (wd_read HD.out (by decide) false (fun h => h) (k : Int) (n : Int)).mono ?_; rw [show (if (false : Bool) = true then nb else na) = na from rfl, HSM.out]; rintro e w6 ⟨v6, rfl, hn, hb⟩; obtain ⟨A6, c6, rfl⟩ := Kd.R_slice hn; have hd := HD.out.below hb; have hc := HC.out.below hb; have hbn := below_step HB.out hb; have HV5 := Aside0.mk (Kd.R_reads' (Kd.R_below HV.out hb)).2.2; have HV6 := Aside0.mk (Kd.R_reads' hn).2.2; clear HD HB HC HV; have HD := Aside0.mk hd; have HB := Aside0.mk hbn; have HC := Aside0.mk hc; clear hd hbn hc hb hn))
            have hk56 : w6.cell? ⟨cc, 5, none⟩ = some (.int .i64 s2.hits) ∧ w6.cell? ⟨cc, 6, none⟩ = some (.int .i64 s2.misses) := by
              obtain ⟨l9, hci, _⟩ := HC.out
              exact ⟨(blk_cell hci.hb 5).trans rfl, (blk_cell hci.hb 6).trans rfl⟩
            obtain ⟨k5, k6⟩ := hk56
            go_region_held3 (fun w' => w'.cell? ⟨cc, 5, none⟩ = some (.int .i64 s2.hits) ∧ w'.cell? ⟨cc, 6, none⟩ = some (.int .i64 s2.misses)) (first | with_reducible exact ⟨k5, k6⟩ | exact ⟨k5, k6⟩) (first
              | (go_at_call 20; refine (same_any A5 A6 _ _ c5 c6 _ _ (Kd.C_drew HV5.out) (Kd.C_drew HV6.out)).mono ?_; rintro e w7 ⟨rfl, rfl⟩)
              | (go_at_call 73; refine (wkept_any (fun _ => True) w.heap.size cc d mN mp _ _ s2 _ (HC.out.below (below_drew1 (Below.refl _ _))) HOK2.out (by omega)).mono ?_; rintro e w8 ⟨v8, rfl, hv8, hb0⟩; have hb := below_then (below_drew1 (Below.refl _ _)) (Nat.le_refl _) hb0; obtain ⟨A8, c8, rfl⟩ := Kd.R_slice hv8; rw [List.length_map]; have hc := HC.out.below hb; have hd := HD.out.below hb; have hbn := below_step HB.out hb; replace k5 := pw_cell_below hb k5; replace k6 := pw_cell_below hb k6; clear HC HD HB hv8; have HC := Aside0.mk hc; have HD := Aside0.mk hd; have HB := Aside0.mk hbn; clear hb hb0 hc hd hbn))
            all_goals
              go_wp2_with fail
              go_roundg (40 - (i + 1))
              case measure => have := hq.out; omega
              case rel => first | exact ⟨i + 1, s2, by go_num, by omega, by omega, ⟨rfl⟩, ⟨HOK2.out.up (by omega)⟩, HGS2, ⟨HC.out.mono (by omega)⟩, HD, HB⟩ | exact ⟨i + 1, s2, by go_num, by omega, by omega, ⟨rfl⟩, ⟨HOK2.out.up (by omega)⟩, HGS2, ⟨(HC.out.below (below_drew1 (Below.refl _ _))).mono (by omega)⟩, ⟨HD.out.below (below_drew1 (Below.refl _ _))⟩, ⟨below_drew1 HB.out⟩⟩
        · have dA := decide_eq_false hA
          clear hA g3
          go_wp2_with fail
          go_quiet (fail)
          go_wp2_with (first
            | (go_at_call 69; refine (wread_any w.heap.size cc d mN mp (4000 * i) (4000 * i) s _ (HC.out.below (pw_below_drewN (Below.refl _ _) _)) HOK.out nmA (by decide) k n (by omega) (by omega) (by omega) (by omega) na (wd_tell (HD.out.below (pw_below_drewN (Below.refl _ _) _)) (by decide) HMQ.out false (fun h => h)) s2 rr HRD.out).mono ?_; rintro e w5 ⟨A5, c5, rfl, hv, hcs, hkn, hb⟩; have hd := (HD.out.below (pw_below_drewN (Below.refl _ _) _)).kn hkn HMQ.out; have hbn := (pw_below_drewN HB.out _).trans hb; clear HD HB HC; have HD := Aside0.mk hd; have HB := Aside0.mk hbn; have HC := Aside0.mk hcs; have HV := Aside0.mk hv; clear hd hbn hcs hb hkn hv)
            | (go_at_call 70; refine (wd_read HD.out (by decide) false (fun h => h) (k : Int) (n : Int)).mono ?_; rw [show (if (false : Bool) = true then nb else na) = na from rfl, HSM.out]; rintro e w6 ⟨v6, rfl, hn, hb⟩; obtain ⟨A6, c6, rfl⟩ := Kd.R_slice hn; have hd := HD.out.below hb; have hc := HC.out.below hb; have hbn := below_step HB.out hb; have HV5 := Aside0.mk (Kd.R_reads' (Kd.R_below HV.out hb)).2.2; have HV6 := Aside0.mk (Kd.R_reads' hn).2.2; clear HD HB HC HV; have HD := Aside0.mk hd; have HB := Aside0.mk hbn; have HC := Aside0.mk hc; clear hd hbn hc hb hn))
          have hk56 : w6.cell? ⟨cc, 5, none⟩ = some (.int .i64 s2.hits) ∧ w6.cell? ⟨cc, 6, none⟩ = some (.int .i64 s2.misses) := by
            obtain ⟨l9, hci, _⟩ := HC.out
            exact ⟨(blk_cell hci.hb 5).trans rfl, (blk_cell hci.hb 6).trans rfl⟩
          obtain ⟨k5, k6⟩ := hk56
          go_quiet ((go_at_call 20; exact Calls.quiet_of_same (same_any A5 A6 _ _ c5 c6 _ _ (Kd.C_drewN HV5.out _) (Kd.C_drewN HV6.out _))))
          go_wp2_with fail
          have hb9 : Below w6.heap.size w6 (w6.drewN nq) := pw_below_drewN (Below.refl _ _) _
          go_roundg (40 - (i + 1))
          case measure => have := hq.out; omega
          case rel => exact ⟨i + 1, s2, by go_num, by omega, by omega, ⟨rfl⟩, ⟨HOK2.out.up (by omega)⟩, HGS2, ⟨(HC.out.below hb9).mono (by omega)⟩, ⟨HD.out.below hb9⟩, ⟨below_step HB.out hb9⟩⟩
      · have fin : i = 40 ∧ i < xs.length ∨ i = xs.length := by omega
        clear hgo
        have HNZ := Aside0.mk (show ∀ p ∈ s.L, ¬ p.nm = nmZ from fun p hp e => by
          have := (HGS.out p hp).1
          rw [e] at this
          exact absurd this (by decide))
        rcases fin with ⟨rfl, hlt⟩ | rfl
        all_goals
          go_wp2_with (first
            | (go_at_call 69; refine (wread_none w.heap.size cc d mN mp _ _ s _ HC.out HOK.out (by omega) nmZ (by decide) HNZ.out (fun W k hW => wd_none (HD.out.kn hW HMQ.out) k 256)).mono ?_; rintro e w5 ⟨rfl, hb⟩; have hbn := HB.out.trans hb; clear HB HC HD; have HB := Aside0.mk hbn; clear hb hbn)
            | (go_at_call 69; refine (wread_nil nmA 0 1 _).mono ?_; rintro e w6 ⟨rfl, rfl⟩)
            | (go_at_call 65; refine (wforget_nil nmA 0 _).mono ?_; rintro e w7 ⟨rfl, rfl⟩)
            | (go_at_call 73; refine (wkept_nil _).mono ?_; rintro e w8 ⟨rfl, rfl⟩)
            | (go_at_call 60; refine (awake43_any _).mono ?_; rintro e W9 ⟨rfl, hb⟩; have hbn := below_step HB.out hb; clear HB; have HB := Aside0.mk hbn; clear hb hbn))
          go_ret
          exact ⟨rfl, HB.out⟩
  · have d1 : decide (3000 < l.length) = true := decide_eq_true (by omega)
    go_enter Try.func13, Try.ntmps13
    go_wp2_with (first | (go_at_call 60; refine (awake43_any _).mono ?_; rintro e W9 ⟨rfl, hb⟩; have hbn := below_step HB.out hb; clear HB; have HB := Aside0.mk hbn; clear hb hbn))
    go_ret
    exact ⟨rfl, HB.out⟩
end Go.Proofs.Ytpnbjpkdbiiogaa
